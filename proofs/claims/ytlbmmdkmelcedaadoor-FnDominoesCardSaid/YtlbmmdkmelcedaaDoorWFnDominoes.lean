/-
  The walk of the law FnDominoes.
-/
import Derived.Test.YtlbmmdkmelcedaaDoorDrawDom
import Derived.Test.YtlbmmdkmelcedaaDoorDomT
import Derived.Test.YtlbmmdkmelcedaaDoorDomB
import Derived.Test.YtlbmmdkmelcedaaDoorDomC
import Derived.Test.YtlbmmdkmelcedaaDoorDomD
namespace Go.Proofs.YtlbmmdkmelcedaaDoor.fnDominoes
open Go.RowKit
set_option linter.unusedVariables false
set_option linter.unusedSimpArgs false

theorem one_fin : ∀ (x y : Fin 8) (p : Bool), domB x.val y.val p = true → nbB (secX x.val p) (secY y.val p) x.val y.val = true ∧ ovrX (secX x.val p) (secY y.val p) x.val y.val = x.val ∧ ovrY (secX x.val p) (secY y.val p) x.val y.val = y.val ∧ ovrD (secX x.val p) (secY y.val p) x.val y.val = p ∧ blackB (secX x.val p) (secY y.val p) = !blackB x.val y.val ∧ lapB x.val y.val p x.val y.val p = true ∧ befB x.val y.val p x.val y.val p = false := by decide +kernel
theorem one_dom {x y : Int} {p : Bool} (h : domB x y p = true) : nbB (secX x p) (secY y p) x y = true ∧ ovrX (secX x p) (secY y p) x y = x ∧ ovrY (secX x p) (secY y p) x y = y ∧ ovrD (secX x p) (secY y p) x y = p ∧ blackB (secX x p) (secY y p) = !blackB x y ∧ lapB x y p x y p = true ∧ befB x y p x y p = false := by
  obtain ⟨⟨x0, x7⟩, y0, y7⟩ := dom_box h
  obtain ⟨X, rfl⟩ : ∃ X : Nat, x = X := ⟨x.toNat, by omega⟩
  obtain ⟨Y, rfl⟩ : ∃ Y : Nat, y = Y := ⟨y.toNat, by omega⟩
  exact one_fin ⟨X, by omega⟩ ⟨Y, by omega⟩ p h
theorem lap_comm {x y u v : Int} {p q : Bool} (h : domB x y p = true) (k : domB u v q = true) : lapB u v q x y p = lapB x y p u v q := by
  unfold lapB
  rw [h, k, show domS u v q &&& domS x y p = domS x y p &&& domS u v q from Nat.and_comm _ _]
theorem ord_inj {x y u v : Int} {p q : Bool} (h : domB x y p = true) (k : domB u v q = true) (e : ordI x y p = ordI u v q) : x = u ∧ y = v ∧ p = q := by
  obtain ⟨⟨x0, x7⟩, y0, y7⟩ := dom_box h
  obtain ⟨⟨u0, u7⟩, v0, v7⟩ := dom_box k
  unfold ordI b2i at e
  cases p <;> cases q <;> simp at e ⊢ <;> omega
theorem bef_ne {x y u v : Int} {p q : Bool} (h : domB x y p = true) (k : domB u v q = true) (hn : ¬ (x = u ∧ y = v ∧ p = q)) : befB u v q x y p = !befB x y p u v q := by
  rw [befB_yes k h, befB_yes h k]
  have : ordI x y p ≠ ordI u v q := fun e => hn (ord_inj h k e)
  by_cases c : ordI x y p < ordI u v q
  · rw [decide_eq_true c, decide_eq_false (by omega)]; rfl
  · rw [decide_eq_false c, decide_eq_true (by omega)]; rfl
theorem dt_list {x y : Int} {p : Bool} (h : domB x y p = true) : (dtB x y p).data.toList = [UInt8.ofNat (48 + x.toNat), 44, UInt8.ofNat (48 + y.toNat), if p then 100 else 114] := by
  obtain ⟨⟨x0, x7⟩, y0, y7⟩ := dom_box h
  unfold dtB
  rw [if_pos h]
  unfold Lib.itoa
  rw [if_neg (by omega), if_neg (by omega), Lib.decDigits_one (by omega), Lib.decDigits_one (by omega)]
  cases p <;> simp [strD]
theorem fig_inj {x u : Int} (x0 : 0 ≤ x) (x7 : x ≤ 7) (u0 : 0 ≤ u) (u7 : u ≤ 7) (e : UInt8.ofNat (48 + x.toNat) = UInt8.ofNat (48 + u.toNat)) : x = u := by
  have h := congrArg UInt8.toNat e
  rw [UInt8.toNat_ofNat', UInt8.toNat_ofNat'] at h
  omega
theorem dt_size {x y : Int} {p : Bool} (h : domB x y p = true) : (dtB x y p).size = 4 := by
  have := congrArg List.length (dt_list h)
  simpa using this
theorem dt_ne {x y u v : Int} {p q : Bool} (h : domB x y p = true) (k : domB u v q = true) (hn : ¬ (x = u ∧ y = v ∧ p = q)) : (dtB x y p).toList ≠ (dtB u v q).toList := by
  obtain ⟨⟨x0, x7⟩, y0, y7⟩ := dom_box h
  obtain ⟨⟨u0, u7⟩, v0, v7⟩ := dom_box k
  rw [ByteArray.toList_eq, ByteArray.toList_eq, dt_list h, dt_list k]
  intro e
  injection e with e1 e2
  injection e2 with e2 e3
  injection e3 with e3 e4
  injection e4 with e4 e5
  refine hn ⟨fig_inj x0 x7 u0 u7 e1, fig_inj y0 y7 v0 v7 e3, ?_⟩
  cases p <;> cases q <;> first | rfl | (exact absurd e4 (by decide))
set_option maxHeartbeats 3200000 in
set_option maxRecDepth 100000 in
theorem walk (a0 : Option Addr) (len0 cap0 : Nat) (z0 : List Int) (w : World) (w0 : IsRow .u8 w a0 len0 cap0 z0) (hT : TabB w) :
    Calls Tryd.prog 10 #[.slice a0 len0 cap0] w fun e w' => e = .returned (.bool true) ∧ Below w.heap.size w w' := by
  have HB := Lib.hid (big_any a0 len0 cap0 w w0.max_)
  clear hT
  by_cases hbig : 1048576 < len0
  · clear w0
    go_enter Tryd.func10, Tryd.ntmps10
    go_wp2_with (go_at_call 13; refine (HB.out).mono ?_; rintro e w1 ⟨rfl, hb⟩; simp only [hbig, decide_true])
    go_ret
    exact ⟨rfl, hb⟩
  · have HK := Lib.hid (w0.code hbig)
    clear w0
    go_enter Tryd.func10, Tryd.ntmps10
    go_wp2_with (first | (go_at_call 13; refine (HB.out).mono ?_; rintro e w1 ⟨rfl, hb⟩; simp only [hbig, decide_false]) | (go_at_call 32; fail))
    refine (drawDoms_any a0 len0 cap0 _ w1 (HK.out.below hb)).mono ?_
    rintro e w2 ⟨x, y, u, v, p, q, rfl, hd, he, hb2⟩
    have hB2 : Below w.heap.size w w2 := below_step hb2 hb.size hb
    have hs2 := hB2.size
    obtain ⟨f1, f2, f3, f4, f5, f6, f7⟩ := one_dom hd
    obtain ⟨un1, un2, un3, un4⟩ := und_yes hd
    have HU := Lib.hid (fun W : World => implUnd_any x y p W)
    rw [un1, un2, un3, un4] at HU
    obtain ⟨x2, hx2⟩ : ∃ x2, x2 = secX x p := ⟨_, rfl⟩
    obtain ⟨y2, hy2⟩ : ∃ y2, y2 = secY y p := ⟨_, rfl⟩
    rw [← hx2, ← hy2] at HU f1 f2 f3 f4 f5
    have HO := Lib.hid (fun W : World => implOvr_any x2 y2 x y W)
    rw [f1, f2, f3, f4] at HO
    have HD := Lib.hid (fun W : World => implDom_valT x y p W hd)
    have HA := Lib.hid (fun W : World => implBlack_any x y W)
    have HC := Lib.hid (fun W : World => implBlack_any x2 y2 W)
    rw [f5] at HC
    obtain ⟨β, hβ⟩ : ∃ β, β = blackB x y := ⟨_, rfl⟩
    rw [← hβ] at HA HC
    have HL1 := Lib.hid (fun W : World => implLap_any x y u v p q W)
    have HL2 := Lib.hid (fun W : World => implLap_any u v x y q p W)
    have HL3 := Lib.hid (fun W : World => implLap_any x y x y p p W)
    rw [lap_comm hd he] at HL2
    rw [f6] at HL3
    obtain ⟨γ, hγ⟩ : ∃ γ, γ = lapB x y p u v q := ⟨_, rfl⟩
    rw [← hγ] at HL1 HL2
    have HF3 := Lib.hid (fun W : World => implBef_any x y x y p p W)
    rw [f7] at HF3
    have HT1 := Lib.hid (fun W : World => implDt_any x y p W)
    have hsz := dt_size hd
    have HNE := Lib.hid (fun hn => dt_ne hd he hn)
    have HBE := Lib.hid (fun hn => bef_ne hd he hn)
    obtain ⟨t, ht⟩ : ∃ t, t = dtB x y p := ⟨_, rfl⟩
    rw [← ht] at HT1 hsz HNE
    have HX2 := Lib.hid hx2
    have HTT := Lib.hid ht
    clear hb hb2 HB HK hx2 hy2 f1 f2 f3 f4 f5 f6 f7 un1 un2 un3 un4 hβ hγ ht hd he
    have tok1 : True := trivial
    go_wp2_with (go_at_call 33; fail)
    refine (HU.out _).mono ?_
    rintro e w3 ⟨rfl, hb⟩
    have hl0_w3 : w2.heap.size < w3.heap.size := Nat.lt_of_lt_of_le (by first | assumption | omega | (simp; done) | (simp; omega)) hb.size
    have hl1_w3 : w2.heap.size + 1 < w3.heap.size := Nat.lt_of_lt_of_le (by first | assumption | omega | (simp; done) | (simp; omega)) hb.size
    have hc0_w3 : w3.cell? ⟨w2.heap.size, 0, none⟩ = some (.int .i64 x) := (hb.cell (p := ⟨w2.heap.size, 0, none⟩) (by first | omega | (simp; done) | (simp; omega))).trans (by first | (with_reducible assumption) | go_simp)
    have hc1_w3 : w3.cell? ⟨w2.heap.size, 1, none⟩ = some (.int .i64 y) := (hb.cell (p := ⟨w2.heap.size, 1, none⟩) (by first | omega | (simp; done) | (simp; omega))).trans (by first | (with_reducible assumption) | go_simp)
    have hc2_w3 : w3.cell? ⟨w2.heap.size, 2, none⟩ = some (.bool p) := (hb.cell (p := ⟨w2.heap.size, 2, none⟩) (by first | omega | (simp; done) | (simp; omega))).trans (by first | (with_reducible assumption) | go_simp)
    have hc3_w3 : w3.cell? ⟨w2.heap.size + 1, 0, none⟩ = some (.int .i64 u) := (hb.cell (p := ⟨w2.heap.size + 1, 0, none⟩) (by first | omega | (simp; done) | (simp; omega))).trans (by first | (with_reducible assumption) | go_simp)
    have hc4_w3 : w3.cell? ⟨w2.heap.size + 1, 1, none⟩ = some (.int .i64 v) := (hb.cell (p := ⟨w2.heap.size + 1, 1, none⟩) (by first | omega | (simp; done) | (simp; omega))).trans (by first | (with_reducible assumption) | go_simp)
    have hc5_w3 : w3.cell? ⟨w2.heap.size + 1, 2, none⟩ = some (.bool q) := (hb.cell (p := ⟨w2.heap.size + 1, 2, none⟩) (by first | omega | (simp; done) | (simp; omega))).trans (by first | (with_reducible assumption) | go_simp)
    have hB_w3 : Below w.heap.size w w3 := below_step hb (by first | omega | (simp; done) | (simp; omega)) (by repeat' (first | assumption | (with_reducible exact Below.refl _ _) | (with_reducible refine Below.drew ?_) | (with_reducible refine Below.alloc ?_ ?_ _) | (with_reducible refine Below.setCell ?_ ?_ _) | omega | (simp; done) | (simp; omega)))
    have hs_w3 := hB_w3.size
    clear hb
    go_wp2_with (go_at_call 34; fail)
    refine (HO.out _).mono ?_
    rintro e w4 ⟨rfl, hb⟩
    have hl0_w4 : w2.heap.size < w4.heap.size := Nat.lt_of_lt_of_le (by first | assumption | omega | (simp; done) | (simp; omega)) hb.size
    have hl1_w4 : w2.heap.size + 1 < w4.heap.size := Nat.lt_of_lt_of_le (by first | assumption | omega | (simp; done) | (simp; omega)) hb.size
    have hl2_w4 : w3.heap.size < w4.heap.size := Nat.lt_of_lt_of_le (by first | assumption | omega | (simp; done) | (simp; omega)) hb.size
    have hl3_w4 : w3.heap.size + 1 < w4.heap.size := Nat.lt_of_lt_of_le (by first | assumption | omega | (simp; done) | (simp; omega)) hb.size
    have hc0_w4 : w4.cell? ⟨w2.heap.size, 0, none⟩ = some (.int .i64 x) := (hb.cell (p := ⟨w2.heap.size, 0, none⟩) (by first | omega | (simp; done) | (simp; omega))).trans (by first | (with_reducible assumption) | go_simp)
    have hc1_w4 : w4.cell? ⟨w2.heap.size, 1, none⟩ = some (.int .i64 y) := (hb.cell (p := ⟨w2.heap.size, 1, none⟩) (by first | omega | (simp; done) | (simp; omega))).trans (by first | (with_reducible assumption) | go_simp)
    have hc2_w4 : w4.cell? ⟨w2.heap.size, 2, none⟩ = some (.bool p) := (hb.cell (p := ⟨w2.heap.size, 2, none⟩) (by first | omega | (simp; done) | (simp; omega))).trans (by first | (with_reducible assumption) | go_simp)
    have hc3_w4 : w4.cell? ⟨w2.heap.size + 1, 0, none⟩ = some (.int .i64 u) := (hb.cell (p := ⟨w2.heap.size + 1, 0, none⟩) (by first | omega | (simp; done) | (simp; omega))).trans (by first | (with_reducible assumption) | go_simp)
    have hc4_w4 : w4.cell? ⟨w2.heap.size + 1, 1, none⟩ = some (.int .i64 v) := (hb.cell (p := ⟨w2.heap.size + 1, 1, none⟩) (by first | omega | (simp; done) | (simp; omega))).trans (by first | (with_reducible assumption) | go_simp)
    have hc5_w4 : w4.cell? ⟨w2.heap.size + 1, 2, none⟩ = some (.bool q) := (hb.cell (p := ⟨w2.heap.size + 1, 2, none⟩) (by first | omega | (simp; done) | (simp; omega))).trans (by first | (with_reducible assumption) | go_simp)
    have hc6_w4 : w4.cell? ⟨w3.heap.size, 0, none⟩ = some (.int .i64 x) := (hb.cell (p := ⟨w3.heap.size, 0, none⟩) (by first | omega | (simp; done) | (simp; omega))).trans (by first | (with_reducible assumption) | go_simp)
    have hc7_w4 : w4.cell? ⟨w3.heap.size, 1, none⟩ = some (.int .i64 y) := (hb.cell (p := ⟨w3.heap.size, 1, none⟩) (by first | omega | (simp; done) | (simp; omega))).trans (by first | (with_reducible assumption) | go_simp)
    have hc8_w4 : w4.cell? ⟨w3.heap.size + 1, 0, none⟩ = some (.int .i64 x2) := (hb.cell (p := ⟨w3.heap.size + 1, 0, none⟩) (by first | omega | (simp; done) | (simp; omega))).trans (by first | (with_reducible assumption) | go_simp)
    have hc9_w4 : w4.cell? ⟨w3.heap.size + 1, 1, none⟩ = some (.int .i64 y2) := (hb.cell (p := ⟨w3.heap.size + 1, 1, none⟩) (by first | omega | (simp; done) | (simp; omega))).trans (by first | (with_reducible assumption) | go_simp)
    have hB_w4 : Below w.heap.size w w4 := below_step hb (by first | omega | (simp; done) | (simp; omega)) (by repeat' (first | assumption | (with_reducible exact Below.refl _ _) | (with_reducible refine Below.drew ?_) | (with_reducible refine Below.alloc ?_ ?_ _) | (with_reducible refine Below.setCell ?_ ?_ _) | omega | (simp; done) | (simp; omega)))
    have hs_w4 := hB_w4.size
    clear hb
    clear hc0_w3 hc1_w3 hc2_w3 hc3_w3 hc4_w3 hc5_w3 hl0_w3 hl1_w3
    by_cases heq : x = u ∧ y = v ∧ p = q
    · obtain ⟨rfl, rfl, rfl⟩ := heq
      clear HNE HBE HL1 HL2
      go_wp2_with fail
      simp only [List.append_eq, List.cons_append, List.nil_append]
      refine hold_start (S := (fun w' => w'.cell? ⟨w2.heap.size, 0, none⟩ = some (.int .i64 x) ∧ w'.cell? ⟨w2.heap.size, 1, none⟩ = some (.int .i64 y) ∧ w'.cell? ⟨w2.heap.size, 2, none⟩ = some (.bool p) ∧ w'.cell? ⟨w2.heap.size + 1, 0, none⟩ = some (.int .i64 x) ∧ w'.cell? ⟨w2.heap.size + 1, 1, none⟩ = some (.int .i64 y) ∧ w'.cell? ⟨w2.heap.size + 1, 2, none⟩ = some (.bool p) ∧ w'.cell? ⟨w3.heap.size, 0, none⟩ = some (.int .i64 x) ∧ w'.cell? ⟨w3.heap.size, 1, none⟩ = some (.int .i64 y) ∧ w'.cell? ⟨w3.heap.size + 1, 0, none⟩ = some (.int .i64 x2) ∧ w'.cell? ⟨w3.heap.size + 1, 1, none⟩ = some (.int .i64 y2) ∧ w'.cell? ⟨w4.heap.size, 0, none⟩ = some (.int .i64 x) ∧ w'.cell? ⟨w4.heap.size, 1, none⟩ = some (.int .i64 y) ∧ w'.cell? ⟨w4.heap.size, 2, none⟩ = some (.bool p) ∧ Below w.heap.size w w' ∧ w4.heap.size + 1 ≤ w'.heap.size)) (by kernel_rfl) (by kernel_rfl) (by intro _ _ d _ _ h; cases d <;> exact h) ?_ (fun hHC hH0 => ?_)
      · (first | (go_keep; done) | ((try go_split_ands); (repeat' apply And.intro) <;> first | assumption | (with_reducible refine Rd.below ?_ hb1; assumption) | (with_reducible refine Rd.drew ?_; repeat' (first | assumption | (with_reducible refine Rd.alloc ?_ _))) | (refine (hb1.cell (by first | omega | (simp; done) | (simp; omega))).trans ?_; first | assumption | simp) | (exact below_step hb1 (by first | omega | (simp; done) | (simp; omega)) (by assumption)) | (have hz' := hb1.size; (try simp at hz'); omega) | ((repeat' (first | assumption | (with_reducible exact Below.refl _ _) | (with_reducible refine Below.drew ?_) | (with_reducible refine Below.alloc ?_ ?_ _) | (with_reducible refine Below.setCell ?_ ?_ _) | omega | (simp; done) | (simp; omega))); done) | go_simp | (simp; done) | (simp; omega)))
      refine hold_plain 0 (v := ?_) hHC hH0 (by simp only [List.getElem?_toArray, List.getElem?_cons_succ, List.getElem?_cons_zero]; rfl) rfl (by kernel_rfl) ?_ ?_
      rotate_left 1
      · (intro w hSw; (try dsimp only at hSw); go_simp; try with_reducible rfl)
      try simp only [Act.put, List.setIfInBounds_toArray, List.set_cons_zero, List.set_cons_succ]
      refine hold_call0 1 (by simp only [List.getElem?_toArray, List.getElem?_cons_succ, List.getElem?_cons_zero]; rfl) rfl (by kernel_rfl) (fun K hK => ?_)
      go_simp
      first | (go_at_call 35; first | (with_reducible refine (HD.out _).mono ?_; rintro e w1 ⟨rfl, hb1⟩)) | (go_at_call 36; first | (with_reducible refine (HA.out _).mono ?_; rintro e w1 ⟨rfl, hb1⟩) | (with_reducible refine (HC.out _).mono ?_; rintro e w1 ⟨rfl, hb1⟩)) | (go_at_call 37; first | (with_reducible refine (HL3.out _).mono ?_; rintro e w1 ⟨rfl, hb1⟩)) | (go_at_call 38; first | (with_reducible refine (HF3.out _).mono ?_; rintro e w1 ⟨rfl, hb1⟩)) | (go_at_call 19; first | (with_reducible refine (HT1.out _).mono ?_; rintro e w1 ⟨rfl, hb1⟩))
      refine hK.out _ _ ?_ (fun hH1 => ?_)
      · (first | (go_keep; done) | ((try go_split_ands); (repeat' apply And.intro) <;> first | assumption | (with_reducible refine Rd.below ?_ hb1; assumption) | (with_reducible refine Rd.drew ?_; repeat' (first | assumption | (with_reducible refine Rd.alloc ?_ _))) | (refine (hb1.cell (by first | omega | (simp; done) | (simp; omega))).trans ?_; first | assumption | simp) | (exact below_step hb1 (by first | omega | (simp; done) | (simp; omega)) (by assumption)) | (have hz' := hb1.size; (try simp at hz'); omega) | ((repeat' (first | assumption | (with_reducible exact Below.refl _ _) | (with_reducible refine Below.drew ?_) | (with_reducible refine Below.alloc ?_ ?_ _) | (with_reducible refine Below.setCell ?_ ?_ _) | omega | (simp; done) | (simp; omega))); done) | go_simp | (simp; done) | (simp; omega)))
      clear hK K hH0
      try simp only [Act.put, List.setIfInBounds_toArray, List.set_cons_zero, List.set_cons_succ]
      refine hold_plain 2 (v := ?_) hHC hH1 (by simp only [List.getElem?_toArray, List.getElem?_cons_succ, List.getElem?_cons_zero]; rfl) rfl (by kernel_rfl) ?_ ?_
      rotate_left 1
      · (intro w hSw; (try dsimp only at hSw); go_simp; try with_reducible rfl)
      try simp only [Act.put, List.setIfInBounds_toArray, List.set_cons_zero, List.set_cons_succ]
      refine hold_yes 3 (v := ?_) hHC hH1 (by simp only [List.getElem?_toArray, List.getElem?_cons_succ, List.getElem?_cons_zero]; rfl) rfl (by kernel_rfl) (by kernel_rfl) ?_ ?_
      rotate_left 1
      · (intro w hSw; (try dsimp only at hSw); go_simp; try with_reducible rfl)
      try simp only [Act.put, List.setIfInBounds_toArray, List.set_cons_zero, List.set_cons_succ]
      refine hold_yes 5 (v := ?_) hHC hH1 (by simp only [List.getElem?_toArray, List.getElem?_cons_succ, List.getElem?_cons_zero]; rfl) rfl (by kernel_rfl) (by kernel_rfl) ?_ ?_
      rotate_left 1
      · (intro w hSw; (try dsimp only at hSw); go_simp; try with_reducible rfl)
      try simp only [Act.put, List.setIfInBounds_toArray, List.set_cons_zero, List.set_cons_succ]
      refine hold_call1 4 (by simp only [List.getElem?_toArray, List.getElem?_cons_succ, List.getElem?_cons_zero]; rfl) rfl (by kernel_rfl) (by kernel_rfl) (fun K hK => ?_)
      go_simp
      first | (go_at_call 35; first | (with_reducible refine (HD.out _).mono ?_; rintro e w1 ⟨rfl, hb1⟩)) | (go_at_call 36; first | (with_reducible refine (HA.out _).mono ?_; rintro e w1 ⟨rfl, hb1⟩) | (with_reducible refine (HC.out _).mono ?_; rintro e w1 ⟨rfl, hb1⟩)) | (go_at_call 37; first | (with_reducible refine (HL3.out _).mono ?_; rintro e w1 ⟨rfl, hb1⟩)) | (go_at_call 38; first | (with_reducible refine (HF3.out _).mono ?_; rintro e w1 ⟨rfl, hb1⟩)) | (go_at_call 19; first | (with_reducible refine (HT1.out _).mono ?_; rintro e w1 ⟨rfl, hb1⟩))
      refine hK.out _ _ ?_ (fun hH2 => ?_)
      · (first | (go_keep; done) | ((try go_split_ands); (repeat' apply And.intro) <;> first | assumption | (with_reducible refine Rd.below ?_ hb1; assumption) | (with_reducible refine Rd.drew ?_; repeat' (first | assumption | (with_reducible refine Rd.alloc ?_ _))) | (refine (hb1.cell (by first | omega | (simp; done) | (simp; omega))).trans ?_; first | assumption | simp) | (exact below_step hb1 (by first | omega | (simp; done) | (simp; omega)) (by assumption)) | (have hz' := hb1.size; (try simp at hz'); omega) | ((repeat' (first | assumption | (with_reducible exact Below.refl _ _) | (with_reducible refine Below.drew ?_) | (with_reducible refine Below.alloc ?_ ?_ _) | (with_reducible refine Below.setCell ?_ ?_ _) | omega | (simp; done) | (simp; omega))); done) | go_simp | (simp; done) | (simp; omega)))
      clear hK K hH1
      try simp only [Act.put, List.setIfInBounds_toArray, List.set_cons_zero, List.set_cons_succ]
      refine hold_call1 6 (by simp only [List.getElem?_toArray, List.getElem?_cons_succ, List.getElem?_cons_zero]; rfl) rfl (by kernel_rfl) (by kernel_rfl) (fun K hK => ?_)
      go_simp
      first | (go_at_call 35; first | (with_reducible refine (HD.out _).mono ?_; rintro e w1 ⟨rfl, hb1⟩)) | (go_at_call 36; first | (with_reducible refine (HA.out _).mono ?_; rintro e w1 ⟨rfl, hb1⟩) | (with_reducible refine (HC.out _).mono ?_; rintro e w1 ⟨rfl, hb1⟩)) | (go_at_call 37; first | (with_reducible refine (HL3.out _).mono ?_; rintro e w1 ⟨rfl, hb1⟩)) | (go_at_call 38; first | (with_reducible refine (HF3.out _).mono ?_; rintro e w1 ⟨rfl, hb1⟩)) | (go_at_call 19; first | (with_reducible refine (HT1.out _).mono ?_; rintro e w1 ⟨rfl, hb1⟩))
      refine hK.out _ _ ?_ (fun hH3 => ?_)
      · (first | (go_keep; done) | ((try go_split_ands); (repeat' apply And.intro) <;> first | assumption | (with_reducible refine Rd.below ?_ hb1; assumption) | (with_reducible refine Rd.drew ?_; repeat' (first | assumption | (with_reducible refine Rd.alloc ?_ _))) | (refine (hb1.cell (by first | omega | (simp; done) | (simp; omega))).trans ?_; first | assumption | simp) | (exact below_step hb1 (by first | omega | (simp; done) | (simp; omega)) (by assumption)) | (have hz' := hb1.size; (try simp at hz'); omega) | ((repeat' (first | assumption | (with_reducible exact Below.refl _ _) | (with_reducible refine Below.drew ?_) | (with_reducible refine Below.alloc ?_ ?_ _) | (with_reducible refine Below.setCell ?_ ?_ _) | omega | (simp; done) | (simp; omega))); done) | go_simp | (simp; done) | (simp; omega)))
      clear hK K hH2
      try simp only [Act.put, List.setIfInBounds_toArray, List.set_cons_zero, List.set_cons_succ]
      refine hold_yes 7 (v := ?_) hHC hH3 (by simp only [List.getElem?_toArray, List.getElem?_cons_succ, List.getElem?_cons_zero]; rfl) rfl (by kernel_rfl) (by kernel_rfl) ?_ ?_
      rotate_left 1
      · (intro w hSw; (try dsimp only at hSw); go_simp; try with_reducible rfl)
      try simp only [Act.put, List.setIfInBounds_toArray, List.set_cons_zero, List.set_cons_succ]
      refine hold_plain 8 (v := ?_) hHC hH3 (by simp only [List.getElem?_toArray, List.getElem?_cons_succ, List.getElem?_cons_zero]; rfl) rfl (by kernel_rfl) ?_ ?_
      rotate_left 1
      · (intro w hSw; (try dsimp only at hSw); go_simp; try with_reducible rfl)
      try simp only [Act.put, List.setIfInBounds_toArray, List.set_cons_zero, List.set_cons_succ]
      refine hold_plain 9 (v := ?_) hHC hH3 (by simp only [List.getElem?_toArray, List.getElem?_cons_succ, List.getElem?_cons_zero]; rfl) rfl (by kernel_rfl) ?_ ?_
      rotate_left 1
      · (intro w hSw; (try dsimp only at hSw); go_simp; try with_reducible rfl)
      try simp only [Act.put, List.setIfInBounds_toArray, List.set_cons_zero, List.set_cons_succ]
      refine hold_yes 10 (v := ?_) hHC hH3 (by simp only [List.getElem?_toArray, List.getElem?_cons_succ, List.getElem?_cons_zero]; rfl) rfl (by kernel_rfl) (by kernel_rfl) ?_ ?_
      rotate_left 1
      · (intro w hSw; (try dsimp only at hSw); go_simp; try with_reducible rfl)
      try simp only [Act.put, List.setIfInBounds_toArray, List.set_cons_zero, List.set_cons_succ]
      refine hold_plain 11 (v := ?_) hHC hH3 (by simp only [List.getElem?_toArray, List.getElem?_cons_succ, List.getElem?_cons_zero]; rfl) rfl (by kernel_rfl) ?_ ?_
      rotate_left 1
      · (intro w hSw; (try dsimp only at hSw); go_simp; try with_reducible rfl)
      try simp only [Act.put, List.setIfInBounds_toArray, List.set_cons_zero, List.set_cons_succ]
      refine hold_plain 12 (v := ?_) hHC hH3 (by simp only [List.getElem?_toArray, List.getElem?_cons_succ, List.getElem?_cons_zero]; rfl) rfl (by kernel_rfl) ?_ ?_
      rotate_left 1
      · (intro w hSw; (try dsimp only at hSw); go_simp; try with_reducible rfl)
      try simp only [Act.put, List.setIfInBounds_toArray, List.set_cons_zero, List.set_cons_succ]
      refine hold_yes 13 (v := ?_) hHC hH3 (by simp only [List.getElem?_toArray, List.getElem?_cons_succ, List.getElem?_cons_zero]; rfl) rfl (by kernel_rfl) (by kernel_rfl) ?_ ?_
      rotate_left 1
      · (intro w hSw; (try dsimp only at hSw); go_simp; try with_reducible rfl)
      try simp only [Act.put, List.setIfInBounds_toArray, List.set_cons_zero, List.set_cons_succ]
      refine hold_yes 14 (v := ?_) hHC hH3 (by simp only [List.getElem?_toArray, List.getElem?_cons_succ, List.getElem?_cons_zero]; rfl) rfl (by kernel_rfl) (by kernel_rfl) ?_ ?_
      rotate_left 1
      · (intro w hSw; (try dsimp only at hSw); go_simp; try with_reducible rfl)
      try simp only [Act.put, List.setIfInBounds_toArray, List.set_cons_zero, List.set_cons_succ]
      refine hold_yes 15 (v := ?_) hHC hH3 (by simp only [List.getElem?_toArray, List.getElem?_cons_succ, List.getElem?_cons_zero]; rfl) rfl (by kernel_rfl) (by kernel_rfl) ?_ ?_
      rotate_left 1
      · (intro w hSw; (try dsimp only at hSw); go_simp; try with_reducible rfl)
      try simp only [Act.put, List.setIfInBounds_toArray, List.set_cons_zero, List.set_cons_succ]
      refine hold_plain 16 (v := ?_) hHC hH3 (by simp only [List.getElem?_toArray, List.getElem?_cons_succ, List.getElem?_cons_zero]; rfl) rfl (by kernel_rfl) ?_ ?_
      rotate_left 1
      · (intro w hSw; (try dsimp only at hSw); go_simp; try with_reducible rfl)
      try simp only [Act.put, List.setIfInBounds_toArray, List.set_cons_zero, List.set_cons_succ]
      refine hold_plain 17 (v := ?_) hHC hH3 (by simp only [List.getElem?_toArray, List.getElem?_cons_succ, List.getElem?_cons_zero]; rfl) rfl (by kernel_rfl) ?_ ?_
      rotate_left 1
      · (intro w hSw; (try dsimp only at hSw); go_simp; try with_reducible rfl)
      try simp only [Act.put, List.setIfInBounds_toArray, List.set_cons_zero, List.set_cons_succ]
      refine hold_yes 18 (v := ?_) hHC hH3 (by simp only [List.getElem?_toArray, List.getElem?_cons_succ, List.getElem?_cons_zero]; rfl) rfl (by kernel_rfl) (by kernel_rfl) ?_ ?_
      rotate_left 1
      · (intro w hSw; (try dsimp only at hSw); go_simp; try with_reducible rfl)
      try simp only [Act.put, List.setIfInBounds_toArray, List.set_cons_zero, List.set_cons_succ]
      refine hold_yes 19 (v := ?_) hHC hH3 (by simp only [List.getElem?_toArray, List.getElem?_cons_succ, List.getElem?_cons_zero]; rfl) rfl (by kernel_rfl) (by kernel_rfl) ?_ ?_
      rotate_left 1
      · (intro w hSw; (try dsimp only at hSw); go_simp; try with_reducible rfl)
      try simp only [Act.put, List.setIfInBounds_toArray, List.set_cons_zero, List.set_cons_succ]
      refine hold_yes 21 (v := ?_) hHC hH3 (by simp only [List.getElem?_toArray, List.getElem?_cons_succ, List.getElem?_cons_zero]; rfl) rfl (by kernel_rfl) (by kernel_rfl) ?_ ?_
      rotate_left 1
      · (intro w hSw; (try dsimp only at hSw); go_simp; try with_reducible rfl)
      try simp only [Act.put, List.setIfInBounds_toArray, List.set_cons_zero, List.set_cons_succ]
      refine hold_yes 22 (v := ?_) hHC hH3 (by simp only [List.getElem?_toArray, List.getElem?_cons_succ, List.getElem?_cons_zero]; rfl) rfl (by kernel_rfl) (by kernel_rfl) ?_ ?_
      rotate_left 1
      · (intro w hSw; (try dsimp only at hSw); go_simp; try with_reducible rfl)
      try simp only [Act.put, List.setIfInBounds_toArray, List.set_cons_zero, List.set_cons_succ]
      refine hold_call1 20 (by simp only [List.getElem?_toArray, List.getElem?_cons_succ, List.getElem?_cons_zero]; rfl) rfl (by kernel_rfl) (by kernel_rfl) (fun K hK => ?_)
      go_simp
      first | (go_at_call 35; first | (with_reducible refine (HD.out _).mono ?_; rintro e w1 ⟨rfl, hb1⟩)) | (go_at_call 36; first | (with_reducible refine (HA.out _).mono ?_; rintro e w1 ⟨rfl, hb1⟩) | (with_reducible refine (HC.out _).mono ?_; rintro e w1 ⟨rfl, hb1⟩)) | (go_at_call 37; first | (with_reducible refine (HL3.out _).mono ?_; rintro e w1 ⟨rfl, hb1⟩)) | (go_at_call 38; first | (with_reducible refine (HF3.out _).mono ?_; rintro e w1 ⟨rfl, hb1⟩)) | (go_at_call 19; first | (with_reducible refine (HT1.out _).mono ?_; rintro e w1 ⟨rfl, hb1⟩))
      refine hK.out _ _ ?_ (fun hH4 => ?_)
      · (first | (go_keep; done) | ((try go_split_ands); (repeat' apply And.intro) <;> first | assumption | (with_reducible refine Rd.below ?_ hb1; assumption) | (with_reducible refine Rd.drew ?_; repeat' (first | assumption | (with_reducible refine Rd.alloc ?_ _))) | (refine (hb1.cell (by first | omega | (simp; done) | (simp; omega))).trans ?_; first | assumption | simp) | (exact below_step hb1 (by first | omega | (simp; done) | (simp; omega)) (by assumption)) | (have hz' := hb1.size; (try simp at hz'); omega) | ((repeat' (first | assumption | (with_reducible exact Below.refl _ _) | (with_reducible refine Below.drew ?_) | (with_reducible refine Below.alloc ?_ ?_ _) | (with_reducible refine Below.setCell ?_ ?_ _) | omega | (simp; done) | (simp; omega))); done) | go_simp | (simp; done) | (simp; omega)))
      clear hK K hH3
      try simp only [Act.put, List.setIfInBounds_toArray, List.set_cons_zero, List.set_cons_succ]
      refine hold_call1 23 (by simp only [List.getElem?_toArray, List.getElem?_cons_succ, List.getElem?_cons_zero]; rfl) rfl (by kernel_rfl) (by kernel_rfl) (fun K hK => ?_)
      go_simp
      first | (go_at_call 35; first | (with_reducible refine (HD.out _).mono ?_; rintro e w1 ⟨rfl, hb1⟩)) | (go_at_call 36; first | (with_reducible refine (HA.out _).mono ?_; rintro e w1 ⟨rfl, hb1⟩) | (with_reducible refine (HC.out _).mono ?_; rintro e w1 ⟨rfl, hb1⟩)) | (go_at_call 37; first | (with_reducible refine (HL3.out _).mono ?_; rintro e w1 ⟨rfl, hb1⟩)) | (go_at_call 38; first | (with_reducible refine (HF3.out _).mono ?_; rintro e w1 ⟨rfl, hb1⟩)) | (go_at_call 19; first | (with_reducible refine (HT1.out _).mono ?_; rintro e w1 ⟨rfl, hb1⟩))
      refine hK.out _ _ ?_ (fun hH5 => ?_)
      · (first | (go_keep; done) | ((try go_split_ands); (repeat' apply And.intro) <;> first | assumption | (with_reducible refine Rd.below ?_ hb1; assumption) | (with_reducible refine Rd.drew ?_; repeat' (first | assumption | (with_reducible refine Rd.alloc ?_ _))) | (refine (hb1.cell (by first | omega | (simp; done) | (simp; omega))).trans ?_; first | assumption | simp) | (exact below_step hb1 (by first | omega | (simp; done) | (simp; omega)) (by assumption)) | (have hz' := hb1.size; (try simp at hz'); omega) | ((repeat' (first | assumption | (with_reducible exact Below.refl _ _) | (with_reducible refine Below.drew ?_) | (with_reducible refine Below.alloc ?_ ?_ _) | (with_reducible refine Below.setCell ?_ ?_ _) | omega | (simp; done) | (simp; omega))); done) | go_simp | (simp; done) | (simp; omega)))
      clear hK K hH4
      try simp only [Act.put, List.setIfInBounds_toArray, List.set_cons_zero, List.set_cons_succ]
      refine hold_yes 24 (v := ?_) hHC hH5 (by simp only [List.getElem?_toArray, List.getElem?_cons_succ, List.getElem?_cons_zero]; rfl) rfl (by kernel_rfl) (by kernel_rfl) ?_ ?_
      rotate_left 1
      · (intro w hSw; (try dsimp only at hSw); go_simp; try with_reducible rfl)
      try simp only [Act.put, List.setIfInBounds_toArray, List.set_cons_zero, List.set_cons_succ]
      refine hold_plain 25 (v := ?_) hHC hH5 (by simp only [List.getElem?_toArray, List.getElem?_cons_succ, List.getElem?_cons_zero]; rfl) rfl (by kernel_rfl) ?_ ?_
      rotate_left 1
      · (intro w hSw; (try dsimp only at hSw); go_simp; try with_reducible rfl)
      try simp only [Act.put, List.setIfInBounds_toArray, List.set_cons_zero, List.set_cons_succ]
      refine hold_plain 26 (v := ?_) hHC hH5 (by simp only [List.getElem?_toArray, List.getElem?_cons_succ, List.getElem?_cons_zero]; rfl) rfl (by kernel_rfl) ?_ ?_
      rotate_left 1
      · (intro w hSw; (try dsimp only at hSw); go_simp; try with_reducible rfl)
      try simp only [Act.put, List.setIfInBounds_toArray, List.set_cons_zero, List.set_cons_succ]
      refine hold_yes 27 (v := ?_) hHC hH5 (by simp only [List.getElem?_toArray, List.getElem?_cons_succ, List.getElem?_cons_zero]; rfl) rfl (by kernel_rfl) (by kernel_rfl) ?_ ?_
      rotate_left 1
      · (intro w hSw; (try dsimp only at hSw); go_simp; try with_reducible rfl)
      try simp only [Act.put, List.setIfInBounds_toArray, List.set_cons_zero, List.set_cons_succ]
      refine hold_yes 28 (v := ?_) hHC hH5 (by simp only [List.getElem?_toArray, List.getElem?_cons_succ, List.getElem?_cons_zero]; rfl) rfl (by kernel_rfl) (by kernel_rfl) ?_ ?_
      rotate_left 1
      · (intro w hSw; (try dsimp only at hSw); go_simp; try with_reducible rfl)
      try simp only [Act.put, List.setIfInBounds_toArray, List.set_cons_zero, List.set_cons_succ]
      refine hold_call1 29 (by simp only [List.getElem?_toArray, List.getElem?_cons_succ, List.getElem?_cons_zero]; rfl) rfl (by kernel_rfl) (by kernel_rfl) (fun K hK => ?_)
      go_simp
      first | (go_at_call 35; first | (with_reducible refine (HD.out _).mono ?_; rintro e w1 ⟨rfl, hb1⟩)) | (go_at_call 36; first | (with_reducible refine (HA.out _).mono ?_; rintro e w1 ⟨rfl, hb1⟩) | (with_reducible refine (HC.out _).mono ?_; rintro e w1 ⟨rfl, hb1⟩)) | (go_at_call 37; first | (with_reducible refine (HL3.out _).mono ?_; rintro e w1 ⟨rfl, hb1⟩)) | (go_at_call 38; first | (with_reducible refine (HF3.out _).mono ?_; rintro e w1 ⟨rfl, hb1⟩)) | (go_at_call 19; first | (with_reducible refine (HT1.out _).mono ?_; rintro e w1 ⟨rfl, hb1⟩))
      refine hK.out _ _ ?_ (fun hH6 => ?_)
      · (first | (go_keep; done) | ((try go_split_ands); (repeat' apply And.intro) <;> first | assumption | (with_reducible refine Rd.below ?_ hb1; assumption) | (with_reducible refine Rd.drew ?_; repeat' (first | assumption | (with_reducible refine Rd.alloc ?_ _))) | (refine (hb1.cell (by first | omega | (simp; done) | (simp; omega))).trans ?_; first | assumption | simp) | (exact below_step hb1 (by first | omega | (simp; done) | (simp; omega)) (by assumption)) | (have hz' := hb1.size; (try simp at hz'); omega) | ((repeat' (first | assumption | (with_reducible exact Below.refl _ _) | (with_reducible refine Below.drew ?_) | (with_reducible refine Below.alloc ?_ ?_ _) | (with_reducible refine Below.setCell ?_ ?_ _) | omega | (simp; done) | (simp; omega))); done) | go_simp | (simp; done) | (simp; omega)))
      clear hK K hH5
      try simp only [Act.put, List.setIfInBounds_toArray, List.set_cons_zero, List.set_cons_succ]
      refine hold_plain 30 (v := ?_) hHC hH6 (by simp only [List.getElem?_toArray, List.getElem?_cons_succ, List.getElem?_cons_zero]; rfl) rfl (by kernel_rfl) ?_ ?_
      rotate_left 1
      · (intro w hSw; (try dsimp only at hSw); go_simp; try with_reducible rfl)
      try simp only [Act.put, List.setIfInBounds_toArray, List.set_cons_zero, List.set_cons_succ]
      refine hold_plain 31 (v := ?_) hHC hH6 (by simp only [List.getElem?_toArray, List.getElem?_cons_succ, List.getElem?_cons_zero]; rfl) rfl (by kernel_rfl) ?_ ?_
      rotate_left 1
      · (intro w hSw; (try dsimp only at hSw); go_simp; try with_reducible rfl)
      try simp only [Act.put, List.setIfInBounds_toArray, List.set_cons_zero, List.set_cons_succ]
      refine hold_yes 32 (v := ?_) hHC hH6 (by simp only [List.getElem?_toArray, List.getElem?_cons_succ, List.getElem?_cons_zero]; rfl) rfl (by kernel_rfl) (by kernel_rfl) ?_ ?_
      rotate_left 1
      · (intro w hSw; (try dsimp only at hSw); go_simp; try with_reducible rfl)
      try simp only [Act.put, List.setIfInBounds_toArray, List.set_cons_zero, List.set_cons_succ]
      refine hold_yes 33 (v := ?_) hHC hH6 (by simp only [List.getElem?_toArray, List.getElem?_cons_succ, List.getElem?_cons_zero]; rfl) rfl (by kernel_rfl) (by kernel_rfl) ?_ ?_
      rotate_left 1
      · (intro w hSw; (try dsimp only at hSw); go_simp; try with_reducible rfl)
      try simp only [Act.put, List.setIfInBounds_toArray, List.set_cons_zero, List.set_cons_succ]
      refine hold_yes 34 (v := ?_) hHC hH6 (by simp only [List.getElem?_toArray, List.getElem?_cons_succ, List.getElem?_cons_zero]; rfl) rfl (by kernel_rfl) (by kernel_rfl) ?_ ?_
      rotate_left 1
      · (intro w hSw; (try dsimp only at hSw); go_simp; try with_reducible rfl)
      try simp only [Act.put, List.setIfInBounds_toArray, List.set_cons_zero, List.set_cons_succ]
      refine hold_yes 35 (v := ?_) hHC hH6 (by simp only [List.getElem?_toArray, List.getElem?_cons_succ, List.getElem?_cons_zero]; rfl) rfl (by kernel_rfl) (by kernel_rfl) ?_ ?_
      rotate_left 1
      · (intro w hSw; (try dsimp only at hSw); go_simp; try with_reducible rfl)
      try simp only [Act.put, List.setIfInBounds_toArray, List.set_cons_zero, List.set_cons_succ]
      refine hold_no 36 hHC hH6 (by simp only [List.getElem?_toArray, List.getElem?_cons_succ, List.getElem?_cons_zero]; rfl) rfl (by kernel_rfl) (by kernel_rfl) ?_
      try simp only [Act.put, List.setIfInBounds_toArray, List.set_cons_zero, List.set_cons_succ]
      refine hold_no 37 hHC hH6 (by simp only [List.getElem?_toArray, List.getElem?_cons_succ, List.getElem?_cons_zero]; rfl) rfl (by kernel_rfl) (by kernel_rfl) ?_
      try simp only [Act.put, List.setIfInBounds_toArray, List.set_cons_zero, List.set_cons_succ]
      refine hold_no 38 hHC hH6 (by simp only [List.getElem?_toArray, List.getElem?_cons_succ, List.getElem?_cons_zero]; rfl) rfl (by kernel_rfl) (by kernel_rfl) ?_
      try simp only [Act.put, List.setIfInBounds_toArray, List.set_cons_zero, List.set_cons_succ]
      refine hold_no 39 hHC hH6 (by simp only [List.getElem?_toArray, List.getElem?_cons_succ, List.getElem?_cons_zero]; rfl) rfl (by kernel_rfl) (by kernel_rfl) ?_
      try simp only [Act.put, List.setIfInBounds_toArray, List.set_cons_zero, List.set_cons_succ]
      refine hold_no 40 hHC hH6 (by simp only [List.getElem?_toArray, List.getElem?_cons_succ, List.getElem?_cons_zero]; rfl) rfl (by kernel_rfl) (by kernel_rfl) ?_
      try simp only [Act.put, List.setIfInBounds_toArray, List.set_cons_zero, List.set_cons_succ]
      refine hold_no 41 hHC hH6 (by simp only [List.getElem?_toArray, List.getElem?_cons_succ, List.getElem?_cons_zero]; rfl) rfl (by kernel_rfl) (by kernel_rfl) ?_
      try simp only [Act.put, List.setIfInBounds_toArray, List.set_cons_zero, List.set_cons_succ]
      refine hold_no 42 hHC hH6 (by simp only [List.getElem?_toArray, List.getElem?_cons_succ, List.getElem?_cons_zero]; rfl) rfl (by kernel_rfl) (by kernel_rfl) ?_
      try simp only [Act.put, List.setIfInBounds_toArray, List.set_cons_zero, List.set_cons_succ]
      refine hold_yes 43 (v := ?_) hHC hH6 (by simp only [List.getElem?_toArray, List.getElem?_cons_succ, List.getElem?_cons_zero]; rfl) rfl (by kernel_rfl) (by kernel_rfl) ?_ ?_
      rotate_left 1
      · (intro w hSw; (try dsimp only at hSw); go_simp; try with_reducible rfl)
      try simp only [Act.put, List.setIfInBounds_toArray, List.set_cons_zero, List.set_cons_succ]
      refine hold_plain 44 (v := ?_) hHC hH6 (by simp only [List.getElem?_toArray, List.getElem?_cons_succ, List.getElem?_cons_zero]; rfl) rfl (by kernel_rfl) ?_ ?_
      rotate_left 1
      · (intro w hSw; (try dsimp only at hSw); go_simp; try with_reducible rfl)
      try simp only [Act.put, List.setIfInBounds_toArray, List.set_cons_zero, List.set_cons_succ]
      refine hold_plain 45 (v := ?_) hHC hH6 (by simp only [List.getElem?_toArray, List.getElem?_cons_succ, List.getElem?_cons_zero]; rfl) rfl (by kernel_rfl) ?_ ?_
      rotate_left 1
      · (intro w hSw; (try dsimp only at hSw); go_simp; try with_reducible rfl)
      try simp only [Act.put, List.setIfInBounds_toArray, List.set_cons_zero, List.set_cons_succ]
      refine hold_yes 46 (v := ?_) hHC hH6 (by simp only [List.getElem?_toArray, List.getElem?_cons_succ, List.getElem?_cons_zero]; rfl) rfl (by kernel_rfl) (by kernel_rfl) ?_ ?_
      rotate_left 1
      · (intro w hSw; (try dsimp only at hSw); go_simp; try with_reducible rfl)
      try simp only [Act.put, List.setIfInBounds_toArray, List.set_cons_zero, List.set_cons_succ]
      refine hold_yes 47 (v := ?_) hHC hH6 (by simp only [List.getElem?_toArray, List.getElem?_cons_succ, List.getElem?_cons_zero]; rfl) rfl (by kernel_rfl) (by kernel_rfl) ?_ ?_
      rotate_left 1
      · (intro w hSw; (try dsimp only at hSw); go_simp; try with_reducible rfl)
      try simp only [Act.put, List.setIfInBounds_toArray, List.set_cons_zero, List.set_cons_succ]
      refine hold_call1 48 (by simp only [List.getElem?_toArray, List.getElem?_cons_succ, List.getElem?_cons_zero]; rfl) rfl (by kernel_rfl) (by kernel_rfl) (fun K hK => ?_)
      go_simp
      first | (go_at_call 35; first | (with_reducible refine (HD.out _).mono ?_; rintro e w1 ⟨rfl, hb1⟩)) | (go_at_call 36; first | (with_reducible refine (HA.out _).mono ?_; rintro e w1 ⟨rfl, hb1⟩) | (with_reducible refine (HC.out _).mono ?_; rintro e w1 ⟨rfl, hb1⟩)) | (go_at_call 37; first | (with_reducible refine (HL3.out _).mono ?_; rintro e w1 ⟨rfl, hb1⟩)) | (go_at_call 38; first | (with_reducible refine (HF3.out _).mono ?_; rintro e w1 ⟨rfl, hb1⟩)) | (go_at_call 19; first | (with_reducible refine (HT1.out _).mono ?_; rintro e w1 ⟨rfl, hb1⟩))
      refine hK.out _ _ ?_ (fun hH7 => ?_)
      · (first | (go_keep; done) | ((try go_split_ands); (repeat' apply And.intro) <;> first | assumption | (with_reducible refine Rd.below ?_ hb1; assumption) | (with_reducible refine Rd.drew ?_; repeat' (first | assumption | (with_reducible refine Rd.alloc ?_ _))) | (refine (hb1.cell (by first | omega | (simp; done) | (simp; omega))).trans ?_; first | assumption | simp) | (exact below_step hb1 (by first | omega | (simp; done) | (simp; omega)) (by assumption)) | (have hz' := hb1.size; (try simp at hz'); omega) | ((repeat' (first | assumption | (with_reducible exact Below.refl _ _) | (with_reducible refine Below.drew ?_) | (with_reducible refine Below.alloc ?_ ?_ _) | (with_reducible refine Below.setCell ?_ ?_ _) | omega | (simp; done) | (simp; omega))); done) | go_simp | (simp; done) | (simp; omega)))
      clear hK K hH6
      try simp only [Act.put, List.setIfInBounds_toArray, List.set_cons_zero, List.set_cons_succ]
      refine hold_yes 49 (v := ?_) hHC hH7 (by simp only [List.getElem?_toArray, List.getElem?_cons_succ, List.getElem?_cons_zero]; rfl) rfl (by kernel_rfl) (by kernel_rfl) ?_ ?_
      rotate_left 1
      · (intro w hSw; (try dsimp only at hSw); go_simp; try with_reducible rfl)
      try simp only [Act.put, List.setIfInBounds_toArray, List.set_cons_zero, List.set_cons_succ]
      refine hold_plain 50 (v := ?_) hHC hH7 (by simp only [List.getElem?_toArray, List.getElem?_cons_succ, List.getElem?_cons_zero]; rfl) rfl (by kernel_rfl) ?_ ?_
      rotate_left 1
      · (intro w hSw; (try dsimp only at hSw); go_simp; try with_reducible rfl)
      try simp only [Act.put, List.setIfInBounds_toArray, List.set_cons_zero, List.set_cons_succ]
      refine hold_plain 51 (v := ?_) hHC hH7 (by simp only [List.getElem?_toArray, List.getElem?_cons_succ, List.getElem?_cons_zero]; rfl) rfl (by kernel_rfl) ?_ ?_
      rotate_left 1
      · (intro w hSw; (try dsimp only at hSw); go_simp; try with_reducible rfl)
      try simp only [Act.put, List.setIfInBounds_toArray, List.set_cons_zero, List.set_cons_succ]
      refine hold_yes 52 (v := ?_) hHC hH7 (by simp only [List.getElem?_toArray, List.getElem?_cons_succ, List.getElem?_cons_zero]; rfl) rfl (by kernel_rfl) (by kernel_rfl) ?_ ?_
      rotate_left 1
      · (intro w hSw; (try dsimp only at hSw); go_simp; try with_reducible rfl)
      try simp only [Act.put, List.setIfInBounds_toArray, List.set_cons_zero, List.set_cons_succ]
      refine hold_call1 53 (by simp only [List.getElem?_toArray, List.getElem?_cons_succ, List.getElem?_cons_zero]; rfl) rfl (by kernel_rfl) (by kernel_rfl) (fun K hK => ?_)
      go_simp
      first | (go_at_call 35; first | (with_reducible refine (HD.out _).mono ?_; rintro e w1 ⟨rfl, hb1⟩)) | (go_at_call 36; first | (with_reducible refine (HA.out _).mono ?_; rintro e w1 ⟨rfl, hb1⟩) | (with_reducible refine (HC.out _).mono ?_; rintro e w1 ⟨rfl, hb1⟩)) | (go_at_call 37; first | (with_reducible refine (HL3.out _).mono ?_; rintro e w1 ⟨rfl, hb1⟩)) | (go_at_call 38; first | (with_reducible refine (HF3.out _).mono ?_; rintro e w1 ⟨rfl, hb1⟩)) | (go_at_call 19; first | (with_reducible refine (HT1.out _).mono ?_; rintro e w1 ⟨rfl, hb1⟩))
      refine hK.out _ _ ?_ (fun hH8 => ?_)
      · (first | (go_keep; done) | ((try go_split_ands); (repeat' apply And.intro) <;> first | assumption | (with_reducible refine Rd.below ?_ hb1; assumption) | (with_reducible refine Rd.drew ?_; repeat' (first | assumption | (with_reducible refine Rd.alloc ?_ _))) | (refine (hb1.cell (by first | omega | (simp; done) | (simp; omega))).trans ?_; first | assumption | simp) | (exact below_step hb1 (by first | omega | (simp; done) | (simp; omega)) (by assumption)) | (have hz' := hb1.size; (try simp at hz'); omega) | ((repeat' (first | assumption | (with_reducible exact Below.refl _ _) | (with_reducible refine Below.drew ?_) | (with_reducible refine Below.alloc ?_ ?_ _) | (with_reducible refine Below.setCell ?_ ?_ _) | omega | (simp; done) | (simp; omega))); done) | go_simp | (simp; done) | (simp; omega)))
      clear hK K hH7
      try simp only [Act.put, List.setIfInBounds_toArray, List.set_cons_zero, List.set_cons_succ]
      refine hold_yes 54 (v := ?_) hHC hH8 (by simp only [List.getElem?_toArray, List.getElem?_cons_succ, List.getElem?_cons_zero]; rfl) rfl (by kernel_rfl) (by kernel_rfl) ?_ ?_
      rotate_left 1
      · (intro w hSw; (try dsimp only at hSw); go_simp; try with_reducible rfl)
      try simp only [Act.put, List.setIfInBounds_toArray, List.set_cons_zero, List.set_cons_succ]
      refine hold_yes 55 (v := ?_) hHC hH8 (by simp only [List.getElem?_toArray, List.getElem?_cons_succ, List.getElem?_cons_zero]; rfl) rfl (by kernel_rfl) (by kernel_rfl) ?_ ?_
      rotate_left 1
      · (intro w hSw; (try dsimp only at hSw); go_simp; try with_reducible rfl)
      try simp only [Act.put, List.setIfInBounds_toArray, List.set_cons_zero, List.set_cons_succ]
      refine hold_plain 56 (v := ?_) hHC hH8 (by simp only [List.getElem?_toArray, List.getElem?_cons_succ, List.getElem?_cons_zero]; rfl) rfl (by kernel_rfl) ?_ ?_
      rotate_left 1
      · (intro w hSw; (try dsimp only at hSw); go_simp; try with_reducible rfl)
      try simp only [Act.put, List.setIfInBounds_toArray, List.set_cons_zero, List.set_cons_succ]
      refine hold_plain 57 (v := ?_) hHC hH8 (by simp only [List.getElem?_toArray, List.getElem?_cons_succ, List.getElem?_cons_zero]; rfl) rfl (by kernel_rfl) ?_ ?_
      rotate_left 1
      · (intro w hSw; (try dsimp only at hSw); go_simp; try with_reducible rfl)
      try simp only [Act.put, List.setIfInBounds_toArray, List.set_cons_zero, List.set_cons_succ]
      refine hold_yes 58 (v := ?_) hHC hH8 (by simp only [List.getElem?_toArray, List.getElem?_cons_succ, List.getElem?_cons_zero]; rfl) rfl (by kernel_rfl) (by kernel_rfl) ?_ ?_
      rotate_left 1
      · (intro w hSw; (try dsimp only at hSw); go_simp; try with_reducible rfl)
      try simp only [Act.put, List.setIfInBounds_toArray, List.set_cons_zero, List.set_cons_succ]
      refine hold_yes 59 (v := ?_) hHC hH8 (by simp only [List.getElem?_toArray, List.getElem?_cons_succ, List.getElem?_cons_zero]; rfl) rfl (by kernel_rfl) (by kernel_rfl) ?_ ?_
      rotate_left 1
      · (intro w hSw; (try dsimp only at hSw); go_simp; try with_reducible rfl)
      try simp only [Act.put, List.setIfInBounds_toArray, List.set_cons_zero, List.set_cons_succ]
      refine hold_yes 60 (v := ?_) hHC hH8 (by simp only [List.getElem?_toArray, List.getElem?_cons_succ, List.getElem?_cons_zero]; rfl) rfl (by kernel_rfl) (by kernel_rfl) ?_ ?_
      rotate_left 1
      · (intro w hSw; (try dsimp only at hSw); go_simp; try with_reducible rfl)
      try simp only [Act.put, List.setIfInBounds_toArray, List.set_cons_zero, List.set_cons_succ]
      refine hold_yes 61 (v := ?_) hHC hH8 (by simp only [List.getElem?_toArray, List.getElem?_cons_succ, List.getElem?_cons_zero]; rfl) rfl (by kernel_rfl) (by kernel_rfl) ?_ ?_
      rotate_left 1
      · (intro w hSw; (try dsimp only at hSw); go_simp; try with_reducible rfl)
      try simp only [Act.put, List.setIfInBounds_toArray, List.set_cons_zero, List.set_cons_succ]
      refine hold_yes 63 (v := ?_) hHC hH8 (by simp only [List.getElem?_toArray, List.getElem?_cons_succ, List.getElem?_cons_zero]; rfl) rfl (by kernel_rfl) (by kernel_rfl) ?_ ?_
      rotate_left 1
      · (intro w hSw; (try dsimp only at hSw); go_simp; try with_reducible rfl)
      try simp only [Act.put, List.setIfInBounds_toArray, List.set_cons_zero, List.set_cons_succ]
      refine hold_call1 62 (by simp only [List.getElem?_toArray, List.getElem?_cons_succ, List.getElem?_cons_zero]; rfl) rfl (by kernel_rfl) (by kernel_rfl) (fun K hK => ?_)
      go_simp
      first | (go_at_call 35; first | (with_reducible refine (HD.out _).mono ?_; rintro e w1 ⟨rfl, hb1⟩)) | (go_at_call 36; first | (with_reducible refine (HA.out _).mono ?_; rintro e w1 ⟨rfl, hb1⟩) | (with_reducible refine (HC.out _).mono ?_; rintro e w1 ⟨rfl, hb1⟩)) | (go_at_call 37; first | (with_reducible refine (HL3.out _).mono ?_; rintro e w1 ⟨rfl, hb1⟩)) | (go_at_call 38; first | (with_reducible refine (HF3.out _).mono ?_; rintro e w1 ⟨rfl, hb1⟩)) | (go_at_call 19; first | (with_reducible refine (HT1.out _).mono ?_; rintro e w1 ⟨rfl, hb1⟩))
      refine hK.out _ _ ?_ (fun hH9 => ?_)
      · (first | (go_keep; done) | ((try go_split_ands); (repeat' apply And.intro) <;> first | assumption | (with_reducible refine Rd.below ?_ hb1; assumption) | (with_reducible refine Rd.drew ?_; repeat' (first | assumption | (with_reducible refine Rd.alloc ?_ _))) | (refine (hb1.cell (by first | omega | (simp; done) | (simp; omega))).trans ?_; first | assumption | simp) | (exact below_step hb1 (by first | omega | (simp; done) | (simp; omega)) (by assumption)) | (have hz' := hb1.size; (try simp at hz'); omega) | ((repeat' (first | assumption | (with_reducible exact Below.refl _ _) | (with_reducible refine Below.drew ?_) | (with_reducible refine Below.alloc ?_ ?_ _) | (with_reducible refine Below.setCell ?_ ?_ _) | omega | (simp; done) | (simp; omega))); done) | go_simp | (simp; done) | (simp; omega)))
      clear hK K hH8
      try simp only [Act.put, List.setIfInBounds_toArray, List.set_cons_zero, List.set_cons_succ]
      refine hold_call1 64 (by simp only [List.getElem?_toArray, List.getElem?_cons_succ, List.getElem?_cons_zero]; rfl) rfl (by kernel_rfl) (by kernel_rfl) (fun K hK => ?_)
      go_simp
      first | (go_at_call 35; first | (with_reducible refine (HD.out _).mono ?_; rintro e w1 ⟨rfl, hb1⟩)) | (go_at_call 36; first | (with_reducible refine (HA.out _).mono ?_; rintro e w1 ⟨rfl, hb1⟩) | (with_reducible refine (HC.out _).mono ?_; rintro e w1 ⟨rfl, hb1⟩)) | (go_at_call 37; first | (with_reducible refine (HL3.out _).mono ?_; rintro e w1 ⟨rfl, hb1⟩)) | (go_at_call 38; first | (with_reducible refine (HF3.out _).mono ?_; rintro e w1 ⟨rfl, hb1⟩)) | (go_at_call 19; first | (with_reducible refine (HT1.out _).mono ?_; rintro e w1 ⟨rfl, hb1⟩))
      refine hK.out _ _ ?_ (fun hH10 => ?_)
      · (first | (go_keep; done) | ((try go_split_ands); (repeat' apply And.intro) <;> first | assumption | (with_reducible refine Rd.below ?_ hb1; assumption) | (with_reducible refine Rd.drew ?_; repeat' (first | assumption | (with_reducible refine Rd.alloc ?_ _))) | (refine (hb1.cell (by first | omega | (simp; done) | (simp; omega))).trans ?_; first | assumption | simp) | (exact below_step hb1 (by first | omega | (simp; done) | (simp; omega)) (by assumption)) | (have hz' := hb1.size; (try simp at hz'); omega) | ((repeat' (first | assumption | (with_reducible exact Below.refl _ _) | (with_reducible refine Below.drew ?_) | (with_reducible refine Below.alloc ?_ ?_ _) | (with_reducible refine Below.setCell ?_ ?_ _) | omega | (simp; done) | (simp; omega))); done) | go_simp | (simp; done) | (simp; omega)))
      clear hK K hH9
      try simp only [Act.put, List.setIfInBounds_toArray, List.set_cons_zero, List.set_cons_succ]
      refine hold_yes 65 (v := ?_) hHC hH10 (by simp only [List.getElem?_toArray, List.getElem?_cons_succ, List.getElem?_cons_zero]; rfl) rfl (by kernel_rfl) (by kernel_rfl) ?_ ?_
      rotate_left 1
      · (intro w hSw; (try dsimp only at hSw); go_simp; try with_reducible rfl)
      try simp only [Act.put, List.setIfInBounds_toArray, List.set_cons_zero, List.set_cons_succ]
      refine hold_yes 66 (v := ?_) hHC hH10 (by simp only [List.getElem?_toArray, List.getElem?_cons_succ, List.getElem?_cons_zero]; rfl) rfl (by kernel_rfl) (by kernel_rfl) ?_ ?_
      rotate_left 1
      · (intro w hSw; (try dsimp only at hSw); go_simp; try with_reducible rfl)
      try simp only [Act.put, List.setIfInBounds_toArray, List.set_cons_zero, List.set_cons_succ]
      refine hold_plain 67 (v := ?_) hHC hH10 (by simp only [List.getElem?_toArray, List.getElem?_cons_succ, List.getElem?_cons_zero]; rfl) rfl (by kernel_rfl) ?_ ?_
      rotate_left 1
      · (intro w hSw; (try dsimp only at hSw); go_simp; try with_reducible rfl)
      try simp only [Act.put, List.setIfInBounds_toArray, List.set_cons_zero, List.set_cons_succ]
      refine hold_plain 68 (v := ?_) hHC hH10 (by simp only [List.getElem?_toArray, List.getElem?_cons_succ, List.getElem?_cons_zero]; rfl) rfl (by kernel_rfl) ?_ ?_
      rotate_left 1
      · (intro w hSw; (try dsimp only at hSw); go_simp; try with_reducible rfl)
      try simp only [Act.put, List.setIfInBounds_toArray, List.set_cons_zero, List.set_cons_succ]
      refine wpAnyH_done (by kernel_rfl) ?_ _
      (try dsimp only at hH10)
      go_split_ands
      clear hHC
      go_wp2_with fail
      go_ret
      exact ⟨rfl, by assumption⟩
    · have HF1 := Lib.hid (fun W : World => implBef_any x y u v p q W)
      have HF2 := Lib.hid (fun W : World => implBef_any u v x y q p W)
      rw [HBE.out heq] at HF2
      obtain ⟨δ, hδ⟩ : ∃ δ, δ = befB x y p u v q := ⟨_, rfl⟩
      rw [← hδ] at HF1 HF2
      have HT2 := Lib.hid (fun W : World => implDt_any u v q W)
      have hne := HNE.out heq
      obtain ⟨s, hs⟩ : ∃ s, s = dtB u v q := ⟨_, rfl⟩
      rw [← hs] at HT2 hne
      have hne2 : (t.toList == s.toList) = false := by rw [beq_eq_false_iff_ne]; exact hne
      clear hδ hs
      have hcase : (¬ x = u) ∨ (x = u ∧ ¬ y = v) ∨ (x = u ∧ y = v ∧ ¬ p = q) := by
        by_cases c1 : x = u
        · by_cases c2 : y = v
          · exact .inr (.inr ⟨c1, c2, fun c3 => heq ⟨c1, c2, c3⟩⟩)
          · exact .inr (.inl ⟨c1, c2⟩)
        · exact .inl c1
      clear heq HBE HNE hne
      rcases hcase with c1 | ⟨rfl, c2⟩ | ⟨rfl, rfl, c3⟩
      · have d1 : (x == u) = false := by rw [beq_eq_false_iff_ne]; exact c1
        have d2 : ¬ u = x := fun h => c1 h.symm
        go_wp2_with fail
        simp only [List.append_eq, List.cons_append, List.nil_append]
        refine hold_start (S := (fun w' => w'.cell? ⟨w2.heap.size, 0, none⟩ = some (.int .i64 x) ∧ w'.cell? ⟨w2.heap.size, 1, none⟩ = some (.int .i64 y) ∧ w'.cell? ⟨w2.heap.size, 2, none⟩ = some (.bool p) ∧ w'.cell? ⟨w2.heap.size + 1, 0, none⟩ = some (.int .i64 u) ∧ w'.cell? ⟨w2.heap.size + 1, 1, none⟩ = some (.int .i64 v) ∧ w'.cell? ⟨w2.heap.size + 1, 2, none⟩ = some (.bool q) ∧ w'.cell? ⟨w3.heap.size, 0, none⟩ = some (.int .i64 x) ∧ w'.cell? ⟨w3.heap.size, 1, none⟩ = some (.int .i64 y) ∧ w'.cell? ⟨w3.heap.size + 1, 0, none⟩ = some (.int .i64 x2) ∧ w'.cell? ⟨w3.heap.size + 1, 1, none⟩ = some (.int .i64 y2) ∧ w'.cell? ⟨w4.heap.size, 0, none⟩ = some (.int .i64 x) ∧ w'.cell? ⟨w4.heap.size, 1, none⟩ = some (.int .i64 y) ∧ w'.cell? ⟨w4.heap.size, 2, none⟩ = some (.bool p) ∧ Below w.heap.size w w' ∧ w4.heap.size + 1 ≤ w'.heap.size)) (by kernel_rfl) (by kernel_rfl) (by intro _ _ d _ _ h; cases d <;> exact h) ?_ (fun hHC hH0 => ?_)
        · (first | (go_keep; done) | ((try go_split_ands); (repeat' apply And.intro) <;> first | assumption | (with_reducible refine Rd.below ?_ hb1; assumption) | (with_reducible refine Rd.drew ?_; repeat' (first | assumption | (with_reducible refine Rd.alloc ?_ _))) | (refine (hb1.cell (by first | omega | (simp; done) | (simp; omega))).trans ?_; first | assumption | simp) | (exact below_step hb1 (by first | omega | (simp; done) | (simp; omega)) (by assumption)) | (have hz' := hb1.size; (try simp at hz'); omega) | ((repeat' (first | assumption | (with_reducible exact Below.refl _ _) | (with_reducible refine Below.drew ?_) | (with_reducible refine Below.alloc ?_ ?_ _) | (with_reducible refine Below.setCell ?_ ?_ _) | omega | (simp; done) | (simp; omega))); done) | go_simp | (simp; done) | (simp; omega)))
        refine hold_plain 0 (v := ?_) hHC hH0 (by simp only [List.getElem?_toArray, List.getElem?_cons_succ, List.getElem?_cons_zero]; rfl) rfl (by kernel_rfl) ?_ ?_
        rotate_left 1
        · (intro w hSw; (try dsimp only at hSw); go_simp; try with_reducible rfl)
        try simp only [Act.put, List.setIfInBounds_toArray, List.set_cons_zero, List.set_cons_succ]
        refine hold_call0 1 (by simp only [List.getElem?_toArray, List.getElem?_cons_succ, List.getElem?_cons_zero]; rfl) rfl (by kernel_rfl) (fun K hK => ?_)
        go_simp
        first | (go_at_call 35; first | (with_reducible refine (HD.out _).mono ?_; rintro e w1 ⟨rfl, hb1⟩)) | (go_at_call 36; first | (with_reducible refine (HA.out _).mono ?_; rintro e w1 ⟨rfl, hb1⟩) | (with_reducible refine (HC.out _).mono ?_; rintro e w1 ⟨rfl, hb1⟩)) | (go_at_call 37; first | (with_reducible refine (HL1.out _).mono ?_; rintro e w1 ⟨rfl, hb1⟩) | (with_reducible refine (HL2.out _).mono ?_; rintro e w1 ⟨rfl, hb1⟩) | (with_reducible refine (HL3.out _).mono ?_; rintro e w1 ⟨rfl, hb1⟩)) | (go_at_call 38; first | (with_reducible refine (HF1.out _).mono ?_; rintro e w1 ⟨rfl, hb1⟩) | (with_reducible refine (HF2.out _).mono ?_; rintro e w1 ⟨rfl, hb1⟩) | (with_reducible refine (HF3.out _).mono ?_; rintro e w1 ⟨rfl, hb1⟩)) | (go_at_call 19; first | (with_reducible refine (HT1.out _).mono ?_; rintro e w1 ⟨rfl, hb1⟩) | (with_reducible refine (HT2.out _).mono ?_; rintro e w1 ⟨rfl, hb1⟩))
        refine hK.out _ _ ?_ (fun hH1 => ?_)
        · (first | (go_keep; done) | ((try go_split_ands); (repeat' apply And.intro) <;> first | assumption | (with_reducible refine Rd.below ?_ hb1; assumption) | (with_reducible refine Rd.drew ?_; repeat' (first | assumption | (with_reducible refine Rd.alloc ?_ _))) | (refine (hb1.cell (by first | omega | (simp; done) | (simp; omega))).trans ?_; first | assumption | simp) | (exact below_step hb1 (by first | omega | (simp; done) | (simp; omega)) (by assumption)) | (have hz' := hb1.size; (try simp at hz'); omega) | ((repeat' (first | assumption | (with_reducible exact Below.refl _ _) | (with_reducible refine Below.drew ?_) | (with_reducible refine Below.alloc ?_ ?_ _) | (with_reducible refine Below.setCell ?_ ?_ _) | omega | (simp; done) | (simp; omega))); done) | go_simp | (simp; done) | (simp; omega)))
        clear hK K hH0
        try simp only [Act.put, List.setIfInBounds_toArray, List.set_cons_zero, List.set_cons_succ]
        refine hold_plain 2 (v := ?_) hHC hH1 (by simp only [List.getElem?_toArray, List.getElem?_cons_succ, List.getElem?_cons_zero]; rfl) rfl (by kernel_rfl) ?_ ?_
        rotate_left 1
        · (intro w hSw; (try dsimp only at hSw); go_simp; try with_reducible rfl)
        try simp only [Act.put, List.setIfInBounds_toArray, List.set_cons_zero, List.set_cons_succ]
        refine hold_yes 3 (v := ?_) hHC hH1 (by simp only [List.getElem?_toArray, List.getElem?_cons_succ, List.getElem?_cons_zero]; rfl) rfl (by kernel_rfl) (by kernel_rfl) ?_ ?_
        rotate_left 1
        · (intro w hSw; (try dsimp only at hSw); go_simp; try with_reducible rfl)
        try simp only [Act.put, List.setIfInBounds_toArray, List.set_cons_zero, List.set_cons_succ]
        refine hold_yes 5 (v := ?_) hHC hH1 (by simp only [List.getElem?_toArray, List.getElem?_cons_succ, List.getElem?_cons_zero]; rfl) rfl (by kernel_rfl) (by kernel_rfl) ?_ ?_
        rotate_left 1
        · (intro w hSw; (try dsimp only at hSw); go_simp; try with_reducible rfl)
        try simp only [Act.put, List.setIfInBounds_toArray, List.set_cons_zero, List.set_cons_succ]
        refine hold_call1 4 (by simp only [List.getElem?_toArray, List.getElem?_cons_succ, List.getElem?_cons_zero]; rfl) rfl (by kernel_rfl) (by kernel_rfl) (fun K hK => ?_)
        go_simp
        first | (go_at_call 35; first | (with_reducible refine (HD.out _).mono ?_; rintro e w1 ⟨rfl, hb1⟩)) | (go_at_call 36; first | (with_reducible refine (HA.out _).mono ?_; rintro e w1 ⟨rfl, hb1⟩) | (with_reducible refine (HC.out _).mono ?_; rintro e w1 ⟨rfl, hb1⟩)) | (go_at_call 37; first | (with_reducible refine (HL1.out _).mono ?_; rintro e w1 ⟨rfl, hb1⟩) | (with_reducible refine (HL2.out _).mono ?_; rintro e w1 ⟨rfl, hb1⟩) | (with_reducible refine (HL3.out _).mono ?_; rintro e w1 ⟨rfl, hb1⟩)) | (go_at_call 38; first | (with_reducible refine (HF1.out _).mono ?_; rintro e w1 ⟨rfl, hb1⟩) | (with_reducible refine (HF2.out _).mono ?_; rintro e w1 ⟨rfl, hb1⟩) | (with_reducible refine (HF3.out _).mono ?_; rintro e w1 ⟨rfl, hb1⟩)) | (go_at_call 19; first | (with_reducible refine (HT1.out _).mono ?_; rintro e w1 ⟨rfl, hb1⟩) | (with_reducible refine (HT2.out _).mono ?_; rintro e w1 ⟨rfl, hb1⟩))
        refine hK.out _ _ ?_ (fun hH2 => ?_)
        · (first | (go_keep; done) | ((try go_split_ands); (repeat' apply And.intro) <;> first | assumption | (with_reducible refine Rd.below ?_ hb1; assumption) | (with_reducible refine Rd.drew ?_; repeat' (first | assumption | (with_reducible refine Rd.alloc ?_ _))) | (refine (hb1.cell (by first | omega | (simp; done) | (simp; omega))).trans ?_; first | assumption | simp) | (exact below_step hb1 (by first | omega | (simp; done) | (simp; omega)) (by assumption)) | (have hz' := hb1.size; (try simp at hz'); omega) | ((repeat' (first | assumption | (with_reducible exact Below.refl _ _) | (with_reducible refine Below.drew ?_) | (with_reducible refine Below.alloc ?_ ?_ _) | (with_reducible refine Below.setCell ?_ ?_ _) | omega | (simp; done) | (simp; omega))); done) | go_simp | (simp; done) | (simp; omega)))
        clear hK K hH1
        try simp only [Act.put, List.setIfInBounds_toArray, List.set_cons_zero, List.set_cons_succ]
        refine hold_call1 6 (by simp only [List.getElem?_toArray, List.getElem?_cons_succ, List.getElem?_cons_zero]; rfl) rfl (by kernel_rfl) (by kernel_rfl) (fun K hK => ?_)
        go_simp
        first | (go_at_call 35; first | (with_reducible refine (HD.out _).mono ?_; rintro e w1 ⟨rfl, hb1⟩)) | (go_at_call 36; first | (with_reducible refine (HA.out _).mono ?_; rintro e w1 ⟨rfl, hb1⟩) | (with_reducible refine (HC.out _).mono ?_; rintro e w1 ⟨rfl, hb1⟩)) | (go_at_call 37; first | (with_reducible refine (HL1.out _).mono ?_; rintro e w1 ⟨rfl, hb1⟩) | (with_reducible refine (HL2.out _).mono ?_; rintro e w1 ⟨rfl, hb1⟩) | (with_reducible refine (HL3.out _).mono ?_; rintro e w1 ⟨rfl, hb1⟩)) | (go_at_call 38; first | (with_reducible refine (HF1.out _).mono ?_; rintro e w1 ⟨rfl, hb1⟩) | (with_reducible refine (HF2.out _).mono ?_; rintro e w1 ⟨rfl, hb1⟩) | (with_reducible refine (HF3.out _).mono ?_; rintro e w1 ⟨rfl, hb1⟩)) | (go_at_call 19; first | (with_reducible refine (HT1.out _).mono ?_; rintro e w1 ⟨rfl, hb1⟩) | (with_reducible refine (HT2.out _).mono ?_; rintro e w1 ⟨rfl, hb1⟩))
        refine hK.out _ _ ?_ (fun hH3 => ?_)
        · (first | (go_keep; done) | ((try go_split_ands); (repeat' apply And.intro) <;> first | assumption | (with_reducible refine Rd.below ?_ hb1; assumption) | (with_reducible refine Rd.drew ?_; repeat' (first | assumption | (with_reducible refine Rd.alloc ?_ _))) | (refine (hb1.cell (by first | omega | (simp; done) | (simp; omega))).trans ?_; first | assumption | simp) | (exact below_step hb1 (by first | omega | (simp; done) | (simp; omega)) (by assumption)) | (have hz' := hb1.size; (try simp at hz'); omega) | ((repeat' (first | assumption | (with_reducible exact Below.refl _ _) | (with_reducible refine Below.drew ?_) | (with_reducible refine Below.alloc ?_ ?_ _) | (with_reducible refine Below.setCell ?_ ?_ _) | omega | (simp; done) | (simp; omega))); done) | go_simp | (simp; done) | (simp; omega)))
        clear hK K hH2
        try simp only [Act.put, List.setIfInBounds_toArray, List.set_cons_zero, List.set_cons_succ]
        refine hold_yes 7 (v := ?_) hHC hH3 (by simp only [List.getElem?_toArray, List.getElem?_cons_succ, List.getElem?_cons_zero]; rfl) rfl (by kernel_rfl) (by kernel_rfl) ?_ ?_
        rotate_left 1
        · (intro w hSw; (try dsimp only at hSw); go_simp; try with_reducible rfl)
        try simp only [Act.put, List.setIfInBounds_toArray, List.set_cons_zero, List.set_cons_succ]
        refine hold_plain 8 (v := ?_) hHC hH3 (by simp only [List.getElem?_toArray, List.getElem?_cons_succ, List.getElem?_cons_zero]; rfl) rfl (by kernel_rfl) ?_ ?_
        rotate_left 1
        · (intro w hSw; (try dsimp only at hSw); go_simp; try with_reducible rfl)
        try simp only [Act.put, List.setIfInBounds_toArray, List.set_cons_zero, List.set_cons_succ]
        refine hold_plain 9 (v := ?_) hHC hH3 (by simp only [List.getElem?_toArray, List.getElem?_cons_succ, List.getElem?_cons_zero]; rfl) rfl (by kernel_rfl) ?_ ?_
        rotate_left 1
        · (intro w hSw; (try dsimp only at hSw); go_simp; try with_reducible rfl)
        try simp only [Act.put, List.setIfInBounds_toArray, List.set_cons_zero, List.set_cons_succ]
        refine hold_yes 10 (v := ?_) hHC hH3 (by simp only [List.getElem?_toArray, List.getElem?_cons_succ, List.getElem?_cons_zero]; rfl) rfl (by kernel_rfl) (by kernel_rfl) ?_ ?_
        rotate_left 1
        · (intro w hSw; (try dsimp only at hSw); go_simp; try with_reducible rfl)
        try simp only [Act.put, List.setIfInBounds_toArray, List.set_cons_zero, List.set_cons_succ]
        refine hold_plain 11 (v := ?_) hHC hH3 (by simp only [List.getElem?_toArray, List.getElem?_cons_succ, List.getElem?_cons_zero]; rfl) rfl (by kernel_rfl) ?_ ?_
        rotate_left 1
        · (intro w hSw; (try dsimp only at hSw); go_simp; try with_reducible rfl)
        try simp only [Act.put, List.setIfInBounds_toArray, List.set_cons_zero, List.set_cons_succ]
        refine hold_plain 12 (v := ?_) hHC hH3 (by simp only [List.getElem?_toArray, List.getElem?_cons_succ, List.getElem?_cons_zero]; rfl) rfl (by kernel_rfl) ?_ ?_
        rotate_left 1
        · (intro w hSw; (try dsimp only at hSw); go_simp; try with_reducible rfl)
        try simp only [Act.put, List.setIfInBounds_toArray, List.set_cons_zero, List.set_cons_succ]
        refine hold_yes 13 (v := ?_) hHC hH3 (by simp only [List.getElem?_toArray, List.getElem?_cons_succ, List.getElem?_cons_zero]; rfl) rfl (by kernel_rfl) (by kernel_rfl) ?_ ?_
        rotate_left 1
        · (intro w hSw; (try dsimp only at hSw); go_simp; try with_reducible rfl)
        try simp only [Act.put, List.setIfInBounds_toArray, List.set_cons_zero, List.set_cons_succ]
        refine hold_yes 14 (v := ?_) hHC hH3 (by simp only [List.getElem?_toArray, List.getElem?_cons_succ, List.getElem?_cons_zero]; rfl) rfl (by kernel_rfl) (by kernel_rfl) ?_ ?_
        rotate_left 1
        · (intro w hSw; (try dsimp only at hSw); go_simp; try with_reducible rfl)
        try simp only [Act.put, List.setIfInBounds_toArray, List.set_cons_zero, List.set_cons_succ]
        refine hold_yes 15 (v := ?_) hHC hH3 (by simp only [List.getElem?_toArray, List.getElem?_cons_succ, List.getElem?_cons_zero]; rfl) rfl (by kernel_rfl) (by kernel_rfl) ?_ ?_
        rotate_left 1
        · (intro w hSw; (try dsimp only at hSw); go_simp; try with_reducible rfl)
        try simp only [Act.put, List.setIfInBounds_toArray, List.set_cons_zero, List.set_cons_succ]
        refine hold_plain 16 (v := ?_) hHC hH3 (by simp only [List.getElem?_toArray, List.getElem?_cons_succ, List.getElem?_cons_zero]; rfl) rfl (by kernel_rfl) ?_ ?_
        rotate_left 1
        · (intro w hSw; (try dsimp only at hSw); go_simp; try with_reducible rfl)
        try simp only [Act.put, List.setIfInBounds_toArray, List.set_cons_zero, List.set_cons_succ]
        refine hold_plain 17 (v := ?_) hHC hH3 (by simp only [List.getElem?_toArray, List.getElem?_cons_succ, List.getElem?_cons_zero]; rfl) rfl (by kernel_rfl) ?_ ?_
        rotate_left 1
        · (intro w hSw; (try dsimp only at hSw); go_simp; try with_reducible rfl)
        try simp only [Act.put, List.setIfInBounds_toArray, List.set_cons_zero, List.set_cons_succ]
        refine hold_yes 18 (v := ?_) hHC hH3 (by simp only [List.getElem?_toArray, List.getElem?_cons_succ, List.getElem?_cons_zero]; rfl) rfl (by kernel_rfl) (by kernel_rfl) ?_ ?_
        rotate_left 1
        · (intro w hSw; (try dsimp only at hSw); go_simp; try with_reducible rfl)
        try simp only [Act.put, List.setIfInBounds_toArray, List.set_cons_zero, List.set_cons_succ]
        refine hold_yes 19 (v := ?_) hHC hH3 (by simp only [List.getElem?_toArray, List.getElem?_cons_succ, List.getElem?_cons_zero]; rfl) rfl (by kernel_rfl) (by kernel_rfl) ?_ ?_
        rotate_left 1
        · (intro w hSw; (try dsimp only at hSw); go_simp; try with_reducible rfl)
        try simp only [Act.put, List.setIfInBounds_toArray, List.set_cons_zero, List.set_cons_succ]
        refine hold_yes 21 (v := ?_) hHC hH3 (by simp only [List.getElem?_toArray, List.getElem?_cons_succ, List.getElem?_cons_zero]; rfl) rfl (by kernel_rfl) (by kernel_rfl) ?_ ?_
        rotate_left 1
        · (intro w hSw; (try dsimp only at hSw); go_simp; try with_reducible rfl)
        try simp only [Act.put, List.setIfInBounds_toArray, List.set_cons_zero, List.set_cons_succ]
        refine hold_yes 22 (v := ?_) hHC hH3 (by simp only [List.getElem?_toArray, List.getElem?_cons_succ, List.getElem?_cons_zero]; rfl) rfl (by kernel_rfl) (by kernel_rfl) ?_ ?_
        rotate_left 1
        · (intro w hSw; (try dsimp only at hSw); go_simp; try with_reducible rfl)
        try simp only [Act.put, List.setIfInBounds_toArray, List.set_cons_zero, List.set_cons_succ]
        refine hold_call1 20 (by simp only [List.getElem?_toArray, List.getElem?_cons_succ, List.getElem?_cons_zero]; rfl) rfl (by kernel_rfl) (by kernel_rfl) (fun K hK => ?_)
        go_simp
        first | (go_at_call 35; first | (with_reducible refine (HD.out _).mono ?_; rintro e w1 ⟨rfl, hb1⟩)) | (go_at_call 36; first | (with_reducible refine (HA.out _).mono ?_; rintro e w1 ⟨rfl, hb1⟩) | (with_reducible refine (HC.out _).mono ?_; rintro e w1 ⟨rfl, hb1⟩)) | (go_at_call 37; first | (with_reducible refine (HL1.out _).mono ?_; rintro e w1 ⟨rfl, hb1⟩) | (with_reducible refine (HL2.out _).mono ?_; rintro e w1 ⟨rfl, hb1⟩) | (with_reducible refine (HL3.out _).mono ?_; rintro e w1 ⟨rfl, hb1⟩)) | (go_at_call 38; first | (with_reducible refine (HF1.out _).mono ?_; rintro e w1 ⟨rfl, hb1⟩) | (with_reducible refine (HF2.out _).mono ?_; rintro e w1 ⟨rfl, hb1⟩) | (with_reducible refine (HF3.out _).mono ?_; rintro e w1 ⟨rfl, hb1⟩)) | (go_at_call 19; first | (with_reducible refine (HT1.out _).mono ?_; rintro e w1 ⟨rfl, hb1⟩) | (with_reducible refine (HT2.out _).mono ?_; rintro e w1 ⟨rfl, hb1⟩))
        refine hK.out _ _ ?_ (fun hH4 => ?_)
        · (first | (go_keep; done) | ((try go_split_ands); (repeat' apply And.intro) <;> first | assumption | (with_reducible refine Rd.below ?_ hb1; assumption) | (with_reducible refine Rd.drew ?_; repeat' (first | assumption | (with_reducible refine Rd.alloc ?_ _))) | (refine (hb1.cell (by first | omega | (simp; done) | (simp; omega))).trans ?_; first | assumption | simp) | (exact below_step hb1 (by first | omega | (simp; done) | (simp; omega)) (by assumption)) | (have hz' := hb1.size; (try simp at hz'); omega) | ((repeat' (first | assumption | (with_reducible exact Below.refl _ _) | (with_reducible refine Below.drew ?_) | (with_reducible refine Below.alloc ?_ ?_ _) | (with_reducible refine Below.setCell ?_ ?_ _) | omega | (simp; done) | (simp; omega))); done) | go_simp | (simp; done) | (simp; omega)))
        clear hK K hH3
        try simp only [Act.put, List.setIfInBounds_toArray, List.set_cons_zero, List.set_cons_succ]
        refine hold_call1 23 (by simp only [List.getElem?_toArray, List.getElem?_cons_succ, List.getElem?_cons_zero]; rfl) rfl (by kernel_rfl) (by kernel_rfl) (fun K hK => ?_)
        go_simp
        first | (go_at_call 35; first | (with_reducible refine (HD.out _).mono ?_; rintro e w1 ⟨rfl, hb1⟩)) | (go_at_call 36; first | (with_reducible refine (HA.out _).mono ?_; rintro e w1 ⟨rfl, hb1⟩) | (with_reducible refine (HC.out _).mono ?_; rintro e w1 ⟨rfl, hb1⟩)) | (go_at_call 37; first | (with_reducible refine (HL1.out _).mono ?_; rintro e w1 ⟨rfl, hb1⟩) | (with_reducible refine (HL2.out _).mono ?_; rintro e w1 ⟨rfl, hb1⟩) | (with_reducible refine (HL3.out _).mono ?_; rintro e w1 ⟨rfl, hb1⟩)) | (go_at_call 38; first | (with_reducible refine (HF1.out _).mono ?_; rintro e w1 ⟨rfl, hb1⟩) | (with_reducible refine (HF2.out _).mono ?_; rintro e w1 ⟨rfl, hb1⟩) | (with_reducible refine (HF3.out _).mono ?_; rintro e w1 ⟨rfl, hb1⟩)) | (go_at_call 19; first | (with_reducible refine (HT1.out _).mono ?_; rintro e w1 ⟨rfl, hb1⟩) | (with_reducible refine (HT2.out _).mono ?_; rintro e w1 ⟨rfl, hb1⟩))
        refine hK.out _ _ ?_ (fun hH5 => ?_)
        · (first | (go_keep; done) | ((try go_split_ands); (repeat' apply And.intro) <;> first | assumption | (with_reducible refine Rd.below ?_ hb1; assumption) | (with_reducible refine Rd.drew ?_; repeat' (first | assumption | (with_reducible refine Rd.alloc ?_ _))) | (refine (hb1.cell (by first | omega | (simp; done) | (simp; omega))).trans ?_; first | assumption | simp) | (exact below_step hb1 (by first | omega | (simp; done) | (simp; omega)) (by assumption)) | (have hz' := hb1.size; (try simp at hz'); omega) | ((repeat' (first | assumption | (with_reducible exact Below.refl _ _) | (with_reducible refine Below.drew ?_) | (with_reducible refine Below.alloc ?_ ?_ _) | (with_reducible refine Below.setCell ?_ ?_ _) | omega | (simp; done) | (simp; omega))); done) | go_simp | (simp; done) | (simp; omega)))
        clear hK K hH4
        try simp only [Act.put, List.setIfInBounds_toArray, List.set_cons_zero, List.set_cons_succ]
        refine hold_yes 24 (v := ?_) hHC hH5 (by simp only [List.getElem?_toArray, List.getElem?_cons_succ, List.getElem?_cons_zero]; rfl) rfl (by kernel_rfl) (by kernel_rfl) ?_ ?_
        rotate_left 1
        · (intro w hSw; (try dsimp only at hSw); go_simp; try with_reducible rfl)
        try simp only [Act.put, List.setIfInBounds_toArray, List.set_cons_zero, List.set_cons_succ]
        refine hold_plain 25 (v := ?_) hHC hH5 (by simp only [List.getElem?_toArray, List.getElem?_cons_succ, List.getElem?_cons_zero]; rfl) rfl (by kernel_rfl) ?_ ?_
        rotate_left 1
        · (intro w hSw; (try dsimp only at hSw); go_simp; try with_reducible rfl)
        try simp only [Act.put, List.setIfInBounds_toArray, List.set_cons_zero, List.set_cons_succ]
        refine hold_plain 26 (v := ?_) hHC hH5 (by simp only [List.getElem?_toArray, List.getElem?_cons_succ, List.getElem?_cons_zero]; rfl) rfl (by kernel_rfl) ?_ ?_
        rotate_left 1
        · (intro w hSw; (try dsimp only at hSw); go_simp; try with_reducible rfl)
        try simp only [Act.put, List.setIfInBounds_toArray, List.set_cons_zero, List.set_cons_succ]
        refine hold_yes 27 (v := ?_) hHC hH5 (by simp only [List.getElem?_toArray, List.getElem?_cons_succ, List.getElem?_cons_zero]; rfl) rfl (by kernel_rfl) (by kernel_rfl) ?_ ?_
        rotate_left 1
        · (intro w hSw; (try dsimp only at hSw); go_simp; try with_reducible rfl)
        try simp only [Act.put, List.setIfInBounds_toArray, List.set_cons_zero, List.set_cons_succ]
        refine hold_yes 28 (v := ?_) hHC hH5 (by simp only [List.getElem?_toArray, List.getElem?_cons_succ, List.getElem?_cons_zero]; rfl) rfl (by kernel_rfl) (by kernel_rfl) ?_ ?_
        rotate_left 1
        · (intro w hSw; (try dsimp only at hSw); go_simp; try with_reducible rfl)
        try simp only [Act.put, List.setIfInBounds_toArray, List.set_cons_zero, List.set_cons_succ]
        refine hold_call1 29 (by simp only [List.getElem?_toArray, List.getElem?_cons_succ, List.getElem?_cons_zero]; rfl) rfl (by kernel_rfl) (by kernel_rfl) (fun K hK => ?_)
        go_simp
        first | (go_at_call 35; first | (with_reducible refine (HD.out _).mono ?_; rintro e w1 ⟨rfl, hb1⟩)) | (go_at_call 36; first | (with_reducible refine (HA.out _).mono ?_; rintro e w1 ⟨rfl, hb1⟩) | (with_reducible refine (HC.out _).mono ?_; rintro e w1 ⟨rfl, hb1⟩)) | (go_at_call 37; first | (with_reducible refine (HL1.out _).mono ?_; rintro e w1 ⟨rfl, hb1⟩) | (with_reducible refine (HL2.out _).mono ?_; rintro e w1 ⟨rfl, hb1⟩) | (with_reducible refine (HL3.out _).mono ?_; rintro e w1 ⟨rfl, hb1⟩)) | (go_at_call 38; first | (with_reducible refine (HF1.out _).mono ?_; rintro e w1 ⟨rfl, hb1⟩) | (with_reducible refine (HF2.out _).mono ?_; rintro e w1 ⟨rfl, hb1⟩) | (with_reducible refine (HF3.out _).mono ?_; rintro e w1 ⟨rfl, hb1⟩)) | (go_at_call 19; first | (with_reducible refine (HT1.out _).mono ?_; rintro e w1 ⟨rfl, hb1⟩) | (with_reducible refine (HT2.out _).mono ?_; rintro e w1 ⟨rfl, hb1⟩))
        refine hK.out _ _ ?_ (fun hH6 => ?_)
        · (first | (go_keep; done) | ((try go_split_ands); (repeat' apply And.intro) <;> first | assumption | (with_reducible refine Rd.below ?_ hb1; assumption) | (with_reducible refine Rd.drew ?_; repeat' (first | assumption | (with_reducible refine Rd.alloc ?_ _))) | (refine (hb1.cell (by first | omega | (simp; done) | (simp; omega))).trans ?_; first | assumption | simp) | (exact below_step hb1 (by first | omega | (simp; done) | (simp; omega)) (by assumption)) | (have hz' := hb1.size; (try simp at hz'); omega) | ((repeat' (first | assumption | (with_reducible exact Below.refl _ _) | (with_reducible refine Below.drew ?_) | (with_reducible refine Below.alloc ?_ ?_ _) | (with_reducible refine Below.setCell ?_ ?_ _) | omega | (simp; done) | (simp; omega))); done) | go_simp | (simp; done) | (simp; omega)))
        clear hK K hH5
        try simp only [Act.put, List.setIfInBounds_toArray, List.set_cons_zero, List.set_cons_succ]
        refine hold_plain 30 (v := ?_) hHC hH6 (by simp only [List.getElem?_toArray, List.getElem?_cons_succ, List.getElem?_cons_zero]; rfl) rfl (by kernel_rfl) ?_ ?_
        rotate_left 1
        · (intro w hSw; (try dsimp only at hSw); go_simp; try with_reducible rfl)
        try simp only [Act.put, List.setIfInBounds_toArray, List.set_cons_zero, List.set_cons_succ]
        refine hold_plain 31 (v := ?_) hHC hH6 (by simp only [List.getElem?_toArray, List.getElem?_cons_succ, List.getElem?_cons_zero]; rfl) rfl (by kernel_rfl) ?_ ?_
        rotate_left 1
        · (intro w hSw; (try dsimp only at hSw); go_simp; try with_reducible rfl)
        try simp only [Act.put, List.setIfInBounds_toArray, List.set_cons_zero, List.set_cons_succ]
        refine hold_yes 32 (v := ?_) hHC hH6 (by simp only [List.getElem?_toArray, List.getElem?_cons_succ, List.getElem?_cons_zero]; rfl) rfl (by kernel_rfl) (by kernel_rfl) ?_ ?_
        rotate_left 1
        · (intro w hSw; (try dsimp only at hSw); go_simp; try with_reducible rfl)
        try simp only [Act.put, List.setIfInBounds_toArray, List.set_cons_zero, List.set_cons_succ]
        refine hold_yes 33 (v := ?_) hHC hH6 (by simp only [List.getElem?_toArray, List.getElem?_cons_succ, List.getElem?_cons_zero]; rfl) rfl (by kernel_rfl) (by kernel_rfl) ?_ ?_
        rotate_left 1
        · (intro w hSw; (try dsimp only at hSw); go_simp; try with_reducible rfl)
        try simp only [Act.put, List.setIfInBounds_toArray, List.set_cons_zero, List.set_cons_succ]
        refine hold_yes 34 (v := ?_) hHC hH6 (by simp only [List.getElem?_toArray, List.getElem?_cons_succ, List.getElem?_cons_zero]; rfl) rfl (by kernel_rfl) (by kernel_rfl) ?_ ?_
        rotate_left 1
        · (intro w hSw; (try dsimp only at hSw); go_simp; try with_reducible rfl)
        try simp only [Act.put, List.setIfInBounds_toArray, List.set_cons_zero, List.set_cons_succ]
        refine hold_yes 35 (v := ?_) hHC hH6 (by simp only [List.getElem?_toArray, List.getElem?_cons_succ, List.getElem?_cons_zero]; rfl) rfl (by kernel_rfl) (by kernel_rfl) ?_ ?_
        rotate_left 1
        · (intro w hSw; (try dsimp only at hSw); go_simp; try with_reducible rfl)
        try simp only [Act.put, List.setIfInBounds_toArray, List.set_cons_zero, List.set_cons_succ]
        refine hold_yes 36 (v := ?_) hHC hH6 (by simp only [List.getElem?_toArray, List.getElem?_cons_succ, List.getElem?_cons_zero]; rfl) rfl (by kernel_rfl) (by kernel_rfl) ?_ ?_
        rotate_left 1
        · (intro w hSw; (try dsimp only at hSw); go_simp; try with_reducible rfl)
        try simp only [Act.put, List.setIfInBounds_toArray, List.set_cons_zero, List.set_cons_succ]
        refine hold_yes 37 (v := ?_) hHC hH6 (by simp only [List.getElem?_toArray, List.getElem?_cons_succ, List.getElem?_cons_zero]; rfl) rfl (by kernel_rfl) (by kernel_rfl) ?_ ?_
        rotate_left 1
        · (intro w hSw; (try dsimp only at hSw); go_simp; try with_reducible rfl)
        try simp only [Act.put, List.setIfInBounds_toArray, List.set_cons_zero, List.set_cons_succ]
        refine hold_yes 39 (v := ?_) hHC hH6 (by simp only [List.getElem?_toArray, List.getElem?_cons_succ, List.getElem?_cons_zero]; rfl) rfl (by kernel_rfl) (by kernel_rfl) ?_ ?_
        rotate_left 1
        · (intro w hSw; (try dsimp only at hSw); go_simp; try with_reducible rfl)
        try simp only [Act.put, List.setIfInBounds_toArray, List.set_cons_zero, List.set_cons_succ]
        refine hold_yes 40 (v := ?_) hHC hH6 (by simp only [List.getElem?_toArray, List.getElem?_cons_succ, List.getElem?_cons_zero]; rfl) rfl (by kernel_rfl) (by kernel_rfl) ?_ ?_
        rotate_left 1
        · (intro w hSw; (try dsimp only at hSw); go_simp; try with_reducible rfl)
        try simp only [Act.put, List.setIfInBounds_toArray, List.set_cons_zero, List.set_cons_succ]
        refine hold_call1 38 (by simp only [List.getElem?_toArray, List.getElem?_cons_succ, List.getElem?_cons_zero]; rfl) rfl (by kernel_rfl) (by kernel_rfl) (fun K hK => ?_)
        go_simp
        first | (go_at_call 35; first | (with_reducible refine (HD.out _).mono ?_; rintro e w1 ⟨rfl, hb1⟩)) | (go_at_call 36; first | (with_reducible refine (HA.out _).mono ?_; rintro e w1 ⟨rfl, hb1⟩) | (with_reducible refine (HC.out _).mono ?_; rintro e w1 ⟨rfl, hb1⟩)) | (go_at_call 37; first | (with_reducible refine (HL1.out _).mono ?_; rintro e w1 ⟨rfl, hb1⟩) | (with_reducible refine (HL2.out _).mono ?_; rintro e w1 ⟨rfl, hb1⟩) | (with_reducible refine (HL3.out _).mono ?_; rintro e w1 ⟨rfl, hb1⟩)) | (go_at_call 38; first | (with_reducible refine (HF1.out _).mono ?_; rintro e w1 ⟨rfl, hb1⟩) | (with_reducible refine (HF2.out _).mono ?_; rintro e w1 ⟨rfl, hb1⟩) | (with_reducible refine (HF3.out _).mono ?_; rintro e w1 ⟨rfl, hb1⟩)) | (go_at_call 19; first | (with_reducible refine (HT1.out _).mono ?_; rintro e w1 ⟨rfl, hb1⟩) | (with_reducible refine (HT2.out _).mono ?_; rintro e w1 ⟨rfl, hb1⟩))
        refine hK.out _ _ ?_ (fun hH7 => ?_)
        · (first | (go_keep; done) | ((try go_split_ands); (repeat' apply And.intro) <;> first | assumption | (with_reducible refine Rd.below ?_ hb1; assumption) | (with_reducible refine Rd.drew ?_; repeat' (first | assumption | (with_reducible refine Rd.alloc ?_ _))) | (refine (hb1.cell (by first | omega | (simp; done) | (simp; omega))).trans ?_; first | assumption | simp) | (exact below_step hb1 (by first | omega | (simp; done) | (simp; omega)) (by assumption)) | (have hz' := hb1.size; (try simp at hz'); omega) | ((repeat' (first | assumption | (with_reducible exact Below.refl _ _) | (with_reducible refine Below.drew ?_) | (with_reducible refine Below.alloc ?_ ?_ _) | (with_reducible refine Below.setCell ?_ ?_ _) | omega | (simp; done) | (simp; omega))); done) | go_simp | (simp; done) | (simp; omega)))
        clear hK K hH6
        try simp only [Act.put, List.setIfInBounds_toArray, List.set_cons_zero, List.set_cons_succ]
        refine hold_call1 41 (by simp only [List.getElem?_toArray, List.getElem?_cons_succ, List.getElem?_cons_zero]; rfl) rfl (by kernel_rfl) (by kernel_rfl) (fun K hK => ?_)
        go_simp
        first | (go_at_call 35; first | (with_reducible refine (HD.out _).mono ?_; rintro e w1 ⟨rfl, hb1⟩)) | (go_at_call 36; first | (with_reducible refine (HA.out _).mono ?_; rintro e w1 ⟨rfl, hb1⟩) | (with_reducible refine (HC.out _).mono ?_; rintro e w1 ⟨rfl, hb1⟩)) | (go_at_call 37; first | (with_reducible refine (HL1.out _).mono ?_; rintro e w1 ⟨rfl, hb1⟩) | (with_reducible refine (HL2.out _).mono ?_; rintro e w1 ⟨rfl, hb1⟩) | (with_reducible refine (HL3.out _).mono ?_; rintro e w1 ⟨rfl, hb1⟩)) | (go_at_call 38; first | (with_reducible refine (HF1.out _).mono ?_; rintro e w1 ⟨rfl, hb1⟩) | (with_reducible refine (HF2.out _).mono ?_; rintro e w1 ⟨rfl, hb1⟩) | (with_reducible refine (HF3.out _).mono ?_; rintro e w1 ⟨rfl, hb1⟩)) | (go_at_call 19; first | (with_reducible refine (HT1.out _).mono ?_; rintro e w1 ⟨rfl, hb1⟩) | (with_reducible refine (HT2.out _).mono ?_; rintro e w1 ⟨rfl, hb1⟩))
        refine hK.out _ _ ?_ (fun hH8 => ?_)
        · (first | (go_keep; done) | ((try go_split_ands); (repeat' apply And.intro) <;> first | assumption | (with_reducible refine Rd.below ?_ hb1; assumption) | (with_reducible refine Rd.drew ?_; repeat' (first | assumption | (with_reducible refine Rd.alloc ?_ _))) | (refine (hb1.cell (by first | omega | (simp; done) | (simp; omega))).trans ?_; first | assumption | simp) | (exact below_step hb1 (by first | omega | (simp; done) | (simp; omega)) (by assumption)) | (have hz' := hb1.size; (try simp at hz'); omega) | ((repeat' (first | assumption | (with_reducible exact Below.refl _ _) | (with_reducible refine Below.drew ?_) | (with_reducible refine Below.alloc ?_ ?_ _) | (with_reducible refine Below.setCell ?_ ?_ _) | omega | (simp; done) | (simp; omega))); done) | go_simp | (simp; done) | (simp; omega)))
        clear hK K hH7
        try simp only [Act.put, List.setIfInBounds_toArray, List.set_cons_zero, List.set_cons_succ]
        refine hold_yes 42 (v := ?_) hHC hH8 (by simp only [List.getElem?_toArray, List.getElem?_cons_succ, List.getElem?_cons_zero]; rfl) rfl (by kernel_rfl) (by kernel_rfl) ?_ ?_
        rotate_left 1
        · (intro w hSw; (try dsimp only at hSw); go_simp; try with_reducible rfl)
        try simp only [Act.put, List.setIfInBounds_toArray, List.set_cons_zero, List.set_cons_succ]
        refine hold_yes 43 (v := ?_) hHC hH8 (by simp only [List.getElem?_toArray, List.getElem?_cons_succ, List.getElem?_cons_zero]; rfl) rfl (by kernel_rfl) (by kernel_rfl) ?_ ?_
        rotate_left 1
        · (intro w hSw; (try dsimp only at hSw); go_simp; try with_reducible rfl)
        try simp only [Act.put, List.setIfInBounds_toArray, List.set_cons_zero, List.set_cons_succ]
        refine hold_plain 44 (v := ?_) hHC hH8 (by simp only [List.getElem?_toArray, List.getElem?_cons_succ, List.getElem?_cons_zero]; rfl) rfl (by kernel_rfl) ?_ ?_
        rotate_left 1
        · (intro w hSw; (try dsimp only at hSw); go_simp; try with_reducible rfl)
        try simp only [Act.put, List.setIfInBounds_toArray, List.set_cons_zero, List.set_cons_succ]
        refine hold_plain 45 (v := ?_) hHC hH8 (by simp only [List.getElem?_toArray, List.getElem?_cons_succ, List.getElem?_cons_zero]; rfl) rfl (by kernel_rfl) ?_ ?_
        rotate_left 1
        · (intro w hSw; (try dsimp only at hSw); go_simp; try with_reducible rfl)
        try simp only [Act.put, List.setIfInBounds_toArray, List.set_cons_zero, List.set_cons_succ]
        refine hold_yes 46 (v := ?_) hHC hH8 (by simp only [List.getElem?_toArray, List.getElem?_cons_succ, List.getElem?_cons_zero]; rfl) rfl (by kernel_rfl) (by kernel_rfl) ?_ ?_
        rotate_left 1
        · (intro w hSw; (try dsimp only at hSw); go_simp; try with_reducible rfl)
        try simp only [Act.put, List.setIfInBounds_toArray, List.set_cons_zero, List.set_cons_succ]
        refine hold_yes 47 (v := ?_) hHC hH8 (by simp only [List.getElem?_toArray, List.getElem?_cons_succ, List.getElem?_cons_zero]; rfl) rfl (by kernel_rfl) (by kernel_rfl) ?_ ?_
        rotate_left 1
        · (intro w hSw; (try dsimp only at hSw); go_simp; try with_reducible rfl)
        try simp only [Act.put, List.setIfInBounds_toArray, List.set_cons_zero, List.set_cons_succ]
        refine hold_call1 48 (by simp only [List.getElem?_toArray, List.getElem?_cons_succ, List.getElem?_cons_zero]; rfl) rfl (by kernel_rfl) (by kernel_rfl) (fun K hK => ?_)
        go_simp
        first | (go_at_call 35; first | (with_reducible refine (HD.out _).mono ?_; rintro e w1 ⟨rfl, hb1⟩)) | (go_at_call 36; first | (with_reducible refine (HA.out _).mono ?_; rintro e w1 ⟨rfl, hb1⟩) | (with_reducible refine (HC.out _).mono ?_; rintro e w1 ⟨rfl, hb1⟩)) | (go_at_call 37; first | (with_reducible refine (HL1.out _).mono ?_; rintro e w1 ⟨rfl, hb1⟩) | (with_reducible refine (HL2.out _).mono ?_; rintro e w1 ⟨rfl, hb1⟩) | (with_reducible refine (HL3.out _).mono ?_; rintro e w1 ⟨rfl, hb1⟩)) | (go_at_call 38; first | (with_reducible refine (HF1.out _).mono ?_; rintro e w1 ⟨rfl, hb1⟩) | (with_reducible refine (HF2.out _).mono ?_; rintro e w1 ⟨rfl, hb1⟩) | (with_reducible refine (HF3.out _).mono ?_; rintro e w1 ⟨rfl, hb1⟩)) | (go_at_call 19; first | (with_reducible refine (HT1.out _).mono ?_; rintro e w1 ⟨rfl, hb1⟩) | (with_reducible refine (HT2.out _).mono ?_; rintro e w1 ⟨rfl, hb1⟩))
        refine hK.out _ _ ?_ (fun hH9 => ?_)
        · (first | (go_keep; done) | ((try go_split_ands); (repeat' apply And.intro) <;> first | assumption | (with_reducible refine Rd.below ?_ hb1; assumption) | (with_reducible refine Rd.drew ?_; repeat' (first | assumption | (with_reducible refine Rd.alloc ?_ _))) | (refine (hb1.cell (by first | omega | (simp; done) | (simp; omega))).trans ?_; first | assumption | simp) | (exact below_step hb1 (by first | omega | (simp; done) | (simp; omega)) (by assumption)) | (have hz' := hb1.size; (try simp at hz'); omega) | ((repeat' (first | assumption | (with_reducible exact Below.refl _ _) | (with_reducible refine Below.drew ?_) | (with_reducible refine Below.alloc ?_ ?_ _) | (with_reducible refine Below.setCell ?_ ?_ _) | omega | (simp; done) | (simp; omega))); done) | go_simp | (simp; done) | (simp; omega)))
        clear hK K hH8
        try simp only [Act.put, List.setIfInBounds_toArray, List.set_cons_zero, List.set_cons_succ]
        refine hold_yes 49 (v := ?_) hHC hH9 (by simp only [List.getElem?_toArray, List.getElem?_cons_succ, List.getElem?_cons_zero]; rfl) rfl (by kernel_rfl) (by kernel_rfl) ?_ ?_
        rotate_left 1
        · (intro w hSw; (try dsimp only at hSw); go_simp; try with_reducible rfl)
        try simp only [Act.put, List.setIfInBounds_toArray, List.set_cons_zero, List.set_cons_succ]
        refine hold_plain 50 (v := ?_) hHC hH9 (by simp only [List.getElem?_toArray, List.getElem?_cons_succ, List.getElem?_cons_zero]; rfl) rfl (by kernel_rfl) ?_ ?_
        rotate_left 1
        · (intro w hSw; (try dsimp only at hSw); go_simp; try with_reducible rfl)
        try simp only [Act.put, List.setIfInBounds_toArray, List.set_cons_zero, List.set_cons_succ]
        refine hold_plain 51 (v := ?_) hHC hH9 (by simp only [List.getElem?_toArray, List.getElem?_cons_succ, List.getElem?_cons_zero]; rfl) rfl (by kernel_rfl) ?_ ?_
        rotate_left 1
        · (intro w hSw; (try dsimp only at hSw); go_simp; try with_reducible rfl)
        try simp only [Act.put, List.setIfInBounds_toArray, List.set_cons_zero, List.set_cons_succ]
        refine hold_yes 52 (v := ?_) hHC hH9 (by simp only [List.getElem?_toArray, List.getElem?_cons_succ, List.getElem?_cons_zero]; rfl) rfl (by kernel_rfl) (by kernel_rfl) ?_ ?_
        rotate_left 1
        · (intro w hSw; (try dsimp only at hSw); go_simp; try with_reducible rfl)
        try simp only [Act.put, List.setIfInBounds_toArray, List.set_cons_zero, List.set_cons_succ]
        refine hold_call1 53 (by simp only [List.getElem?_toArray, List.getElem?_cons_succ, List.getElem?_cons_zero]; rfl) rfl (by kernel_rfl) (by kernel_rfl) (fun K hK => ?_)
        go_simp
        first | (go_at_call 35; first | (with_reducible refine (HD.out _).mono ?_; rintro e w1 ⟨rfl, hb1⟩)) | (go_at_call 36; first | (with_reducible refine (HA.out _).mono ?_; rintro e w1 ⟨rfl, hb1⟩) | (with_reducible refine (HC.out _).mono ?_; rintro e w1 ⟨rfl, hb1⟩)) | (go_at_call 37; first | (with_reducible refine (HL1.out _).mono ?_; rintro e w1 ⟨rfl, hb1⟩) | (with_reducible refine (HL2.out _).mono ?_; rintro e w1 ⟨rfl, hb1⟩) | (with_reducible refine (HL3.out _).mono ?_; rintro e w1 ⟨rfl, hb1⟩)) | (go_at_call 38; first | (with_reducible refine (HF1.out _).mono ?_; rintro e w1 ⟨rfl, hb1⟩) | (with_reducible refine (HF2.out _).mono ?_; rintro e w1 ⟨rfl, hb1⟩) | (with_reducible refine (HF3.out _).mono ?_; rintro e w1 ⟨rfl, hb1⟩)) | (go_at_call 19; first | (with_reducible refine (HT1.out _).mono ?_; rintro e w1 ⟨rfl, hb1⟩) | (with_reducible refine (HT2.out _).mono ?_; rintro e w1 ⟨rfl, hb1⟩))
        refine hK.out _ _ ?_ (fun hH10 => ?_)
        · (first | (go_keep; done) | ((try go_split_ands); (repeat' apply And.intro) <;> first | assumption | (with_reducible refine Rd.below ?_ hb1; assumption) | (with_reducible refine Rd.drew ?_; repeat' (first | assumption | (with_reducible refine Rd.alloc ?_ _))) | (refine (hb1.cell (by first | omega | (simp; done) | (simp; omega))).trans ?_; first | assumption | simp) | (exact below_step hb1 (by first | omega | (simp; done) | (simp; omega)) (by assumption)) | (have hz' := hb1.size; (try simp at hz'); omega) | ((repeat' (first | assumption | (with_reducible exact Below.refl _ _) | (with_reducible refine Below.drew ?_) | (with_reducible refine Below.alloc ?_ ?_ _) | (with_reducible refine Below.setCell ?_ ?_ _) | omega | (simp; done) | (simp; omega))); done) | go_simp | (simp; done) | (simp; omega)))
        clear hK K hH9
        try simp only [Act.put, List.setIfInBounds_toArray, List.set_cons_zero, List.set_cons_succ]
        refine hold_yes 54 (v := ?_) hHC hH10 (by simp only [List.getElem?_toArray, List.getElem?_cons_succ, List.getElem?_cons_zero]; rfl) rfl (by kernel_rfl) (by kernel_rfl) ?_ ?_
        rotate_left 1
        · (intro w hSw; (try dsimp only at hSw); go_simp; try with_reducible rfl)
        try simp only [Act.put, List.setIfInBounds_toArray, List.set_cons_zero, List.set_cons_succ]
        refine hold_yes 55 (v := ?_) hHC hH10 (by simp only [List.getElem?_toArray, List.getElem?_cons_succ, List.getElem?_cons_zero]; rfl) rfl (by kernel_rfl) (by kernel_rfl) ?_ ?_
        rotate_left 1
        · (intro w hSw; (try dsimp only at hSw); go_simp; try with_reducible rfl)
        try simp only [Act.put, List.setIfInBounds_toArray, List.set_cons_zero, List.set_cons_succ]
        refine hold_plain 56 (v := ?_) hHC hH10 (by simp only [List.getElem?_toArray, List.getElem?_cons_succ, List.getElem?_cons_zero]; rfl) rfl (by kernel_rfl) ?_ ?_
        rotate_left 1
        · (intro w hSw; (try dsimp only at hSw); go_simp; try with_reducible rfl)
        try simp only [Act.put, List.setIfInBounds_toArray, List.set_cons_zero, List.set_cons_succ]
        refine hold_plain 57 (v := ?_) hHC hH10 (by simp only [List.getElem?_toArray, List.getElem?_cons_succ, List.getElem?_cons_zero]; rfl) rfl (by kernel_rfl) ?_ ?_
        rotate_left 1
        · (intro w hSw; (try dsimp only at hSw); go_simp; try with_reducible rfl)
        try simp only [Act.put, List.setIfInBounds_toArray, List.set_cons_zero, List.set_cons_succ]
        refine hold_yes 58 (v := ?_) hHC hH10 (by simp only [List.getElem?_toArray, List.getElem?_cons_succ, List.getElem?_cons_zero]; rfl) rfl (by kernel_rfl) (by kernel_rfl) ?_ ?_
        rotate_left 1
        · (intro w hSw; (try dsimp only at hSw); go_simp; try with_reducible rfl)
        try simp only [Act.put, List.setIfInBounds_toArray, List.set_cons_zero, List.set_cons_succ]
        refine hold_yes 59 (v := ?_) hHC hH10 (by simp only [List.getElem?_toArray, List.getElem?_cons_succ, List.getElem?_cons_zero]; rfl) rfl (by kernel_rfl) (by kernel_rfl) ?_ ?_
        rotate_left 1
        · (intro w hSw; (try dsimp only at hSw); go_simp; try with_reducible rfl)
        try simp only [Act.put, List.setIfInBounds_toArray, List.set_cons_zero, List.set_cons_succ]
        refine hold_yes 60 (v := ?_) hHC hH10 (by simp only [List.getElem?_toArray, List.getElem?_cons_succ, List.getElem?_cons_zero]; rfl) rfl (by kernel_rfl) (by kernel_rfl) ?_ ?_
        rotate_left 1
        · (intro w hSw; (try dsimp only at hSw); go_simp; try with_reducible rfl)
        try simp only [Act.put, List.setIfInBounds_toArray, List.set_cons_zero, List.set_cons_succ]
        refine hold_yes 61 (v := ?_) hHC hH10 (by simp only [List.getElem?_toArray, List.getElem?_cons_succ, List.getElem?_cons_zero]; rfl) rfl (by kernel_rfl) (by kernel_rfl) ?_ ?_
        rotate_left 1
        · (intro w hSw; (try dsimp only at hSw); go_simp; try with_reducible rfl)
        try simp only [Act.put, List.setIfInBounds_toArray, List.set_cons_zero, List.set_cons_succ]
        refine hold_yes 63 (v := ?_) hHC hH10 (by simp only [List.getElem?_toArray, List.getElem?_cons_succ, List.getElem?_cons_zero]; rfl) rfl (by kernel_rfl) (by kernel_rfl) ?_ ?_
        rotate_left 1
        · (intro w hSw; (try dsimp only at hSw); go_simp; try with_reducible rfl)
        try simp only [Act.put, List.setIfInBounds_toArray, List.set_cons_zero, List.set_cons_succ]
        refine hold_call1 62 (by simp only [List.getElem?_toArray, List.getElem?_cons_succ, List.getElem?_cons_zero]; rfl) rfl (by kernel_rfl) (by kernel_rfl) (fun K hK => ?_)
        go_simp
        first | (go_at_call 35; first | (with_reducible refine (HD.out _).mono ?_; rintro e w1 ⟨rfl, hb1⟩)) | (go_at_call 36; first | (with_reducible refine (HA.out _).mono ?_; rintro e w1 ⟨rfl, hb1⟩) | (with_reducible refine (HC.out _).mono ?_; rintro e w1 ⟨rfl, hb1⟩)) | (go_at_call 37; first | (with_reducible refine (HL1.out _).mono ?_; rintro e w1 ⟨rfl, hb1⟩) | (with_reducible refine (HL2.out _).mono ?_; rintro e w1 ⟨rfl, hb1⟩) | (with_reducible refine (HL3.out _).mono ?_; rintro e w1 ⟨rfl, hb1⟩)) | (go_at_call 38; first | (with_reducible refine (HF1.out _).mono ?_; rintro e w1 ⟨rfl, hb1⟩) | (with_reducible refine (HF2.out _).mono ?_; rintro e w1 ⟨rfl, hb1⟩) | (with_reducible refine (HF3.out _).mono ?_; rintro e w1 ⟨rfl, hb1⟩)) | (go_at_call 19; first | (with_reducible refine (HT1.out _).mono ?_; rintro e w1 ⟨rfl, hb1⟩) | (with_reducible refine (HT2.out _).mono ?_; rintro e w1 ⟨rfl, hb1⟩))
        refine hK.out _ _ ?_ (fun hH11 => ?_)
        · (first | (go_keep; done) | ((try go_split_ands); (repeat' apply And.intro) <;> first | assumption | (with_reducible refine Rd.below ?_ hb1; assumption) | (with_reducible refine Rd.drew ?_; repeat' (first | assumption | (with_reducible refine Rd.alloc ?_ _))) | (refine (hb1.cell (by first | omega | (simp; done) | (simp; omega))).trans ?_; first | assumption | simp) | (exact below_step hb1 (by first | omega | (simp; done) | (simp; omega)) (by assumption)) | (have hz' := hb1.size; (try simp at hz'); omega) | ((repeat' (first | assumption | (with_reducible exact Below.refl _ _) | (with_reducible refine Below.drew ?_) | (with_reducible refine Below.alloc ?_ ?_ _) | (with_reducible refine Below.setCell ?_ ?_ _) | omega | (simp; done) | (simp; omega))); done) | go_simp | (simp; done) | (simp; omega)))
        clear hK K hH10
        try simp only [Act.put, List.setIfInBounds_toArray, List.set_cons_zero, List.set_cons_succ]
        refine hold_call1 64 (by simp only [List.getElem?_toArray, List.getElem?_cons_succ, List.getElem?_cons_zero]; rfl) rfl (by kernel_rfl) (by kernel_rfl) (fun K hK => ?_)
        go_simp
        first | (go_at_call 35; first | (with_reducible refine (HD.out _).mono ?_; rintro e w1 ⟨rfl, hb1⟩)) | (go_at_call 36; first | (with_reducible refine (HA.out _).mono ?_; rintro e w1 ⟨rfl, hb1⟩) | (with_reducible refine (HC.out _).mono ?_; rintro e w1 ⟨rfl, hb1⟩)) | (go_at_call 37; first | (with_reducible refine (HL1.out _).mono ?_; rintro e w1 ⟨rfl, hb1⟩) | (with_reducible refine (HL2.out _).mono ?_; rintro e w1 ⟨rfl, hb1⟩) | (with_reducible refine (HL3.out _).mono ?_; rintro e w1 ⟨rfl, hb1⟩)) | (go_at_call 38; first | (with_reducible refine (HF1.out _).mono ?_; rintro e w1 ⟨rfl, hb1⟩) | (with_reducible refine (HF2.out _).mono ?_; rintro e w1 ⟨rfl, hb1⟩) | (with_reducible refine (HF3.out _).mono ?_; rintro e w1 ⟨rfl, hb1⟩)) | (go_at_call 19; first | (with_reducible refine (HT1.out _).mono ?_; rintro e w1 ⟨rfl, hb1⟩) | (with_reducible refine (HT2.out _).mono ?_; rintro e w1 ⟨rfl, hb1⟩))
        refine hK.out _ _ ?_ (fun hH12 => ?_)
        · (first | (go_keep; done) | ((try go_split_ands); (repeat' apply And.intro) <;> first | assumption | (with_reducible refine Rd.below ?_ hb1; assumption) | (with_reducible refine Rd.drew ?_; repeat' (first | assumption | (with_reducible refine Rd.alloc ?_ _))) | (refine (hb1.cell (by first | omega | (simp; done) | (simp; omega))).trans ?_; first | assumption | simp) | (exact below_step hb1 (by first | omega | (simp; done) | (simp; omega)) (by assumption)) | (have hz' := hb1.size; (try simp at hz'); omega) | ((repeat' (first | assumption | (with_reducible exact Below.refl _ _) | (with_reducible refine Below.drew ?_) | (with_reducible refine Below.alloc ?_ ?_ _) | (with_reducible refine Below.setCell ?_ ?_ _) | omega | (simp; done) | (simp; omega))); done) | go_simp | (simp; done) | (simp; omega)))
        clear hK K hH11
        try simp only [Act.put, List.setIfInBounds_toArray, List.set_cons_zero, List.set_cons_succ]
        refine hold_yes 65 (v := ?_) hHC hH12 (by simp only [List.getElem?_toArray, List.getElem?_cons_succ, List.getElem?_cons_zero]; rfl) rfl (by kernel_rfl) (by kernel_rfl) ?_ ?_
        rotate_left 1
        · (intro w hSw; (try dsimp only at hSw); go_simp; try with_reducible rfl)
        try simp only [Act.put, List.setIfInBounds_toArray, List.set_cons_zero, List.set_cons_succ]
        refine hold_yes 66 (v := ?_) hHC hH12 (by simp only [List.getElem?_toArray, List.getElem?_cons_succ, List.getElem?_cons_zero]; rfl) rfl (by kernel_rfl) (by kernel_rfl) ?_ ?_
        rotate_left 1
        · (intro w hSw; (try dsimp only at hSw); go_simp; try with_reducible rfl)
        try simp only [Act.put, List.setIfInBounds_toArray, List.set_cons_zero, List.set_cons_succ]
        refine hold_plain 67 (v := ?_) hHC hH12 (by simp only [List.getElem?_toArray, List.getElem?_cons_succ, List.getElem?_cons_zero]; rfl) rfl (by kernel_rfl) ?_ ?_
        rotate_left 1
        · (intro w hSw; (try dsimp only at hSw); go_simp; try with_reducible rfl)
        try simp only [Act.put, List.setIfInBounds_toArray, List.set_cons_zero, List.set_cons_succ]
        refine hold_plain 68 (v := ?_) hHC hH12 (by simp only [List.getElem?_toArray, List.getElem?_cons_succ, List.getElem?_cons_zero]; rfl) rfl (by kernel_rfl) ?_ ?_
        rotate_left 1
        · (intro w hSw; (try dsimp only at hSw); go_simp; try with_reducible rfl)
        try simp only [Act.put, List.setIfInBounds_toArray, List.set_cons_zero, List.set_cons_succ]
        refine wpAnyH_done (by kernel_rfl) ?_ _
        (try dsimp only at hH12)
        go_split_ands
        clear hHC
        go_wp2_with fail
        go_ret
        exact ⟨rfl, by assumption⟩
      · have d1 : (y == v) = false := by rw [beq_eq_false_iff_ne]; exact c2
        have d2 : ¬ v = y := fun h => c2 h.symm
        go_wp2_with fail
        simp only [List.append_eq, List.cons_append, List.nil_append]
        refine hold_start (S := (fun w' => w'.cell? ⟨w2.heap.size, 0, none⟩ = some (.int .i64 x) ∧ w'.cell? ⟨w2.heap.size, 1, none⟩ = some (.int .i64 y) ∧ w'.cell? ⟨w2.heap.size, 2, none⟩ = some (.bool p) ∧ w'.cell? ⟨w2.heap.size + 1, 0, none⟩ = some (.int .i64 x) ∧ w'.cell? ⟨w2.heap.size + 1, 1, none⟩ = some (.int .i64 v) ∧ w'.cell? ⟨w2.heap.size + 1, 2, none⟩ = some (.bool q) ∧ w'.cell? ⟨w3.heap.size, 0, none⟩ = some (.int .i64 x) ∧ w'.cell? ⟨w3.heap.size, 1, none⟩ = some (.int .i64 y) ∧ w'.cell? ⟨w3.heap.size + 1, 0, none⟩ = some (.int .i64 x2) ∧ w'.cell? ⟨w3.heap.size + 1, 1, none⟩ = some (.int .i64 y2) ∧ w'.cell? ⟨w4.heap.size, 0, none⟩ = some (.int .i64 x) ∧ w'.cell? ⟨w4.heap.size, 1, none⟩ = some (.int .i64 y) ∧ w'.cell? ⟨w4.heap.size, 2, none⟩ = some (.bool p) ∧ Below w.heap.size w w' ∧ w4.heap.size + 1 ≤ w'.heap.size)) (by kernel_rfl) (by kernel_rfl) (by intro _ _ d _ _ h; cases d <;> exact h) ?_ (fun hHC hH0 => ?_)
        · (first | (go_keep; done) | ((try go_split_ands); (repeat' apply And.intro) <;> first | assumption | (with_reducible refine Rd.below ?_ hb1; assumption) | (with_reducible refine Rd.drew ?_; repeat' (first | assumption | (with_reducible refine Rd.alloc ?_ _))) | (refine (hb1.cell (by first | omega | (simp; done) | (simp; omega))).trans ?_; first | assumption | simp) | (exact below_step hb1 (by first | omega | (simp; done) | (simp; omega)) (by assumption)) | (have hz' := hb1.size; (try simp at hz'); omega) | ((repeat' (first | assumption | (with_reducible exact Below.refl _ _) | (with_reducible refine Below.drew ?_) | (with_reducible refine Below.alloc ?_ ?_ _) | (with_reducible refine Below.setCell ?_ ?_ _) | omega | (simp; done) | (simp; omega))); done) | go_simp | (simp; done) | (simp; omega)))
        refine hold_plain 0 (v := ?_) hHC hH0 (by simp only [List.getElem?_toArray, List.getElem?_cons_succ, List.getElem?_cons_zero]; rfl) rfl (by kernel_rfl) ?_ ?_
        rotate_left 1
        · (intro w hSw; (try dsimp only at hSw); go_simp; try with_reducible rfl)
        try simp only [Act.put, List.setIfInBounds_toArray, List.set_cons_zero, List.set_cons_succ]
        refine hold_call0 1 (by simp only [List.getElem?_toArray, List.getElem?_cons_succ, List.getElem?_cons_zero]; rfl) rfl (by kernel_rfl) (fun K hK => ?_)
        go_simp
        first | (go_at_call 35; first | (with_reducible refine (HD.out _).mono ?_; rintro e w1 ⟨rfl, hb1⟩)) | (go_at_call 36; first | (with_reducible refine (HA.out _).mono ?_; rintro e w1 ⟨rfl, hb1⟩) | (with_reducible refine (HC.out _).mono ?_; rintro e w1 ⟨rfl, hb1⟩)) | (go_at_call 37; first | (with_reducible refine (HL1.out _).mono ?_; rintro e w1 ⟨rfl, hb1⟩) | (with_reducible refine (HL2.out _).mono ?_; rintro e w1 ⟨rfl, hb1⟩) | (with_reducible refine (HL3.out _).mono ?_; rintro e w1 ⟨rfl, hb1⟩)) | (go_at_call 38; first | (with_reducible refine (HF1.out _).mono ?_; rintro e w1 ⟨rfl, hb1⟩) | (with_reducible refine (HF2.out _).mono ?_; rintro e w1 ⟨rfl, hb1⟩) | (with_reducible refine (HF3.out _).mono ?_; rintro e w1 ⟨rfl, hb1⟩)) | (go_at_call 19; first | (with_reducible refine (HT1.out _).mono ?_; rintro e w1 ⟨rfl, hb1⟩) | (with_reducible refine (HT2.out _).mono ?_; rintro e w1 ⟨rfl, hb1⟩))
        refine hK.out _ _ ?_ (fun hH1 => ?_)
        · (first | (go_keep; done) | ((try go_split_ands); (repeat' apply And.intro) <;> first | assumption | (with_reducible refine Rd.below ?_ hb1; assumption) | (with_reducible refine Rd.drew ?_; repeat' (first | assumption | (with_reducible refine Rd.alloc ?_ _))) | (refine (hb1.cell (by first | omega | (simp; done) | (simp; omega))).trans ?_; first | assumption | simp) | (exact below_step hb1 (by first | omega | (simp; done) | (simp; omega)) (by assumption)) | (have hz' := hb1.size; (try simp at hz'); omega) | ((repeat' (first | assumption | (with_reducible exact Below.refl _ _) | (with_reducible refine Below.drew ?_) | (with_reducible refine Below.alloc ?_ ?_ _) | (with_reducible refine Below.setCell ?_ ?_ _) | omega | (simp; done) | (simp; omega))); done) | go_simp | (simp; done) | (simp; omega)))
        clear hK K hH0
        try simp only [Act.put, List.setIfInBounds_toArray, List.set_cons_zero, List.set_cons_succ]
        refine hold_plain 2 (v := ?_) hHC hH1 (by simp only [List.getElem?_toArray, List.getElem?_cons_succ, List.getElem?_cons_zero]; rfl) rfl (by kernel_rfl) ?_ ?_
        rotate_left 1
        · (intro w hSw; (try dsimp only at hSw); go_simp; try with_reducible rfl)
        try simp only [Act.put, List.setIfInBounds_toArray, List.set_cons_zero, List.set_cons_succ]
        refine hold_yes 3 (v := ?_) hHC hH1 (by simp only [List.getElem?_toArray, List.getElem?_cons_succ, List.getElem?_cons_zero]; rfl) rfl (by kernel_rfl) (by kernel_rfl) ?_ ?_
        rotate_left 1
        · (intro w hSw; (try dsimp only at hSw); go_simp; try with_reducible rfl)
        try simp only [Act.put, List.setIfInBounds_toArray, List.set_cons_zero, List.set_cons_succ]
        refine hold_yes 5 (v := ?_) hHC hH1 (by simp only [List.getElem?_toArray, List.getElem?_cons_succ, List.getElem?_cons_zero]; rfl) rfl (by kernel_rfl) (by kernel_rfl) ?_ ?_
        rotate_left 1
        · (intro w hSw; (try dsimp only at hSw); go_simp; try with_reducible rfl)
        try simp only [Act.put, List.setIfInBounds_toArray, List.set_cons_zero, List.set_cons_succ]
        refine hold_call1 4 (by simp only [List.getElem?_toArray, List.getElem?_cons_succ, List.getElem?_cons_zero]; rfl) rfl (by kernel_rfl) (by kernel_rfl) (fun K hK => ?_)
        go_simp
        first | (go_at_call 35; first | (with_reducible refine (HD.out _).mono ?_; rintro e w1 ⟨rfl, hb1⟩)) | (go_at_call 36; first | (with_reducible refine (HA.out _).mono ?_; rintro e w1 ⟨rfl, hb1⟩) | (with_reducible refine (HC.out _).mono ?_; rintro e w1 ⟨rfl, hb1⟩)) | (go_at_call 37; first | (with_reducible refine (HL1.out _).mono ?_; rintro e w1 ⟨rfl, hb1⟩) | (with_reducible refine (HL2.out _).mono ?_; rintro e w1 ⟨rfl, hb1⟩) | (with_reducible refine (HL3.out _).mono ?_; rintro e w1 ⟨rfl, hb1⟩)) | (go_at_call 38; first | (with_reducible refine (HF1.out _).mono ?_; rintro e w1 ⟨rfl, hb1⟩) | (with_reducible refine (HF2.out _).mono ?_; rintro e w1 ⟨rfl, hb1⟩) | (with_reducible refine (HF3.out _).mono ?_; rintro e w1 ⟨rfl, hb1⟩)) | (go_at_call 19; first | (with_reducible refine (HT1.out _).mono ?_; rintro e w1 ⟨rfl, hb1⟩) | (with_reducible refine (HT2.out _).mono ?_; rintro e w1 ⟨rfl, hb1⟩))
        refine hK.out _ _ ?_ (fun hH2 => ?_)
        · (first | (go_keep; done) | ((try go_split_ands); (repeat' apply And.intro) <;> first | assumption | (with_reducible refine Rd.below ?_ hb1; assumption) | (with_reducible refine Rd.drew ?_; repeat' (first | assumption | (with_reducible refine Rd.alloc ?_ _))) | (refine (hb1.cell (by first | omega | (simp; done) | (simp; omega))).trans ?_; first | assumption | simp) | (exact below_step hb1 (by first | omega | (simp; done) | (simp; omega)) (by assumption)) | (have hz' := hb1.size; (try simp at hz'); omega) | ((repeat' (first | assumption | (with_reducible exact Below.refl _ _) | (with_reducible refine Below.drew ?_) | (with_reducible refine Below.alloc ?_ ?_ _) | (with_reducible refine Below.setCell ?_ ?_ _) | omega | (simp; done) | (simp; omega))); done) | go_simp | (simp; done) | (simp; omega)))
        clear hK K hH1
        try simp only [Act.put, List.setIfInBounds_toArray, List.set_cons_zero, List.set_cons_succ]
        refine hold_call1 6 (by simp only [List.getElem?_toArray, List.getElem?_cons_succ, List.getElem?_cons_zero]; rfl) rfl (by kernel_rfl) (by kernel_rfl) (fun K hK => ?_)
        go_simp
        first | (go_at_call 35; first | (with_reducible refine (HD.out _).mono ?_; rintro e w1 ⟨rfl, hb1⟩)) | (go_at_call 36; first | (with_reducible refine (HA.out _).mono ?_; rintro e w1 ⟨rfl, hb1⟩) | (with_reducible refine (HC.out _).mono ?_; rintro e w1 ⟨rfl, hb1⟩)) | (go_at_call 37; first | (with_reducible refine (HL1.out _).mono ?_; rintro e w1 ⟨rfl, hb1⟩) | (with_reducible refine (HL2.out _).mono ?_; rintro e w1 ⟨rfl, hb1⟩) | (with_reducible refine (HL3.out _).mono ?_; rintro e w1 ⟨rfl, hb1⟩)) | (go_at_call 38; first | (with_reducible refine (HF1.out _).mono ?_; rintro e w1 ⟨rfl, hb1⟩) | (with_reducible refine (HF2.out _).mono ?_; rintro e w1 ⟨rfl, hb1⟩) | (with_reducible refine (HF3.out _).mono ?_; rintro e w1 ⟨rfl, hb1⟩)) | (go_at_call 19; first | (with_reducible refine (HT1.out _).mono ?_; rintro e w1 ⟨rfl, hb1⟩) | (with_reducible refine (HT2.out _).mono ?_; rintro e w1 ⟨rfl, hb1⟩))
        refine hK.out _ _ ?_ (fun hH3 => ?_)
        · (first | (go_keep; done) | ((try go_split_ands); (repeat' apply And.intro) <;> first | assumption | (with_reducible refine Rd.below ?_ hb1; assumption) | (with_reducible refine Rd.drew ?_; repeat' (first | assumption | (with_reducible refine Rd.alloc ?_ _))) | (refine (hb1.cell (by first | omega | (simp; done) | (simp; omega))).trans ?_; first | assumption | simp) | (exact below_step hb1 (by first | omega | (simp; done) | (simp; omega)) (by assumption)) | (have hz' := hb1.size; (try simp at hz'); omega) | ((repeat' (first | assumption | (with_reducible exact Below.refl _ _) | (with_reducible refine Below.drew ?_) | (with_reducible refine Below.alloc ?_ ?_ _) | (with_reducible refine Below.setCell ?_ ?_ _) | omega | (simp; done) | (simp; omega))); done) | go_simp | (simp; done) | (simp; omega)))
        clear hK K hH2
        try simp only [Act.put, List.setIfInBounds_toArray, List.set_cons_zero, List.set_cons_succ]
        refine hold_yes 7 (v := ?_) hHC hH3 (by simp only [List.getElem?_toArray, List.getElem?_cons_succ, List.getElem?_cons_zero]; rfl) rfl (by kernel_rfl) (by kernel_rfl) ?_ ?_
        rotate_left 1
        · (intro w hSw; (try dsimp only at hSw); go_simp; try with_reducible rfl)
        try simp only [Act.put, List.setIfInBounds_toArray, List.set_cons_zero, List.set_cons_succ]
        refine hold_plain 8 (v := ?_) hHC hH3 (by simp only [List.getElem?_toArray, List.getElem?_cons_succ, List.getElem?_cons_zero]; rfl) rfl (by kernel_rfl) ?_ ?_
        rotate_left 1
        · (intro w hSw; (try dsimp only at hSw); go_simp; try with_reducible rfl)
        try simp only [Act.put, List.setIfInBounds_toArray, List.set_cons_zero, List.set_cons_succ]
        refine hold_plain 9 (v := ?_) hHC hH3 (by simp only [List.getElem?_toArray, List.getElem?_cons_succ, List.getElem?_cons_zero]; rfl) rfl (by kernel_rfl) ?_ ?_
        rotate_left 1
        · (intro w hSw; (try dsimp only at hSw); go_simp; try with_reducible rfl)
        try simp only [Act.put, List.setIfInBounds_toArray, List.set_cons_zero, List.set_cons_succ]
        refine hold_yes 10 (v := ?_) hHC hH3 (by simp only [List.getElem?_toArray, List.getElem?_cons_succ, List.getElem?_cons_zero]; rfl) rfl (by kernel_rfl) (by kernel_rfl) ?_ ?_
        rotate_left 1
        · (intro w hSw; (try dsimp only at hSw); go_simp; try with_reducible rfl)
        try simp only [Act.put, List.setIfInBounds_toArray, List.set_cons_zero, List.set_cons_succ]
        refine hold_plain 11 (v := ?_) hHC hH3 (by simp only [List.getElem?_toArray, List.getElem?_cons_succ, List.getElem?_cons_zero]; rfl) rfl (by kernel_rfl) ?_ ?_
        rotate_left 1
        · (intro w hSw; (try dsimp only at hSw); go_simp; try with_reducible rfl)
        try simp only [Act.put, List.setIfInBounds_toArray, List.set_cons_zero, List.set_cons_succ]
        refine hold_plain 12 (v := ?_) hHC hH3 (by simp only [List.getElem?_toArray, List.getElem?_cons_succ, List.getElem?_cons_zero]; rfl) rfl (by kernel_rfl) ?_ ?_
        rotate_left 1
        · (intro w hSw; (try dsimp only at hSw); go_simp; try with_reducible rfl)
        try simp only [Act.put, List.setIfInBounds_toArray, List.set_cons_zero, List.set_cons_succ]
        refine hold_yes 13 (v := ?_) hHC hH3 (by simp only [List.getElem?_toArray, List.getElem?_cons_succ, List.getElem?_cons_zero]; rfl) rfl (by kernel_rfl) (by kernel_rfl) ?_ ?_
        rotate_left 1
        · (intro w hSw; (try dsimp only at hSw); go_simp; try with_reducible rfl)
        try simp only [Act.put, List.setIfInBounds_toArray, List.set_cons_zero, List.set_cons_succ]
        refine hold_yes 14 (v := ?_) hHC hH3 (by simp only [List.getElem?_toArray, List.getElem?_cons_succ, List.getElem?_cons_zero]; rfl) rfl (by kernel_rfl) (by kernel_rfl) ?_ ?_
        rotate_left 1
        · (intro w hSw; (try dsimp only at hSw); go_simp; try with_reducible rfl)
        try simp only [Act.put, List.setIfInBounds_toArray, List.set_cons_zero, List.set_cons_succ]
        refine hold_yes 15 (v := ?_) hHC hH3 (by simp only [List.getElem?_toArray, List.getElem?_cons_succ, List.getElem?_cons_zero]; rfl) rfl (by kernel_rfl) (by kernel_rfl) ?_ ?_
        rotate_left 1
        · (intro w hSw; (try dsimp only at hSw); go_simp; try with_reducible rfl)
        try simp only [Act.put, List.setIfInBounds_toArray, List.set_cons_zero, List.set_cons_succ]
        refine hold_plain 16 (v := ?_) hHC hH3 (by simp only [List.getElem?_toArray, List.getElem?_cons_succ, List.getElem?_cons_zero]; rfl) rfl (by kernel_rfl) ?_ ?_
        rotate_left 1
        · (intro w hSw; (try dsimp only at hSw); go_simp; try with_reducible rfl)
        try simp only [Act.put, List.setIfInBounds_toArray, List.set_cons_zero, List.set_cons_succ]
        refine hold_plain 17 (v := ?_) hHC hH3 (by simp only [List.getElem?_toArray, List.getElem?_cons_succ, List.getElem?_cons_zero]; rfl) rfl (by kernel_rfl) ?_ ?_
        rotate_left 1
        · (intro w hSw; (try dsimp only at hSw); go_simp; try with_reducible rfl)
        try simp only [Act.put, List.setIfInBounds_toArray, List.set_cons_zero, List.set_cons_succ]
        refine hold_yes 18 (v := ?_) hHC hH3 (by simp only [List.getElem?_toArray, List.getElem?_cons_succ, List.getElem?_cons_zero]; rfl) rfl (by kernel_rfl) (by kernel_rfl) ?_ ?_
        rotate_left 1
        · (intro w hSw; (try dsimp only at hSw); go_simp; try with_reducible rfl)
        try simp only [Act.put, List.setIfInBounds_toArray, List.set_cons_zero, List.set_cons_succ]
        refine hold_yes 19 (v := ?_) hHC hH3 (by simp only [List.getElem?_toArray, List.getElem?_cons_succ, List.getElem?_cons_zero]; rfl) rfl (by kernel_rfl) (by kernel_rfl) ?_ ?_
        rotate_left 1
        · (intro w hSw; (try dsimp only at hSw); go_simp; try with_reducible rfl)
        try simp only [Act.put, List.setIfInBounds_toArray, List.set_cons_zero, List.set_cons_succ]
        refine hold_yes 21 (v := ?_) hHC hH3 (by simp only [List.getElem?_toArray, List.getElem?_cons_succ, List.getElem?_cons_zero]; rfl) rfl (by kernel_rfl) (by kernel_rfl) ?_ ?_
        rotate_left 1
        · (intro w hSw; (try dsimp only at hSw); go_simp; try with_reducible rfl)
        try simp only [Act.put, List.setIfInBounds_toArray, List.set_cons_zero, List.set_cons_succ]
        refine hold_yes 22 (v := ?_) hHC hH3 (by simp only [List.getElem?_toArray, List.getElem?_cons_succ, List.getElem?_cons_zero]; rfl) rfl (by kernel_rfl) (by kernel_rfl) ?_ ?_
        rotate_left 1
        · (intro w hSw; (try dsimp only at hSw); go_simp; try with_reducible rfl)
        try simp only [Act.put, List.setIfInBounds_toArray, List.set_cons_zero, List.set_cons_succ]
        refine hold_call1 20 (by simp only [List.getElem?_toArray, List.getElem?_cons_succ, List.getElem?_cons_zero]; rfl) rfl (by kernel_rfl) (by kernel_rfl) (fun K hK => ?_)
        go_simp
        first | (go_at_call 35; first | (with_reducible refine (HD.out _).mono ?_; rintro e w1 ⟨rfl, hb1⟩)) | (go_at_call 36; first | (with_reducible refine (HA.out _).mono ?_; rintro e w1 ⟨rfl, hb1⟩) | (with_reducible refine (HC.out _).mono ?_; rintro e w1 ⟨rfl, hb1⟩)) | (go_at_call 37; first | (with_reducible refine (HL1.out _).mono ?_; rintro e w1 ⟨rfl, hb1⟩) | (with_reducible refine (HL2.out _).mono ?_; rintro e w1 ⟨rfl, hb1⟩) | (with_reducible refine (HL3.out _).mono ?_; rintro e w1 ⟨rfl, hb1⟩)) | (go_at_call 38; first | (with_reducible refine (HF1.out _).mono ?_; rintro e w1 ⟨rfl, hb1⟩) | (with_reducible refine (HF2.out _).mono ?_; rintro e w1 ⟨rfl, hb1⟩) | (with_reducible refine (HF3.out _).mono ?_; rintro e w1 ⟨rfl, hb1⟩)) | (go_at_call 19; first | (with_reducible refine (HT1.out _).mono ?_; rintro e w1 ⟨rfl, hb1⟩) | (with_reducible refine (HT2.out _).mono ?_; rintro e w1 ⟨rfl, hb1⟩))
        refine hK.out _ _ ?_ (fun hH4 => ?_)
        · (first | (go_keep; done) | ((try go_split_ands); (repeat' apply And.intro) <;> first | assumption | (with_reducible refine Rd.below ?_ hb1; assumption) | (with_reducible refine Rd.drew ?_; repeat' (first | assumption | (with_reducible refine Rd.alloc ?_ _))) | (refine (hb1.cell (by first | omega | (simp; done) | (simp; omega))).trans ?_; first | assumption | simp) | (exact below_step hb1 (by first | omega | (simp; done) | (simp; omega)) (by assumption)) | (have hz' := hb1.size; (try simp at hz'); omega) | ((repeat' (first | assumption | (with_reducible exact Below.refl _ _) | (with_reducible refine Below.drew ?_) | (with_reducible refine Below.alloc ?_ ?_ _) | (with_reducible refine Below.setCell ?_ ?_ _) | omega | (simp; done) | (simp; omega))); done) | go_simp | (simp; done) | (simp; omega)))
        clear hK K hH3
        try simp only [Act.put, List.setIfInBounds_toArray, List.set_cons_zero, List.set_cons_succ]
        refine hold_call1 23 (by simp only [List.getElem?_toArray, List.getElem?_cons_succ, List.getElem?_cons_zero]; rfl) rfl (by kernel_rfl) (by kernel_rfl) (fun K hK => ?_)
        go_simp
        first | (go_at_call 35; first | (with_reducible refine (HD.out _).mono ?_; rintro e w1 ⟨rfl, hb1⟩)) | (go_at_call 36; first | (with_reducible refine (HA.out _).mono ?_; rintro e w1 ⟨rfl, hb1⟩) | (with_reducible refine (HC.out _).mono ?_; rintro e w1 ⟨rfl, hb1⟩)) | (go_at_call 37; first | (with_reducible refine (HL1.out _).mono ?_; rintro e w1 ⟨rfl, hb1⟩) | (with_reducible refine (HL2.out _).mono ?_; rintro e w1 ⟨rfl, hb1⟩) | (with_reducible refine (HL3.out _).mono ?_; rintro e w1 ⟨rfl, hb1⟩)) | (go_at_call 38; first | (with_reducible refine (HF1.out _).mono ?_; rintro e w1 ⟨rfl, hb1⟩) | (with_reducible refine (HF2.out _).mono ?_; rintro e w1 ⟨rfl, hb1⟩) | (with_reducible refine (HF3.out _).mono ?_; rintro e w1 ⟨rfl, hb1⟩)) | (go_at_call 19; first | (with_reducible refine (HT1.out _).mono ?_; rintro e w1 ⟨rfl, hb1⟩) | (with_reducible refine (HT2.out _).mono ?_; rintro e w1 ⟨rfl, hb1⟩))
        refine hK.out _ _ ?_ (fun hH5 => ?_)
        · (first | (go_keep; done) | ((try go_split_ands); (repeat' apply And.intro) <;> first | assumption | (with_reducible refine Rd.below ?_ hb1; assumption) | (with_reducible refine Rd.drew ?_; repeat' (first | assumption | (with_reducible refine Rd.alloc ?_ _))) | (refine (hb1.cell (by first | omega | (simp; done) | (simp; omega))).trans ?_; first | assumption | simp) | (exact below_step hb1 (by first | omega | (simp; done) | (simp; omega)) (by assumption)) | (have hz' := hb1.size; (try simp at hz'); omega) | ((repeat' (first | assumption | (with_reducible exact Below.refl _ _) | (with_reducible refine Below.drew ?_) | (with_reducible refine Below.alloc ?_ ?_ _) | (with_reducible refine Below.setCell ?_ ?_ _) | omega | (simp; done) | (simp; omega))); done) | go_simp | (simp; done) | (simp; omega)))
        clear hK K hH4
        try simp only [Act.put, List.setIfInBounds_toArray, List.set_cons_zero, List.set_cons_succ]
        refine hold_yes 24 (v := ?_) hHC hH5 (by simp only [List.getElem?_toArray, List.getElem?_cons_succ, List.getElem?_cons_zero]; rfl) rfl (by kernel_rfl) (by kernel_rfl) ?_ ?_
        rotate_left 1
        · (intro w hSw; (try dsimp only at hSw); go_simp; try with_reducible rfl)
        try simp only [Act.put, List.setIfInBounds_toArray, List.set_cons_zero, List.set_cons_succ]
        refine hold_plain 25 (v := ?_) hHC hH5 (by simp only [List.getElem?_toArray, List.getElem?_cons_succ, List.getElem?_cons_zero]; rfl) rfl (by kernel_rfl) ?_ ?_
        rotate_left 1
        · (intro w hSw; (try dsimp only at hSw); go_simp; try with_reducible rfl)
        try simp only [Act.put, List.setIfInBounds_toArray, List.set_cons_zero, List.set_cons_succ]
        refine hold_plain 26 (v := ?_) hHC hH5 (by simp only [List.getElem?_toArray, List.getElem?_cons_succ, List.getElem?_cons_zero]; rfl) rfl (by kernel_rfl) ?_ ?_
        rotate_left 1
        · (intro w hSw; (try dsimp only at hSw); go_simp; try with_reducible rfl)
        try simp only [Act.put, List.setIfInBounds_toArray, List.set_cons_zero, List.set_cons_succ]
        refine hold_yes 27 (v := ?_) hHC hH5 (by simp only [List.getElem?_toArray, List.getElem?_cons_succ, List.getElem?_cons_zero]; rfl) rfl (by kernel_rfl) (by kernel_rfl) ?_ ?_
        rotate_left 1
        · (intro w hSw; (try dsimp only at hSw); go_simp; try with_reducible rfl)
        try simp only [Act.put, List.setIfInBounds_toArray, List.set_cons_zero, List.set_cons_succ]
        refine hold_yes 28 (v := ?_) hHC hH5 (by simp only [List.getElem?_toArray, List.getElem?_cons_succ, List.getElem?_cons_zero]; rfl) rfl (by kernel_rfl) (by kernel_rfl) ?_ ?_
        rotate_left 1
        · (intro w hSw; (try dsimp only at hSw); go_simp; try with_reducible rfl)
        try simp only [Act.put, List.setIfInBounds_toArray, List.set_cons_zero, List.set_cons_succ]
        refine hold_call1 29 (by simp only [List.getElem?_toArray, List.getElem?_cons_succ, List.getElem?_cons_zero]; rfl) rfl (by kernel_rfl) (by kernel_rfl) (fun K hK => ?_)
        go_simp
        first | (go_at_call 35; first | (with_reducible refine (HD.out _).mono ?_; rintro e w1 ⟨rfl, hb1⟩)) | (go_at_call 36; first | (with_reducible refine (HA.out _).mono ?_; rintro e w1 ⟨rfl, hb1⟩) | (with_reducible refine (HC.out _).mono ?_; rintro e w1 ⟨rfl, hb1⟩)) | (go_at_call 37; first | (with_reducible refine (HL1.out _).mono ?_; rintro e w1 ⟨rfl, hb1⟩) | (with_reducible refine (HL2.out _).mono ?_; rintro e w1 ⟨rfl, hb1⟩) | (with_reducible refine (HL3.out _).mono ?_; rintro e w1 ⟨rfl, hb1⟩)) | (go_at_call 38; first | (with_reducible refine (HF1.out _).mono ?_; rintro e w1 ⟨rfl, hb1⟩) | (with_reducible refine (HF2.out _).mono ?_; rintro e w1 ⟨rfl, hb1⟩) | (with_reducible refine (HF3.out _).mono ?_; rintro e w1 ⟨rfl, hb1⟩)) | (go_at_call 19; first | (with_reducible refine (HT1.out _).mono ?_; rintro e w1 ⟨rfl, hb1⟩) | (with_reducible refine (HT2.out _).mono ?_; rintro e w1 ⟨rfl, hb1⟩))
        refine hK.out _ _ ?_ (fun hH6 => ?_)
        · (first | (go_keep; done) | ((try go_split_ands); (repeat' apply And.intro) <;> first | assumption | (with_reducible refine Rd.below ?_ hb1; assumption) | (with_reducible refine Rd.drew ?_; repeat' (first | assumption | (with_reducible refine Rd.alloc ?_ _))) | (refine (hb1.cell (by first | omega | (simp; done) | (simp; omega))).trans ?_; first | assumption | simp) | (exact below_step hb1 (by first | omega | (simp; done) | (simp; omega)) (by assumption)) | (have hz' := hb1.size; (try simp at hz'); omega) | ((repeat' (first | assumption | (with_reducible exact Below.refl _ _) | (with_reducible refine Below.drew ?_) | (with_reducible refine Below.alloc ?_ ?_ _) | (with_reducible refine Below.setCell ?_ ?_ _) | omega | (simp; done) | (simp; omega))); done) | go_simp | (simp; done) | (simp; omega)))
        clear hK K hH5
        try simp only [Act.put, List.setIfInBounds_toArray, List.set_cons_zero, List.set_cons_succ]
        refine hold_plain 30 (v := ?_) hHC hH6 (by simp only [List.getElem?_toArray, List.getElem?_cons_succ, List.getElem?_cons_zero]; rfl) rfl (by kernel_rfl) ?_ ?_
        rotate_left 1
        · (intro w hSw; (try dsimp only at hSw); go_simp; try with_reducible rfl)
        try simp only [Act.put, List.setIfInBounds_toArray, List.set_cons_zero, List.set_cons_succ]
        refine hold_plain 31 (v := ?_) hHC hH6 (by simp only [List.getElem?_toArray, List.getElem?_cons_succ, List.getElem?_cons_zero]; rfl) rfl (by kernel_rfl) ?_ ?_
        rotate_left 1
        · (intro w hSw; (try dsimp only at hSw); go_simp; try with_reducible rfl)
        try simp only [Act.put, List.setIfInBounds_toArray, List.set_cons_zero, List.set_cons_succ]
        refine hold_yes 32 (v := ?_) hHC hH6 (by simp only [List.getElem?_toArray, List.getElem?_cons_succ, List.getElem?_cons_zero]; rfl) rfl (by kernel_rfl) (by kernel_rfl) ?_ ?_
        rotate_left 1
        · (intro w hSw; (try dsimp only at hSw); go_simp; try with_reducible rfl)
        try simp only [Act.put, List.setIfInBounds_toArray, List.set_cons_zero, List.set_cons_succ]
        refine hold_yes 33 (v := ?_) hHC hH6 (by simp only [List.getElem?_toArray, List.getElem?_cons_succ, List.getElem?_cons_zero]; rfl) rfl (by kernel_rfl) (by kernel_rfl) ?_ ?_
        rotate_left 1
        · (intro w hSw; (try dsimp only at hSw); go_simp; try with_reducible rfl)
        try simp only [Act.put, List.setIfInBounds_toArray, List.set_cons_zero, List.set_cons_succ]
        refine hold_yes 34 (v := ?_) hHC hH6 (by simp only [List.getElem?_toArray, List.getElem?_cons_succ, List.getElem?_cons_zero]; rfl) rfl (by kernel_rfl) (by kernel_rfl) ?_ ?_
        rotate_left 1
        · (intro w hSw; (try dsimp only at hSw); go_simp; try with_reducible rfl)
        try simp only [Act.put, List.setIfInBounds_toArray, List.set_cons_zero, List.set_cons_succ]
        refine hold_yes 35 (v := ?_) hHC hH6 (by simp only [List.getElem?_toArray, List.getElem?_cons_succ, List.getElem?_cons_zero]; rfl) rfl (by kernel_rfl) (by kernel_rfl) ?_ ?_
        rotate_left 1
        · (intro w hSw; (try dsimp only at hSw); go_simp; try with_reducible rfl)
        try simp only [Act.put, List.setIfInBounds_toArray, List.set_cons_zero, List.set_cons_succ]
        refine hold_yes 36 (v := ?_) hHC hH6 (by simp only [List.getElem?_toArray, List.getElem?_cons_succ, List.getElem?_cons_zero]; rfl) rfl (by kernel_rfl) (by kernel_rfl) ?_ ?_
        rotate_left 1
        · (intro w hSw; (try dsimp only at hSw); go_simp; try with_reducible rfl)
        try simp only [Act.put, List.setIfInBounds_toArray, List.set_cons_zero, List.set_cons_succ]
        refine hold_yes 37 (v := ?_) hHC hH6 (by simp only [List.getElem?_toArray, List.getElem?_cons_succ, List.getElem?_cons_zero]; rfl) rfl (by kernel_rfl) (by kernel_rfl) ?_ ?_
        rotate_left 1
        · (intro w hSw; (try dsimp only at hSw); go_simp; try with_reducible rfl)
        try simp only [Act.put, List.setIfInBounds_toArray, List.set_cons_zero, List.set_cons_succ]
        refine hold_yes 39 (v := ?_) hHC hH6 (by simp only [List.getElem?_toArray, List.getElem?_cons_succ, List.getElem?_cons_zero]; rfl) rfl (by kernel_rfl) (by kernel_rfl) ?_ ?_
        rotate_left 1
        · (intro w hSw; (try dsimp only at hSw); go_simp; try with_reducible rfl)
        try simp only [Act.put, List.setIfInBounds_toArray, List.set_cons_zero, List.set_cons_succ]
        refine hold_yes 40 (v := ?_) hHC hH6 (by simp only [List.getElem?_toArray, List.getElem?_cons_succ, List.getElem?_cons_zero]; rfl) rfl (by kernel_rfl) (by kernel_rfl) ?_ ?_
        rotate_left 1
        · (intro w hSw; (try dsimp only at hSw); go_simp; try with_reducible rfl)
        try simp only [Act.put, List.setIfInBounds_toArray, List.set_cons_zero, List.set_cons_succ]
        refine hold_call1 38 (by simp only [List.getElem?_toArray, List.getElem?_cons_succ, List.getElem?_cons_zero]; rfl) rfl (by kernel_rfl) (by kernel_rfl) (fun K hK => ?_)
        go_simp
        first | (go_at_call 35; first | (with_reducible refine (HD.out _).mono ?_; rintro e w1 ⟨rfl, hb1⟩)) | (go_at_call 36; first | (with_reducible refine (HA.out _).mono ?_; rintro e w1 ⟨rfl, hb1⟩) | (with_reducible refine (HC.out _).mono ?_; rintro e w1 ⟨rfl, hb1⟩)) | (go_at_call 37; first | (with_reducible refine (HL1.out _).mono ?_; rintro e w1 ⟨rfl, hb1⟩) | (with_reducible refine (HL2.out _).mono ?_; rintro e w1 ⟨rfl, hb1⟩) | (with_reducible refine (HL3.out _).mono ?_; rintro e w1 ⟨rfl, hb1⟩)) | (go_at_call 38; first | (with_reducible refine (HF1.out _).mono ?_; rintro e w1 ⟨rfl, hb1⟩) | (with_reducible refine (HF2.out _).mono ?_; rintro e w1 ⟨rfl, hb1⟩) | (with_reducible refine (HF3.out _).mono ?_; rintro e w1 ⟨rfl, hb1⟩)) | (go_at_call 19; first | (with_reducible refine (HT1.out _).mono ?_; rintro e w1 ⟨rfl, hb1⟩) | (with_reducible refine (HT2.out _).mono ?_; rintro e w1 ⟨rfl, hb1⟩))
        refine hK.out _ _ ?_ (fun hH7 => ?_)
        · (first | (go_keep; done) | ((try go_split_ands); (repeat' apply And.intro) <;> first | assumption | (with_reducible refine Rd.below ?_ hb1; assumption) | (with_reducible refine Rd.drew ?_; repeat' (first | assumption | (with_reducible refine Rd.alloc ?_ _))) | (refine (hb1.cell (by first | omega | (simp; done) | (simp; omega))).trans ?_; first | assumption | simp) | (exact below_step hb1 (by first | omega | (simp; done) | (simp; omega)) (by assumption)) | (have hz' := hb1.size; (try simp at hz'); omega) | ((repeat' (first | assumption | (with_reducible exact Below.refl _ _) | (with_reducible refine Below.drew ?_) | (with_reducible refine Below.alloc ?_ ?_ _) | (with_reducible refine Below.setCell ?_ ?_ _) | omega | (simp; done) | (simp; omega))); done) | go_simp | (simp; done) | (simp; omega)))
        clear hK K hH6
        try simp only [Act.put, List.setIfInBounds_toArray, List.set_cons_zero, List.set_cons_succ]
        refine hold_call1 41 (by simp only [List.getElem?_toArray, List.getElem?_cons_succ, List.getElem?_cons_zero]; rfl) rfl (by kernel_rfl) (by kernel_rfl) (fun K hK => ?_)
        go_simp
        first | (go_at_call 35; first | (with_reducible refine (HD.out _).mono ?_; rintro e w1 ⟨rfl, hb1⟩)) | (go_at_call 36; first | (with_reducible refine (HA.out _).mono ?_; rintro e w1 ⟨rfl, hb1⟩) | (with_reducible refine (HC.out _).mono ?_; rintro e w1 ⟨rfl, hb1⟩)) | (go_at_call 37; first | (with_reducible refine (HL1.out _).mono ?_; rintro e w1 ⟨rfl, hb1⟩) | (with_reducible refine (HL2.out _).mono ?_; rintro e w1 ⟨rfl, hb1⟩) | (with_reducible refine (HL3.out _).mono ?_; rintro e w1 ⟨rfl, hb1⟩)) | (go_at_call 38; first | (with_reducible refine (HF1.out _).mono ?_; rintro e w1 ⟨rfl, hb1⟩) | (with_reducible refine (HF2.out _).mono ?_; rintro e w1 ⟨rfl, hb1⟩) | (with_reducible refine (HF3.out _).mono ?_; rintro e w1 ⟨rfl, hb1⟩)) | (go_at_call 19; first | (with_reducible refine (HT1.out _).mono ?_; rintro e w1 ⟨rfl, hb1⟩) | (with_reducible refine (HT2.out _).mono ?_; rintro e w1 ⟨rfl, hb1⟩))
        refine hK.out _ _ ?_ (fun hH8 => ?_)
        · (first | (go_keep; done) | ((try go_split_ands); (repeat' apply And.intro) <;> first | assumption | (with_reducible refine Rd.below ?_ hb1; assumption) | (with_reducible refine Rd.drew ?_; repeat' (first | assumption | (with_reducible refine Rd.alloc ?_ _))) | (refine (hb1.cell (by first | omega | (simp; done) | (simp; omega))).trans ?_; first | assumption | simp) | (exact below_step hb1 (by first | omega | (simp; done) | (simp; omega)) (by assumption)) | (have hz' := hb1.size; (try simp at hz'); omega) | ((repeat' (first | assumption | (with_reducible exact Below.refl _ _) | (with_reducible refine Below.drew ?_) | (with_reducible refine Below.alloc ?_ ?_ _) | (with_reducible refine Below.setCell ?_ ?_ _) | omega | (simp; done) | (simp; omega))); done) | go_simp | (simp; done) | (simp; omega)))
        clear hK K hH7
        try simp only [Act.put, List.setIfInBounds_toArray, List.set_cons_zero, List.set_cons_succ]
        refine hold_yes 42 (v := ?_) hHC hH8 (by simp only [List.getElem?_toArray, List.getElem?_cons_succ, List.getElem?_cons_zero]; rfl) rfl (by kernel_rfl) (by kernel_rfl) ?_ ?_
        rotate_left 1
        · (intro w hSw; (try dsimp only at hSw); go_simp; try with_reducible rfl)
        try simp only [Act.put, List.setIfInBounds_toArray, List.set_cons_zero, List.set_cons_succ]
        refine hold_yes 43 (v := ?_) hHC hH8 (by simp only [List.getElem?_toArray, List.getElem?_cons_succ, List.getElem?_cons_zero]; rfl) rfl (by kernel_rfl) (by kernel_rfl) ?_ ?_
        rotate_left 1
        · (intro w hSw; (try dsimp only at hSw); go_simp; try with_reducible rfl)
        try simp only [Act.put, List.setIfInBounds_toArray, List.set_cons_zero, List.set_cons_succ]
        refine hold_plain 44 (v := ?_) hHC hH8 (by simp only [List.getElem?_toArray, List.getElem?_cons_succ, List.getElem?_cons_zero]; rfl) rfl (by kernel_rfl) ?_ ?_
        rotate_left 1
        · (intro w hSw; (try dsimp only at hSw); go_simp; try with_reducible rfl)
        try simp only [Act.put, List.setIfInBounds_toArray, List.set_cons_zero, List.set_cons_succ]
        refine hold_plain 45 (v := ?_) hHC hH8 (by simp only [List.getElem?_toArray, List.getElem?_cons_succ, List.getElem?_cons_zero]; rfl) rfl (by kernel_rfl) ?_ ?_
        rotate_left 1
        · (intro w hSw; (try dsimp only at hSw); go_simp; try with_reducible rfl)
        try simp only [Act.put, List.setIfInBounds_toArray, List.set_cons_zero, List.set_cons_succ]
        refine hold_yes 46 (v := ?_) hHC hH8 (by simp only [List.getElem?_toArray, List.getElem?_cons_succ, List.getElem?_cons_zero]; rfl) rfl (by kernel_rfl) (by kernel_rfl) ?_ ?_
        rotate_left 1
        · (intro w hSw; (try dsimp only at hSw); go_simp; try with_reducible rfl)
        try simp only [Act.put, List.setIfInBounds_toArray, List.set_cons_zero, List.set_cons_succ]
        refine hold_yes 47 (v := ?_) hHC hH8 (by simp only [List.getElem?_toArray, List.getElem?_cons_succ, List.getElem?_cons_zero]; rfl) rfl (by kernel_rfl) (by kernel_rfl) ?_ ?_
        rotate_left 1
        · (intro w hSw; (try dsimp only at hSw); go_simp; try with_reducible rfl)
        try simp only [Act.put, List.setIfInBounds_toArray, List.set_cons_zero, List.set_cons_succ]
        refine hold_call1 48 (by simp only [List.getElem?_toArray, List.getElem?_cons_succ, List.getElem?_cons_zero]; rfl) rfl (by kernel_rfl) (by kernel_rfl) (fun K hK => ?_)
        go_simp
        first | (go_at_call 35; first | (with_reducible refine (HD.out _).mono ?_; rintro e w1 ⟨rfl, hb1⟩)) | (go_at_call 36; first | (with_reducible refine (HA.out _).mono ?_; rintro e w1 ⟨rfl, hb1⟩) | (with_reducible refine (HC.out _).mono ?_; rintro e w1 ⟨rfl, hb1⟩)) | (go_at_call 37; first | (with_reducible refine (HL1.out _).mono ?_; rintro e w1 ⟨rfl, hb1⟩) | (with_reducible refine (HL2.out _).mono ?_; rintro e w1 ⟨rfl, hb1⟩) | (with_reducible refine (HL3.out _).mono ?_; rintro e w1 ⟨rfl, hb1⟩)) | (go_at_call 38; first | (with_reducible refine (HF1.out _).mono ?_; rintro e w1 ⟨rfl, hb1⟩) | (with_reducible refine (HF2.out _).mono ?_; rintro e w1 ⟨rfl, hb1⟩) | (with_reducible refine (HF3.out _).mono ?_; rintro e w1 ⟨rfl, hb1⟩)) | (go_at_call 19; first | (with_reducible refine (HT1.out _).mono ?_; rintro e w1 ⟨rfl, hb1⟩) | (with_reducible refine (HT2.out _).mono ?_; rintro e w1 ⟨rfl, hb1⟩))
        refine hK.out _ _ ?_ (fun hH9 => ?_)
        · (first | (go_keep; done) | ((try go_split_ands); (repeat' apply And.intro) <;> first | assumption | (with_reducible refine Rd.below ?_ hb1; assumption) | (with_reducible refine Rd.drew ?_; repeat' (first | assumption | (with_reducible refine Rd.alloc ?_ _))) | (refine (hb1.cell (by first | omega | (simp; done) | (simp; omega))).trans ?_; first | assumption | simp) | (exact below_step hb1 (by first | omega | (simp; done) | (simp; omega)) (by assumption)) | (have hz' := hb1.size; (try simp at hz'); omega) | ((repeat' (first | assumption | (with_reducible exact Below.refl _ _) | (with_reducible refine Below.drew ?_) | (with_reducible refine Below.alloc ?_ ?_ _) | (with_reducible refine Below.setCell ?_ ?_ _) | omega | (simp; done) | (simp; omega))); done) | go_simp | (simp; done) | (simp; omega)))
        clear hK K hH8
        try simp only [Act.put, List.setIfInBounds_toArray, List.set_cons_zero, List.set_cons_succ]
        refine hold_yes 49 (v := ?_) hHC hH9 (by simp only [List.getElem?_toArray, List.getElem?_cons_succ, List.getElem?_cons_zero]; rfl) rfl (by kernel_rfl) (by kernel_rfl) ?_ ?_
        rotate_left 1
        · (intro w hSw; (try dsimp only at hSw); go_simp; try with_reducible rfl)
        try simp only [Act.put, List.setIfInBounds_toArray, List.set_cons_zero, List.set_cons_succ]
        refine hold_plain 50 (v := ?_) hHC hH9 (by simp only [List.getElem?_toArray, List.getElem?_cons_succ, List.getElem?_cons_zero]; rfl) rfl (by kernel_rfl) ?_ ?_
        rotate_left 1
        · (intro w hSw; (try dsimp only at hSw); go_simp; try with_reducible rfl)
        try simp only [Act.put, List.setIfInBounds_toArray, List.set_cons_zero, List.set_cons_succ]
        refine hold_plain 51 (v := ?_) hHC hH9 (by simp only [List.getElem?_toArray, List.getElem?_cons_succ, List.getElem?_cons_zero]; rfl) rfl (by kernel_rfl) ?_ ?_
        rotate_left 1
        · (intro w hSw; (try dsimp only at hSw); go_simp; try with_reducible rfl)
        try simp only [Act.put, List.setIfInBounds_toArray, List.set_cons_zero, List.set_cons_succ]
        refine hold_yes 52 (v := ?_) hHC hH9 (by simp only [List.getElem?_toArray, List.getElem?_cons_succ, List.getElem?_cons_zero]; rfl) rfl (by kernel_rfl) (by kernel_rfl) ?_ ?_
        rotate_left 1
        · (intro w hSw; (try dsimp only at hSw); go_simp; try with_reducible rfl)
        try simp only [Act.put, List.setIfInBounds_toArray, List.set_cons_zero, List.set_cons_succ]
        refine hold_call1 53 (by simp only [List.getElem?_toArray, List.getElem?_cons_succ, List.getElem?_cons_zero]; rfl) rfl (by kernel_rfl) (by kernel_rfl) (fun K hK => ?_)
        go_simp
        first | (go_at_call 35; first | (with_reducible refine (HD.out _).mono ?_; rintro e w1 ⟨rfl, hb1⟩)) | (go_at_call 36; first | (with_reducible refine (HA.out _).mono ?_; rintro e w1 ⟨rfl, hb1⟩) | (with_reducible refine (HC.out _).mono ?_; rintro e w1 ⟨rfl, hb1⟩)) | (go_at_call 37; first | (with_reducible refine (HL1.out _).mono ?_; rintro e w1 ⟨rfl, hb1⟩) | (with_reducible refine (HL2.out _).mono ?_; rintro e w1 ⟨rfl, hb1⟩) | (with_reducible refine (HL3.out _).mono ?_; rintro e w1 ⟨rfl, hb1⟩)) | (go_at_call 38; first | (with_reducible refine (HF1.out _).mono ?_; rintro e w1 ⟨rfl, hb1⟩) | (with_reducible refine (HF2.out _).mono ?_; rintro e w1 ⟨rfl, hb1⟩) | (with_reducible refine (HF3.out _).mono ?_; rintro e w1 ⟨rfl, hb1⟩)) | (go_at_call 19; first | (with_reducible refine (HT1.out _).mono ?_; rintro e w1 ⟨rfl, hb1⟩) | (with_reducible refine (HT2.out _).mono ?_; rintro e w1 ⟨rfl, hb1⟩))
        refine hK.out _ _ ?_ (fun hH10 => ?_)
        · (first | (go_keep; done) | ((try go_split_ands); (repeat' apply And.intro) <;> first | assumption | (with_reducible refine Rd.below ?_ hb1; assumption) | (with_reducible refine Rd.drew ?_; repeat' (first | assumption | (with_reducible refine Rd.alloc ?_ _))) | (refine (hb1.cell (by first | omega | (simp; done) | (simp; omega))).trans ?_; first | assumption | simp) | (exact below_step hb1 (by first | omega | (simp; done) | (simp; omega)) (by assumption)) | (have hz' := hb1.size; (try simp at hz'); omega) | ((repeat' (first | assumption | (with_reducible exact Below.refl _ _) | (with_reducible refine Below.drew ?_) | (with_reducible refine Below.alloc ?_ ?_ _) | (with_reducible refine Below.setCell ?_ ?_ _) | omega | (simp; done) | (simp; omega))); done) | go_simp | (simp; done) | (simp; omega)))
        clear hK K hH9
        try simp only [Act.put, List.setIfInBounds_toArray, List.set_cons_zero, List.set_cons_succ]
        refine hold_yes 54 (v := ?_) hHC hH10 (by simp only [List.getElem?_toArray, List.getElem?_cons_succ, List.getElem?_cons_zero]; rfl) rfl (by kernel_rfl) (by kernel_rfl) ?_ ?_
        rotate_left 1
        · (intro w hSw; (try dsimp only at hSw); go_simp; try with_reducible rfl)
        try simp only [Act.put, List.setIfInBounds_toArray, List.set_cons_zero, List.set_cons_succ]
        refine hold_yes 55 (v := ?_) hHC hH10 (by simp only [List.getElem?_toArray, List.getElem?_cons_succ, List.getElem?_cons_zero]; rfl) rfl (by kernel_rfl) (by kernel_rfl) ?_ ?_
        rotate_left 1
        · (intro w hSw; (try dsimp only at hSw); go_simp; try with_reducible rfl)
        try simp only [Act.put, List.setIfInBounds_toArray, List.set_cons_zero, List.set_cons_succ]
        refine hold_plain 56 (v := ?_) hHC hH10 (by simp only [List.getElem?_toArray, List.getElem?_cons_succ, List.getElem?_cons_zero]; rfl) rfl (by kernel_rfl) ?_ ?_
        rotate_left 1
        · (intro w hSw; (try dsimp only at hSw); go_simp; try with_reducible rfl)
        try simp only [Act.put, List.setIfInBounds_toArray, List.set_cons_zero, List.set_cons_succ]
        refine hold_plain 57 (v := ?_) hHC hH10 (by simp only [List.getElem?_toArray, List.getElem?_cons_succ, List.getElem?_cons_zero]; rfl) rfl (by kernel_rfl) ?_ ?_
        rotate_left 1
        · (intro w hSw; (try dsimp only at hSw); go_simp; try with_reducible rfl)
        try simp only [Act.put, List.setIfInBounds_toArray, List.set_cons_zero, List.set_cons_succ]
        refine hold_yes 58 (v := ?_) hHC hH10 (by simp only [List.getElem?_toArray, List.getElem?_cons_succ, List.getElem?_cons_zero]; rfl) rfl (by kernel_rfl) (by kernel_rfl) ?_ ?_
        rotate_left 1
        · (intro w hSw; (try dsimp only at hSw); go_simp; try with_reducible rfl)
        try simp only [Act.put, List.setIfInBounds_toArray, List.set_cons_zero, List.set_cons_succ]
        refine hold_yes 59 (v := ?_) hHC hH10 (by simp only [List.getElem?_toArray, List.getElem?_cons_succ, List.getElem?_cons_zero]; rfl) rfl (by kernel_rfl) (by kernel_rfl) ?_ ?_
        rotate_left 1
        · (intro w hSw; (try dsimp only at hSw); go_simp; try with_reducible rfl)
        try simp only [Act.put, List.setIfInBounds_toArray, List.set_cons_zero, List.set_cons_succ]
        refine hold_yes 60 (v := ?_) hHC hH10 (by simp only [List.getElem?_toArray, List.getElem?_cons_succ, List.getElem?_cons_zero]; rfl) rfl (by kernel_rfl) (by kernel_rfl) ?_ ?_
        rotate_left 1
        · (intro w hSw; (try dsimp only at hSw); go_simp; try with_reducible rfl)
        try simp only [Act.put, List.setIfInBounds_toArray, List.set_cons_zero, List.set_cons_succ]
        refine hold_yes 61 (v := ?_) hHC hH10 (by simp only [List.getElem?_toArray, List.getElem?_cons_succ, List.getElem?_cons_zero]; rfl) rfl (by kernel_rfl) (by kernel_rfl) ?_ ?_
        rotate_left 1
        · (intro w hSw; (try dsimp only at hSw); go_simp; try with_reducible rfl)
        try simp only [Act.put, List.setIfInBounds_toArray, List.set_cons_zero, List.set_cons_succ]
        refine hold_yes 63 (v := ?_) hHC hH10 (by simp only [List.getElem?_toArray, List.getElem?_cons_succ, List.getElem?_cons_zero]; rfl) rfl (by kernel_rfl) (by kernel_rfl) ?_ ?_
        rotate_left 1
        · (intro w hSw; (try dsimp only at hSw); go_simp; try with_reducible rfl)
        try simp only [Act.put, List.setIfInBounds_toArray, List.set_cons_zero, List.set_cons_succ]
        refine hold_call1 62 (by simp only [List.getElem?_toArray, List.getElem?_cons_succ, List.getElem?_cons_zero]; rfl) rfl (by kernel_rfl) (by kernel_rfl) (fun K hK => ?_)
        go_simp
        first | (go_at_call 35; first | (with_reducible refine (HD.out _).mono ?_; rintro e w1 ⟨rfl, hb1⟩)) | (go_at_call 36; first | (with_reducible refine (HA.out _).mono ?_; rintro e w1 ⟨rfl, hb1⟩) | (with_reducible refine (HC.out _).mono ?_; rintro e w1 ⟨rfl, hb1⟩)) | (go_at_call 37; first | (with_reducible refine (HL1.out _).mono ?_; rintro e w1 ⟨rfl, hb1⟩) | (with_reducible refine (HL2.out _).mono ?_; rintro e w1 ⟨rfl, hb1⟩) | (with_reducible refine (HL3.out _).mono ?_; rintro e w1 ⟨rfl, hb1⟩)) | (go_at_call 38; first | (with_reducible refine (HF1.out _).mono ?_; rintro e w1 ⟨rfl, hb1⟩) | (with_reducible refine (HF2.out _).mono ?_; rintro e w1 ⟨rfl, hb1⟩) | (with_reducible refine (HF3.out _).mono ?_; rintro e w1 ⟨rfl, hb1⟩)) | (go_at_call 19; first | (with_reducible refine (HT1.out _).mono ?_; rintro e w1 ⟨rfl, hb1⟩) | (with_reducible refine (HT2.out _).mono ?_; rintro e w1 ⟨rfl, hb1⟩))
        refine hK.out _ _ ?_ (fun hH11 => ?_)
        · (first | (go_keep; done) | ((try go_split_ands); (repeat' apply And.intro) <;> first | assumption | (with_reducible refine Rd.below ?_ hb1; assumption) | (with_reducible refine Rd.drew ?_; repeat' (first | assumption | (with_reducible refine Rd.alloc ?_ _))) | (refine (hb1.cell (by first | omega | (simp; done) | (simp; omega))).trans ?_; first | assumption | simp) | (exact below_step hb1 (by first | omega | (simp; done) | (simp; omega)) (by assumption)) | (have hz' := hb1.size; (try simp at hz'); omega) | ((repeat' (first | assumption | (with_reducible exact Below.refl _ _) | (with_reducible refine Below.drew ?_) | (with_reducible refine Below.alloc ?_ ?_ _) | (with_reducible refine Below.setCell ?_ ?_ _) | omega | (simp; done) | (simp; omega))); done) | go_simp | (simp; done) | (simp; omega)))
        clear hK K hH10
        try simp only [Act.put, List.setIfInBounds_toArray, List.set_cons_zero, List.set_cons_succ]
        refine hold_call1 64 (by simp only [List.getElem?_toArray, List.getElem?_cons_succ, List.getElem?_cons_zero]; rfl) rfl (by kernel_rfl) (by kernel_rfl) (fun K hK => ?_)
        go_simp
        first | (go_at_call 35; first | (with_reducible refine (HD.out _).mono ?_; rintro e w1 ⟨rfl, hb1⟩)) | (go_at_call 36; first | (with_reducible refine (HA.out _).mono ?_; rintro e w1 ⟨rfl, hb1⟩) | (with_reducible refine (HC.out _).mono ?_; rintro e w1 ⟨rfl, hb1⟩)) | (go_at_call 37; first | (with_reducible refine (HL1.out _).mono ?_; rintro e w1 ⟨rfl, hb1⟩) | (with_reducible refine (HL2.out _).mono ?_; rintro e w1 ⟨rfl, hb1⟩) | (with_reducible refine (HL3.out _).mono ?_; rintro e w1 ⟨rfl, hb1⟩)) | (go_at_call 38; first | (with_reducible refine (HF1.out _).mono ?_; rintro e w1 ⟨rfl, hb1⟩) | (with_reducible refine (HF2.out _).mono ?_; rintro e w1 ⟨rfl, hb1⟩) | (with_reducible refine (HF3.out _).mono ?_; rintro e w1 ⟨rfl, hb1⟩)) | (go_at_call 19; first | (with_reducible refine (HT1.out _).mono ?_; rintro e w1 ⟨rfl, hb1⟩) | (with_reducible refine (HT2.out _).mono ?_; rintro e w1 ⟨rfl, hb1⟩))
        refine hK.out _ _ ?_ (fun hH12 => ?_)
        · (first | (go_keep; done) | ((try go_split_ands); (repeat' apply And.intro) <;> first | assumption | (with_reducible refine Rd.below ?_ hb1; assumption) | (with_reducible refine Rd.drew ?_; repeat' (first | assumption | (with_reducible refine Rd.alloc ?_ _))) | (refine (hb1.cell (by first | omega | (simp; done) | (simp; omega))).trans ?_; first | assumption | simp) | (exact below_step hb1 (by first | omega | (simp; done) | (simp; omega)) (by assumption)) | (have hz' := hb1.size; (try simp at hz'); omega) | ((repeat' (first | assumption | (with_reducible exact Below.refl _ _) | (with_reducible refine Below.drew ?_) | (with_reducible refine Below.alloc ?_ ?_ _) | (with_reducible refine Below.setCell ?_ ?_ _) | omega | (simp; done) | (simp; omega))); done) | go_simp | (simp; done) | (simp; omega)))
        clear hK K hH11
        try simp only [Act.put, List.setIfInBounds_toArray, List.set_cons_zero, List.set_cons_succ]
        refine hold_yes 65 (v := ?_) hHC hH12 (by simp only [List.getElem?_toArray, List.getElem?_cons_succ, List.getElem?_cons_zero]; rfl) rfl (by kernel_rfl) (by kernel_rfl) ?_ ?_
        rotate_left 1
        · (intro w hSw; (try dsimp only at hSw); go_simp; try with_reducible rfl)
        try simp only [Act.put, List.setIfInBounds_toArray, List.set_cons_zero, List.set_cons_succ]
        refine hold_yes 66 (v := ?_) hHC hH12 (by simp only [List.getElem?_toArray, List.getElem?_cons_succ, List.getElem?_cons_zero]; rfl) rfl (by kernel_rfl) (by kernel_rfl) ?_ ?_
        rotate_left 1
        · (intro w hSw; (try dsimp only at hSw); go_simp; try with_reducible rfl)
        try simp only [Act.put, List.setIfInBounds_toArray, List.set_cons_zero, List.set_cons_succ]
        refine hold_plain 67 (v := ?_) hHC hH12 (by simp only [List.getElem?_toArray, List.getElem?_cons_succ, List.getElem?_cons_zero]; rfl) rfl (by kernel_rfl) ?_ ?_
        rotate_left 1
        · (intro w hSw; (try dsimp only at hSw); go_simp; try with_reducible rfl)
        try simp only [Act.put, List.setIfInBounds_toArray, List.set_cons_zero, List.set_cons_succ]
        refine hold_plain 68 (v := ?_) hHC hH12 (by simp only [List.getElem?_toArray, List.getElem?_cons_succ, List.getElem?_cons_zero]; rfl) rfl (by kernel_rfl) ?_ ?_
        rotate_left 1
        · (intro w hSw; (try dsimp only at hSw); go_simp; try with_reducible rfl)
        try simp only [Act.put, List.setIfInBounds_toArray, List.set_cons_zero, List.set_cons_succ]
        refine wpAnyH_done (by kernel_rfl) ?_ _
        (try dsimp only at hH12)
        go_split_ands
        clear hHC
        go_wp2_with fail
        go_ret
        exact ⟨rfl, by assumption⟩
      · have d1 : (p == q) = false := by rw [beq_eq_false_iff_ne]; exact c3
        have d2 : ¬ q = p := fun h => c3 h.symm
        go_wp2_with fail
        simp only [List.append_eq, List.cons_append, List.nil_append]
        refine hold_start (S := (fun w' => w'.cell? ⟨w2.heap.size, 0, none⟩ = some (.int .i64 x) ∧ w'.cell? ⟨w2.heap.size, 1, none⟩ = some (.int .i64 y) ∧ w'.cell? ⟨w2.heap.size, 2, none⟩ = some (.bool p) ∧ w'.cell? ⟨w2.heap.size + 1, 0, none⟩ = some (.int .i64 x) ∧ w'.cell? ⟨w2.heap.size + 1, 1, none⟩ = some (.int .i64 y) ∧ w'.cell? ⟨w2.heap.size + 1, 2, none⟩ = some (.bool q) ∧ w'.cell? ⟨w3.heap.size, 0, none⟩ = some (.int .i64 x) ∧ w'.cell? ⟨w3.heap.size, 1, none⟩ = some (.int .i64 y) ∧ w'.cell? ⟨w3.heap.size + 1, 0, none⟩ = some (.int .i64 x2) ∧ w'.cell? ⟨w3.heap.size + 1, 1, none⟩ = some (.int .i64 y2) ∧ w'.cell? ⟨w4.heap.size, 0, none⟩ = some (.int .i64 x) ∧ w'.cell? ⟨w4.heap.size, 1, none⟩ = some (.int .i64 y) ∧ w'.cell? ⟨w4.heap.size, 2, none⟩ = some (.bool p) ∧ Below w.heap.size w w' ∧ w4.heap.size + 1 ≤ w'.heap.size)) (by kernel_rfl) (by kernel_rfl) (by intro _ _ d _ _ h; cases d <;> exact h) ?_ (fun hHC hH0 => ?_)
        · (first | (go_keep; done) | ((try go_split_ands); (repeat' apply And.intro) <;> first | assumption | (with_reducible refine Rd.below ?_ hb1; assumption) | (with_reducible refine Rd.drew ?_; repeat' (first | assumption | (with_reducible refine Rd.alloc ?_ _))) | (refine (hb1.cell (by first | omega | (simp; done) | (simp; omega))).trans ?_; first | assumption | simp) | (exact below_step hb1 (by first | omega | (simp; done) | (simp; omega)) (by assumption)) | (have hz' := hb1.size; (try simp at hz'); omega) | ((repeat' (first | assumption | (with_reducible exact Below.refl _ _) | (with_reducible refine Below.drew ?_) | (with_reducible refine Below.alloc ?_ ?_ _) | (with_reducible refine Below.setCell ?_ ?_ _) | omega | (simp; done) | (simp; omega))); done) | go_simp | (simp; done) | (simp; omega)))
        refine hold_plain 0 (v := ?_) hHC hH0 (by simp only [List.getElem?_toArray, List.getElem?_cons_succ, List.getElem?_cons_zero]; rfl) rfl (by kernel_rfl) ?_ ?_
        rotate_left 1
        · (intro w hSw; (try dsimp only at hSw); go_simp; try with_reducible rfl)
        try simp only [Act.put, List.setIfInBounds_toArray, List.set_cons_zero, List.set_cons_succ]
        refine hold_call0 1 (by simp only [List.getElem?_toArray, List.getElem?_cons_succ, List.getElem?_cons_zero]; rfl) rfl (by kernel_rfl) (fun K hK => ?_)
        go_simp
        first | (go_at_call 35; first | (with_reducible refine (HD.out _).mono ?_; rintro e w1 ⟨rfl, hb1⟩)) | (go_at_call 36; first | (with_reducible refine (HA.out _).mono ?_; rintro e w1 ⟨rfl, hb1⟩) | (with_reducible refine (HC.out _).mono ?_; rintro e w1 ⟨rfl, hb1⟩)) | (go_at_call 37; first | (with_reducible refine (HL1.out _).mono ?_; rintro e w1 ⟨rfl, hb1⟩) | (with_reducible refine (HL2.out _).mono ?_; rintro e w1 ⟨rfl, hb1⟩) | (with_reducible refine (HL3.out _).mono ?_; rintro e w1 ⟨rfl, hb1⟩)) | (go_at_call 38; first | (with_reducible refine (HF1.out _).mono ?_; rintro e w1 ⟨rfl, hb1⟩) | (with_reducible refine (HF2.out _).mono ?_; rintro e w1 ⟨rfl, hb1⟩) | (with_reducible refine (HF3.out _).mono ?_; rintro e w1 ⟨rfl, hb1⟩)) | (go_at_call 19; first | (with_reducible refine (HT1.out _).mono ?_; rintro e w1 ⟨rfl, hb1⟩) | (with_reducible refine (HT2.out _).mono ?_; rintro e w1 ⟨rfl, hb1⟩))
        refine hK.out _ _ ?_ (fun hH1 => ?_)
        · (first | (go_keep; done) | ((try go_split_ands); (repeat' apply And.intro) <;> first | assumption | (with_reducible refine Rd.below ?_ hb1; assumption) | (with_reducible refine Rd.drew ?_; repeat' (first | assumption | (with_reducible refine Rd.alloc ?_ _))) | (refine (hb1.cell (by first | omega | (simp; done) | (simp; omega))).trans ?_; first | assumption | simp) | (exact below_step hb1 (by first | omega | (simp; done) | (simp; omega)) (by assumption)) | (have hz' := hb1.size; (try simp at hz'); omega) | ((repeat' (first | assumption | (with_reducible exact Below.refl _ _) | (with_reducible refine Below.drew ?_) | (with_reducible refine Below.alloc ?_ ?_ _) | (with_reducible refine Below.setCell ?_ ?_ _) | omega | (simp; done) | (simp; omega))); done) | go_simp | (simp; done) | (simp; omega)))
        clear hK K hH0
        try simp only [Act.put, List.setIfInBounds_toArray, List.set_cons_zero, List.set_cons_succ]
        refine hold_plain 2 (v := ?_) hHC hH1 (by simp only [List.getElem?_toArray, List.getElem?_cons_succ, List.getElem?_cons_zero]; rfl) rfl (by kernel_rfl) ?_ ?_
        rotate_left 1
        · (intro w hSw; (try dsimp only at hSw); go_simp; try with_reducible rfl)
        try simp only [Act.put, List.setIfInBounds_toArray, List.set_cons_zero, List.set_cons_succ]
        refine hold_yes 3 (v := ?_) hHC hH1 (by simp only [List.getElem?_toArray, List.getElem?_cons_succ, List.getElem?_cons_zero]; rfl) rfl (by kernel_rfl) (by kernel_rfl) ?_ ?_
        rotate_left 1
        · (intro w hSw; (try dsimp only at hSw); go_simp; try with_reducible rfl)
        try simp only [Act.put, List.setIfInBounds_toArray, List.set_cons_zero, List.set_cons_succ]
        refine hold_yes 5 (v := ?_) hHC hH1 (by simp only [List.getElem?_toArray, List.getElem?_cons_succ, List.getElem?_cons_zero]; rfl) rfl (by kernel_rfl) (by kernel_rfl) ?_ ?_
        rotate_left 1
        · (intro w hSw; (try dsimp only at hSw); go_simp; try with_reducible rfl)
        try simp only [Act.put, List.setIfInBounds_toArray, List.set_cons_zero, List.set_cons_succ]
        refine hold_call1 4 (by simp only [List.getElem?_toArray, List.getElem?_cons_succ, List.getElem?_cons_zero]; rfl) rfl (by kernel_rfl) (by kernel_rfl) (fun K hK => ?_)
        go_simp
        first | (go_at_call 35; first | (with_reducible refine (HD.out _).mono ?_; rintro e w1 ⟨rfl, hb1⟩)) | (go_at_call 36; first | (with_reducible refine (HA.out _).mono ?_; rintro e w1 ⟨rfl, hb1⟩) | (with_reducible refine (HC.out _).mono ?_; rintro e w1 ⟨rfl, hb1⟩)) | (go_at_call 37; first | (with_reducible refine (HL1.out _).mono ?_; rintro e w1 ⟨rfl, hb1⟩) | (with_reducible refine (HL2.out _).mono ?_; rintro e w1 ⟨rfl, hb1⟩) | (with_reducible refine (HL3.out _).mono ?_; rintro e w1 ⟨rfl, hb1⟩)) | (go_at_call 38; first | (with_reducible refine (HF1.out _).mono ?_; rintro e w1 ⟨rfl, hb1⟩) | (with_reducible refine (HF2.out _).mono ?_; rintro e w1 ⟨rfl, hb1⟩) | (with_reducible refine (HF3.out _).mono ?_; rintro e w1 ⟨rfl, hb1⟩)) | (go_at_call 19; first | (with_reducible refine (HT1.out _).mono ?_; rintro e w1 ⟨rfl, hb1⟩) | (with_reducible refine (HT2.out _).mono ?_; rintro e w1 ⟨rfl, hb1⟩))
        refine hK.out _ _ ?_ (fun hH2 => ?_)
        · (first | (go_keep; done) | ((try go_split_ands); (repeat' apply And.intro) <;> first | assumption | (with_reducible refine Rd.below ?_ hb1; assumption) | (with_reducible refine Rd.drew ?_; repeat' (first | assumption | (with_reducible refine Rd.alloc ?_ _))) | (refine (hb1.cell (by first | omega | (simp; done) | (simp; omega))).trans ?_; first | assumption | simp) | (exact below_step hb1 (by first | omega | (simp; done) | (simp; omega)) (by assumption)) | (have hz' := hb1.size; (try simp at hz'); omega) | ((repeat' (first | assumption | (with_reducible exact Below.refl _ _) | (with_reducible refine Below.drew ?_) | (with_reducible refine Below.alloc ?_ ?_ _) | (with_reducible refine Below.setCell ?_ ?_ _) | omega | (simp; done) | (simp; omega))); done) | go_simp | (simp; done) | (simp; omega)))
        clear hK K hH1
        try simp only [Act.put, List.setIfInBounds_toArray, List.set_cons_zero, List.set_cons_succ]
        refine hold_call1 6 (by simp only [List.getElem?_toArray, List.getElem?_cons_succ, List.getElem?_cons_zero]; rfl) rfl (by kernel_rfl) (by kernel_rfl) (fun K hK => ?_)
        go_simp
        first | (go_at_call 35; first | (with_reducible refine (HD.out _).mono ?_; rintro e w1 ⟨rfl, hb1⟩)) | (go_at_call 36; first | (with_reducible refine (HA.out _).mono ?_; rintro e w1 ⟨rfl, hb1⟩) | (with_reducible refine (HC.out _).mono ?_; rintro e w1 ⟨rfl, hb1⟩)) | (go_at_call 37; first | (with_reducible refine (HL1.out _).mono ?_; rintro e w1 ⟨rfl, hb1⟩) | (with_reducible refine (HL2.out _).mono ?_; rintro e w1 ⟨rfl, hb1⟩) | (with_reducible refine (HL3.out _).mono ?_; rintro e w1 ⟨rfl, hb1⟩)) | (go_at_call 38; first | (with_reducible refine (HF1.out _).mono ?_; rintro e w1 ⟨rfl, hb1⟩) | (with_reducible refine (HF2.out _).mono ?_; rintro e w1 ⟨rfl, hb1⟩) | (with_reducible refine (HF3.out _).mono ?_; rintro e w1 ⟨rfl, hb1⟩)) | (go_at_call 19; first | (with_reducible refine (HT1.out _).mono ?_; rintro e w1 ⟨rfl, hb1⟩) | (with_reducible refine (HT2.out _).mono ?_; rintro e w1 ⟨rfl, hb1⟩))
        refine hK.out _ _ ?_ (fun hH3 => ?_)
        · (first | (go_keep; done) | ((try go_split_ands); (repeat' apply And.intro) <;> first | assumption | (with_reducible refine Rd.below ?_ hb1; assumption) | (with_reducible refine Rd.drew ?_; repeat' (first | assumption | (with_reducible refine Rd.alloc ?_ _))) | (refine (hb1.cell (by first | omega | (simp; done) | (simp; omega))).trans ?_; first | assumption | simp) | (exact below_step hb1 (by first | omega | (simp; done) | (simp; omega)) (by assumption)) | (have hz' := hb1.size; (try simp at hz'); omega) | ((repeat' (first | assumption | (with_reducible exact Below.refl _ _) | (with_reducible refine Below.drew ?_) | (with_reducible refine Below.alloc ?_ ?_ _) | (with_reducible refine Below.setCell ?_ ?_ _) | omega | (simp; done) | (simp; omega))); done) | go_simp | (simp; done) | (simp; omega)))
        clear hK K hH2
        try simp only [Act.put, List.setIfInBounds_toArray, List.set_cons_zero, List.set_cons_succ]
        refine hold_yes 7 (v := ?_) hHC hH3 (by simp only [List.getElem?_toArray, List.getElem?_cons_succ, List.getElem?_cons_zero]; rfl) rfl (by kernel_rfl) (by kernel_rfl) ?_ ?_
        rotate_left 1
        · (intro w hSw; (try dsimp only at hSw); go_simp; try with_reducible rfl)
        try simp only [Act.put, List.setIfInBounds_toArray, List.set_cons_zero, List.set_cons_succ]
        refine hold_plain 8 (v := ?_) hHC hH3 (by simp only [List.getElem?_toArray, List.getElem?_cons_succ, List.getElem?_cons_zero]; rfl) rfl (by kernel_rfl) ?_ ?_
        rotate_left 1
        · (intro w hSw; (try dsimp only at hSw); go_simp; try with_reducible rfl)
        try simp only [Act.put, List.setIfInBounds_toArray, List.set_cons_zero, List.set_cons_succ]
        refine hold_plain 9 (v := ?_) hHC hH3 (by simp only [List.getElem?_toArray, List.getElem?_cons_succ, List.getElem?_cons_zero]; rfl) rfl (by kernel_rfl) ?_ ?_
        rotate_left 1
        · (intro w hSw; (try dsimp only at hSw); go_simp; try with_reducible rfl)
        try simp only [Act.put, List.setIfInBounds_toArray, List.set_cons_zero, List.set_cons_succ]
        refine hold_yes 10 (v := ?_) hHC hH3 (by simp only [List.getElem?_toArray, List.getElem?_cons_succ, List.getElem?_cons_zero]; rfl) rfl (by kernel_rfl) (by kernel_rfl) ?_ ?_
        rotate_left 1
        · (intro w hSw; (try dsimp only at hSw); go_simp; try with_reducible rfl)
        try simp only [Act.put, List.setIfInBounds_toArray, List.set_cons_zero, List.set_cons_succ]
        refine hold_plain 11 (v := ?_) hHC hH3 (by simp only [List.getElem?_toArray, List.getElem?_cons_succ, List.getElem?_cons_zero]; rfl) rfl (by kernel_rfl) ?_ ?_
        rotate_left 1
        · (intro w hSw; (try dsimp only at hSw); go_simp; try with_reducible rfl)
        try simp only [Act.put, List.setIfInBounds_toArray, List.set_cons_zero, List.set_cons_succ]
        refine hold_plain 12 (v := ?_) hHC hH3 (by simp only [List.getElem?_toArray, List.getElem?_cons_succ, List.getElem?_cons_zero]; rfl) rfl (by kernel_rfl) ?_ ?_
        rotate_left 1
        · (intro w hSw; (try dsimp only at hSw); go_simp; try with_reducible rfl)
        try simp only [Act.put, List.setIfInBounds_toArray, List.set_cons_zero, List.set_cons_succ]
        refine hold_yes 13 (v := ?_) hHC hH3 (by simp only [List.getElem?_toArray, List.getElem?_cons_succ, List.getElem?_cons_zero]; rfl) rfl (by kernel_rfl) (by kernel_rfl) ?_ ?_
        rotate_left 1
        · (intro w hSw; (try dsimp only at hSw); go_simp; try with_reducible rfl)
        try simp only [Act.put, List.setIfInBounds_toArray, List.set_cons_zero, List.set_cons_succ]
        refine hold_yes 14 (v := ?_) hHC hH3 (by simp only [List.getElem?_toArray, List.getElem?_cons_succ, List.getElem?_cons_zero]; rfl) rfl (by kernel_rfl) (by kernel_rfl) ?_ ?_
        rotate_left 1
        · (intro w hSw; (try dsimp only at hSw); go_simp; try with_reducible rfl)
        try simp only [Act.put, List.setIfInBounds_toArray, List.set_cons_zero, List.set_cons_succ]
        refine hold_yes 15 (v := ?_) hHC hH3 (by simp only [List.getElem?_toArray, List.getElem?_cons_succ, List.getElem?_cons_zero]; rfl) rfl (by kernel_rfl) (by kernel_rfl) ?_ ?_
        rotate_left 1
        · (intro w hSw; (try dsimp only at hSw); go_simp; try with_reducible rfl)
        try simp only [Act.put, List.setIfInBounds_toArray, List.set_cons_zero, List.set_cons_succ]
        refine hold_plain 16 (v := ?_) hHC hH3 (by simp only [List.getElem?_toArray, List.getElem?_cons_succ, List.getElem?_cons_zero]; rfl) rfl (by kernel_rfl) ?_ ?_
        rotate_left 1
        · (intro w hSw; (try dsimp only at hSw); go_simp; try with_reducible rfl)
        try simp only [Act.put, List.setIfInBounds_toArray, List.set_cons_zero, List.set_cons_succ]
        refine hold_plain 17 (v := ?_) hHC hH3 (by simp only [List.getElem?_toArray, List.getElem?_cons_succ, List.getElem?_cons_zero]; rfl) rfl (by kernel_rfl) ?_ ?_
        rotate_left 1
        · (intro w hSw; (try dsimp only at hSw); go_simp; try with_reducible rfl)
        try simp only [Act.put, List.setIfInBounds_toArray, List.set_cons_zero, List.set_cons_succ]
        refine hold_yes 18 (v := ?_) hHC hH3 (by simp only [List.getElem?_toArray, List.getElem?_cons_succ, List.getElem?_cons_zero]; rfl) rfl (by kernel_rfl) (by kernel_rfl) ?_ ?_
        rotate_left 1
        · (intro w hSw; (try dsimp only at hSw); go_simp; try with_reducible rfl)
        try simp only [Act.put, List.setIfInBounds_toArray, List.set_cons_zero, List.set_cons_succ]
        refine hold_yes 19 (v := ?_) hHC hH3 (by simp only [List.getElem?_toArray, List.getElem?_cons_succ, List.getElem?_cons_zero]; rfl) rfl (by kernel_rfl) (by kernel_rfl) ?_ ?_
        rotate_left 1
        · (intro w hSw; (try dsimp only at hSw); go_simp; try with_reducible rfl)
        try simp only [Act.put, List.setIfInBounds_toArray, List.set_cons_zero, List.set_cons_succ]
        refine hold_yes 21 (v := ?_) hHC hH3 (by simp only [List.getElem?_toArray, List.getElem?_cons_succ, List.getElem?_cons_zero]; rfl) rfl (by kernel_rfl) (by kernel_rfl) ?_ ?_
        rotate_left 1
        · (intro w hSw; (try dsimp only at hSw); go_simp; try with_reducible rfl)
        try simp only [Act.put, List.setIfInBounds_toArray, List.set_cons_zero, List.set_cons_succ]
        refine hold_yes 22 (v := ?_) hHC hH3 (by simp only [List.getElem?_toArray, List.getElem?_cons_succ, List.getElem?_cons_zero]; rfl) rfl (by kernel_rfl) (by kernel_rfl) ?_ ?_
        rotate_left 1
        · (intro w hSw; (try dsimp only at hSw); go_simp; try with_reducible rfl)
        try simp only [Act.put, List.setIfInBounds_toArray, List.set_cons_zero, List.set_cons_succ]
        refine hold_call1 20 (by simp only [List.getElem?_toArray, List.getElem?_cons_succ, List.getElem?_cons_zero]; rfl) rfl (by kernel_rfl) (by kernel_rfl) (fun K hK => ?_)
        go_simp
        first | (go_at_call 35; first | (with_reducible refine (HD.out _).mono ?_; rintro e w1 ⟨rfl, hb1⟩)) | (go_at_call 36; first | (with_reducible refine (HA.out _).mono ?_; rintro e w1 ⟨rfl, hb1⟩) | (with_reducible refine (HC.out _).mono ?_; rintro e w1 ⟨rfl, hb1⟩)) | (go_at_call 37; first | (with_reducible refine (HL1.out _).mono ?_; rintro e w1 ⟨rfl, hb1⟩) | (with_reducible refine (HL2.out _).mono ?_; rintro e w1 ⟨rfl, hb1⟩) | (with_reducible refine (HL3.out _).mono ?_; rintro e w1 ⟨rfl, hb1⟩)) | (go_at_call 38; first | (with_reducible refine (HF1.out _).mono ?_; rintro e w1 ⟨rfl, hb1⟩) | (with_reducible refine (HF2.out _).mono ?_; rintro e w1 ⟨rfl, hb1⟩) | (with_reducible refine (HF3.out _).mono ?_; rintro e w1 ⟨rfl, hb1⟩)) | (go_at_call 19; first | (with_reducible refine (HT1.out _).mono ?_; rintro e w1 ⟨rfl, hb1⟩) | (with_reducible refine (HT2.out _).mono ?_; rintro e w1 ⟨rfl, hb1⟩))
        refine hK.out _ _ ?_ (fun hH4 => ?_)
        · (first | (go_keep; done) | ((try go_split_ands); (repeat' apply And.intro) <;> first | assumption | (with_reducible refine Rd.below ?_ hb1; assumption) | (with_reducible refine Rd.drew ?_; repeat' (first | assumption | (with_reducible refine Rd.alloc ?_ _))) | (refine (hb1.cell (by first | omega | (simp; done) | (simp; omega))).trans ?_; first | assumption | simp) | (exact below_step hb1 (by first | omega | (simp; done) | (simp; omega)) (by assumption)) | (have hz' := hb1.size; (try simp at hz'); omega) | ((repeat' (first | assumption | (with_reducible exact Below.refl _ _) | (with_reducible refine Below.drew ?_) | (with_reducible refine Below.alloc ?_ ?_ _) | (with_reducible refine Below.setCell ?_ ?_ _) | omega | (simp; done) | (simp; omega))); done) | go_simp | (simp; done) | (simp; omega)))
        clear hK K hH3
        try simp only [Act.put, List.setIfInBounds_toArray, List.set_cons_zero, List.set_cons_succ]
        refine hold_call1 23 (by simp only [List.getElem?_toArray, List.getElem?_cons_succ, List.getElem?_cons_zero]; rfl) rfl (by kernel_rfl) (by kernel_rfl) (fun K hK => ?_)
        go_simp
        first | (go_at_call 35; first | (with_reducible refine (HD.out _).mono ?_; rintro e w1 ⟨rfl, hb1⟩)) | (go_at_call 36; first | (with_reducible refine (HA.out _).mono ?_; rintro e w1 ⟨rfl, hb1⟩) | (with_reducible refine (HC.out _).mono ?_; rintro e w1 ⟨rfl, hb1⟩)) | (go_at_call 37; first | (with_reducible refine (HL1.out _).mono ?_; rintro e w1 ⟨rfl, hb1⟩) | (with_reducible refine (HL2.out _).mono ?_; rintro e w1 ⟨rfl, hb1⟩) | (with_reducible refine (HL3.out _).mono ?_; rintro e w1 ⟨rfl, hb1⟩)) | (go_at_call 38; first | (with_reducible refine (HF1.out _).mono ?_; rintro e w1 ⟨rfl, hb1⟩) | (with_reducible refine (HF2.out _).mono ?_; rintro e w1 ⟨rfl, hb1⟩) | (with_reducible refine (HF3.out _).mono ?_; rintro e w1 ⟨rfl, hb1⟩)) | (go_at_call 19; first | (with_reducible refine (HT1.out _).mono ?_; rintro e w1 ⟨rfl, hb1⟩) | (with_reducible refine (HT2.out _).mono ?_; rintro e w1 ⟨rfl, hb1⟩))
        refine hK.out _ _ ?_ (fun hH5 => ?_)
        · (first | (go_keep; done) | ((try go_split_ands); (repeat' apply And.intro) <;> first | assumption | (with_reducible refine Rd.below ?_ hb1; assumption) | (with_reducible refine Rd.drew ?_; repeat' (first | assumption | (with_reducible refine Rd.alloc ?_ _))) | (refine (hb1.cell (by first | omega | (simp; done) | (simp; omega))).trans ?_; first | assumption | simp) | (exact below_step hb1 (by first | omega | (simp; done) | (simp; omega)) (by assumption)) | (have hz' := hb1.size; (try simp at hz'); omega) | ((repeat' (first | assumption | (with_reducible exact Below.refl _ _) | (with_reducible refine Below.drew ?_) | (with_reducible refine Below.alloc ?_ ?_ _) | (with_reducible refine Below.setCell ?_ ?_ _) | omega | (simp; done) | (simp; omega))); done) | go_simp | (simp; done) | (simp; omega)))
        clear hK K hH4
        try simp only [Act.put, List.setIfInBounds_toArray, List.set_cons_zero, List.set_cons_succ]
        refine hold_yes 24 (v := ?_) hHC hH5 (by simp only [List.getElem?_toArray, List.getElem?_cons_succ, List.getElem?_cons_zero]; rfl) rfl (by kernel_rfl) (by kernel_rfl) ?_ ?_
        rotate_left 1
        · (intro w hSw; (try dsimp only at hSw); go_simp; try with_reducible rfl)
        try simp only [Act.put, List.setIfInBounds_toArray, List.set_cons_zero, List.set_cons_succ]
        refine hold_plain 25 (v := ?_) hHC hH5 (by simp only [List.getElem?_toArray, List.getElem?_cons_succ, List.getElem?_cons_zero]; rfl) rfl (by kernel_rfl) ?_ ?_
        rotate_left 1
        · (intro w hSw; (try dsimp only at hSw); go_simp; try with_reducible rfl)
        try simp only [Act.put, List.setIfInBounds_toArray, List.set_cons_zero, List.set_cons_succ]
        refine hold_plain 26 (v := ?_) hHC hH5 (by simp only [List.getElem?_toArray, List.getElem?_cons_succ, List.getElem?_cons_zero]; rfl) rfl (by kernel_rfl) ?_ ?_
        rotate_left 1
        · (intro w hSw; (try dsimp only at hSw); go_simp; try with_reducible rfl)
        try simp only [Act.put, List.setIfInBounds_toArray, List.set_cons_zero, List.set_cons_succ]
        refine hold_yes 27 (v := ?_) hHC hH5 (by simp only [List.getElem?_toArray, List.getElem?_cons_succ, List.getElem?_cons_zero]; rfl) rfl (by kernel_rfl) (by kernel_rfl) ?_ ?_
        rotate_left 1
        · (intro w hSw; (try dsimp only at hSw); go_simp; try with_reducible rfl)
        try simp only [Act.put, List.setIfInBounds_toArray, List.set_cons_zero, List.set_cons_succ]
        refine hold_yes 28 (v := ?_) hHC hH5 (by simp only [List.getElem?_toArray, List.getElem?_cons_succ, List.getElem?_cons_zero]; rfl) rfl (by kernel_rfl) (by kernel_rfl) ?_ ?_
        rotate_left 1
        · (intro w hSw; (try dsimp only at hSw); go_simp; try with_reducible rfl)
        try simp only [Act.put, List.setIfInBounds_toArray, List.set_cons_zero, List.set_cons_succ]
        refine hold_call1 29 (by simp only [List.getElem?_toArray, List.getElem?_cons_succ, List.getElem?_cons_zero]; rfl) rfl (by kernel_rfl) (by kernel_rfl) (fun K hK => ?_)
        go_simp
        first | (go_at_call 35; first | (with_reducible refine (HD.out _).mono ?_; rintro e w1 ⟨rfl, hb1⟩)) | (go_at_call 36; first | (with_reducible refine (HA.out _).mono ?_; rintro e w1 ⟨rfl, hb1⟩) | (with_reducible refine (HC.out _).mono ?_; rintro e w1 ⟨rfl, hb1⟩)) | (go_at_call 37; first | (with_reducible refine (HL1.out _).mono ?_; rintro e w1 ⟨rfl, hb1⟩) | (with_reducible refine (HL2.out _).mono ?_; rintro e w1 ⟨rfl, hb1⟩) | (with_reducible refine (HL3.out _).mono ?_; rintro e w1 ⟨rfl, hb1⟩)) | (go_at_call 38; first | (with_reducible refine (HF1.out _).mono ?_; rintro e w1 ⟨rfl, hb1⟩) | (with_reducible refine (HF2.out _).mono ?_; rintro e w1 ⟨rfl, hb1⟩) | (with_reducible refine (HF3.out _).mono ?_; rintro e w1 ⟨rfl, hb1⟩)) | (go_at_call 19; first | (with_reducible refine (HT1.out _).mono ?_; rintro e w1 ⟨rfl, hb1⟩) | (with_reducible refine (HT2.out _).mono ?_; rintro e w1 ⟨rfl, hb1⟩))
        refine hK.out _ _ ?_ (fun hH6 => ?_)
        · (first | (go_keep; done) | ((try go_split_ands); (repeat' apply And.intro) <;> first | assumption | (with_reducible refine Rd.below ?_ hb1; assumption) | (with_reducible refine Rd.drew ?_; repeat' (first | assumption | (with_reducible refine Rd.alloc ?_ _))) | (refine (hb1.cell (by first | omega | (simp; done) | (simp; omega))).trans ?_; first | assumption | simp) | (exact below_step hb1 (by first | omega | (simp; done) | (simp; omega)) (by assumption)) | (have hz' := hb1.size; (try simp at hz'); omega) | ((repeat' (first | assumption | (with_reducible exact Below.refl _ _) | (with_reducible refine Below.drew ?_) | (with_reducible refine Below.alloc ?_ ?_ _) | (with_reducible refine Below.setCell ?_ ?_ _) | omega | (simp; done) | (simp; omega))); done) | go_simp | (simp; done) | (simp; omega)))
        clear hK K hH5
        try simp only [Act.put, List.setIfInBounds_toArray, List.set_cons_zero, List.set_cons_succ]
        refine hold_plain 30 (v := ?_) hHC hH6 (by simp only [List.getElem?_toArray, List.getElem?_cons_succ, List.getElem?_cons_zero]; rfl) rfl (by kernel_rfl) ?_ ?_
        rotate_left 1
        · (intro w hSw; (try dsimp only at hSw); go_simp; try with_reducible rfl)
        try simp only [Act.put, List.setIfInBounds_toArray, List.set_cons_zero, List.set_cons_succ]
        refine hold_plain 31 (v := ?_) hHC hH6 (by simp only [List.getElem?_toArray, List.getElem?_cons_succ, List.getElem?_cons_zero]; rfl) rfl (by kernel_rfl) ?_ ?_
        rotate_left 1
        · (intro w hSw; (try dsimp only at hSw); go_simp; try with_reducible rfl)
        try simp only [Act.put, List.setIfInBounds_toArray, List.set_cons_zero, List.set_cons_succ]
        refine hold_yes 32 (v := ?_) hHC hH6 (by simp only [List.getElem?_toArray, List.getElem?_cons_succ, List.getElem?_cons_zero]; rfl) rfl (by kernel_rfl) (by kernel_rfl) ?_ ?_
        rotate_left 1
        · (intro w hSw; (try dsimp only at hSw); go_simp; try with_reducible rfl)
        try simp only [Act.put, List.setIfInBounds_toArray, List.set_cons_zero, List.set_cons_succ]
        refine hold_yes 33 (v := ?_) hHC hH6 (by simp only [List.getElem?_toArray, List.getElem?_cons_succ, List.getElem?_cons_zero]; rfl) rfl (by kernel_rfl) (by kernel_rfl) ?_ ?_
        rotate_left 1
        · (intro w hSw; (try dsimp only at hSw); go_simp; try with_reducible rfl)
        try simp only [Act.put, List.setIfInBounds_toArray, List.set_cons_zero, List.set_cons_succ]
        refine hold_yes 34 (v := ?_) hHC hH6 (by simp only [List.getElem?_toArray, List.getElem?_cons_succ, List.getElem?_cons_zero]; rfl) rfl (by kernel_rfl) (by kernel_rfl) ?_ ?_
        rotate_left 1
        · (intro w hSw; (try dsimp only at hSw); go_simp; try with_reducible rfl)
        try simp only [Act.put, List.setIfInBounds_toArray, List.set_cons_zero, List.set_cons_succ]
        refine hold_yes 35 (v := ?_) hHC hH6 (by simp only [List.getElem?_toArray, List.getElem?_cons_succ, List.getElem?_cons_zero]; rfl) rfl (by kernel_rfl) (by kernel_rfl) ?_ ?_
        rotate_left 1
        · (intro w hSw; (try dsimp only at hSw); go_simp; try with_reducible rfl)
        try simp only [Act.put, List.setIfInBounds_toArray, List.set_cons_zero, List.set_cons_succ]
        refine hold_yes 36 (v := ?_) hHC hH6 (by simp only [List.getElem?_toArray, List.getElem?_cons_succ, List.getElem?_cons_zero]; rfl) rfl (by kernel_rfl) (by kernel_rfl) ?_ ?_
        rotate_left 1
        · (intro w hSw; (try dsimp only at hSw); go_simp; try with_reducible rfl)
        try simp only [Act.put, List.setIfInBounds_toArray, List.set_cons_zero, List.set_cons_succ]
        refine hold_yes 37 (v := ?_) hHC hH6 (by simp only [List.getElem?_toArray, List.getElem?_cons_succ, List.getElem?_cons_zero]; rfl) rfl (by kernel_rfl) (by kernel_rfl) ?_ ?_
        rotate_left 1
        · (intro w hSw; (try dsimp only at hSw); go_simp; try with_reducible rfl)
        try simp only [Act.put, List.setIfInBounds_toArray, List.set_cons_zero, List.set_cons_succ]
        refine hold_yes 39 (v := ?_) hHC hH6 (by simp only [List.getElem?_toArray, List.getElem?_cons_succ, List.getElem?_cons_zero]; rfl) rfl (by kernel_rfl) (by kernel_rfl) ?_ ?_
        rotate_left 1
        · (intro w hSw; (try dsimp only at hSw); go_simp; try with_reducible rfl)
        try simp only [Act.put, List.setIfInBounds_toArray, List.set_cons_zero, List.set_cons_succ]
        refine hold_yes 40 (v := ?_) hHC hH6 (by simp only [List.getElem?_toArray, List.getElem?_cons_succ, List.getElem?_cons_zero]; rfl) rfl (by kernel_rfl) (by kernel_rfl) ?_ ?_
        rotate_left 1
        · (intro w hSw; (try dsimp only at hSw); go_simp; try with_reducible rfl)
        try simp only [Act.put, List.setIfInBounds_toArray, List.set_cons_zero, List.set_cons_succ]
        refine hold_call1 38 (by simp only [List.getElem?_toArray, List.getElem?_cons_succ, List.getElem?_cons_zero]; rfl) rfl (by kernel_rfl) (by kernel_rfl) (fun K hK => ?_)
        go_simp
        first | (go_at_call 35; first | (with_reducible refine (HD.out _).mono ?_; rintro e w1 ⟨rfl, hb1⟩)) | (go_at_call 36; first | (with_reducible refine (HA.out _).mono ?_; rintro e w1 ⟨rfl, hb1⟩) | (with_reducible refine (HC.out _).mono ?_; rintro e w1 ⟨rfl, hb1⟩)) | (go_at_call 37; first | (with_reducible refine (HL1.out _).mono ?_; rintro e w1 ⟨rfl, hb1⟩) | (with_reducible refine (HL2.out _).mono ?_; rintro e w1 ⟨rfl, hb1⟩) | (with_reducible refine (HL3.out _).mono ?_; rintro e w1 ⟨rfl, hb1⟩)) | (go_at_call 38; first | (with_reducible refine (HF1.out _).mono ?_; rintro e w1 ⟨rfl, hb1⟩) | (with_reducible refine (HF2.out _).mono ?_; rintro e w1 ⟨rfl, hb1⟩) | (with_reducible refine (HF3.out _).mono ?_; rintro e w1 ⟨rfl, hb1⟩)) | (go_at_call 19; first | (with_reducible refine (HT1.out _).mono ?_; rintro e w1 ⟨rfl, hb1⟩) | (with_reducible refine (HT2.out _).mono ?_; rintro e w1 ⟨rfl, hb1⟩))
        refine hK.out _ _ ?_ (fun hH7 => ?_)
        · (first | (go_keep; done) | ((try go_split_ands); (repeat' apply And.intro) <;> first | assumption | (with_reducible refine Rd.below ?_ hb1; assumption) | (with_reducible refine Rd.drew ?_; repeat' (first | assumption | (with_reducible refine Rd.alloc ?_ _))) | (refine (hb1.cell (by first | omega | (simp; done) | (simp; omega))).trans ?_; first | assumption | simp) | (exact below_step hb1 (by first | omega | (simp; done) | (simp; omega)) (by assumption)) | (have hz' := hb1.size; (try simp at hz'); omega) | ((repeat' (first | assumption | (with_reducible exact Below.refl _ _) | (with_reducible refine Below.drew ?_) | (with_reducible refine Below.alloc ?_ ?_ _) | (with_reducible refine Below.setCell ?_ ?_ _) | omega | (simp; done) | (simp; omega))); done) | go_simp | (simp; done) | (simp; omega)))
        clear hK K hH6
        try simp only [Act.put, List.setIfInBounds_toArray, List.set_cons_zero, List.set_cons_succ]
        refine hold_call1 41 (by simp only [List.getElem?_toArray, List.getElem?_cons_succ, List.getElem?_cons_zero]; rfl) rfl (by kernel_rfl) (by kernel_rfl) (fun K hK => ?_)
        go_simp
        first | (go_at_call 35; first | (with_reducible refine (HD.out _).mono ?_; rintro e w1 ⟨rfl, hb1⟩)) | (go_at_call 36; first | (with_reducible refine (HA.out _).mono ?_; rintro e w1 ⟨rfl, hb1⟩) | (with_reducible refine (HC.out _).mono ?_; rintro e w1 ⟨rfl, hb1⟩)) | (go_at_call 37; first | (with_reducible refine (HL1.out _).mono ?_; rintro e w1 ⟨rfl, hb1⟩) | (with_reducible refine (HL2.out _).mono ?_; rintro e w1 ⟨rfl, hb1⟩) | (with_reducible refine (HL3.out _).mono ?_; rintro e w1 ⟨rfl, hb1⟩)) | (go_at_call 38; first | (with_reducible refine (HF1.out _).mono ?_; rintro e w1 ⟨rfl, hb1⟩) | (with_reducible refine (HF2.out _).mono ?_; rintro e w1 ⟨rfl, hb1⟩) | (with_reducible refine (HF3.out _).mono ?_; rintro e w1 ⟨rfl, hb1⟩)) | (go_at_call 19; first | (with_reducible refine (HT1.out _).mono ?_; rintro e w1 ⟨rfl, hb1⟩) | (with_reducible refine (HT2.out _).mono ?_; rintro e w1 ⟨rfl, hb1⟩))
        refine hK.out _ _ ?_ (fun hH8 => ?_)
        · (first | (go_keep; done) | ((try go_split_ands); (repeat' apply And.intro) <;> first | assumption | (with_reducible refine Rd.below ?_ hb1; assumption) | (with_reducible refine Rd.drew ?_; repeat' (first | assumption | (with_reducible refine Rd.alloc ?_ _))) | (refine (hb1.cell (by first | omega | (simp; done) | (simp; omega))).trans ?_; first | assumption | simp) | (exact below_step hb1 (by first | omega | (simp; done) | (simp; omega)) (by assumption)) | (have hz' := hb1.size; (try simp at hz'); omega) | ((repeat' (first | assumption | (with_reducible exact Below.refl _ _) | (with_reducible refine Below.drew ?_) | (with_reducible refine Below.alloc ?_ ?_ _) | (with_reducible refine Below.setCell ?_ ?_ _) | omega | (simp; done) | (simp; omega))); done) | go_simp | (simp; done) | (simp; omega)))
        clear hK K hH7
        try simp only [Act.put, List.setIfInBounds_toArray, List.set_cons_zero, List.set_cons_succ]
        refine hold_yes 42 (v := ?_) hHC hH8 (by simp only [List.getElem?_toArray, List.getElem?_cons_succ, List.getElem?_cons_zero]; rfl) rfl (by kernel_rfl) (by kernel_rfl) ?_ ?_
        rotate_left 1
        · (intro w hSw; (try dsimp only at hSw); go_simp; try with_reducible rfl)
        try simp only [Act.put, List.setIfInBounds_toArray, List.set_cons_zero, List.set_cons_succ]
        refine hold_yes 43 (v := ?_) hHC hH8 (by simp only [List.getElem?_toArray, List.getElem?_cons_succ, List.getElem?_cons_zero]; rfl) rfl (by kernel_rfl) (by kernel_rfl) ?_ ?_
        rotate_left 1
        · (intro w hSw; (try dsimp only at hSw); go_simp; try with_reducible rfl)
        try simp only [Act.put, List.setIfInBounds_toArray, List.set_cons_zero, List.set_cons_succ]
        refine hold_plain 44 (v := ?_) hHC hH8 (by simp only [List.getElem?_toArray, List.getElem?_cons_succ, List.getElem?_cons_zero]; rfl) rfl (by kernel_rfl) ?_ ?_
        rotate_left 1
        · (intro w hSw; (try dsimp only at hSw); go_simp; try with_reducible rfl)
        try simp only [Act.put, List.setIfInBounds_toArray, List.set_cons_zero, List.set_cons_succ]
        refine hold_plain 45 (v := ?_) hHC hH8 (by simp only [List.getElem?_toArray, List.getElem?_cons_succ, List.getElem?_cons_zero]; rfl) rfl (by kernel_rfl) ?_ ?_
        rotate_left 1
        · (intro w hSw; (try dsimp only at hSw); go_simp; try with_reducible rfl)
        try simp only [Act.put, List.setIfInBounds_toArray, List.set_cons_zero, List.set_cons_succ]
        refine hold_yes 46 (v := ?_) hHC hH8 (by simp only [List.getElem?_toArray, List.getElem?_cons_succ, List.getElem?_cons_zero]; rfl) rfl (by kernel_rfl) (by kernel_rfl) ?_ ?_
        rotate_left 1
        · (intro w hSw; (try dsimp only at hSw); go_simp; try with_reducible rfl)
        try simp only [Act.put, List.setIfInBounds_toArray, List.set_cons_zero, List.set_cons_succ]
        refine hold_yes 47 (v := ?_) hHC hH8 (by simp only [List.getElem?_toArray, List.getElem?_cons_succ, List.getElem?_cons_zero]; rfl) rfl (by kernel_rfl) (by kernel_rfl) ?_ ?_
        rotate_left 1
        · (intro w hSw; (try dsimp only at hSw); go_simp; try with_reducible rfl)
        try simp only [Act.put, List.setIfInBounds_toArray, List.set_cons_zero, List.set_cons_succ]
        refine hold_call1 48 (by simp only [List.getElem?_toArray, List.getElem?_cons_succ, List.getElem?_cons_zero]; rfl) rfl (by kernel_rfl) (by kernel_rfl) (fun K hK => ?_)
        go_simp
        first | (go_at_call 35; first | (with_reducible refine (HD.out _).mono ?_; rintro e w1 ⟨rfl, hb1⟩)) | (go_at_call 36; first | (with_reducible refine (HA.out _).mono ?_; rintro e w1 ⟨rfl, hb1⟩) | (with_reducible refine (HC.out _).mono ?_; rintro e w1 ⟨rfl, hb1⟩)) | (go_at_call 37; first | (with_reducible refine (HL1.out _).mono ?_; rintro e w1 ⟨rfl, hb1⟩) | (with_reducible refine (HL2.out _).mono ?_; rintro e w1 ⟨rfl, hb1⟩) | (with_reducible refine (HL3.out _).mono ?_; rintro e w1 ⟨rfl, hb1⟩)) | (go_at_call 38; first | (with_reducible refine (HF1.out _).mono ?_; rintro e w1 ⟨rfl, hb1⟩) | (with_reducible refine (HF2.out _).mono ?_; rintro e w1 ⟨rfl, hb1⟩) | (with_reducible refine (HF3.out _).mono ?_; rintro e w1 ⟨rfl, hb1⟩)) | (go_at_call 19; first | (with_reducible refine (HT1.out _).mono ?_; rintro e w1 ⟨rfl, hb1⟩) | (with_reducible refine (HT2.out _).mono ?_; rintro e w1 ⟨rfl, hb1⟩))
        refine hK.out _ _ ?_ (fun hH9 => ?_)
        · (first | (go_keep; done) | ((try go_split_ands); (repeat' apply And.intro) <;> first | assumption | (with_reducible refine Rd.below ?_ hb1; assumption) | (with_reducible refine Rd.drew ?_; repeat' (first | assumption | (with_reducible refine Rd.alloc ?_ _))) | (refine (hb1.cell (by first | omega | (simp; done) | (simp; omega))).trans ?_; first | assumption | simp) | (exact below_step hb1 (by first | omega | (simp; done) | (simp; omega)) (by assumption)) | (have hz' := hb1.size; (try simp at hz'); omega) | ((repeat' (first | assumption | (with_reducible exact Below.refl _ _) | (with_reducible refine Below.drew ?_) | (with_reducible refine Below.alloc ?_ ?_ _) | (with_reducible refine Below.setCell ?_ ?_ _) | omega | (simp; done) | (simp; omega))); done) | go_simp | (simp; done) | (simp; omega)))
        clear hK K hH8
        try simp only [Act.put, List.setIfInBounds_toArray, List.set_cons_zero, List.set_cons_succ]
        refine hold_yes 49 (v := ?_) hHC hH9 (by simp only [List.getElem?_toArray, List.getElem?_cons_succ, List.getElem?_cons_zero]; rfl) rfl (by kernel_rfl) (by kernel_rfl) ?_ ?_
        rotate_left 1
        · (intro w hSw; (try dsimp only at hSw); go_simp; try with_reducible rfl)
        try simp only [Act.put, List.setIfInBounds_toArray, List.set_cons_zero, List.set_cons_succ]
        refine hold_plain 50 (v := ?_) hHC hH9 (by simp only [List.getElem?_toArray, List.getElem?_cons_succ, List.getElem?_cons_zero]; rfl) rfl (by kernel_rfl) ?_ ?_
        rotate_left 1
        · (intro w hSw; (try dsimp only at hSw); go_simp; try with_reducible rfl)
        try simp only [Act.put, List.setIfInBounds_toArray, List.set_cons_zero, List.set_cons_succ]
        refine hold_plain 51 (v := ?_) hHC hH9 (by simp only [List.getElem?_toArray, List.getElem?_cons_succ, List.getElem?_cons_zero]; rfl) rfl (by kernel_rfl) ?_ ?_
        rotate_left 1
        · (intro w hSw; (try dsimp only at hSw); go_simp; try with_reducible rfl)
        try simp only [Act.put, List.setIfInBounds_toArray, List.set_cons_zero, List.set_cons_succ]
        refine hold_yes 52 (v := ?_) hHC hH9 (by simp only [List.getElem?_toArray, List.getElem?_cons_succ, List.getElem?_cons_zero]; rfl) rfl (by kernel_rfl) (by kernel_rfl) ?_ ?_
        rotate_left 1
        · (intro w hSw; (try dsimp only at hSw); go_simp; try with_reducible rfl)
        try simp only [Act.put, List.setIfInBounds_toArray, List.set_cons_zero, List.set_cons_succ]
        refine hold_call1 53 (by simp only [List.getElem?_toArray, List.getElem?_cons_succ, List.getElem?_cons_zero]; rfl) rfl (by kernel_rfl) (by kernel_rfl) (fun K hK => ?_)
        go_simp
        first | (go_at_call 35; first | (with_reducible refine (HD.out _).mono ?_; rintro e w1 ⟨rfl, hb1⟩)) | (go_at_call 36; first | (with_reducible refine (HA.out _).mono ?_; rintro e w1 ⟨rfl, hb1⟩) | (with_reducible refine (HC.out _).mono ?_; rintro e w1 ⟨rfl, hb1⟩)) | (go_at_call 37; first | (with_reducible refine (HL1.out _).mono ?_; rintro e w1 ⟨rfl, hb1⟩) | (with_reducible refine (HL2.out _).mono ?_; rintro e w1 ⟨rfl, hb1⟩) | (with_reducible refine (HL3.out _).mono ?_; rintro e w1 ⟨rfl, hb1⟩)) | (go_at_call 38; first | (with_reducible refine (HF1.out _).mono ?_; rintro e w1 ⟨rfl, hb1⟩) | (with_reducible refine (HF2.out _).mono ?_; rintro e w1 ⟨rfl, hb1⟩) | (with_reducible refine (HF3.out _).mono ?_; rintro e w1 ⟨rfl, hb1⟩)) | (go_at_call 19; first | (with_reducible refine (HT1.out _).mono ?_; rintro e w1 ⟨rfl, hb1⟩) | (with_reducible refine (HT2.out _).mono ?_; rintro e w1 ⟨rfl, hb1⟩))
        refine hK.out _ _ ?_ (fun hH10 => ?_)
        · (first | (go_keep; done) | ((try go_split_ands); (repeat' apply And.intro) <;> first | assumption | (with_reducible refine Rd.below ?_ hb1; assumption) | (with_reducible refine Rd.drew ?_; repeat' (first | assumption | (with_reducible refine Rd.alloc ?_ _))) | (refine (hb1.cell (by first | omega | (simp; done) | (simp; omega))).trans ?_; first | assumption | simp) | (exact below_step hb1 (by first | omega | (simp; done) | (simp; omega)) (by assumption)) | (have hz' := hb1.size; (try simp at hz'); omega) | ((repeat' (first | assumption | (with_reducible exact Below.refl _ _) | (with_reducible refine Below.drew ?_) | (with_reducible refine Below.alloc ?_ ?_ _) | (with_reducible refine Below.setCell ?_ ?_ _) | omega | (simp; done) | (simp; omega))); done) | go_simp | (simp; done) | (simp; omega)))
        clear hK K hH9
        try simp only [Act.put, List.setIfInBounds_toArray, List.set_cons_zero, List.set_cons_succ]
        refine hold_yes 54 (v := ?_) hHC hH10 (by simp only [List.getElem?_toArray, List.getElem?_cons_succ, List.getElem?_cons_zero]; rfl) rfl (by kernel_rfl) (by kernel_rfl) ?_ ?_
        rotate_left 1
        · (intro w hSw; (try dsimp only at hSw); go_simp; try with_reducible rfl)
        try simp only [Act.put, List.setIfInBounds_toArray, List.set_cons_zero, List.set_cons_succ]
        refine hold_yes 55 (v := ?_) hHC hH10 (by simp only [List.getElem?_toArray, List.getElem?_cons_succ, List.getElem?_cons_zero]; rfl) rfl (by kernel_rfl) (by kernel_rfl) ?_ ?_
        rotate_left 1
        · (intro w hSw; (try dsimp only at hSw); go_simp; try with_reducible rfl)
        try simp only [Act.put, List.setIfInBounds_toArray, List.set_cons_zero, List.set_cons_succ]
        refine hold_plain 56 (v := ?_) hHC hH10 (by simp only [List.getElem?_toArray, List.getElem?_cons_succ, List.getElem?_cons_zero]; rfl) rfl (by kernel_rfl) ?_ ?_
        rotate_left 1
        · (intro w hSw; (try dsimp only at hSw); go_simp; try with_reducible rfl)
        try simp only [Act.put, List.setIfInBounds_toArray, List.set_cons_zero, List.set_cons_succ]
        refine hold_plain 57 (v := ?_) hHC hH10 (by simp only [List.getElem?_toArray, List.getElem?_cons_succ, List.getElem?_cons_zero]; rfl) rfl (by kernel_rfl) ?_ ?_
        rotate_left 1
        · (intro w hSw; (try dsimp only at hSw); go_simp; try with_reducible rfl)
        try simp only [Act.put, List.setIfInBounds_toArray, List.set_cons_zero, List.set_cons_succ]
        refine hold_yes 58 (v := ?_) hHC hH10 (by simp only [List.getElem?_toArray, List.getElem?_cons_succ, List.getElem?_cons_zero]; rfl) rfl (by kernel_rfl) (by kernel_rfl) ?_ ?_
        rotate_left 1
        · (intro w hSw; (try dsimp only at hSw); go_simp; try with_reducible rfl)
        try simp only [Act.put, List.setIfInBounds_toArray, List.set_cons_zero, List.set_cons_succ]
        refine hold_yes 59 (v := ?_) hHC hH10 (by simp only [List.getElem?_toArray, List.getElem?_cons_succ, List.getElem?_cons_zero]; rfl) rfl (by kernel_rfl) (by kernel_rfl) ?_ ?_
        rotate_left 1
        · (intro w hSw; (try dsimp only at hSw); go_simp; try with_reducible rfl)
        try simp only [Act.put, List.setIfInBounds_toArray, List.set_cons_zero, List.set_cons_succ]
        refine hold_yes 60 (v := ?_) hHC hH10 (by simp only [List.getElem?_toArray, List.getElem?_cons_succ, List.getElem?_cons_zero]; rfl) rfl (by kernel_rfl) (by kernel_rfl) ?_ ?_
        rotate_left 1
        · (intro w hSw; (try dsimp only at hSw); go_simp; try with_reducible rfl)
        try simp only [Act.put, List.setIfInBounds_toArray, List.set_cons_zero, List.set_cons_succ]
        refine hold_yes 61 (v := ?_) hHC hH10 (by simp only [List.getElem?_toArray, List.getElem?_cons_succ, List.getElem?_cons_zero]; rfl) rfl (by kernel_rfl) (by kernel_rfl) ?_ ?_
        rotate_left 1
        · (intro w hSw; (try dsimp only at hSw); go_simp; try with_reducible rfl)
        try simp only [Act.put, List.setIfInBounds_toArray, List.set_cons_zero, List.set_cons_succ]
        refine hold_yes 63 (v := ?_) hHC hH10 (by simp only [List.getElem?_toArray, List.getElem?_cons_succ, List.getElem?_cons_zero]; rfl) rfl (by kernel_rfl) (by kernel_rfl) ?_ ?_
        rotate_left 1
        · (intro w hSw; (try dsimp only at hSw); go_simp; try with_reducible rfl)
        try simp only [Act.put, List.setIfInBounds_toArray, List.set_cons_zero, List.set_cons_succ]
        refine hold_call1 62 (by simp only [List.getElem?_toArray, List.getElem?_cons_succ, List.getElem?_cons_zero]; rfl) rfl (by kernel_rfl) (by kernel_rfl) (fun K hK => ?_)
        go_simp
        first | (go_at_call 35; first | (with_reducible refine (HD.out _).mono ?_; rintro e w1 ⟨rfl, hb1⟩)) | (go_at_call 36; first | (with_reducible refine (HA.out _).mono ?_; rintro e w1 ⟨rfl, hb1⟩) | (with_reducible refine (HC.out _).mono ?_; rintro e w1 ⟨rfl, hb1⟩)) | (go_at_call 37; first | (with_reducible refine (HL1.out _).mono ?_; rintro e w1 ⟨rfl, hb1⟩) | (with_reducible refine (HL2.out _).mono ?_; rintro e w1 ⟨rfl, hb1⟩) | (with_reducible refine (HL3.out _).mono ?_; rintro e w1 ⟨rfl, hb1⟩)) | (go_at_call 38; first | (with_reducible refine (HF1.out _).mono ?_; rintro e w1 ⟨rfl, hb1⟩) | (with_reducible refine (HF2.out _).mono ?_; rintro e w1 ⟨rfl, hb1⟩) | (with_reducible refine (HF3.out _).mono ?_; rintro e w1 ⟨rfl, hb1⟩)) | (go_at_call 19; first | (with_reducible refine (HT1.out _).mono ?_; rintro e w1 ⟨rfl, hb1⟩) | (with_reducible refine (HT2.out _).mono ?_; rintro e w1 ⟨rfl, hb1⟩))
        refine hK.out _ _ ?_ (fun hH11 => ?_)
        · (first | (go_keep; done) | ((try go_split_ands); (repeat' apply And.intro) <;> first | assumption | (with_reducible refine Rd.below ?_ hb1; assumption) | (with_reducible refine Rd.drew ?_; repeat' (first | assumption | (with_reducible refine Rd.alloc ?_ _))) | (refine (hb1.cell (by first | omega | (simp; done) | (simp; omega))).trans ?_; first | assumption | simp) | (exact below_step hb1 (by first | omega | (simp; done) | (simp; omega)) (by assumption)) | (have hz' := hb1.size; (try simp at hz'); omega) | ((repeat' (first | assumption | (with_reducible exact Below.refl _ _) | (with_reducible refine Below.drew ?_) | (with_reducible refine Below.alloc ?_ ?_ _) | (with_reducible refine Below.setCell ?_ ?_ _) | omega | (simp; done) | (simp; omega))); done) | go_simp | (simp; done) | (simp; omega)))
        clear hK K hH10
        try simp only [Act.put, List.setIfInBounds_toArray, List.set_cons_zero, List.set_cons_succ]
        refine hold_call1 64 (by simp only [List.getElem?_toArray, List.getElem?_cons_succ, List.getElem?_cons_zero]; rfl) rfl (by kernel_rfl) (by kernel_rfl) (fun K hK => ?_)
        go_simp
        first | (go_at_call 35; first | (with_reducible refine (HD.out _).mono ?_; rintro e w1 ⟨rfl, hb1⟩)) | (go_at_call 36; first | (with_reducible refine (HA.out _).mono ?_; rintro e w1 ⟨rfl, hb1⟩) | (with_reducible refine (HC.out _).mono ?_; rintro e w1 ⟨rfl, hb1⟩)) | (go_at_call 37; first | (with_reducible refine (HL1.out _).mono ?_; rintro e w1 ⟨rfl, hb1⟩) | (with_reducible refine (HL2.out _).mono ?_; rintro e w1 ⟨rfl, hb1⟩) | (with_reducible refine (HL3.out _).mono ?_; rintro e w1 ⟨rfl, hb1⟩)) | (go_at_call 38; first | (with_reducible refine (HF1.out _).mono ?_; rintro e w1 ⟨rfl, hb1⟩) | (with_reducible refine (HF2.out _).mono ?_; rintro e w1 ⟨rfl, hb1⟩) | (with_reducible refine (HF3.out _).mono ?_; rintro e w1 ⟨rfl, hb1⟩)) | (go_at_call 19; first | (with_reducible refine (HT1.out _).mono ?_; rintro e w1 ⟨rfl, hb1⟩) | (with_reducible refine (HT2.out _).mono ?_; rintro e w1 ⟨rfl, hb1⟩))
        refine hK.out _ _ ?_ (fun hH12 => ?_)
        · (first | (go_keep; done) | ((try go_split_ands); (repeat' apply And.intro) <;> first | assumption | (with_reducible refine Rd.below ?_ hb1; assumption) | (with_reducible refine Rd.drew ?_; repeat' (first | assumption | (with_reducible refine Rd.alloc ?_ _))) | (refine (hb1.cell (by first | omega | (simp; done) | (simp; omega))).trans ?_; first | assumption | simp) | (exact below_step hb1 (by first | omega | (simp; done) | (simp; omega)) (by assumption)) | (have hz' := hb1.size; (try simp at hz'); omega) | ((repeat' (first | assumption | (with_reducible exact Below.refl _ _) | (with_reducible refine Below.drew ?_) | (with_reducible refine Below.alloc ?_ ?_ _) | (with_reducible refine Below.setCell ?_ ?_ _) | omega | (simp; done) | (simp; omega))); done) | go_simp | (simp; done) | (simp; omega)))
        clear hK K hH11
        try simp only [Act.put, List.setIfInBounds_toArray, List.set_cons_zero, List.set_cons_succ]
        refine hold_yes 65 (v := ?_) hHC hH12 (by simp only [List.getElem?_toArray, List.getElem?_cons_succ, List.getElem?_cons_zero]; rfl) rfl (by kernel_rfl) (by kernel_rfl) ?_ ?_
        rotate_left 1
        · (intro w hSw; (try dsimp only at hSw); go_simp; try with_reducible rfl)
        try simp only [Act.put, List.setIfInBounds_toArray, List.set_cons_zero, List.set_cons_succ]
        refine hold_yes 66 (v := ?_) hHC hH12 (by simp only [List.getElem?_toArray, List.getElem?_cons_succ, List.getElem?_cons_zero]; rfl) rfl (by kernel_rfl) (by kernel_rfl) ?_ ?_
        rotate_left 1
        · (intro w hSw; (try dsimp only at hSw); go_simp; try with_reducible rfl)
        try simp only [Act.put, List.setIfInBounds_toArray, List.set_cons_zero, List.set_cons_succ]
        refine hold_plain 67 (v := ?_) hHC hH12 (by simp only [List.getElem?_toArray, List.getElem?_cons_succ, List.getElem?_cons_zero]; rfl) rfl (by kernel_rfl) ?_ ?_
        rotate_left 1
        · (intro w hSw; (try dsimp only at hSw); go_simp; try with_reducible rfl)
        try simp only [Act.put, List.setIfInBounds_toArray, List.set_cons_zero, List.set_cons_succ]
        refine hold_plain 68 (v := ?_) hHC hH12 (by simp only [List.getElem?_toArray, List.getElem?_cons_succ, List.getElem?_cons_zero]; rfl) rfl (by kernel_rfl) ?_ ?_
        rotate_left 1
        · (intro w hSw; (try dsimp only at hSw); go_simp; try with_reducible rfl)
        try simp only [Act.put, List.setIfInBounds_toArray, List.set_cons_zero, List.set_cons_succ]
        refine wpAnyH_done (by kernel_rfl) ?_ _
        (try dsimp only at hH12)
        go_split_ands
        clear hHC
        go_wp2_with fail
        go_ret
        exact ⟨rfl, by assumption⟩
end Go.Proofs.YtlbmmdkmelcedaaDoor.fnDominoes
