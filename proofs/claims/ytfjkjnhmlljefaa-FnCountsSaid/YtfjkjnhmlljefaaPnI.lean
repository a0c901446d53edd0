/-
  The program's count of ways to lay dominoes.
-/
import Derived.Test.YtfjkjnhmlljefaaPn
import Derived.Test.YtfjkjnhmlljefaaCountB
namespace Go.Proofs.Ytfjkjnhmlljefaa
open Go.RowKit
set_option linter.unusedVariables false
set_option linter.unusedSimpArgs false

theorem without_any (S : Nat) (x y : Int) (w : World) (hS : Hid (S < 2 ^ 64)) (h : okB x y = true) :
    Calls Try.prog 57 #[.int .u64 (S : Int), .agg #[.int .i64 x, .int .i64 y]] w fun e w' => e = .returned (.int .u64 ((dif S (bitOf x y) : Nat) : Int)) ∧ Below w.heap.size w w' := by
  obtain ⟨⟨hx0, hx7⟩, hy0, hy7⟩ := okB_iff.1 h
  have hi2 := idxI_yes h
  have hb : 0 ≤ idxI x y ∧ idxI x y ≤ 63 := by omega
  obtain ⟨hb0, hb1⟩ := hb
  have HI := Lib.hid hi2
  have HLT := Lib.hid (bitOf_lt h)
  clear hi2
  go_enter Try.func57, Try.ntmps57
  go_wp2_with (go_at_call 71; refine (implIdx_any _ _ _).mono ?_; rintro e w1 ⟨rfl, hb1⟩; have hz := hb1.size; (try simp at hz); (first | (have hc1 : ∀ b o, b ≤ w.heap.size + 5 → w1.cell? ⟨b, o, none⟩ = _ := fun b o h => hb1.cell (p := ⟨b, o, none⟩) (by first | omega | (simp; omega)); have hf1 : ∀ b o, b ≤ w.heap.size + 5 → w1.frozen? ⟨b, o, none⟩ = _ := fun b o h => hb1.frozen (p := ⟨b, o, none⟩) (by first | omega | (simp; omega))) | (have hc1 : ∀ b o, b ≤ w.heap.size + 4 → w1.cell? ⟨b, o, none⟩ = _ := fun b o h => hb1.cell (p := ⟨b, o, none⟩) (by first | omega | (simp; omega)); have hf1 : ∀ b o, b ≤ w.heap.size + 4 → w1.frozen? ⟨b, o, none⟩ = _ := fun b o h => hb1.frozen (p := ⟨b, o, none⟩) (by first | omega | (simp; omega))) | (have hc1 : ∀ b o, b ≤ w.heap.size + 3 → w1.cell? ⟨b, o, none⟩ = _ := fun b o h => hb1.cell (p := ⟨b, o, none⟩) (by first | omega | (simp; omega)); have hf1 : ∀ b o, b ≤ w.heap.size + 3 → w1.frozen? ⟨b, o, none⟩ = _ := fun b o h => hb1.frozen (p := ⟨b, o, none⟩) (by first | omega | (simp; omega))) | (have hc1 : ∀ b o, b ≤ w.heap.size + 2 → w1.cell? ⟨b, o, none⟩ = _ := fun b o h => hb1.cell (p := ⟨b, o, none⟩) (by first | omega | (simp; omega)); have hf1 : ∀ b o, b ≤ w.heap.size + 2 → w1.frozen? ⟨b, o, none⟩ = _ := fun b o h => hb1.frozen (p := ⟨b, o, none⟩) (by first | omega | (simp; omega))) | (have hc1 : ∀ b o, b ≤ w.heap.size + 1 → w1.cell? ⟨b, o, none⟩ = _ := fun b o h => hb1.cell (p := ⟨b, o, none⟩) (by first | omega | (simp; omega)); have hf1 : ∀ b o, b ≤ w.heap.size + 1 → w1.frozen? ⟨b, o, none⟩ = _ := fun b o h => hb1.frozen (p := ⟨b, o, none⟩) (by first | omega | (simp; omega))) | (have hc1 : ∀ b o, b ≤ w.heap.size + 0 → w1.cell? ⟨b, o, none⟩ = _ := fun b o h => hb1.cell (p := ⟨b, o, none⟩) (by first | omega | (simp; omega)); have hf1 : ∀ b o, b ≤ w.heap.size + 0 → w1.frozen? ⟨b, o, none⟩ = _ := fun b o h => hb1.frozen (p := ⟨b, o, none⟩) (by first | omega | (simp; omega))) | skip); have hB : Below w.heap.size w w1 := below_step hb1 (by first | omega | (simp; done) | (simp; omega)) (by repeat' (first | assumption | (with_reducible exact Below.refl _ _) | (with_reducible refine Below.drew ?_) | (with_reducible refine Below.alloc ?_ ?_ _) | (with_reducible refine Below.setCell ?_ ?_ _) | omega | (simp; done) | (simp; omega))); clear hb1)
  go_ret
  exact ⟨ret_u (by show bits .andNot .u64 (S : Int) (IntKind.u64.wrap (2 ^ (idxI x y).toNat)) = _; rw [u64_bit (by omega), HI.out]; exact u64_dif hS.out HLT.out), by repeat' (first | assumption | (with_reducible exact Below.refl _ _) | (with_reducible refine Below.drew ?_) | (with_reducible refine Below.alloc ?_ ?_ _) | (with_reducible refine Below.setCell ?_ ?_ _) | omega | (simp; done) | (simp; omega))⟩
theorem without_val (S S' : Nat) (x y : Int) (w : World) (hS : Hid (S < 2 ^ 64)) (h : okB x y = true) (hb : dif S (bitOf x y) = S') :
    Calls Try.prog 57 #[.int .u64 (S : Int), .agg #[.int .i64 x, .int .i64 y]] w fun e w' => e = .returned (.int .u64 ((S' : Nat) : Int)) ∧ Below w.heap.size w w' := by
  subst hb
  exact without_any S x y w hS h
theorem has_valP (S : Nat) (x y : Int) (w : World) (hS : Hid (S < 2 ^ 64)) {b : Bool} (hb : hasB S x y = b) :
    Calls Try.prog 59 #[.int .u64 (S : Int), .agg #[.int .i64 x, .int .i64 y]] w fun e w' => e = .returned (.bool b) ∧ Below w.heap.size w w' := by
  subst hb
  exact has_any S x y w hS
theorem bit_cell {k : Nat} (hk : k < 64) : bitOf (cellOf k).1 (cellOf k).2 = 2 ^ k := by
  have h2 : ((cellOf k).2 * 8 + (cellOf k).1).toNat = k := by simp only [cellOf]; omega
  unfold bitOf
  rw [h2]
theorem nb_cell {x y : Int} {p : Int × Int} (h : p ∈ nbL x y) : ∃ k, k < 64 ∧ p = cellOf k := by
  unfold nbL nbK at h
  obtain ⟨k, hk, rfl⟩ := List.mem_map.1 h
  exact ⟨k, List.mem_range.1 (List.mem_filter.1 hk).1, rfl⟩
set_option maxHeartbeats 6400000 in
set_option maxRecDepth 100000 in
theorem partials_any : ∀ (f S n : Nat) (w : World), (cellsL S).length ≤ f → S < 2 ^ 64 → n ≤ 8 → Calls Try.prog 39 #[.int .u64 (S : Int), .int .i64 (n : Int)] w fun e w' => e = .returned (.int .i64 (pN (cellsL S) n)) ∧ Below w.heap.size w w' := by
  intro f
  induction f with
  | zero =>
    intro S n w hl hS hn8
    have hnil : cellsL S = [] := List.length_eq_zero_iff.1 (by omega)
    have hS0 := (cellsL_nil hS).1 hnil
    subst hS0
    rw [hnil]
    by_cases hn : n = 0
    · have HP : Hid (pN [] n = 1) := Lib.hid (by rw [hn]; exact pN_zero [])
      have hnI : (n : Int) = 0 := by omega
      clear hnil hl hS
      go_enter Try.func39, Try.ntmps39
      go_wp2_with fail
      go_ret
      exact ⟨ret_i HP.out.symm, by repeat' (first | assumption | (with_reducible exact Below.refl _ _) | (with_reducible refine Below.drew ?_) | (with_reducible refine Below.alloc ?_ ?_ _) | (with_reducible refine Below.setCell ?_ ?_ _) | omega | (simp; done) | (simp; omega))⟩
    · have HP : Hid (pN [] n = 0) := Lib.hid (pN_nil hn)
      have hnI : ¬ (n : Int) = 0 := by omega
      clear hnil hl hS
      go_enter Try.func39, Try.ntmps39
      go_wp2_with fail
      go_ret
      exact ⟨ret_i HP.out.symm, by repeat' (first | assumption | (with_reducible exact Below.refl _ _) | (with_reducible refine Below.drew ?_) | (with_reducible refine Below.alloc ?_ ?_ _) | (with_reducible refine Below.setCell ?_ ?_ _) | omega | (simp; done) | (simp; omega))⟩
  | succ f ih =>
    intro S n w hl hS hn8
    by_cases hn : n = 0
    · have HP : Hid (pN (cellsL S) n = 1) := Lib.hid (by rw [hn]; exact pN_zero _)
      have hnI : (n : Int) = 0 := by omega
      clear hl hS ih
      go_enter Try.func39, Try.ntmps39
      go_wp2_with fail
      go_ret
      exact ⟨ret_i HP.out.symm, by repeat' (first | assumption | (with_reducible exact Below.refl _ _) | (with_reducible refine Below.drew ?_) | (with_reducible refine Below.alloc ?_ ?_ _) | (with_reducible refine Below.setCell ?_ ?_ _) | omega | (simp; done) | (simp; omega))⟩
    · have hnI : ¬ (n : Int) = 0 := by omega
      have HIH := Lib.hid ih
      have HS64 := Lib.hid hS
      clear ih
      rcases hC : cellsL S with _ | ⟨c, rest⟩
      · have hS0 := (cellsL_nil hS).1 hC
        have HP : Hid (pN [] n = 0) := Lib.hid (pN_nil hn)
        subst hS0
        clear hC hl hS HS64 HIH
        go_enter Try.func39, Try.ntmps39
        go_wp2_with fail
        go_ret
        exact ⟨ret_i HP.out.symm, by repeat' (first | assumption | (with_reducible exact Below.refl _ _) | (with_reducible refine Below.drew ?_) | (with_reducible refine Below.alloc ?_ ?_ _) | (with_reducible refine Below.setCell ?_ ?_ _) | omega | (simp; done) | (simp; omega))⟩
      · obtain ⟨k, hk, hck, hkb, hrest⟩ := cellsL_cons hS hC
        have hS0 : ¬ S = 0 := fun e => by rw [(cellsL_nil hS).2 e] at hC; cases hC
        have hS0I : ¬ (S : Int) = 0 := by omega
        obtain ⟨cx, cy⟩ := c
        have hcok : okB cx cy = true := by have := ok_at hk; rw [show (k : Int) % 8 = cx from (congrArg Prod.fst hck).symm, show (k : Int) / 8 = cy from (congrArg Prod.snd hck).symm] at this; exact this
        have hcb : bitOf cx cy = 2 ^ k := by have := bit_cell hk; rw [← hck] at this; exact this
        obtain ⟨R, hR⟩ : ∃ R, R = dif S (2 ^ k) := ⟨_, rfl⟩
        rw [← hR] at hrest
        have hR64 : R < 2 ^ 64 := by rw [hR]; exact dif_lt hS
        have hrl : rest.length ≤ f := by rw [hC] at hl; simpa using hl
        have HWO := Lib.hid (fun W : World => without_val S R cx cy W HS64 hcok (by rw [hcb, hR]))
        have HP0 := Lib.hid (fun W : World => by have g := HIH.out R n W (by rw [hrest]; exact hrl) hR64 hn8; rw [hrest] at g; exact g)
        have HCS := Lib.hid (fun W : World => by have g := cells_any S W HS64; rw [hC] at g; exact g)
        have HNB := Lib.hid (fun W : World => implNbrs_any cx cy W)
        have HR64 := Lib.hid hR64
        have HREST := Lib.hid hrest
        have HNF : Hid ((nbL cx cy).filter (fun d => hasB R d.1 d.2) = rest.filter (nb2 (cx, cy))) := Lib.hid (by have := nb_filter (R := R) (cx, cy); rw [hrest] at this; exact this)
        have HRL := Lib.hid hrl
        obtain ⟨N, hN⟩ : ∃ N, N = nbL cx cy := ⟨_, rfl⟩
        have HNN := Lib.hid hN
        have hNl : N.length ≤ 64 := by rw [hN]; exact nbL_len cx cy
        rw [← hN] at HNB HNF
        have HPF : Hid (pN ((cx, cy) :: rest) n = pFold rest n (N.filter fun d => hasB R d.1 d.2)) := Lib.hid (by rw [HNF.out]; exact pN_cons hn)
        obtain ⟨res, hres⟩ : ∃ res, res = pN ((cx, cy) :: rest) n := ⟨_, rfl⟩
        rw [← hres] at HPF ⊢
        obtain ⟨p0, hp0⟩ : ∃ p0, p0 = pN rest n := ⟨_, rfl⟩
        have HP0E : Hid (p0 = pFold rest n []) := Lib.hid (by rw [hp0]; rfl)
        rw [← hp0] at HP0
        obtain ⟨n1, hn1⟩ : ∃ n1 : Nat, n1 = n - 1 := ⟨_, rfl⟩
        have en : IntKind.i64.wrap ((n : Int) - 1) = (n1 : Int) := by rw [IntKind.wrap_i64]; omega
        have HN1 := Lib.hid hn1
        have HN8 : Hid (n1 ≤ 8) := Lib.hid (by omega)
        clear hres hp0 hC hl hS hck hkb hcb hR hR64 hrest hrl hN hn1 hcok
        go_enter Try.func39, Try.ntmps39
        go_wp2_with (go_at_call 56; fail)
        refine (HCS.out _).mono ?_
        rintro e w1 ⟨a1, c1, rfl, hO1, hb1⟩
        obtain ⟨b1, o1, x1, y1, rfl, hbl1, hx1, hy1, hv1⟩ := RdC_at (Rd.of_own hO1) (k := 0) (by simp)
        obtain ⟨rfl, rfl⟩ : x1 = cx ∧ y1 = cy := by have := hv1.out; simp at this; exact ⟨this.1.symm, this.2.symm⟩
        have hz1 := hb1.size
        have hB1 : Below w.heap.size w w1 := hb1
        simp only [Nat.zero_mul, Nat.add_zero] at hx1 hy1
        clear hO1 hb1 hv1
        have hbx : True := trivial
        have hby : True := trivial
        go_wp2_with (go_at_call 57; fail)
        refine (HWO.out _).mono ?_
        rintro e w2 ⟨rfl, hb⟩
        have hz2 := hb.size
        (try simp at hz2)
        have hbx : w2.cell? ⟨w1.heap.size, 0, none⟩ = some (.int .i64 x1) := (hb.cell (p := ⟨w1.heap.size, 0, none⟩) (by first | omega | (simp; done) | (simp; omega))).trans (by go_simp)
        have hby : w2.cell? ⟨w1.heap.size, 1, none⟩ = some (.int .i64 y1) := (hb.cell (p := ⟨w1.heap.size, 1, none⟩) (by first | omega | (simp; done) | (simp; omega))).trans (by go_simp)
        have hB2 : Below w.heap.size w w2 := below_step hb (by first | omega | (simp; done) | (simp; omega)) (by repeat' (first | assumption | (with_reducible exact Below.refl _ _) | (with_reducible refine Below.drew ?_) | (with_reducible refine Below.alloc ?_ ?_ _) | (with_reducible refine Below.setCell ?_ ?_ _) | omega | (simp; done) | (simp; omega)))
        clear hb hx1 hy1
        go_wp2_with (go_at_call 39; fail)
        refine (HP0.out _).mono ?_
        rintro e w3 ⟨rfl, hb⟩
        have hz3 := hb.size
        replace hbx : w3.cell? ⟨w1.heap.size, 0, none⟩ = some (.int .i64 x1) := (hb.cell (p := ⟨w1.heap.size, 0, none⟩) (by first | omega | (simp; done) | (simp; omega))).trans (by first | exact hbx | go_simp)
        replace hby : w3.cell? ⟨w1.heap.size, 1, none⟩ = some (.int .i64 y1) := (hb.cell (p := ⟨w1.heap.size, 1, none⟩) (by first | omega | (simp; done) | (simp; omega))).trans (by first | exact hby | go_simp)
        have hB3 : Below w.heap.size w w3 := below_step hb (by first | omega | (simp; done) | (simp; omega)) (by repeat' (first | assumption | (with_reducible exact Below.refl _ _) | (with_reducible refine Below.drew ?_) | (with_reducible refine Below.alloc ?_ ?_ _) | (with_reducible refine Below.setCell ?_ ?_ _) | omega | (simp; done) | (simp; omega)))
        clear hb
        go_wp2_with (go_at_call 58; fail)
        refine (HNB.out _).mono ?_
        rintro e w4 ⟨a4, c4, rfl, hO4, hb⟩
        have hz4 := hb.size
        have hB4 : Below w.heap.size w w4 := below_step hb (by first | omega | (simp; done) | (simp; omega)) (by repeat' (first | assumption | (with_reducible exact Below.refl _ _) | (with_reducible refine Below.drew ?_) | (with_reducible refine Below.alloc ?_ ?_ _) | (with_reducible refine Below.setCell ?_ ?_ _) | omega | (simp; done) | (simp; omega)))
        have hRd : Rd w4 a4 (flatC N) := Rd.of_own hO4
        clear hb hO4 hbx hby
        go_wp2_with fail
        go_loopw [7, 27] (fun o i wr => ∃ (j : Nat) (v : Int), j ≤ N.length ∧ i = .int .i64 j ∧ o = .int .i64 v ∧ Hid (v = pFold rest n ((N.take j).filter fun d => hasB R d.1 d.2)) ∧ Below w4.heap.size w4 wr) (fun _ i _ => N.length - (intOf i).toNat)
        case atStart => exact ⟨0, p0, Nat.zero_le _, rfl, rfl, Lib.hid (by rw [HP0E.out]; simp), Below.refl _ _⟩
        case round =>
          obtain ⟨j, v, hj, rfl, rfl, hV, hbq⟩ := hrel
          have hzq := hbq.size
          have hBq : Below w.heap.size w wr := hB4.trans (hbq.mono (by omega))
          by_cases hlt : j < N.length
          · obtain ⟨b5, o5, dx, dy, rfl, hbl5, hx5, hy5, hv5⟩ := RdC_at (Rd.below hRd hbq) hlt
            have hjI : (j : Int) < (N.length : Int) := by omega
            obtain ⟨kd, hkd, hde⟩ := nb_cell (x := x1) (y := y1) (p := (dx, dy)) (by rw [← HNN.out]; exact List.mem_of_getElem? hv5.out)
            have hdok : okB dx dy = true := by have := ok_at hkd; rw [show (kd : Int) % 8 = dx from (congrArg Prod.fst hde).symm, show (kd : Int) / 8 = dy from (congrArg Prod.snd hde).symm] at this; exact this
            have hdb : bitOf dx dy = 2 ^ kd := by have := bit_cell hkd; rw [← hde] at this; exact this
            rcases Bool.eq_false_or_eq_true (hasB R dx dy) with hh | hh
            · have HH := Lib.hid (fun W : World => has_valP R dx dy W HR64 hh)
              obtain ⟨R1, hR1⟩ : ∃ R1, R1 = dif R (2 ^ kd) := ⟨_, rfl⟩
              have HW2 := Lib.hid (fun W : World => without_val R R1 dx dy W HR64 hdok (by rw [hdb, hR1]))
              have hR1l : cellsL R1 = rest.filter fun q => !(q == (dx, dy)) := by rw [hR1, cellsL_dif HR64.out hkd, HREST.out, ← hde]
              have hR1n : (cellsL R1).length ≤ f := by rw [hR1l]; exact Nat.le_trans (List.length_filter_le _ _) HRL.out
              have HP1 := Lib.hid (fun W : World => by have g := HIH.out R1 n1 W hR1n (by rw [hR1]; exact dif_lt HR64.out) HN8.out; rw [hR1l] at g; exact g)
              obtain ⟨u, hu⟩ : ∃ u, u = pN (rest.filter fun q => !(q == (dx, dy))) n1 := ⟨_, rfl⟩
              rw [← hu] at HP1
              obtain ⟨t, ht⟩ : ∃ t, t = w64p (v + u) := ⟨_, rfl⟩
              have eW : wrap64 (v + u) = t := by rw [wrap64_w64p, ht]
              have HT : Hid (t = pFold rest n ((N.take (j + 1)).filter fun d => hasB R d.1 d.2)) := Lib.hid (by rw [take_one hv5.out, List.filter_append, show ([(dx, dy)].filter fun d : Int × Int => hasB R d.1 d.2) = [(dx, dy)] by simp [hh], pFold_snoc, ← hV.out, ht, hu, HN1.out])
              clear hh hR1 hR1l hR1n hu ht hde hdb
              go_wp2_with (go_at_call 59; fail)
              refine (HH.out _).mono ?_
              rintro e w5 ⟨rfl, hb⟩
              have hz5 := hb.size
              (try simp at hz5)
              have hbx : w5.cell? ⟨wr.heap.size, 0, none⟩ = some (.int .i64 dx) := (hb.cell (p := ⟨wr.heap.size, 0, none⟩) (by first | omega | (simp; done) | (simp; omega))).trans (by go_simp)
              have hby : w5.cell? ⟨wr.heap.size, 1, none⟩ = some (.int .i64 dy) := (hb.cell (p := ⟨wr.heap.size, 1, none⟩) (by first | omega | (simp; done) | (simp; omega))).trans (by go_simp)
              have hB5 : Below w4.heap.size w4 w5 := below_step hb (by first | omega | (simp; done) | (simp; omega)) (by repeat' (first | assumption | (with_reducible exact Below.refl _ _) | (with_reducible refine Below.drew ?_) | (with_reducible refine Below.alloc ?_ ?_ _) | (with_reducible refine Below.setCell ?_ ?_ _) | omega | (simp; done) | (simp; omega)))
              clear hb hx5 hy5
              go_wp2_with (go_at_call 57; fail)
              refine (HW2.out _).mono ?_
              rintro e w6 ⟨rfl, hb⟩
              have hz6 := hb.size
              have hB6 : Below w4.heap.size w4 w6 := below_step hb (by first | omega | (simp; done) | (simp; omega)) hB5
              clear hb hbx hby
              go_wp2_with (go_at_call 39; fail)
              refine (HP1.out _).mono ?_
              rintro e w7 ⟨rfl, hb⟩
              have hB7 : Below w4.heap.size w4 w7 := below_step hb (by first | omega | (simp; done) | (simp; omega)) hB6
              clear hb
              go_wp2_with fail
              go_roundw
              case rel => exact ⟨j + 1, t, by omega, by go_num, by rw [eW], HT, hB7⟩
              case measure => simp [intOf]; omega
            · have HH := Lib.hid (fun W : World => has_valP R dx dy W HR64 hh)
              have HT : Hid (v = pFold rest n ((N.take (j + 1)).filter fun d => hasB R d.1 d.2)) := Lib.hid (by rw [take_one hv5.out, List.filter_append, show ([(dx, dy)].filter fun d : Int × Int => hasB R d.1 d.2) = [] by simp [hh], List.append_nil]; exact hV.out)
              clear hh hde hdb
              go_wp2_with (go_at_call 59; fail)
              refine (HH.out _).mono ?_
              rintro e w5 ⟨rfl, hb⟩
              have hB5 : Below w4.heap.size w4 w5 := below_step hb (by first | omega | (simp; done) | (simp; omega)) (by repeat' (first | assumption | (with_reducible exact Below.refl _ _) | (with_reducible refine Below.drew ?_) | (with_reducible refine Below.alloc ?_ ?_ _) | (with_reducible refine Below.setCell ?_ ?_ _) | omega | (simp; done) | (simp; omega)))
              clear hb hx5 hy5
              go_wp2_with fail
              go_roundw
              case rel => exact ⟨j + 1, v, by omega, by go_num, rfl, HT, hB5⟩
              case measure => simp [intOf]; omega
          · have hjn : j = N.length := by omega
            have HE : Hid (v = res) := Lib.hid (by rw [HPF.out, hV.out, hjn, List.take_length])
            clear hjn
            go_wp2_with fail
            go_ret
            exact ⟨ret_i HE.out, hBq⟩
end Go.Proofs.Ytfjkjnhmlljefaa
