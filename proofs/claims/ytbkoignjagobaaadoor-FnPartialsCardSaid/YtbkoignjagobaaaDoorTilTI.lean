/-
  A tiling's text: the program's side.
-/
import Derived.Test.YtbkoignjagobaaaDoorTilT
namespace Go.Proofs.YtbkoignjagobaaaDoor
open Go.RowKit
set_option linter.unusedVariables false
set_option linter.unusedSimpArgs false

theorem strInfo : (Tryd.prog.info? 9).map (fun i => (i.zero, i.size, i.bytes)) = some (some (.string ⟨#[]⟩), 1, 16) := by kernel_rfl
/-- A list of strings that the call owns. -/
def OwnS (w : World) (B g c : Nat) (X : List ByteArray) : Prop := w.ownsRow B 9 1 (.slice (some ⟨g, 0, none⟩) X.length c) X.length (X.map Value.string)
theorem OwnS.below {w w' : World} {B g c : Nat} {X : List ByteArray} (h : OwnS w B g c X) (hb : Below w.heap.size w w') : OwnS w' B g c X := own_below h hb
theorem OwnS.lt {w : World} {B g c : Nat} {X : List ByteArray} (h : OwnS w B g c X) : B ≤ g ∧ g < w.heap.size := World.ownsRow.lt h g rfl
theorem OwnS.new (w : World) (B : Nat) (hB : B ≤ w.heap.size) (o : Obj) (ho : o = .cells #[] 9) : OwnS (w.alloc o) B w.heap.size 0 [] := by
  subst ho
  exact World.ownsRow_made w #[] 0 hB (by simp [maxLen]) (by simp)
theorem OwnS.at_ {w : World} {B g c : Nat} {X : List ByteArray} (h : OwnS w B g c X) : ∀ (j : Nat) x, X[j]? = some x → w.cell? ⟨g, 0 + j, none⟩ = some (.string x) := by
  intro j x hx
  rw [Nat.zero_add, World.ownsRow.cellAt h j (by have := (List.getElem?_eq_some_iff.1 hx).1; omega), List.getElem?_map, hx]
  rfl
theorem OwnS.cap {w : World} {B g c : Nat} {X : List ByteArray} (h : OwnS w B g c X) : X.length ≤ c := by
  rcases h.2 with ⟨hv, hz⟩ | ⟨g', cap, cur, hv, hg, hh, hnc, r⟩
  · cases hv
  · have e : c = cap := by injection hv
    omega
theorem OwnS.snoc {w : World} {B : Nat} {t : ByteArray} {v : Value} {X : List ByteArray} (h : w.ownsRow B 9 1 v (X.length + 1) (X.map Value.string ++ [.string t])) : ∃ g c, v = .slice (some ⟨g, 0, none⟩) (X ++ [t]).length c ∧ OwnS w B g c (X ++ [t]) := by
  have h0 := h
  rcases h.2 with ⟨hv, hz⟩ | ⟨g, cap, cur, hv, hg, r⟩
  · omega
  · subst hv
    refine ⟨g, cap, by simp, ?_⟩
    unfold OwnS
    rw [List.map_append, List.length_append]
    exact h0
theorem one_newS (w : World) (x : Value) (t : TypeId) : ∀ j u, [x][j]? = some u → (w.alloc (.cells #[x] t)).cell? ((⟨w.heap.size, 0, none⟩ : Addr).add j) = some u := by
  intro j u hj
  match j, hj with
  | 0, hj =>
    simp at hj
    subst hj
    simp [Addr.add]
set_option maxHeartbeats 1600000 in
set_option maxRecDepth 100000 in
theorem implTt_any (a : Option Addr) (n c : Nat) (L : List DomI) (w : World) (hz : L.length = n) (hn : n ≤ 1048576) (hr : RdD w a L) :
    Calls Tryd.prog 13 #[.slice a n c] w fun e w' => e = .returned (.string (ttB L)) ∧ Below w.heap.size w w' := by
  obtain ⟨i0, hi, hz0, hz1, hz2⟩ := info_parts strInfo
  have HZ := Lib.hid hz
  have HR := Lib.hid hr
  obtain ⟨res, hres⟩ : ∃ res, res = ttB L := ⟨_, rfl⟩
  rw [← hres]
  have HRES := Lib.hid hres
  clear hz hr hres
  go_enter Tryd.func13, Tryd.ntmps13
  go_wp2_with fail
  have hO0 := Lib.hid (OwnS.new w w.heap.size (Nat.le_refl _) _ rfl)
  go_loopw [3, 9] (fun ov i wr => ∃ (k : Nat) (X : List ByteArray) (g cp : Nat), k ≤ n ∧ i = .int .i64 (k : Int) ∧ ov = .slice (some ⟨g, 0, none⟩) X.length cp ∧ Hid (X = (L.take k).map dtP) ∧ Hid (∀ q ∈ L.take k, dokP q = true) ∧ Hid (X.length = k) ∧ Hid (OwnS wr w.heap.size g cp X) ∧ Below w.heap.size w wr) (fun _ i _ => n - (intOf i).toNat)
  case atStart => exact ⟨0, [], _, _, Nat.zero_le _, rfl, rfl, Lib.hid rfl, Lib.hid (by intro q hq; simp at hq), Lib.hid rfl, hO0, by repeat' (first | assumption | (with_reducible exact Below.refl _ _) | (with_reducible refine Below.drew ?_) | (with_reducible refine Below.alloc ?_ ?_ _) | (with_reducible refine Below.setCell ?_ ?_ _) | omega | (simp; done) | (simp; omega))⟩
  case round =>
    clear hO0
    obtain ⟨k, X, g, cp, hk, rfl, rfl, HX, HA, HXL, HO, hB⟩ := hrel
    have hzz := hB.size
    have hXn : X.length ≤ 1048576 := by have := HXL.out; omega
    by_cases hlt : k < n
    · have hkI : (k : Int) < (n : Int) := by omega
      obtain ⟨b, off, x, y, d, rfl, hbk, hcx, hcy, hcd, hv⟩ := RdD_at (Rd.below HR.out hB) (k := k) (by rw [HZ.out]; exact hlt)
      rcases Bool.eq_false_or_eq_true (domB x y d) with hd | hd
      · have HD := Lib.hid (fun W : World => implDom_valT x y d W hd)
        have HT := Lib.hid (fun W : World => implDt_any x y d W)
        have HA1 := Lib.hid (ok_step HA.out hv.out (show dokP (x, y, d) = true from hd))
        obtain ⟨t, ht⟩ : ∃ t, t = dtB x y d := ⟨_, rfl⟩
        rw [← ht] at HT
        have HX1 : Hid (X ++ [t] = (L.take (k + 1)).map dtP) := Lib.hid (by rw [List.take_add_one, hv.out, List.map_append, ← HX.out, ht]; rfl)
        clear hd ht
        go_wp2_with (go_at_call 17; fail)
        refine (HD.out _).mono ?_
        rintro e w1 ⟨rfl, hb⟩
        have hcx1 : w1.cell? ⟨wr.heap.size, 0, none⟩ = some (.int .i64 x) := (hb.cell (p := ⟨wr.heap.size, 0, none⟩) (by first | omega | (simp; done) | (simp; omega))).trans (by go_simp)
        have hcy1 : w1.cell? ⟨wr.heap.size, 1, none⟩ = some (.int .i64 y) := (hb.cell (p := ⟨wr.heap.size, 1, none⟩) (by first | omega | (simp; done) | (simp; omega))).trans (by go_simp)
        have hcd1 : w1.cell? ⟨wr.heap.size, 2, none⟩ = some (.bool d) := (hb.cell (p := ⟨wr.heap.size, 2, none⟩) (by first | omega | (simp; done) | (simp; omega))).trans (by go_simp)
        have HO1 := Lib.hid ((HO.out.below ((Below.refl wr.heap.size wr).alloc (Nat.le_refl _) _)).below hb)
        have hB1 := below_step hb (by first | omega | (simp; done) | (simp; omega)) (hB.alloc hzz _)
        have hzz1 := hb.size
        simp at hzz1
        clear hb hcx hcy hcd
        go_wp2_with (go_at_call 29; fail)
        refine (HT.out _).mono ?_
        rintro e w2 ⟨rfl, hb⟩
        have hB2 := below_step hb (by omega) hB1
        have HO2 := Lib.hid (HO1.out.below hb)
        have hz2' := hb.size
        have hws : w.heap.size ≤ w2.heap.size := by omega
        clear hb hcx1 hcy1 hcd1
        go_wp2_with (at_builtin; refine wpList_append_own _ rfl _ _ 59 rfl w.heap.size 9 i0 (.string ⟨#[]⟩) 1 16 Tryd.underlying59 hi hz0 hz1 hz2 rfl (by decide) _ _ _ rfl (World.ownsRow.alloc HO2.out _) ⟨w2.heap.size, 0, none⟩ 1 1 [.string t] rfl rfl (one_newS _ _ _) (by intro u hu; simp at hu; subst hu; rfl) (by unfold maxLen; omega) (by omega) (by simp; omega) ?_; intro v3 w3 hown3 hgrow3 hnil3)
        obtain ⟨g3, c3, hv3, hO3⟩ := OwnS.snoc hown3
        subst hv3
        have HO3 := Lib.hid hO3
        have hB3 : Below w.heap.size w w3 := (hB2.alloc hws _).trans (grown_below (World.ownsRow.alloc HO2.out _) hgrow3 (by simp; omega))
        have HXL3 : Hid ((X ++ [t]).length = k + 1) := Lib.hid (by rw [List.length_append, HXL.out]; rfl)
        clear hown3 hgrow3 hnil3 hO3
        go_wp2_with fail
        go_roundw
        case rel => exact ⟨k + 1, X ++ [t], g3, c3, by omega, by go_num, rfl, HX1, HA1, HXL3, HO3, hB3⟩
        case measure => simp [intOf]; omega
      · have HD := Lib.hid (fun W : World => implDom_valT x y d W hd)
        have HE : Hid (res = ⟨#[]⟩) := Lib.hid (by rw [HRES.out]; exact tt_no hv.out hd)
        clear hd
        go_wp2_with (go_at_call 17; fail)
        refine (HD.out _).mono ?_
        rintro e w1 ⟨rfl, hb⟩
        have hB1 := below_step hb (by first | omega | (simp; done) | (simp; omega)) (hB.alloc hzz _)
        clear hb
        go_wp2_with fail
        go_ret
        exact ⟨by rw [HE.out]; rfl, hB1⟩
    · have hkI : ¬ (k : Int) < (n : Int) := by omega
      have h1 : L.take k = L := List.take_of_length_le (by have := HZ.out; omega)
      have HE : Hid (res = strD (Lib.join (X.map (·.data.toList)) (⟨#[32]⟩ : ByteArray).data.toList)) := Lib.hid (by
        have h2 := HA.out
        rw [h1] at h2
        rw [HRES.out, tt_yes h2, HX.out, h1, List.map_map]
        rfl)
      have HLE : Hid ((Lib.join (X.map (·.data.toList)) (⟨#[32]⟩ : ByteArray).data.toList).length ≤ 140737488355328) := Lib.hid (by
        have := jn_len L
        have e : (Lib.join (X.map (·.data.toList)) (⟨#[32]⟩ : ByteArray).data.toList) = jn L := by rw [HX.out, h1, List.map_map]; rfl
        rw [e]
        have := HZ.out
        omega)
      clear h1
      have HCT := Lib.hid (fun (W : World) (h : OwnS W w.heap.size g cp X) => Tryd.strings_Join g 0 cp X ⟨#[32]⟩ W h.at_ h.lt.2 (by omega) h.cap HLE.out)
      go_wp2_with (go_at_call 30; fail)
      refine (HCT.out _ HO.out).mono ?_
      rintro e w1 ⟨rfl, hb⟩
      have hB1 := below_step hb hzz hB
      clear hb
      go_wp2_with fail
      go_ret
      exact ⟨by rw [HE.out]; rfl, hB1⟩
end Go.Proofs.YtbkoignjagobaaaDoor
