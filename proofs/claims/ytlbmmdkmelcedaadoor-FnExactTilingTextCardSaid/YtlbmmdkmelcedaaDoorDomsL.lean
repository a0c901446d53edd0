/-
  Contracts of the law's helpers on lists of dominoes.
-/
import Derived.Test.YtlbmmdkmelcedaaDoorDoms
import Derived.Test.YtlbmmdkmelcedaaDoorOwn
namespace Go.Proofs.YtlbmmdkmelcedaaDoor
open Go.RowKit
set_option linter.unusedVariables false
set_option linter.unusedSimpArgs false

theorem szDS_yes (a : Option Addr) (n c : Nat) (l : Int) (w : World) (hl : l ≤ 1048576) (h : (n : Int) ≤ l) :
    Calls Tryd.prog 27 #[.slice a n c, .int .i64 l] w fun e w' => e = .returned (.int .i64 (l - n)) ∧ w = w' := by
  go_enter Tryd.func27, Tryd.ntmps27
  go_wp2
  go_ret
  exact ⟨rfl, rfl⟩
theorem szDS_no (a : Option Addr) (n c : Nat) (l : Int) (w : World) (hn : n ≤ maxLen) (h0 : 0 ≤ l) (hl : l ≤ 1048576) (h : l < (n : Int)) :
    Calls Tryd.prog 27 #[.slice a n c, .int .i64 l] w fun e w' => e = .returned (.int .i64 (-1)) ∧ w = w' := by
  unfold maxLen at hn
  go_enter Tryd.func27, Tryd.ntmps27
  go_wp2
  go_ret
  exact ⟨rfl, rfl⟩

theorem set3 {xs : List Value} {L : List DomI} {k : Nat} {p : DomI} (hk : k * 3 + 2 < xs.length) (hX : xs.take (k * 3) = flatD (L.take k)) (hp : L[k]? = some p) :
    (((xs.set (k * 3) (.int .i64 p.1)).set (k * 3 + 1) (.int .i64 p.2.1)).set (k * 3 + 2) (.bool p.2.2)).take ((k + 1) * 3) = flatD (L.take (k + 1)) := by
  rw [take_one hp, flatD_app, ← hX]
  apply List.ext_getElem?
  intro i
  have e : (k + 1) * 3 = k * 3 + 3 := by omega
  rw [e, List.getElem?_take]
  by_cases h1 : i < k * 3
  · rw [if_pos (by omega), List.getElem?_append_left (by rw [List.length_take]; omega), List.getElem?_take, if_pos h1]
    simp only [List.getElem?_set]
    rw [if_neg (by omega), if_neg (by omega), if_neg (by omega)]
  · by_cases h2 : i < k * 3 + 3
    · rw [if_pos h2, List.getElem?_append_right (by rw [List.length_take]; omega), List.length_take, Nat.min_eq_left (by omega)]
      simp only [List.getElem?_set, List.length_set]
      have h3 : i = k * 3 ∨ i = k * 3 + 1 ∨ i = k * 3 + 2 := by omega
      rcases h3 with rfl | rfl | rfl
      · rw [if_neg (by omega), if_neg (by omega), if_pos rfl, if_pos (by omega)]; simp
      · rw [if_neg (by omega), if_pos rfl, if_pos (by omega)]; simp
      · rw [if_pos rfl, if_pos (by omega)]; simp
    · rw [if_neg h2, List.getElem?_eq_none]
      simp
      omega

set_option maxHeartbeats 800000 in
set_option maxRecDepth 100000 in
/-- A copy. -/
theorem toDominoS_any (a : Option Addr) (n c : Nat) (L : List DomI) (w : World) (hz : L.length = n) (hn : n ≤ 1048576) (hr : RdD w a L) :
    Calls Tryd.prog 29 #[.slice a n c] w fun e w' => e = .returned (.slice (some ⟨w.heap.size, 0, none⟩) n n) ∧
      w'.ownsRow w.heap.size 33 3 (.slice (some ⟨w.heap.size, 0, none⟩) n n) n (flatD L) ∧ Below w.heap.size w w' := by
  obtain ⟨i0, hi, hz0, hz1, hz2⟩ := info_parts domInfo
  have HZ := Lib.hid hz
  clear hz
  go_enter Tryd.func29, Tryd.ntmps29
  go_wp2_with (at_make; refine wpList_make_full _ rfl _ _ 46 rfl w.heap.size 33 i0 (.agg #[.int .i64 0, .int .i64 0, .bool false]) 3 Tryd.underlying46 hi hz0 hz1 _ _ _ _ n rfl rfl rfl rfl (by rw [hz2]; omega) (by unfold maxLen; omega) (Nat.le_refl _) ?_; intro w0 hown0 hgrow0)
  go_loopw [4] (fun i wr => ∃ k : Nat, ∃ xs : List Value, k ≤ n ∧ i = .int .i64 k ∧ Hid (wr.ownsRow w.heap.size 33 3 (.slice (some ⟨w.heap.size, 0, none⟩) n n) n xs) ∧ Hid (xs.take (k * 3) = flatD (L.take k)) ∧ Below w.heap.size w wr)
    (fun i _ => n - (intOf i).toNat)
  case atStart => exact ⟨0, _, Nat.zero_le _, rfl, Lib.hid hown0, Lib.hid (by simp [flatD]), (Below.refl _ _).grown hgrow0 (Nat.le_refl _) (fun k h => by cases h)⟩
  case round =>
    obtain ⟨k, xs, hk, rfl, hown, hX, hB⟩ := hrel
    have hlo := hown.out.1
    have hsz := hB.size
    by_cases hlt : k < n
    · obtain ⟨b, off, x, y, d, rfl, hb, hcx, hcy, hcd, hv⟩ := RdD_at (Rd.below hr hB) (k := k) (by rw [HZ.out]; exact hlt)
      have hg : w.heap.size < wr.heap.size := (hown.out.lt w.heap.size rfl).2
      have HR := Lib.hid hr
      clear hr
      have HO := hown
      clear hown
      go_wp2_with (go_at_call 18; fail)
      refine (toDomino_any _ _ _ _).mono ?_
      rintro e w1 ⟨rfl, hb1⟩
      have hO1 := own_below HO.out hb1
      have hB1 : Below w.heap.size w w1 := hB.trans (hb1.mono hsz)
      have hc0 := hO1.cellAt (k * 3) (by omega)
      have hc1 := hO1.cellAt (k * 3 + 1) (by omega)
      have hc2 := hO1.cellAt (k * 3 + 2) (by omega)
      have hf0 := hO1.frozenAt (k * 3)
      have hf1 := hO1.frozenAt (k * 3 + 1)
      have hf2 := hO1.frozenAt (k * 3 + 2)
      have hk0 : k * 3 < xs.length := by omega
      have hk1 : k * 3 + 1 < xs.length := by omega
      have hk2 : k * 3 + 2 < xs.length := by omega
      rw [List.getElem?_eq_getElem hk0] at hc0
      rw [List.getElem?_eq_getElem hk1] at hc1
      rw [List.getElem?_eq_getElem hk2] at hc2
      obtain ⟨u0, hu0⟩ : ∃ u, u = xs[k * 3] := ⟨_, rfl⟩
      obtain ⟨u1, hu1⟩ : ∃ u, u = xs[k * 3 + 1] := ⟨_, rfl⟩
      obtain ⟨u2, hu2⟩ : ∃ u, u = xs[k * 3 + 2] := ⟨_, rfl⟩
      rw [← hu0] at hc0
      rw [← hu1] at hc1
      rw [← hu2] at hc2
      have HST := Lib.hid ((((hO1.stored (k * 3) (.int .i64 x)).1.stored (k * 3 + 1) (.int .i64 y)).1.stored (k * 3 + 2) (.bool d)).1)
      have HX := Lib.hid (set3 (p := (x, y, d)) hk2 hX.out hv.out)
      clear hu0 hu1 hu2 hlo hO1 hk0 hk1 hk2 hb1 hv
      go_wp2
      go_roundw
      case rel => exact ⟨k + 1, _, by omega, by go_num, HST, HX, ((hB1.setCell (Nat.le_refl _) _).setCell (Nat.le_refl _) _).setCell (Nat.le_refl _) _⟩
      case measure => simp [intOf]; omega
    · have hkn : k = n := by omega
      have HX : Hid (xs = flatD L) := Lib.hid (by
        have h := hX.out
        rw [hkn, List.take_of_length_le (by omega), List.take_of_length_le (by rw [HZ.out]; exact Nat.le_refl _)] at h
        exact h)
      clear hr hkn hlo
      go_wp2
      go_ret
      exact ⟨rfl, by rw [← HX.out]; exact hown.out, hB⟩

theorem toDominoS_g (a : Option Addr) (n c : Nat) (L : List DomI) (w : World) (hz : L.length = n) (hn : n ≤ 1048576) (hr : RdD w a L) :
    Calls Tryd.prog 29 #[.slice a n c] w fun e w' => ∃ g, e = .returned (.slice (some ⟨g, 0, none⟩) n n) ∧ w.heap.size ≤ g ∧
      w'.ownsRow w.heap.size 33 3 (.slice (some ⟨g, 0, none⟩) n n) n (flatD L) ∧ Below w.heap.size w w' := by
  refine (toDominoS_any a n c L w hz hn hr).mono ?_
  rintro e w' ⟨rfl, h1, h2⟩
  exact ⟨_, rfl, Nat.le_refl _, h1, h2⟩
theorem eqDomino_same (x y : Int) (d : Bool) (w : World) :
    Calls Tryd.prog 53 #[.agg #[.int .i64 x, .int .i64 y, .bool d], .agg #[.int .i64 x, .int .i64 y, .bool d]] w fun e w' => e = .returned (.bool true) ∧ Below w.heap.size w w' := by
  have := eqDomino_any x y x y d d w
  simpa using this
set_option maxHeartbeats 800000 in
set_option maxRecDepth 100000 in
theorem eqDominoS_same (a b : Option Addr) (n c d : Nat) (L : List DomI) (w : World) (hz : L.length = n) (hn : n ≤ 1048576) (hr : RdD w a L) (hs : RdD w b L) :
    Calls Tryd.prog 31 #[.slice a n c, .slice b n d] w fun e w' => e = .returned (.bool true) ∧ Below w.heap.size w w' := by
  have HZ := Lib.hid hz
  clear hz
  go_enter Tryd.func31, Tryd.ntmps31
  go_wp2
  go_loopw [5] (fun i wr => ∃ k : Nat, k ≤ n ∧ i = .int .i64 k ∧ Below w.heap.size w wr) (fun i _ => n - (intOf i).toNat)
  case atStart => exact ⟨0, Nat.zero_le _, rfl, Below.refl _ _⟩
  case round =>
    obtain ⟨k, hk, rfl, hB⟩ := hrel
    have hsz := hB.size
    by_cases hlt : k < n
    · obtain ⟨b1, off1, x, y, dn, rfl, hb1, hcx1, hcy1, hcd1, hv1⟩ := RdD_at (Rd.below hr hB) (k := k) (by rw [HZ.out]; exact hlt)
      obtain ⟨b2, off2, x', y', dn', rfl, hb2, hcx2, hcy2, hcd2, hv2⟩ := RdD_at (Rd.below hs hB) (k := k) (by rw [HZ.out]; exact hlt)
      obtain ⟨rfl, rfl, rfl⟩ : x = x' ∧ y = y' ∧ dn = dn' := by have h1 := hv1.out; rw [hv2.out] at h1; have := Option.some.inj h1; simp at this; exact ⟨this.1.symm, this.2.1.symm, this.2.2.symm⟩
      have HR := Lib.hid hr
      have HS := Lib.hid hs
      clear hr hs hv2 hv1
      go_wp2
      refine hold_start (S := (fun w' => w'.cell? ⟨b1, off1 + k * 3, none⟩ = some (.int .i64 x) ∧ w'.cell? ⟨b1, off1 + k * 3 + 1, none⟩ = some (.int .i64 y) ∧ w'.cell? ⟨b1, off1 + k * 3 + 2, none⟩ = some (.bool dn) ∧ w'.cell? ⟨b2, off2 + k * 3, none⟩ = some (.int .i64 x) ∧ w'.cell? ⟨b2, off2 + k * 3 + 1, none⟩ = some (.int .i64 y) ∧ w'.cell? ⟨b2, off2 + k * 3 + 2, none⟩ = some (.bool dn) ∧ Below w.heap.size w w' ∧ wr.heap.size ≤ w'.heap.size)) (by kernel_rfl) (by kernel_rfl) (by intro _ _ d _ _ h; cases d <;> exact h) ?_ (fun hHC hH0 => ?_)
      · (first | (go_keep; done) | ((try go_split_ands); (repeat' apply And.intro) <;> first | assumption | (with_reducible refine Rd.below ?_ hb1; assumption) | (with_reducible refine Rd.drew ?_; repeat' (first | assumption | (with_reducible refine Rd.alloc ?_ _))) | (refine (hb1.cell (by first | omega | (simp; done) | (simp; omega))).trans ?_; first | assumption | simp) | (exact below_step hb1 (by first | omega | (simp; done) | (simp; omega)) (by assumption)) | (have hz' := hb1.size; (try simp at hz'); omega) | ((repeat' (first | assumption | (with_reducible exact Below.refl _ _) | (with_reducible refine Below.drew ?_) | (with_reducible refine Below.alloc ?_ ?_ _) | (with_reducible refine Below.setCell ?_ ?_ _) | omega | (simp; done) | (simp; omega))); done) | go_simp | (simp; done) | (simp; omega)))
      refine hold_plain 0 (v := ?_) hHC hH0 (by simp only [List.getElem?_toArray, List.getElem?_cons_succ, List.getElem?_cons_zero]; rfl) rfl (by kernel_rfl) ?_ ?_
      rotate_left 1
      · (intro w hSw; (try dsimp only at hSw); go_simp; try with_reducible rfl)
      try simp only [Act.put, List.setIfInBounds_toArray, List.set_cons_zero, List.set_cons_succ]
      refine hold_plain 1 (v := ?_) hHC hH0 (by simp only [List.getElem?_toArray, List.getElem?_cons_succ, List.getElem?_cons_zero]; rfl) rfl (by kernel_rfl) ?_ ?_
      rotate_left 1
      · (intro w hSw; (try dsimp only at hSw); go_simp; try with_reducible rfl)
      try simp only [Act.put, List.setIfInBounds_toArray, List.set_cons_zero, List.set_cons_succ]
      refine hold_plain 2 (v := ?_) hHC hH0 (by simp only [List.getElem?_toArray, List.getElem?_cons_succ, List.getElem?_cons_zero]; rfl) rfl (by kernel_rfl) ?_ ?_
      rotate_left 1
      · (intro w hSw; (try dsimp only at hSw); go_simp; try with_reducible rfl)
      try simp only [Act.put, List.setIfInBounds_toArray, List.set_cons_zero, List.set_cons_succ]
      refine hold_plain 3 (v := ?_) hHC hH0 (by simp only [List.getElem?_toArray, List.getElem?_cons_succ, List.getElem?_cons_zero]; rfl) rfl (by kernel_rfl) ?_ ?_
      rotate_left 1
      · (intro w hSw; (try dsimp only at hSw); go_simp; try with_reducible rfl)
      try simp only [Act.put, List.setIfInBounds_toArray, List.set_cons_zero, List.set_cons_succ]
      refine hold_plain 4 (v := ?_) hHC hH0 (by simp only [List.getElem?_toArray, List.getElem?_cons_succ, List.getElem?_cons_zero]; rfl) rfl (by kernel_rfl) ?_ ?_
      rotate_left 1
      · (intro w hSw; (try dsimp only at hSw); go_simp; try with_reducible rfl)
      try simp only [Act.put, List.setIfInBounds_toArray, List.set_cons_zero, List.set_cons_succ]
      refine hold_plain 5 (v := ?_) hHC hH0 (by simp only [List.getElem?_toArray, List.getElem?_cons_succ, List.getElem?_cons_zero]; rfl) rfl (by kernel_rfl) ?_ ?_
      rotate_left 1
      · (intro w hSw; (try dsimp only at hSw); go_simp; try with_reducible rfl)
      try simp only [Act.put, List.setIfInBounds_toArray, List.set_cons_zero, List.set_cons_succ]
      refine hold_plain 6 (v := ?_) hHC hH0 (by simp only [List.getElem?_toArray, List.getElem?_cons_succ, List.getElem?_cons_zero]; rfl) rfl (by kernel_rfl) ?_ ?_
      rotate_left 1
      · (intro w hSw; (try dsimp only at hSw); go_simp; try with_reducible rfl)
      try simp only [Act.put, List.setIfInBounds_toArray, List.set_cons_zero, List.set_cons_succ]
      refine hold_plain 7 (v := ?_) hHC hH0 (by simp only [List.getElem?_toArray, List.getElem?_cons_succ, List.getElem?_cons_zero]; rfl) rfl (by kernel_rfl) ?_ ?_
      rotate_left 1
      · (intro w hSw; (try dsimp only at hSw); go_simp; try with_reducible rfl)
      try simp only [Act.put, List.setIfInBounds_toArray, List.set_cons_zero, List.set_cons_succ]
      refine hold_call0 8 (by simp only [List.getElem?_toArray, List.getElem?_cons_succ, List.getElem?_cons_zero]; rfl) rfl (by kernel_rfl) (fun K hK => ?_)
      go_simp
      (go_at_call 53; refine (eqDomino_same _ _ _ _).mono ?_; rintro e w1 ⟨rfl, hb1'⟩; have hb1 := hb1')
      refine hK.out _ _ ?_ (fun hH1 => ?_)
      · (first | (go_keep; done) | ((try go_split_ands); (repeat' apply And.intro) <;> first | assumption | (with_reducible refine Rd.below ?_ hb1; assumption) | (with_reducible refine Rd.drew ?_; repeat' (first | assumption | (with_reducible refine Rd.alloc ?_ _))) | (refine (hb1.cell (by first | omega | (simp; done) | (simp; omega))).trans ?_; first | assumption | simp) | (exact below_step hb1 (by first | omega | (simp; done) | (simp; omega)) (by assumption)) | (have hz' := hb1.size; (try simp at hz'); omega) | ((repeat' (first | assumption | (with_reducible exact Below.refl _ _) | (with_reducible refine Below.drew ?_) | (with_reducible refine Below.alloc ?_ ?_ _) | (with_reducible refine Below.setCell ?_ ?_ _) | omega | (simp; done) | (simp; omega))); done) | go_simp | (simp; done) | (simp; omega)))
      clear hK K hH0
      try simp only [Act.put, List.setIfInBounds_toArray, List.set_cons_zero, List.set_cons_succ]
      refine hold_plain 9 (v := ?_) hHC hH1 (by simp only [List.getElem?_toArray, List.getElem?_cons_succ, List.getElem?_cons_zero]; rfl) rfl (by kernel_rfl) ?_ ?_
      rotate_left 1
      · (intro w hSw; (try dsimp only at hSw); go_simp; try with_reducible rfl)
      try simp only [Act.put, List.setIfInBounds_toArray, List.set_cons_zero, List.set_cons_succ]
      refine wpAnyH_done (by kernel_rfl) ?_ _
      (try dsimp only at hH1)
      go_split_ands
      clear hHC
      go_wp2
      go_roundw
      case rel => exact ⟨k + 1, by omega, by go_num, by assumption⟩
      case measure => simp [intOf]; omega
    · clear hr hs
      go_wp2
      go_ret
      exact ⟨rfl, hB⟩

end Go.Proofs.YtlbmmdkmelcedaaDoor
