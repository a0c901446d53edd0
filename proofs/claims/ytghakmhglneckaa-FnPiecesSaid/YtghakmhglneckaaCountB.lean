/-
  Contracts of the numbers of cells and of black cells.
-/
import Derived.Test.YtghakmhglneckaaCount
namespace Go.Proofs.Ytghakmhglneckaa
open Go.RowKit
set_option linter.unusedVariables false
set_option linter.unusedSimpArgs false

theorem RdC_at {w : World} {a : Option Addr} {L : List (Int × Int)} (h : Rd w a (flatC L)) {k : Nat} (hk : k < L.length) :
    ∃ b off x y, a = some ⟨b, off, none⟩ ∧ b < w.heap.size ∧ w.cell? ⟨b, off + k * 2, none⟩ = some (.int .i64 x) ∧ w.cell? ⟨b, off + k * 2 + 1, none⟩ = some (.int .i64 y) ∧ Hid (L[k]? = some (x, y)) := by
  have hl : ∀ (L : List (Int × Int)) k, k < L.length → (flatC L)[k * 2]? = (L[k]?).map (fun p => Value.int .i64 p.1) ∧ (flatC L)[k * 2 + 1]? = (L[k]?).map (fun p => Value.int .i64 p.2) := by
    intro L
    induction L with
    | nil => intro k hk; simp at hk
    | cons p L ih =>
      intro k hk
      have e : flatC (p :: L) = .int .i64 p.1 :: .int .i64 p.2 :: flatC L := by simp [flatC]
      cases k with
      | zero => rw [e]; simp
      | succ k =>
        have := ih k (by simpa using hk)
        rw [e, show (k + 1) * 2 = k * 2 + 1 + 1 by omega]
        simpa using this
  obtain ⟨h1, h2⟩ := hl L k hk
  rw [List.getElem?_eq_getElem hk] at h1 h2
  have hlen := flatC_len L
  rcases h with h0 | ⟨b, off, h3, h4, h5⟩
  · rw [h0] at h1; simp at h1
  · refine ⟨b, off, L[k].1, L[k].2, h3, h4, ?_, ?_, ?_⟩
    · rw [h5 (k * 2) (by omega), h1]; rfl
    · rw [Nat.add_assoc, h5 (k * 2 + 1) (by omega), h2]; rfl
    · exact Lib.hid (List.getElem?_eq_getElem hk)

theorem implCount_any (a : Option Addr) (n c : Nat) (zs : List Int) (w : World) (hz : zs.length = n) (hn : n ≤ 1048576) (hr : RdI w a zs) :
    Calls Try.prog 62 #[.agg #[.slice a n c]] w fun e w' => e = .returned (.int .i64 ((coL zs).length : Int)) ∧ Below w.heap.size w w' := by
  have HZ := Lib.hid hz
  clear hz
  have hcl := coL_len zs
  go_enter Try.func62, Try.ntmps62
  go_wp2_with (go_at_call 74; refine (implCellsOf_any _ _ _ zs _ HZ.out hn (by repeat' (first | assumption | (with_reducible refine Rd.alloc ?_ _) | (with_reducible refine Rd.drew ?_)))).mono ?_; rintro e w1 ⟨a1, c1, rfl, hO, hb1⟩; have hB1 : Below w.heap.size w w1 := below_step hb1 (by first | omega | (simp; done) | (simp; omega)) (by repeat' (first | assumption | (with_reducible exact Below.refl _ _) | (with_reducible refine Below.drew ?_) | (with_reducible refine Below.alloc ?_ ?_ _) | (with_reducible refine Below.setCell ?_ ?_ _) | omega | (simp; done) | (simp; omega))); clear hO hb1)
  go_ret
  exact ⟨rfl, by repeat' (first | assumption | (with_reducible exact Below.refl _ _) | (with_reducible refine Below.drew ?_) | (with_reducible refine Below.alloc ?_ ?_ _) | (with_reducible refine Below.setCell ?_ ?_ _) | omega | (simp; done) | (simp; omega))⟩

/-- How many of the cells are black. -/
def blk (L : List (Int × Int)) : Nat := (L.filter fun p => blackB p.1 p.2).length
theorem blk_le (L : List (Int × Int)) : blk L ≤ L.length := List.length_filter_le _ _
theorem blk_yes {L : List (Int × Int)} {k : Nat} {x y : Int} (h : L[k]? = some (x, y)) (hb : blackB x y = true) : blk (L.take (k + 1)) = blk (L.take k) + 1 := by
  rw [take_one h]; simp [blk, List.filter_append, hb]
theorem blk_no {L : List (Int × Int)} {k : Nat} {x y : Int} (h : L[k]? = some (x, y)) (hb : blackB x y = false) : blk (L.take (k + 1)) = blk (L.take k) := by
  rw [take_one h]; simp [blk, List.filter_append, hb]

set_option maxHeartbeats 800000 in
set_option maxRecDepth 100000 in
theorem countBlack_any (S : Nat) (w : World) (hS : Hid (S < 2 ^ 64)) :
    Calls Try.prog 61 #[.int .u64 (S : Int)] w fun e w' => e = .returned (.int .i64 (blk (cellsL S) : Int)) ∧ Below w.heap.size w w' := by
  have hcl : (cellsL S).length ≤ 64 := cellsK_len S 64
  have H := Lib.hid (fun W => cells_any S W hS)
  obtain ⟨L, hL⟩ : ∃ L, L = cellsL S := ⟨_, rfl⟩
  rw [← hL] at H hcl ⊢
  clear hL
  go_enter Try.func61, Try.ntmps61
  go_wp2_with (go_at_call 45; refine (H.out _).mono ?_; rintro e w1 ⟨a1, c1, rfl, hO, hb1⟩; have hB1 : Below w.heap.size w w1 := below_step hb1 (by first | omega | (simp; done) | (simp; omega)) (by repeat' (first | assumption | (with_reducible exact Below.refl _ _) | (with_reducible refine Below.drew ?_) | (with_reducible refine Below.alloc ?_ ?_ _) | (with_reducible refine Below.setCell ?_ ?_ _) | omega | (simp; done) | (simp; omega))); have hRL : Rd w1 a1 (flatC L) := Rd.of_own hO; clear hO hb1)
  go_loopw [3, 9] (fun s i wr => ∃ k : Nat, k ≤ L.length ∧ i = .int .i64 k ∧ s = .int .i64 (blk (L.take k) : Int) ∧ Rd wr a1 (flatC L) ∧ Below w.heap.size w wr) (fun _ i _ => L.length - (intOf i).toNat)
  case atStart => exact ⟨0, Nat.zero_le _, rfl, rfl, hRL, hB1⟩
  case round =>
    obtain ⟨k, hk, rfl, rfl, hR, hB⟩ := hrel
    have hsz := hB.size
    have hbl := blk_le (L.take k)
    have hbl2 : (L.take k).length ≤ k := by simp; omega
    by_cases hlt : k < L.length
    · obtain ⟨b, off, x, y, rfl, hb, hcx, hcy, hv⟩ := RdC_at hR hlt
      by_cases hbl3 : blackB x y = true
      · have HK := Lib.hid (blk_yes hv.out hbl3)
        go_wp2_with (go_at_call 73; refine (implBlack_any _ _ _).mono ?_; rintro e w2 ⟨rfl, hb2⟩; have hR2 : Rd w2 _ (flatC L) := Rd.below (Rd.alloc hR _) hb2; have hB2 : Below w.heap.size w w2 := below_step hb2 (by first | omega | (simp; done) | (simp; omega)) (by repeat' (first | assumption | (with_reducible exact Below.refl _ _) | (with_reducible refine Below.drew ?_) | (with_reducible refine Below.alloc ?_ ?_ _) | (with_reducible refine Below.setCell ?_ ?_ _) | omega | (simp; done) | (simp; omega))); clear hb2)
        go_roundw
        case rel => exact ⟨k + 1, by omega, by go_num, congrArg (Value.int .i64) (by rw [HK.out]; omega), hR2, hB2⟩
        case measure => simp [intOf]; omega
      · have hbl3' : blackB x y = false := by simpa using hbl3
        have HK := Lib.hid (blk_no hv.out hbl3')
        go_wp2_with (go_at_call 73; refine (implBlack_any _ _ _).mono ?_; rintro e w2 ⟨rfl, hb2⟩; have hR2 : Rd w2 _ (flatC L) := Rd.below (Rd.alloc hR _) hb2; have hB2 : Below w.heap.size w w2 := below_step hb2 (by first | omega | (simp; done) | (simp; omega)) (by repeat' (first | assumption | (with_reducible exact Below.refl _ _) | (with_reducible refine Below.drew ?_) | (with_reducible refine Below.alloc ?_ ?_ _) | (with_reducible refine Below.setCell ?_ ?_ _) | omega | (simp; done) | (simp; omega))); clear hb2)
        go_roundw
        case rel => exact ⟨k + 1, by omega, by go_num, congrArg (Value.int .i64) (by rw [HK.out]), hR2, hB2⟩
        case measure => simp [intOf]; omega
    · have hkn : k = L.length := by omega
      have HT : Hid (blk (L.take k) = blk L) := Lib.hid (by rw [hkn, List.take_length])
      clear hkn
      go_wp2
      go_ret
      exact ⟨ret_i (by rw [HT.out]), hB⟩
set_option maxHeartbeats 800000 in
set_option maxRecDepth 100000 in
theorem implExc_any (a : Option Addr) (n c : Nat) (zs : List Int) (w : World) (hz : zs.length = n) (hn : n ≤ 1048576) (hr : RdI w a zs) :
    Calls Try.prog 33 #[.agg #[.slice a n c]] w fun e w' => e = .returned (.int .i64 (2 * (blk (coL zs) : Int) - (coL zs).length)) ∧ Below w.heap.size w w' := by
  have HZ := Lib.hid hz
  clear hz
  have hcl := coL_len zs
  have hbl := blk_le (coL zs)
  by_cases h1 : rokB zs = true
  · have HS := Lib.hid (setS_lt h1)
    have HB : Hid (∀ W : World, Calls Try.prog 61 #[.int .u64 (setS zs : Int)] W fun e w' => e = .returned (.int .i64 (blk (coL zs) : Int)) ∧ Below W.heap.size W w') := Lib.hid (fun W => by rw [coL_yes h1]; exact countBlack_any (setS zs) W HS)
    have e1 : IntKind.i64.wrap (2 * (blk (coL zs) : Int)) = 2 * (blk (coL zs) : Int) := wrap_small (by omega) (by omega)
    have e2 : IntKind.i64.wrap (2 * (blk (coL zs) : Int) - ((coL zs).length : Int)) = 2 * (blk (coL zs) : Int) - ((coL zs).length : Int) := wrap_small (by omega) (by omega)
    go_enter Try.func33, Try.ntmps33
    go_wp2_with (go_at_call 37; refine (implRok_any _ _ _ zs _ HZ.out hn (by repeat' (first | assumption | (with_reducible refine Rd.alloc ?_ _) | (with_reducible refine Rd.drew ?_)))).mono ?_; rintro e wa ⟨rfl, hbwa⟩; have hzwa := hbwa.size; (try simp at hzwa); (try have hl0w_wa : w.heap.size < wa.heap.size := by omega); (try have hl1w_wa : w.heap.size + 1 < wa.heap.size := by omega); (try have hl2w_wa : w.heap.size + 1 + 1 < wa.heap.size := by omega); (try have hl3w_wa : w.heap.size + 1 + 1 + 1 < wa.heap.size := by omega); (first | (have hcw_wa : ∀ b o, b ≤ w.heap.size + 6 → wa.cell? ⟨b, o, none⟩ = _ := fun b o h => hbwa.cell (p := ⟨b, o, none⟩) (by first | omega | (simp; omega)); have hfw_wa : ∀ b o, b ≤ w.heap.size + 6 → wa.frozen? ⟨b, o, none⟩ = _ := fun b o h => hbwa.frozen (p := ⟨b, o, none⟩) (by first | omega | (simp; omega))) | (have hcw_wa : ∀ b o, b ≤ w.heap.size + 5 → wa.cell? ⟨b, o, none⟩ = _ := fun b o h => hbwa.cell (p := ⟨b, o, none⟩) (by first | omega | (simp; omega)); have hfw_wa : ∀ b o, b ≤ w.heap.size + 5 → wa.frozen? ⟨b, o, none⟩ = _ := fun b o h => hbwa.frozen (p := ⟨b, o, none⟩) (by first | omega | (simp; omega))) | (have hcw_wa : ∀ b o, b ≤ w.heap.size + 4 → wa.cell? ⟨b, o, none⟩ = _ := fun b o h => hbwa.cell (p := ⟨b, o, none⟩) (by first | omega | (simp; omega)); have hfw_wa : ∀ b o, b ≤ w.heap.size + 4 → wa.frozen? ⟨b, o, none⟩ = _ := fun b o h => hbwa.frozen (p := ⟨b, o, none⟩) (by first | omega | (simp; omega))) | (have hcw_wa : ∀ b o, b ≤ w.heap.size + 3 → wa.cell? ⟨b, o, none⟩ = _ := fun b o h => hbwa.cell (p := ⟨b, o, none⟩) (by first | omega | (simp; omega)); have hfw_wa : ∀ b o, b ≤ w.heap.size + 3 → wa.frozen? ⟨b, o, none⟩ = _ := fun b o h => hbwa.frozen (p := ⟨b, o, none⟩) (by first | omega | (simp; omega))) | (have hcw_wa : ∀ b o, b ≤ w.heap.size + 2 → wa.cell? ⟨b, o, none⟩ = _ := fun b o h => hbwa.cell (p := ⟨b, o, none⟩) (by first | omega | (simp; omega)); have hfw_wa : ∀ b o, b ≤ w.heap.size + 2 → wa.frozen? ⟨b, o, none⟩ = _ := fun b o h => hbwa.frozen (p := ⟨b, o, none⟩) (by first | omega | (simp; omega))) | (have hcw_wa : ∀ b o, b ≤ w.heap.size + 1 → wa.cell? ⟨b, o, none⟩ = _ := fun b o h => hbwa.cell (p := ⟨b, o, none⟩) (by first | omega | (simp; omega)); have hfw_wa : ∀ b o, b ≤ w.heap.size + 1 → wa.frozen? ⟨b, o, none⟩ = _ := fun b o h => hbwa.frozen (p := ⟨b, o, none⟩) (by first | omega | (simp; omega))) | (have hcw_wa : ∀ b o, b ≤ w.heap.size + 0 → wa.cell? ⟨b, o, none⟩ = _ := fun b o h => hbwa.cell (p := ⟨b, o, none⟩) (by first | omega | (simp; omega)); have hfw_wa : ∀ b o, b ≤ w.heap.size + 0 → wa.frozen? ⟨b, o, none⟩ = _ := fun b o h => hbwa.frozen (p := ⟨b, o, none⟩) (by first | omega | (simp; omega))) | skip); have hBwa : Below w.heap.size w wa := below_step hbwa (by first | omega | (simp; done) | (simp; omega)) (by repeat' (first | assumption | (with_reducible exact Below.refl _ _) | (with_reducible refine Below.drew ?_) | (with_reducible refine Below.alloc ?_ ?_ _) | (with_reducible refine Below.setCell ?_ ?_ _) | omega | (simp; done) | (simp; omega))); have hr_wa : RdI wa a zs := Rd.below (by repeat' (first | assumption | (with_reducible refine Rd.alloc ?_ _) | (with_reducible refine Rd.drew ?_))) hbwa; clear hbwa)
    refine hold_start (S := (fun w' => w'.cell? ⟨w.heap.size, 0, none⟩ = some (.slice a n c) ∧ RdI w' a zs ∧ Below w.heap.size w w' ∧ w.heap.size + 1 ≤ w'.heap.size)) (by kernel_rfl) (by kernel_rfl) (by intro _ _ d _ _ h; cases d <;> exact h) ?_ (fun hHC hH0 => ?_)
    · (first | (go_keep; done) | ((try go_split_ands); (repeat' apply And.intro) <;> first | assumption | (with_reducible refine Rd.below ?_ hb1; assumption) | (with_reducible refine Rd.drew ?_; repeat' (first | assumption | (with_reducible refine Rd.alloc ?_ _))) | (refine (hb1.cell (by first | omega | (simp; done) | (simp; omega))).trans ?_; first | assumption | simp) | (exact below_step hb1 (by first | omega | (simp; done) | (simp; omega)) (by assumption)) | (have hz' := hb1.size; (try simp at hz'); omega) | ((repeat' (first | assumption | (with_reducible exact Below.refl _ _) | (with_reducible refine Below.drew ?_) | (with_reducible refine Below.alloc ?_ ?_ _) | (with_reducible refine Below.setCell ?_ ?_ _) | omega | (simp; done) | (simp; omega))); done) | go_simp | (simp; done) | (simp; omega)))
    refine hold_plain 0 (v := ?_) hHC hH0 (by simp only [List.getElem?_toArray, List.getElem?_cons_succ, List.getElem?_cons_zero]; rfl) rfl (by kernel_rfl) ?_ ?_
    rotate_left 1
    · (intro w hSw; (try dsimp only at hSw); go_simp; try with_reducible rfl)
    try simp only [Act.put, List.setIfInBounds_toArray, List.set_cons_zero, List.set_cons_succ]
    refine hold_plain 4 (v := ?_) hHC hH0 (by simp only [List.getElem?_toArray, List.getElem?_cons_succ, List.getElem?_cons_zero]; rfl) rfl (by kernel_rfl) ?_ ?_
    rotate_left 1
    · (intro w hSw; (try dsimp only at hSw); go_simp; try with_reducible rfl)
    try simp only [Act.put, List.setIfInBounds_toArray, List.set_cons_zero, List.set_cons_succ]
    refine hold_call0 1 (by simp only [List.getElem?_toArray, List.getElem?_cons_succ, List.getElem?_cons_zero]; rfl) rfl (by kernel_rfl) (fun K hK => ?_)
    go_simp
    obtain ⟨_, hs1, _, _⟩ := id hH0; (first | (go_at_call 38; refine (set_any _ _ _ zs _ HZ.out h1 (by repeat' (first | assumption | (with_reducible refine Rd.alloc ?_ _) | (with_reducible refine Rd.drew ?_)))).mono ?_; rintro e w1 ⟨rfl, hb1⟩) | (go_at_call 61; refine (HB.out _).mono ?_; rintro e w1 ⟨rfl, hb1⟩) | (go_at_call 62; refine (implCount_any _ _ _ zs _ HZ.out hn (by repeat' (first | assumption | (with_reducible refine Rd.alloc ?_ _) | (with_reducible refine Rd.drew ?_)))).mono ?_; rintro e w1 ⟨rfl, hb1⟩))
    refine hK.out _ _ ?_ (fun hH1 => ?_)
    · (first | (go_keep; done) | ((try go_split_ands); (repeat' apply And.intro) <;> first | assumption | (with_reducible refine Rd.below ?_ hb1; assumption) | (with_reducible refine Rd.drew ?_; repeat' (first | assumption | (with_reducible refine Rd.alloc ?_ _))) | (refine (hb1.cell (by first | omega | (simp; done) | (simp; omega))).trans ?_; first | assumption | simp) | (exact below_step hb1 (by first | omega | (simp; done) | (simp; omega)) (by assumption)) | (have hz' := hb1.size; (try simp at hz'); omega) | ((repeat' (first | assumption | (with_reducible exact Below.refl _ _) | (with_reducible refine Below.drew ?_) | (with_reducible refine Below.alloc ?_ ?_ _) | (with_reducible refine Below.setCell ?_ ?_ _) | omega | (simp; done) | (simp; omega))); done) | go_simp | (simp; done) | (simp; omega)))
    clear hK K hH0
    try simp only [Act.put, List.setIfInBounds_toArray, List.set_cons_zero, List.set_cons_succ]
    refine hold_call0 2 (by simp only [List.getElem?_toArray, List.getElem?_cons_succ, List.getElem?_cons_zero]; rfl) rfl (by kernel_rfl) (fun K hK => ?_)
    go_simp
    obtain ⟨_, hs1, _, _⟩ := id hH1; (first | (go_at_call 38; refine (set_any _ _ _ zs _ HZ.out h1 (by repeat' (first | assumption | (with_reducible refine Rd.alloc ?_ _) | (with_reducible refine Rd.drew ?_)))).mono ?_; rintro e w1 ⟨rfl, hb1⟩) | (go_at_call 61; refine (HB.out _).mono ?_; rintro e w1 ⟨rfl, hb1⟩) | (go_at_call 62; refine (implCount_any _ _ _ zs _ HZ.out hn (by repeat' (first | assumption | (with_reducible refine Rd.alloc ?_ _) | (with_reducible refine Rd.drew ?_)))).mono ?_; rintro e w1 ⟨rfl, hb1⟩))
    refine hK.out _ _ ?_ (fun hH2 => ?_)
    · (first | (go_keep; done) | ((try go_split_ands); (repeat' apply And.intro) <;> first | assumption | (with_reducible refine Rd.below ?_ hb1; assumption) | (with_reducible refine Rd.drew ?_; repeat' (first | assumption | (with_reducible refine Rd.alloc ?_ _))) | (refine (hb1.cell (by first | omega | (simp; done) | (simp; omega))).trans ?_; first | assumption | simp) | (exact below_step hb1 (by first | omega | (simp; done) | (simp; omega)) (by assumption)) | (have hz' := hb1.size; (try simp at hz'); omega) | ((repeat' (first | assumption | (with_reducible exact Below.refl _ _) | (with_reducible refine Below.drew ?_) | (with_reducible refine Below.alloc ?_ ?_ _) | (with_reducible refine Below.setCell ?_ ?_ _) | omega | (simp; done) | (simp; omega))); done) | go_simp | (simp; done) | (simp; omega)))
    clear hK K hH1
    try simp only [Act.put, List.setIfInBounds_toArray, List.set_cons_zero, List.set_cons_succ]
    refine hold_plain 3 (v := ?_) hHC hH2 (by simp only [List.getElem?_toArray, List.getElem?_cons_succ, List.getElem?_cons_zero]; rfl) rfl (by kernel_rfl) ?_ ?_
    rotate_left 1
    · (intro w hSw; (try dsimp only at hSw); go_simp; try with_reducible rfl)
    try simp only [Act.put, List.setIfInBounds_toArray, List.set_cons_zero, List.set_cons_succ]
    refine hold_call0 5 (by simp only [List.getElem?_toArray, List.getElem?_cons_succ, List.getElem?_cons_zero]; rfl) rfl (by kernel_rfl) (fun K hK => ?_)
    go_simp
    obtain ⟨_, hs1, _, _⟩ := id hH2; (first | (go_at_call 38; refine (set_any _ _ _ zs _ HZ.out h1 (by repeat' (first | assumption | (with_reducible refine Rd.alloc ?_ _) | (with_reducible refine Rd.drew ?_)))).mono ?_; rintro e w1 ⟨rfl, hb1⟩) | (go_at_call 61; refine (HB.out _).mono ?_; rintro e w1 ⟨rfl, hb1⟩) | (go_at_call 62; refine (implCount_any _ _ _ zs _ HZ.out hn (by repeat' (first | assumption | (with_reducible refine Rd.alloc ?_ _) | (with_reducible refine Rd.drew ?_)))).mono ?_; rintro e w1 ⟨rfl, hb1⟩))
    refine hK.out _ _ ?_ (fun hH3 => ?_)
    · (first | (go_keep; done) | ((try go_split_ands); (repeat' apply And.intro) <;> first | assumption | (with_reducible refine Rd.below ?_ hb1; assumption) | (with_reducible refine Rd.drew ?_; repeat' (first | assumption | (with_reducible refine Rd.alloc ?_ _))) | (refine (hb1.cell (by first | omega | (simp; done) | (simp; omega))).trans ?_; first | assumption | simp) | (exact below_step hb1 (by first | omega | (simp; done) | (simp; omega)) (by assumption)) | (have hz' := hb1.size; (try simp at hz'); omega) | ((repeat' (first | assumption | (with_reducible exact Below.refl _ _) | (with_reducible refine Below.drew ?_) | (with_reducible refine Below.alloc ?_ ?_ _) | (with_reducible refine Below.setCell ?_ ?_ _) | omega | (simp; done) | (simp; omega))); done) | go_simp | (simp; done) | (simp; omega)))
    clear hK K hH2
    try simp only [Act.put, List.setIfInBounds_toArray, List.set_cons_zero, List.set_cons_succ]
    refine hold_plain 6 (v := ?_) hHC hH3 (by simp only [List.getElem?_toArray, List.getElem?_cons_succ, List.getElem?_cons_zero]; rfl) rfl (by kernel_rfl) ?_ ?_
    rotate_left 1
    · (intro w hSw; (try dsimp only at hSw); go_simp; try with_reducible rfl)
    try simp only [Act.put, List.setIfInBounds_toArray, List.set_cons_zero, List.set_cons_succ]
    refine hold_plain 7 (v := ?_) hHC hH3 (by simp only [List.getElem?_toArray, List.getElem?_cons_succ, List.getElem?_cons_zero]; rfl) rfl (by kernel_rfl) ?_ ?_
    rotate_left 1
    · (intro w hSw; (try dsimp only at hSw); go_simp; try with_reducible rfl)
    try simp only [Act.put, List.setIfInBounds_toArray, List.set_cons_zero, List.set_cons_succ]
    refine wpAnyH_done (by kernel_rfl) ?_ _
    (try dsimp only at hH3)
    go_split_ands
    clear hHC
    go_wp2
    go_ret
    exact ⟨rfl, by repeat' (first | assumption | (with_reducible exact Below.refl _ _) | (with_reducible refine Below.drew ?_) | (with_reducible refine Below.alloc ?_ ?_ _) | (with_reducible refine Below.setCell ?_ ?_ _) | omega | (simp; done) | (simp; omega))⟩
  · have h1' : rokB zs = false := by simpa using h1
    have HC := Lib.hid (coL_no h1')
    clear hcl hbl
    go_enter Try.func33, Try.ntmps33
    go_wp2_with (go_at_call 37; refine (implRok_any _ _ _ zs _ HZ.out hn (by repeat' (first | assumption | (with_reducible refine Rd.alloc ?_ _) | (with_reducible refine Rd.drew ?_)))).mono ?_; rintro e wa ⟨rfl, hbwa⟩; have hzwa := hbwa.size; (try simp at hzwa); (try have hl0w_wa : w.heap.size < wa.heap.size := by omega); (try have hl1w_wa : w.heap.size + 1 < wa.heap.size := by omega); (try have hl2w_wa : w.heap.size + 1 + 1 < wa.heap.size := by omega); (try have hl3w_wa : w.heap.size + 1 + 1 + 1 < wa.heap.size := by omega); (first | (have hcw_wa : ∀ b o, b ≤ w.heap.size + 6 → wa.cell? ⟨b, o, none⟩ = _ := fun b o h => hbwa.cell (p := ⟨b, o, none⟩) (by first | omega | (simp; omega)); have hfw_wa : ∀ b o, b ≤ w.heap.size + 6 → wa.frozen? ⟨b, o, none⟩ = _ := fun b o h => hbwa.frozen (p := ⟨b, o, none⟩) (by first | omega | (simp; omega))) | (have hcw_wa : ∀ b o, b ≤ w.heap.size + 5 → wa.cell? ⟨b, o, none⟩ = _ := fun b o h => hbwa.cell (p := ⟨b, o, none⟩) (by first | omega | (simp; omega)); have hfw_wa : ∀ b o, b ≤ w.heap.size + 5 → wa.frozen? ⟨b, o, none⟩ = _ := fun b o h => hbwa.frozen (p := ⟨b, o, none⟩) (by first | omega | (simp; omega))) | (have hcw_wa : ∀ b o, b ≤ w.heap.size + 4 → wa.cell? ⟨b, o, none⟩ = _ := fun b o h => hbwa.cell (p := ⟨b, o, none⟩) (by first | omega | (simp; omega)); have hfw_wa : ∀ b o, b ≤ w.heap.size + 4 → wa.frozen? ⟨b, o, none⟩ = _ := fun b o h => hbwa.frozen (p := ⟨b, o, none⟩) (by first | omega | (simp; omega))) | (have hcw_wa : ∀ b o, b ≤ w.heap.size + 3 → wa.cell? ⟨b, o, none⟩ = _ := fun b o h => hbwa.cell (p := ⟨b, o, none⟩) (by first | omega | (simp; omega)); have hfw_wa : ∀ b o, b ≤ w.heap.size + 3 → wa.frozen? ⟨b, o, none⟩ = _ := fun b o h => hbwa.frozen (p := ⟨b, o, none⟩) (by first | omega | (simp; omega))) | (have hcw_wa : ∀ b o, b ≤ w.heap.size + 2 → wa.cell? ⟨b, o, none⟩ = _ := fun b o h => hbwa.cell (p := ⟨b, o, none⟩) (by first | omega | (simp; omega)); have hfw_wa : ∀ b o, b ≤ w.heap.size + 2 → wa.frozen? ⟨b, o, none⟩ = _ := fun b o h => hbwa.frozen (p := ⟨b, o, none⟩) (by first | omega | (simp; omega))) | (have hcw_wa : ∀ b o, b ≤ w.heap.size + 1 → wa.cell? ⟨b, o, none⟩ = _ := fun b o h => hbwa.cell (p := ⟨b, o, none⟩) (by first | omega | (simp; omega)); have hfw_wa : ∀ b o, b ≤ w.heap.size + 1 → wa.frozen? ⟨b, o, none⟩ = _ := fun b o h => hbwa.frozen (p := ⟨b, o, none⟩) (by first | omega | (simp; omega))) | (have hcw_wa : ∀ b o, b ≤ w.heap.size + 0 → wa.cell? ⟨b, o, none⟩ = _ := fun b o h => hbwa.cell (p := ⟨b, o, none⟩) (by first | omega | (simp; omega)); have hfw_wa : ∀ b o, b ≤ w.heap.size + 0 → wa.frozen? ⟨b, o, none⟩ = _ := fun b o h => hbwa.frozen (p := ⟨b, o, none⟩) (by first | omega | (simp; omega))) | skip); have hBwa : Below w.heap.size w wa := below_step hbwa (by first | omega | (simp; done) | (simp; omega)) (by repeat' (first | assumption | (with_reducible exact Below.refl _ _) | (with_reducible refine Below.drew ?_) | (with_reducible refine Below.alloc ?_ ?_ _) | (with_reducible refine Below.setCell ?_ ?_ _) | omega | (simp; done) | (simp; omega))); clear hbwa)
    go_ret
    exact ⟨ret_i (by rw [HC.out]; rfl), by repeat' (first | assumption | (with_reducible exact Below.refl _ _) | (with_reducible refine Below.drew ?_) | (with_reducible refine Below.alloc ?_ ?_ _) | (with_reducible refine Below.setCell ?_ ?_ _) | omega | (simp; done) | (simp; omega))⟩
def balB (zs : List Int) : Bool := rokB zs && (2 * (blk (coL zs) : Int) - (coL zs).length == 0)
theorem balB_yes {zs : List Int} (h : rokB zs = true) : balB zs = (2 * (blk (coL zs) : Int) - (coL zs).length == 0) := by simp [balB, h]
theorem balB_no {zs : List Int} (h : rokB zs = false) : balB zs = false := by simp [balB, h]
theorem implBal_any (a : Option Addr) (n c : Nat) (zs : List Int) (w : World) (hz : zs.length = n) (hn : n ≤ 1048576) (hr : RdI w a zs) :
    Calls Try.prog 32 #[.agg #[.slice a n c]] w fun e w' => e = .returned (.bool (balB zs)) ∧ Below w.heap.size w w' := by
  have HZ := Lib.hid hz
  clear hz
  obtain ⟨d, hd⟩ : ∃ d : Int, d = 2 * (blk (coL zs) : Int) - (coL zs).length := ⟨_, rfl⟩
  have H2 := Lib.hid (fun W h => implExc_any a n c zs W HZ.out hn h)
  rw [← hd] at H2
  by_cases h1 : rokB zs = true
  · have HB := Lib.hid (balB_yes h1)
    rw [← hd] at HB
    clear hd
    go_enter Try.func32, Try.ntmps32
    go_wp2_with (first | (go_at_call 37; refine (implRok_any _ _ _ zs _ HZ.out hn (by repeat' (first | assumption | (with_reducible refine Rd.alloc ?_ _) | (with_reducible refine Rd.drew ?_)))).mono ?_; rintro e wa ⟨rfl, hbwa⟩; have hzwa := hbwa.size; (try simp at hzwa); (try have hl0w_wa : w.heap.size < wa.heap.size := by omega); (try have hl1w_wa : w.heap.size + 1 < wa.heap.size := by omega); (try have hl2w_wa : w.heap.size + 1 + 1 < wa.heap.size := by omega); (try have hl3w_wa : w.heap.size + 1 + 1 + 1 < wa.heap.size := by omega); (first | (have hcw_wa : ∀ b o, b ≤ w.heap.size + 6 → wa.cell? ⟨b, o, none⟩ = _ := fun b o h => hbwa.cell (p := ⟨b, o, none⟩) (by first | omega | (simp; omega)); have hfw_wa : ∀ b o, b ≤ w.heap.size + 6 → wa.frozen? ⟨b, o, none⟩ = _ := fun b o h => hbwa.frozen (p := ⟨b, o, none⟩) (by first | omega | (simp; omega))) | (have hcw_wa : ∀ b o, b ≤ w.heap.size + 5 → wa.cell? ⟨b, o, none⟩ = _ := fun b o h => hbwa.cell (p := ⟨b, o, none⟩) (by first | omega | (simp; omega)); have hfw_wa : ∀ b o, b ≤ w.heap.size + 5 → wa.frozen? ⟨b, o, none⟩ = _ := fun b o h => hbwa.frozen (p := ⟨b, o, none⟩) (by first | omega | (simp; omega))) | (have hcw_wa : ∀ b o, b ≤ w.heap.size + 4 → wa.cell? ⟨b, o, none⟩ = _ := fun b o h => hbwa.cell (p := ⟨b, o, none⟩) (by first | omega | (simp; omega)); have hfw_wa : ∀ b o, b ≤ w.heap.size + 4 → wa.frozen? ⟨b, o, none⟩ = _ := fun b o h => hbwa.frozen (p := ⟨b, o, none⟩) (by first | omega | (simp; omega))) | (have hcw_wa : ∀ b o, b ≤ w.heap.size + 3 → wa.cell? ⟨b, o, none⟩ = _ := fun b o h => hbwa.cell (p := ⟨b, o, none⟩) (by first | omega | (simp; omega)); have hfw_wa : ∀ b o, b ≤ w.heap.size + 3 → wa.frozen? ⟨b, o, none⟩ = _ := fun b o h => hbwa.frozen (p := ⟨b, o, none⟩) (by first | omega | (simp; omega))) | (have hcw_wa : ∀ b o, b ≤ w.heap.size + 2 → wa.cell? ⟨b, o, none⟩ = _ := fun b o h => hbwa.cell (p := ⟨b, o, none⟩) (by first | omega | (simp; omega)); have hfw_wa : ∀ b o, b ≤ w.heap.size + 2 → wa.frozen? ⟨b, o, none⟩ = _ := fun b o h => hbwa.frozen (p := ⟨b, o, none⟩) (by first | omega | (simp; omega))) | (have hcw_wa : ∀ b o, b ≤ w.heap.size + 1 → wa.cell? ⟨b, o, none⟩ = _ := fun b o h => hbwa.cell (p := ⟨b, o, none⟩) (by first | omega | (simp; omega)); have hfw_wa : ∀ b o, b ≤ w.heap.size + 1 → wa.frozen? ⟨b, o, none⟩ = _ := fun b o h => hbwa.frozen (p := ⟨b, o, none⟩) (by first | omega | (simp; omega))) | (have hcw_wa : ∀ b o, b ≤ w.heap.size + 0 → wa.cell? ⟨b, o, none⟩ = _ := fun b o h => hbwa.cell (p := ⟨b, o, none⟩) (by first | omega | (simp; omega)); have hfw_wa : ∀ b o, b ≤ w.heap.size + 0 → wa.frozen? ⟨b, o, none⟩ = _ := fun b o h => hbwa.frozen (p := ⟨b, o, none⟩) (by first | omega | (simp; omega))) | skip); have hBwa : Below w.heap.size w wa := below_step hbwa (by first | omega | (simp; done) | (simp; omega)) (by repeat' (first | assumption | (with_reducible exact Below.refl _ _) | (with_reducible refine Below.drew ?_) | (with_reducible refine Below.alloc ?_ ?_ _) | (with_reducible refine Below.setCell ?_ ?_ _) | omega | (simp; done) | (simp; omega))); have hr_wa : RdI wa a zs := Rd.below (by repeat' (first | assumption | (with_reducible refine Rd.alloc ?_ _) | (with_reducible refine Rd.drew ?_))) hbwa; clear hbwa) | (go_at_call 33; refine (H2.out _ (by repeat' (first | assumption | (with_reducible refine Rd.alloc ?_ _) | (with_reducible refine Rd.drew ?_)))).mono ?_; rintro e wb ⟨rfl, hbwb⟩; have hzwb := hbwb.size; (try simp at hzwb); (try have hl0w_wb : w.heap.size < wb.heap.size := by omega); (try have hl1w_wb : w.heap.size + 1 < wb.heap.size := by omega); (try have hl2w_wb : w.heap.size + 1 + 1 < wb.heap.size := by omega); (try have hl3w_wb : w.heap.size + 1 + 1 + 1 < wb.heap.size := by omega); (first | (have hcw_wb : ∀ b o, b ≤ w.heap.size + 6 → wb.cell? ⟨b, o, none⟩ = _ := fun b o h => hbwb.cell (p := ⟨b, o, none⟩) (by first | omega | (simp; omega)); have hfw_wb : ∀ b o, b ≤ w.heap.size + 6 → wb.frozen? ⟨b, o, none⟩ = _ := fun b o h => hbwb.frozen (p := ⟨b, o, none⟩) (by first | omega | (simp; omega))) | (have hcw_wb : ∀ b o, b ≤ w.heap.size + 5 → wb.cell? ⟨b, o, none⟩ = _ := fun b o h => hbwb.cell (p := ⟨b, o, none⟩) (by first | omega | (simp; omega)); have hfw_wb : ∀ b o, b ≤ w.heap.size + 5 → wb.frozen? ⟨b, o, none⟩ = _ := fun b o h => hbwb.frozen (p := ⟨b, o, none⟩) (by first | omega | (simp; omega))) | (have hcw_wb : ∀ b o, b ≤ w.heap.size + 4 → wb.cell? ⟨b, o, none⟩ = _ := fun b o h => hbwb.cell (p := ⟨b, o, none⟩) (by first | omega | (simp; omega)); have hfw_wb : ∀ b o, b ≤ w.heap.size + 4 → wb.frozen? ⟨b, o, none⟩ = _ := fun b o h => hbwb.frozen (p := ⟨b, o, none⟩) (by first | omega | (simp; omega))) | (have hcw_wb : ∀ b o, b ≤ w.heap.size + 3 → wb.cell? ⟨b, o, none⟩ = _ := fun b o h => hbwb.cell (p := ⟨b, o, none⟩) (by first | omega | (simp; omega)); have hfw_wb : ∀ b o, b ≤ w.heap.size + 3 → wb.frozen? ⟨b, o, none⟩ = _ := fun b o h => hbwb.frozen (p := ⟨b, o, none⟩) (by first | omega | (simp; omega))) | (have hcw_wb : ∀ b o, b ≤ w.heap.size + 2 → wb.cell? ⟨b, o, none⟩ = _ := fun b o h => hbwb.cell (p := ⟨b, o, none⟩) (by first | omega | (simp; omega)); have hfw_wb : ∀ b o, b ≤ w.heap.size + 2 → wb.frozen? ⟨b, o, none⟩ = _ := fun b o h => hbwb.frozen (p := ⟨b, o, none⟩) (by first | omega | (simp; omega))) | (have hcw_wb : ∀ b o, b ≤ w.heap.size + 1 → wb.cell? ⟨b, o, none⟩ = _ := fun b o h => hbwb.cell (p := ⟨b, o, none⟩) (by first | omega | (simp; omega)); have hfw_wb : ∀ b o, b ≤ w.heap.size + 1 → wb.frozen? ⟨b, o, none⟩ = _ := fun b o h => hbwb.frozen (p := ⟨b, o, none⟩) (by first | omega | (simp; omega))) | (have hcw_wb : ∀ b o, b ≤ w.heap.size + 0 → wb.cell? ⟨b, o, none⟩ = _ := fun b o h => hbwb.cell (p := ⟨b, o, none⟩) (by first | omega | (simp; omega)); have hfw_wb : ∀ b o, b ≤ w.heap.size + 0 → wb.frozen? ⟨b, o, none⟩ = _ := fun b o h => hbwb.frozen (p := ⟨b, o, none⟩) (by first | omega | (simp; omega))) | skip); have hBwb : Below w.heap.size w wb := below_step hbwb (by first | omega | (simp; done) | (simp; omega)) (by repeat' (first | assumption | (with_reducible exact Below.refl _ _) | (with_reducible refine Below.drew ?_) | (with_reducible refine Below.alloc ?_ ?_ _) | (with_reducible refine Below.setCell ?_ ?_ _) | omega | (simp; done) | (simp; omega))); clear hbwb))
    go_ret
    exact ⟨ret_b HB.out.symm, by repeat' (first | assumption | (with_reducible exact Below.refl _ _) | (with_reducible refine Below.drew ?_) | (with_reducible refine Below.alloc ?_ ?_ _) | (with_reducible refine Below.setCell ?_ ?_ _) | omega | (simp; done) | (simp; omega))⟩
  · have h1' : rokB zs = false := by simpa using h1
    have HB := Lib.hid (balB_no h1')
    clear hd
    go_enter Try.func32, Try.ntmps32
    go_wp2_with (go_at_call 37; refine (implRok_any _ _ _ zs _ HZ.out hn (by repeat' (first | assumption | (with_reducible refine Rd.alloc ?_ _) | (with_reducible refine Rd.drew ?_)))).mono ?_; rintro e wa ⟨rfl, hbwa⟩; have hzwa := hbwa.size; (try simp at hzwa); (try have hl0w_wa : w.heap.size < wa.heap.size := by omega); (try have hl1w_wa : w.heap.size + 1 < wa.heap.size := by omega); (try have hl2w_wa : w.heap.size + 1 + 1 < wa.heap.size := by omega); (try have hl3w_wa : w.heap.size + 1 + 1 + 1 < wa.heap.size := by omega); (first | (have hcw_wa : ∀ b o, b ≤ w.heap.size + 6 → wa.cell? ⟨b, o, none⟩ = _ := fun b o h => hbwa.cell (p := ⟨b, o, none⟩) (by first | omega | (simp; omega)); have hfw_wa : ∀ b o, b ≤ w.heap.size + 6 → wa.frozen? ⟨b, o, none⟩ = _ := fun b o h => hbwa.frozen (p := ⟨b, o, none⟩) (by first | omega | (simp; omega))) | (have hcw_wa : ∀ b o, b ≤ w.heap.size + 5 → wa.cell? ⟨b, o, none⟩ = _ := fun b o h => hbwa.cell (p := ⟨b, o, none⟩) (by first | omega | (simp; omega)); have hfw_wa : ∀ b o, b ≤ w.heap.size + 5 → wa.frozen? ⟨b, o, none⟩ = _ := fun b o h => hbwa.frozen (p := ⟨b, o, none⟩) (by first | omega | (simp; omega))) | (have hcw_wa : ∀ b o, b ≤ w.heap.size + 4 → wa.cell? ⟨b, o, none⟩ = _ := fun b o h => hbwa.cell (p := ⟨b, o, none⟩) (by first | omega | (simp; omega)); have hfw_wa : ∀ b o, b ≤ w.heap.size + 4 → wa.frozen? ⟨b, o, none⟩ = _ := fun b o h => hbwa.frozen (p := ⟨b, o, none⟩) (by first | omega | (simp; omega))) | (have hcw_wa : ∀ b o, b ≤ w.heap.size + 3 → wa.cell? ⟨b, o, none⟩ = _ := fun b o h => hbwa.cell (p := ⟨b, o, none⟩) (by first | omega | (simp; omega)); have hfw_wa : ∀ b o, b ≤ w.heap.size + 3 → wa.frozen? ⟨b, o, none⟩ = _ := fun b o h => hbwa.frozen (p := ⟨b, o, none⟩) (by first | omega | (simp; omega))) | (have hcw_wa : ∀ b o, b ≤ w.heap.size + 2 → wa.cell? ⟨b, o, none⟩ = _ := fun b o h => hbwa.cell (p := ⟨b, o, none⟩) (by first | omega | (simp; omega)); have hfw_wa : ∀ b o, b ≤ w.heap.size + 2 → wa.frozen? ⟨b, o, none⟩ = _ := fun b o h => hbwa.frozen (p := ⟨b, o, none⟩) (by first | omega | (simp; omega))) | (have hcw_wa : ∀ b o, b ≤ w.heap.size + 1 → wa.cell? ⟨b, o, none⟩ = _ := fun b o h => hbwa.cell (p := ⟨b, o, none⟩) (by first | omega | (simp; omega)); have hfw_wa : ∀ b o, b ≤ w.heap.size + 1 → wa.frozen? ⟨b, o, none⟩ = _ := fun b o h => hbwa.frozen (p := ⟨b, o, none⟩) (by first | omega | (simp; omega))) | (have hcw_wa : ∀ b o, b ≤ w.heap.size + 0 → wa.cell? ⟨b, o, none⟩ = _ := fun b o h => hbwa.cell (p := ⟨b, o, none⟩) (by first | omega | (simp; omega)); have hfw_wa : ∀ b o, b ≤ w.heap.size + 0 → wa.frozen? ⟨b, o, none⟩ = _ := fun b o h => hbwa.frozen (p := ⟨b, o, none⟩) (by first | omega | (simp; omega))) | skip); have hBwa : Below w.heap.size w wa := below_step hbwa (by first | omega | (simp; done) | (simp; omega)) (by repeat' (first | assumption | (with_reducible exact Below.refl _ _) | (with_reducible refine Below.drew ?_) | (with_reducible refine Below.alloc ?_ ?_ _) | (with_reducible refine Below.setCell ?_ ?_ _) | omega | (simp; done) | (simp; omega))); clear hbwa)
    go_ret
    exact ⟨ret_b HB.out.symm, by repeat' (first | assumption | (with_reducible exact Below.refl _ _) | (with_reducible refine Below.drew ?_) | (with_reducible refine Below.alloc ?_ ?_ _) | (with_reducible refine Below.setCell ?_ ?_ _) | omega | (simp; done) | (simp; omega))⟩
end Go.Proofs.Ytghakmhglneckaa
