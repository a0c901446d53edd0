/-
  The plain facts of the law of counts: half as many dominoes as cells; no cell; rectangles.
-/
import Derived.Test.YtfjkjnhmlljefaaCntC
namespace Go.Proofs.Ytfjkjnhmlljefaa
open Go.RowKit
set_option linter.unusedVariables false
set_option linter.unusedSimpArgs false

theorem many_cells (S : Nat) : Tl.many 64 (fun j => S.testBit j) = (cellsL S).length := by
  have h : (List.range 64).map (fun j => 63 - j) = (List.range 64).reverse := by decide
  unfold Tl.many cellsL cellsK
  rw [List.length_map, ← List.countP_eq_length_filter, ← List.countP_eq_length_filter]
  have h2 := congrArg (fun l => l.countP fun j => S.testBit j) h
  simp only [List.countP_map, List.countP_reverse] at h2
  exact h2
theorem til_tl {zs : List Int} (h : rokB zs = true) : tilN zs = (Tl.tl 64 (fun j => (setS zs).testBit j) : Int) := by
  rw [til_tiles h]
  unfold Tl.tiles
  congr 2
  funext j
  rw [at_sxy]
  by_cases hj : j < 64
  · simp [hj]
  · rw [Nat.testBit_lt_two_pow (Nat.lt_of_lt_of_le (setS_lt h) (Nat.pow_le_pow_right (by omega) (by omega)))]
    simp
theorem til_bd {zs : List Int} (h : rokB zs = true) : 0 ≤ tilN zs ∧ tilN zs ≤ 4294967296 := by
  rw [til_tl h]
  have h1 := Tl.tl_le 64 (by omega) (fun j => (setS zs).testBit j) 32 (by have := Tl.many_le 64 (fun j => (setS zs).testBit j); omega)
  have h2 : (2 : Nat) ^ 32 = 4294967296 := by decide
  omega
/-- Without a cell there is the one tiling. -/
theorem til_none {zs : List Int} (h : rokB zs = true) (h0 : (coL zs).length = 0) : tilN zs = 1 := by
  rw [coL_yes h] at h0
  rw [til_tl h, ← Tl.part_tl 64 (by omega) _ 0 (by rw [many_cells]; omega), Tl.part_zero]
  rfl
theorem til_even {zs : List Int} (h : rokB zs = true) (h1 : 1 ≤ tilN zs) : ∃ n, (coL zs).length = 2 * n := by
  rw [coL_yes h, ← many_cells]
  rw [til_tl h] at h1
  refine ⟨Tl.many 64 (fun j => (setS zs).testBit j) / 2, ?_⟩
  by_cases hd : Tl.many 64 (fun j => (setS zs).testBit j) % 2 = 1
  · have := Tl.tl_odd 64 (by omega) (fun j => (setS zs).testBit j) (Tl.many 64 (fun j => (setS zs).testBit j) / 2) (by omega)
    omega
  · omega
theorem cp_half {zs : List Int} (h : rokB zs = true) (h1 : 1 ≤ tilN zs) (h16 : (coL zs).length ≤ 16) {n : Nat} (hn : (coL zs).length = 2 * n) : cpN zs (n : Int) = tilN zs := by
  unfold cpN
  rw [if_pos (by rw [h]; simp; omega), Int.toNat_natCast]
  obtain ⟨b0, b1⟩ := til_bd h
  have hm := pn_part _ (setS zs) n (Nat.le_refl _) (setS_lt h)
  rw [coL_yes h] at hn
  rw [Tl.part_tl 64 (by omega) _ n (by rw [many_cells]; exact hn), ← til_tl h] at hm
  obtain ⟨p0, p1⟩ := pN_in (cellsL (setS zs)) n
  omega
theorem cp_zero {zs : List Int} (h : rokB zs = true) (h16 : (coL zs).length ≤ 16) : cpN zs 0 = 1 := by
  unfold cpN
  rw [if_pos (by rw [h]; simp; omega)]
  exact pN_zero _
theorem rect_sym5 : ∀ (a b : Fin 5), a.val < b.val → Tl.tl 64 (fun j => decide (j % 8 < 1 + a.val) && decide (j / 8 < 1 + b.val)) = Tl.tl 64 (fun j => decide (j % 8 < 1 + b.val) && decide (j / 8 < 1 + a.val)) := by decide +kernel
theorem rect_25 : Tl.tl 64 (fun j => decide (j % 8 < 2) && decide (j / 8 < 5)) = 8 := by decide +kernel
theorem rectN_tl {W H : Nat} (h1 : 1 ≤ W) (hW : W ≤ 8) (hH1 : 1 ≤ H) (hH : H ≤ 8) : rectN W H = (Tl.tl 64 (fun j => decide (j % 8 < W) && decide (j / 8 < H)) : Int) := by
  have h := til_tiles (rect_okT h1 hW hH)
  unfold tilN at h
  rw [if_pos (rect_okT h1 hW hH)] at h
  have hx : inB (W : Int) 1 8 = true := inB_iff.2 (by omega)
  have hy : inB (H : Int) 1 8 = true := inB_iff.2 (by omega)
  unfold rectN
  rw [hx, hy, Bool.and_self, if_pos rfl, Int.toNat_natCast, Int.toNat_natCast, h]
  unfold Tl.tiles
  have e : (fun j => decide (j % 8 < W) && decide (j / 8 < H) && decide (j < 64)) = (fun j => decide (j % 8 < W) && decide (j / 8 < H)) := by
    funext j
    by_cases h64 : j < 64
    · simp [h64]
    · have : ¬ j / 8 < H := by omega
      simp [h64, this]
  rw [rect_at8 hW hH, e]
/-- A rectangle and the same laid on its side have as many tilings. -/
theorem rectN_sym {W H : Nat} (h1 : 1 ≤ W) (hW : W ≤ 5) (hH1 : 1 ≤ H) (hH : H ≤ 5) : rectN W H = rectN H W := by
  rw [rectN_tl h1 (by omega) hH1 (by omega), rectN_tl hH1 (by omega) h1 (by omega)]
  have e1 : W = 1 + (W - 1) := by omega
  have e2 : H = 1 + (H - 1) := by omega
  rcases Nat.lt_trichotomy W H with h | h | h
  · have := rect_sym5 ⟨W - 1, by omega⟩ ⟨H - 1, by omega⟩ (by simp only; omega)
    simp only [← e1, ← e2] at this
    rw [this]
  · rw [h]
  · have := rect_sym5 ⟨H - 1, by omega⟩ ⟨W - 1, by omega⟩ (by simp only; omega)
    simp only [← e1, ← e2] at this
    rw [this]
theorem rectN_25 : rectN 2 5 = 8 := by
  have h := rectN_tl (W := 2) (H := 5) (by omega) (by omega) (by omega) (by omega)
  have h2 := congrArg (fun n : Nat => (n : Int)) rect_25
  exact h.trans h2
end Go.Proofs.Ytfjkjnhmlljefaa
