/-
  Cells minus pairs plus squares, summed over the list of cells; touching corners seen from the cells: plain.
-/
import Derived.Test.YtghakmhglneckaaEul
import Derived.Test.YtghakmhglneckaaPcs
import Derived.Test.YtghakmhglneckaaHol
import Derived.Test.YtghakmhglneckaaSim
import Derived.Test.YtghakmhglneckaaCountB
namespace Go.Proofs.Ytghakmhglneckaa
open Plain
set_option linter.unusedVariables false
set_option linter.unusedSimpArgs false

theorem edges_list : gridEdges.map (·.1) = ((List.range 64).filter fun i => decide (i % 8 < 7)).map (fun i => (i, i + 1)) ++ ((List.range 64).filter fun i => decide (i / 8 < 7)).map (fun i => (i, i + 8)) := by decide +kernel
theorem full_list : ((List.range 50).filter fun r => decide (r < 49)).map (fun r => 8 * (r / 7) + r % 7) = (List.range 64).filter fun i => decide (i % 8 < 7) && decide (i / 8 < 7) := by decide +kernel
def rB (S : Nat → Bool) (i : Nat) : Bool := decide (i % 8 < 7) && (S i && S (i + 1))
def dB (S : Nat → Bool) (i : Nat) : Bool := decide (i / 8 < 7) && (S i && S (i + 8))
def qB (S : Nat → Bool) (i : Nat) : Bool := (decide (i % 8 < 7) && decide (i / 8 < 7)) && (S i && S (i + 1) && S (i + 8) && S (i + 9))
theorem edges_cnt (S : Nat → Bool) : (gridEdges.filter (inS S)).length = cnt 64 (rB S) + cnt 64 (dB S) := by
  have h : (gridEdges.filter (inS S)).length = ((gridEdges.map (·.1)).filter fun e => S e.1 && S e.2).length := by
    rw [List.filter_map, List.length_map]
    rfl
  rw [h, edges_list, List.filter_append, List.length_append, List.filter_map, List.filter_map, List.length_map, List.length_map, List.filter_filter, List.filter_filter]
  unfold cnt
  congr 2
  · apply List.filter_congr
    intro i _
    simp only [rB, Function.comp]
    cases decide (i % 8 < 7) <;> simp
  · apply List.filter_congr
    intro i _
    simp only [dB, Function.comp]
    cases decide (i / 8 < 7) <;> simp
theorem full_cnt (S : Nat → Bool) : cnt 50 (full S) = cnt 64 (qB S) := by
  have h1 : cnt 50 (full S) = ((((List.range 50).filter fun r => decide (r < 49)).map (fun r => 8 * (r / 7) + r % 7)).filter fun i => S i && S (i + 1) && S (i + 8) && S (i + 9)).length := by
    rw [List.filter_map, List.length_map, List.filter_filter]
    unfold cnt
    congr 1
    apply List.filter_congr
    intro r _
    simp only [full, Function.comp]
    cases decide (r < 49) <;> simp
  rw [h1, full_list, List.filter_filter]
  unfold cnt
  congr 1
  apply List.filter_congr
  intro i _
  simp only [qB]
  cases (decide (i % 8 < 7) && decide (i / 8 < 7)) <;> simp
def oneI (b : Bool) : Int := if b then 1 else 0
/-- What one cell takes from the sum. -/
def takeI (S : Nat) (p : Int × Int) : Int := oneI (hasB S (p.1 + 1) p.2) + oneI (hasB S p.1 (p.2 + 1)) - oneI (hasB S (p.1 + 1) p.2 && (hasB S p.1 (p.2 + 1) && hasB S (p.1 + 1) (p.2 + 1)))
theorem hasN {S x y : Nat} (hx : x < 8) (hy : y < 8) : hasB S (x : Int) (y : Int) = S.testBit (8 * y + x) := by
  unfold hasB
  rw [okB_iff.2 (by omega), Bool.true_and]
  congr 1
  omega
theorem hasN_no {S : Nat} {x y : Int} (h : 7 < x ∨ 7 < y ∨ x < 0 ∨ y < 0) : hasB S x y = false := by
  unfold hasB
  have : okB x y = false := by
    rw [Bool.eq_false_iff]
    intro e
    have := okB_iff.1 e
    omega
  rw [this]
  rfl
theorem take_at {S i : Nat} (hi : i < 64) (h : S.testBit i = true) : takeI S (cellOf i) = oneI (rB S.testBit i) + oneI (dB S.testBit i) - oneI (qB S.testBit i) := by
  obtain ⟨x, y, hx, hy, rfl⟩ : ∃ x y : Nat, x < 8 ∧ y < 8 ∧ i = 8 * y + x := ⟨i % 8, i / 8, by omega, by omega, by omega⟩
  have e1 : (8 * y + x) % 8 = x := by omega
  have e2 : (8 * y + x) / 8 = y := by omega
  have er : hasB S ((x : Int) + 1) (y : Int) = (decide (x < 7) && S.testBit (8 * y + x + 1)) := by
    by_cases h7 : x < 7
    · rw [show (x : Int) + 1 = ((x + 1 : Nat) : Int) by omega, hasN (by omega) hy]
      simp [h7, Nat.add_assoc]
    · rw [hasN_no (by omega)]
      simp [h7]
  have ed : hasB S (x : Int) ((y : Int) + 1) = (decide (y < 7) && S.testBit (8 * y + x + 8)) := by
    by_cases h7 : y < 7
    · rw [show (y : Int) + 1 = ((y + 1 : Nat) : Int) by omega, hasN hx (by omega), show 8 * (y + 1) + x = 8 * y + x + 8 by omega]
      simp [h7]
    · rw [hasN_no (by omega)]
      simp [h7]
  have eq : (decide (x < 7) && decide (y < 7)) = true → hasB S ((x : Int) + 1) ((y : Int) + 1) = S.testBit (8 * y + x + 9) := by
    intro h7
    simp at h7
    rw [show (x : Int) + 1 = ((x + 1 : Nat) : Int) by omega, show (y : Int) + 1 = ((y + 1 : Nat) : Int) by omega, hasN (by omega) (by omega), show 8 * (y + 1) + (x + 1) = 8 * y + x + 9 by omega]
  unfold takeI cellOf rB dB qB
  simp only [e1, e2, h, er, ed, Bool.true_and]
  congr 2
  by_cases h7 : (decide (x < 7) && decide (y < 7)) = true
  · rw [eq h7]
    simp at h7
    simp [h7]
    cases S.testBit (8 * y + x + 1) <;> simp
  · simp at h7
    by_cases hx7 : x < 7
    · have : ¬ y < 7 := by omega
      simp [this]
    · simp [hx7]
theorem sum_take (S : Nat) : ∀ k, k ≤ 64 → ((cellsK S k).map (takeI S)).sum = (cnt k (rB S.testBit) : Int) + cnt k (dB S.testBit) - cnt k (qB S.testBit) := by
  intro k
  induction k with
  | zero => intro _; simp [cellsK, cnt]
  | succ k ih =>
    intro hk
    have h := ih (by omega)
    rw [cnt_succ, cnt_succ, cnt_succ]
    by_cases hb : S.testBit k = true
    · rw [cellsK_yes hb, List.map_append, List.sum_append, h, List.map_cons, List.map_nil, List.sum_cons, List.sum_nil, take_at (by omega) hb]
      unfold oneI
      push_cast
      cases rB S.testBit k <;> cases dB S.testBit k <;> cases qB S.testBit k <;> simp <;> omega
    · have hb' : S.testBit k = false := by simpa using hb
      rw [cellsK_no hb', h]
      have e1 : rB S.testBit k = false := by simp [rB, hb']
      have e2 : dB S.testBit k = false := by simp [dB, hb']
      have e3 : qB S.testBit k = false := by simp [qB, hb']
      rw [e1, e2, e3]
      simp
theorem cells_cnt (S : Nat) : ∀ k, (cellsK S k).length = cnt k S.testBit := by
  intro k
  unfold cellsK cnt
  rw [List.length_map]
/-- THE SUM. -/
theorem euler_sum {zs : List Int} (h : rokB zs = true) : ((coL zs).length : Int) - ((coL zs).map (takeI (setS zs))).sum = (pcB zs : Int) - hlB zs := by
  rw [coL_yes h]
  unfold cellsL
  rw [sum_take _ 64 (Nat.le_refl _), cells_cnt]
  have he := euler (setS zs).testBit
  rw [edges_cnt, full_cnt] at he
  have h1 : (pcB zs : Int) = (pieces (setS zs).testBit : Int) := by unfold pcB; rw [if_pos h]; rfl
  have h2 : hlB zs = (blanks (setS zs).testBit : Int) - 1 := by unfold hlB; rw [if_pos h]
  rw [h1, h2]
  omega
/-- What one cell sees of a touching corner. -/
def seeB (S : Nat) (p : Int × Int) : Bool := (hasB S (p.1 + 1) (p.2 + 1) && (!hasB S (p.1 + 1) p.2 && !hasB S p.1 (p.2 + 1))) || (hasB S (p.1 - 1) (p.2 + 1) && (!hasB S (p.1 - 1) p.2 && !hasB S p.1 (p.2 + 1)))
theorem mem_cells {S : Nat} {p : Int × Int} : p ∈ cellsL S ↔ hasB S p.1 p.2 = true := by
  unfold cellsL cellsK
  rw [List.mem_map]
  constructor
  · rintro ⟨i, hi, rfl⟩
    rw [List.mem_filter, List.mem_range] at hi
    have := hasN (S := S) (x := i % 8) (y := i / 8) (by omega) (by omega)
    unfold cellOf
    rw [this, show 8 * (i / 8) + i % 8 = i by omega]
    exact hi.2
  · intro h
    unfold hasB at h
    rw [Bool.and_eq_true] at h
    obtain ⟨⟨x0, x7⟩, y0, y7⟩ := okB_iff.1 h.1
    refine ⟨(p.2 * 8 + p.1).toNat, ?_, ?_⟩
    · rw [List.mem_filter, List.mem_range]
      exact ⟨by omega, h.2⟩
    · unfold cellOf
      apply Prod.ext
      · show (((p.2 * 8 + p.1).toNat % 8 : Nat) : Int) = p.1
        omega
      · show (((p.2 * 8 + p.1).toNat / 8 : Nat) : Int) = p.2
        omega
theorem see_touch (S : Nat) : (cellsL S).any (seeB S) = touchB S := by
  rw [Bool.eq_iff_iff]
  unfold touchB
  rw [List.any_eq_true, List.any_eq_true]
  constructor
  · rintro ⟨p, hp, hs⟩
    have hb := mem_cells.1 hp
    have hb2 := hb
    unfold hasB at hb2
    rw [Bool.and_eq_true] at hb2
    obtain ⟨⟨x0, x7⟩, y0, y7⟩ := okB_iff.1 hb2.1
    obtain ⟨x, hx⟩ : ∃ x : Nat, p.1 = x := ⟨p.1.toNat, by omega⟩
    obtain ⟨y, hy⟩ : ∃ y : Nat, p.2 = y := ⟨p.2.toNat, by omega⟩
    unfold seeB at hs
    rw [hx, hy] at hs hb
    rw [Bool.or_eq_true] at hs
    rcases hs with hs | hs
    · simp only [Bool.and_eq_true, Bool.not_eq_true'] at hs
      obtain ⟨h1, h2, h3⟩ := hs
      have hxy : x < 7 ∧ y < 7 := by
        constructor
        · apply Nat.lt_of_not_le
          intro h'
          rw [hasN_no (by omega)] at h1
          cases h1
        · apply Nat.lt_of_not_le
          intro h'
          rw [hasN_no (by omega)] at h1
          cases h1
      refine ⟨y * 7 + x, List.mem_range.2 (by omega), ?_⟩
      rw [tch_at hxy.1, tch_val hb h2 h3 h1]
      rfl
    · simp only [Bool.and_eq_true, Bool.not_eq_true'] at hs
      obtain ⟨h1, h2, h3⟩ := hs
      have hxy : 1 ≤ x ∧ y < 7 := by
        constructor
        · apply Nat.lt_of_not_le
          intro h'
          rw [hasN_no (by omega)] at h1
          cases h1
        · apply Nat.lt_of_not_le
          intro h'
          rw [hasN_no (by omega)] at h1
          cases h1
      obtain ⟨u, rfl⟩ : ∃ u, x = u + 1 := ⟨x - 1, by omega⟩
      have e1 : ((u + 1 : Nat) : Int) - 1 = (u : Int) := by omega
      have e2 : ((u + 1 : Nat) : Int) = (u : Int) + 1 := by omega
      rw [e1] at h1 h2
      rw [e2] at hb h3
      refine ⟨y * 7 + u, List.mem_range.2 (by omega), ?_⟩
      rw [tch_at (by omega), tch_val h2 hb h1 h3]
      rfl
  · rintro ⟨k, hk, ht⟩
    rw [List.mem_range] at hk
    obtain ⟨x, y, hx, hy, rfl⟩ : ∃ x y : Nat, x < 7 ∧ y < 7 ∧ k = y * 7 + x := ⟨k % 7, k / 7, by omega, by omega, by omega⟩
    rw [tch_at hx] at ht
    unfold tch at ht
    cases ha : hasB S (x : Int) (y : Int) <;> cases hb : hasB S ((x : Int) + 1) (y : Int) <;> cases hc : hasB S (x : Int) ((y : Int) + 1) <;> cases hd : hasB S ((x : Int) + 1) ((y : Int) + 1) <;> rw [ha, hb, hc, hd] at ht <;> first | (simp at ht; done) | skip
    · refine ⟨((x : Int) + 1, (y : Int)), mem_cells.2 hb, ?_⟩
      unfold seeB
      rw [Bool.or_eq_true]
      right
      simp only [show (x : Int) + 1 - 1 = x by omega, ha, hc, hd]
      rfl
    · refine ⟨((x : Int), (y : Int)), mem_cells.2 ha, ?_⟩
      unfold seeB
      rw [Bool.or_eq_true]
      left
      simp only [hb, hc, hd]
      rfl
end Go.Proofs.Ytghakmhglneckaa
