/-
  A search from a cell, as both programs run it: plain definitions and facts.
-/
import Derived.Test.YtghakmhglneckaaNbr
import Derived.Test.YtghakmhglneckaaHas
namespace Go.Proofs.Ytghakmhglneckaa
open Go.RowKit
set_option linter.unusedVariables false
set_option linter.unusedSimpArgs false

abbrev CellI := Int × Int
/-- One neighbor looked at. -/
def stepN (S : Nat) (L : List CellI) (p : CellI) : List CellI := if hasB S p.1 p.2 && !decide (p ∈ L) then L ++ [p] else L
/-- One cell's neighbors looked at. -/
def stepC (S : Nat) (L : List CellI) (q : CellI) : List CellI := (nbL q.1 q.2).foldl (stepN S) L
/-- The list after k cells. -/
def bfsL (S : Nat) (c : CellI) : Nat → List CellI
  | 0 => [c]
  | k + 1 => match (bfsL S c k)[k]? with
    | some q => stepC S (bfsL S c k) q
    | none => bfsL S c k
def bfsR (S : Nat) (c : CellI) : List CellI := bfsL S c 64
/-- Distinct cells of the set. -/
def Good (S : Nat) (L : List CellI) : Prop := L.Nodup ∧ ∀ p ∈ L, hasB S p.1 p.2 = true
theorem stepN_yes {S : Nat} {L : List CellI} {p : CellI} (h : hasB S p.1 p.2 = true) (hn : ¬ p ∈ L) : stepN S L p = L ++ [p] := by simp [stepN, h, hn]
theorem stepN_in {S : Nat} {L : List CellI} {p : CellI} (hn : p ∈ L) : stepN S L p = L := by simp [stepN, hn]
theorem stepN_no {S : Nat} {L : List CellI} {p : CellI} (h : hasB S p.1 p.2 = false) : stepN S L p = L := by simp [stepN, h]
theorem good_step {S : Nat} {L : List CellI} {p : CellI} (h : Good S L) : Good S (stepN S L p) := by
  unfold stepN
  split
  · rename_i hc
    simp only [Bool.and_eq_true, Bool.not_eq_true', decide_eq_false_iff_not] at hc
    refine ⟨List.nodup_append.2 ⟨h.1, by simp, ?_⟩, ?_⟩
    · intro a ha b hb
      simp at hb
      subst hb
      intro e
      exact hc.2 (e ▸ ha)
    · intro q hq
      rcases List.mem_append.1 hq with hq | hq
      · exact h.2 q hq
      · simp at hq; subst hq; exact hc.1
  · exact h
theorem good_fold {S : Nat} (Q : List CellI) : ∀ {L : List CellI}, Good S L → Good S (Q.foldl (stepN S) L) := by
  induction Q with
  | nil => intro L h; exact h
  | cons p Q ih => intro L h; exact ih (good_step h)
theorem good_bfs {S : Nat} {c : CellI} (hc : hasB S c.1 c.2 = true) (k : Nat) : Good S (bfsL S c k) := by
  induction k with
  | zero => exact ⟨by simp [bfsL], by simp [bfsL, hc]⟩
  | succ k ih =>
    unfold bfsL
    split
    · exact good_fold _ ih
    · exact ih
theorem good_ok {S : Nat} {L : List CellI} (h : Good S L) : ∀ p ∈ L, okB p.1 p.2 = true := by
  intro p hp
  have := h.2 p hp
  unfold hasB at this
  rw [Bool.and_eq_true] at this
  exact this.1
def idxN (p : CellI) : Nat := (p.2 * 8 + p.1).toNat
theorem idxN_at {k : Nat} (h : k < 64) : idxN (cellOf k) = k := by simp only [idxN, cellOf]; omega
theorem cell_idx {p : CellI} (h : okB p.1 p.2 = true) : idxN p < 64 ∧ cellOf (idxN p) = p := by
  have := okB_iff.1 h
  obtain ⟨x, y⟩ := p
  simp only [idxN, cellOf] at *
  refine ⟨by omega, ?_⟩
  ext <;> simp only <;> omega
theorem nodup_len : ∀ (n : Nat) (L : List Nat), L.Nodup → (∀ i ∈ L, i < n) → L.length ≤ n := by
  intro n
  induction n with
  | zero =>
    intro L _ h
    cases L with
    | nil => simp
    | cons a L => exact absurd (h a (by simp)) (by omega)
  | succ n ih =>
    intro L hn h
    by_cases hm : n ∈ L
    · have h1 := ih (L.erase n) (hn.erase n) (fun i hi => by
        have := (hn.mem_erase_iff).1 hi
        have := h i this.2
        omega)
      rw [List.length_erase_of_mem hm] at h1
      omega
    · have := ih L hn (fun i hi => by
        have h1 := h i hi
        have h2 : ¬ i = n := fun e => hm (e ▸ hi)
        omega)
      omega
theorem good_len {S : Nat} {L : List CellI} (h : Good S L) : L.length ≤ 64 := by
  have hok := good_ok h
  have h1 : (L.map idxN).Nodup := by
    unfold List.Nodup
    rw [List.pairwise_map]
    refine List.Pairwise.imp_of_mem ?_ h.1
    intro a b ha hb hab e
    exact hab (by rw [← (cell_idx (hok a ha)).2, ← (cell_idx (hok b hb)).2, e])
  have h2 : ∀ i ∈ L.map idxN, i < 64 := by
    intro i hi
    obtain ⟨p, hp, rfl⟩ := List.mem_map.1 hi
    exact (cell_idx (hok p hp)).1
  have h3 := nodup_len 64 _ h1 h2
  simpa using h3
theorem bfs_stop {S : Nat} {c : CellI} {k : Nat} (h : (bfsL S c k).length ≤ k) : ∀ j, bfsL S c (k + j) = bfsL S c k := by
  intro j
  induction j with
  | zero => rfl
  | succ j ih =>
    rw [← Nat.add_assoc]
    show (match (bfsL S c (k + j))[k + j]? with | some q => stepC S (bfsL S c (k + j)) q | none => bfsL S c (k + j)) = _
    rw [ih, List.getElem?_eq_none (by omega)]
theorem bfs_end {S : Nat} {c : CellI} {k : Nat} (hk : k ≤ 64) (h : (bfsL S c k).length ≤ k) : bfsL S c k = bfsR S c := by
  have := bfs_stop h (64 - k)
  rw [show k + (64 - k) = 64 by omega] at this
  exact this.symm
theorem bfs_succ {S : Nat} {c : CellI} {k : Nat} {q : CellI} (h : (bfsL S c k)[k]? = some q) : bfsL S c (k + 1) = stepC S (bfsL S c k) q := by
  rw [show bfsL S c (k + 1) = (match (bfsL S c k)[k]? with | some q => stepC S (bfsL S c k) q | none => bfsL S c k) from rfl, h]
theorem fold_len {S : Nat} (Q : List CellI) : ∀ (L : List CellI), L.length ≤ (Q.foldl (stepN S) L).length := by
  induction Q with
  | nil => intro L; exact Nat.le_refl _
  | cons p Q ih =>
    intro L
    refine Nat.le_trans ?_ (ih _)
    unfold stepN
    split <;> simp
theorem fold_pre {S : Nat} (Q : List CellI) : ∀ (L : List CellI), ∃ R, Q.foldl (stepN S) L = L ++ R := by
  induction Q with
  | nil => intro L; exact ⟨[], by simp⟩
  | cons p Q ih =>
    intro L
    obtain ⟨R, hR⟩ := ih (stepN S L p)
    simp only [List.foldl_cons]
    rw [hR]
    unfold stepN
    split
    · exact ⟨[p] ++ R, by simp⟩
    · exact ⟨R, rfl⟩
/-- The cells of the answer, in order. -/
def pieceL (zs : List Int) (x y : Int) : List CellI := if hcB zs x y then ((List.range 64).filter fun j => decide (cellOf j ∈ bfsR (setS zs) (x, y))).map cellOf else []
theorem pieceL_len (zs : List Int) (x y : Int) : (pieceL zs x y).length ≤ 64 := by
  unfold pieceL
  split
  · rw [List.length_map]
    exact Nat.le_trans (List.length_filter_le _ _) (by simp)
  · simp
end Go.Proofs.Ytghakmhglneckaa
