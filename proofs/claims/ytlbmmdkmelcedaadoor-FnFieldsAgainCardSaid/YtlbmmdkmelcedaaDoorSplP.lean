/-
  The fields of a line, as plain lists: no program in sight.
-/
import Derived.ProofKit
namespace Go.Proofs.YtlbmmdkmelcedaaDoor
set_option linter.unusedVariables false
set_option linter.unusedSimpArgs false

def chN (s : ByteArray) (i : Nat) : Nat := (s.data.toList.getD i 0).toNat
theorem ch_of {s : ByteArray} {j : Nat} (h : j < s.size) : chN s j = s[j].toNat := by
  have : s.data.toList[j]? = some s[j] := by simp [ByteArray.getElem_eq_getElem_data, h]
  simp [chN, List.getD, this]
/-- The fields that are closed ahead of byte k; where the open one begins. -/
def fldK (s : ByteArray) : Nat → List ByteArray × Nat
  | 0 => ([], 0)
  | k + 1 => if chN s k = 32 then ((if (fldK s k).2 < k then (fldK s k).1 ++ [s.extract (fldK s k).2 k] else (fldK s k).1), k + 1) else fldK s k
def fldE (s : ByteArray) : List ByteArray := if (fldK s s.size).2 < s.size then (fldK s s.size).1 ++ [s.extract (fldK s s.size).2 s.size] else (fldK s s.size).1
def plnB (s : ByteArray) : Bool := (List.range s.size).all fun i => decide (32 ≤ chN s i) && decide (chN s i ≤ 126)
def fokB (s : ByteArray) : Bool := decide (s.size ≤ 600) && plnB s && decide ((fldE s).length ≤ 24)
/-- What a line answers. -/
def fldR (s : ByteArray) : List ByteArray := if fokB s then fldE s else []
theorem fldK_inv (s : ByteArray) (k : Nat) : (fldK s k).2 ≤ k ∧ (fldK s k).1.length ≤ k := by
  induction k with
  | zero => simp [fldK]
  | succ k ih =>
    rw [fldK]
    split
    · split
      · simp; omega
      · simp; omega
    · omega
theorem fldE_len (s : ByteArray) : (fldE s).length ≤ s.size + 1 := by
  have h := fldK_inv s s.size
  unfold fldE
  split
  · simp; omega
  · omega
theorem fldR_len (s : ByteArray) : (fldR s).length ≤ 24 := by
  unfold fldR
  split
  · rename_i h
    simp only [fokB, Bool.and_eq_true, decide_eq_true_eq] at h
    exact h.2
  · simp
theorem pln_no {s : ByteArray} {k : Nat} (hk : k < s.size) (h : chN s k < 32 ∨ 126 < chN s k) : fokB s = false := by
  have : plnB s = false := by
    unfold plnB
    rw [List.all_eq_false]
    exact ⟨k, List.mem_range.2 hk, by simp; omega⟩
  simp [fokB, this]
theorem fldR_no {s : ByteArray} (h : fokB s = false) : fldR s = [] := by simp [fldR, h]
theorem fldR_yes {s : ByteArray} (h : fokB s = true) : fldR s = fldE s := by simp [fldR, h]
theorem fok_big {s : ByteArray} (h : 600 < s.size) : fokB s = false := by
  have : decide (s.size ≤ 600) = false := by simpa using h
  simp [fokB, this]
theorem fok_end {s : ByteArray} (h0 : s.size ≤ 600) (h : ∀ j, j < s.size → 32 ≤ chN s j ∧ chN s j ≤ 126) : fokB s = decide ((fldE s).length ≤ 24) := by
  have h1 : plnB s = true := by
    unfold plnB
    rw [List.all_eq_true]
    intro j hj
    have := h j (List.mem_range.1 hj)
    simp; omega
  simp [fokB, h1, h0]
theorem fldK_sep {s : ByteArray} {k : Nat} (h : chN s k = 32) : fldK s (k + 1) = ((if (fldK s k).2 < k then (fldK s k).1 ++ [s.extract (fldK s k).2 k] else (fldK s k).1), k + 1) := by rw [fldK, if_pos h]
theorem fldK_in {s : ByteArray} {k : Nat} (h : chN s k ≠ 32) : fldK s (k + 1) = fldK s k := by rw [fldK, if_neg h]
theorem fldK_sep1 {s : ByteArray} {k b : Nat} {X : List ByteArray} (h : chN s k = 32) (e : fldK s k = (X, b)) (hb : b < k) : fldK s (k + 1) = (X ++ [s.extract b k], k + 1) := by
  rw [fldK_sep h, e]
  simp [hb]
theorem fldK_sep0 {s : ByteArray} {k b : Nat} {X : List ByteArray} (h : chN s k = 32) (e : fldK s k = (X, b)) (hb : ¬ b < k) : fldK s (k + 1) = (X, k + 1) := by
  rw [fldK_sep h, e]
  simp [hb]
theorem fldE_1 {s : ByteArray} {k b : Nat} {X : List ByteArray} (hk : k = s.size) (e : fldK s k = (X, b)) (hb : b < k) : fldE s = X ++ [s.extract b k] := by
  subst hk
  unfold fldE
  rw [e]
  simp [hb]
theorem fldE_0 {s : ByteArray} {k b : Nat} {X : List ByteArray} (hk : k = s.size) (e : fldK s k = (X, b)) (hb : ¬ b < k) : fldE s = X := by
  subst hk
  unfold fldE
  rw [e]
  simp [hb]
theorem fldK_b {s : ByteArray} {k b : Nat} {X : List ByteArray} (e : fldK s k = (X, b)) : b ≤ k ∧ X.length ≤ k := by
  have := fldK_inv s k
  rw [e] at this
  exact this
theorem all_snoc {p : Nat → Prop} {k : Nat} (h : ∀ j, j < k → p j) (hk : p k) : ∀ j, j < k + 1 → p j := fun j hj => by
  rcases Nat.lt_succ_iff_lt_or_eq.1 hj with h1 | h1
  · exact h j h1
  · exact h1 ▸ hk
end Go.Proofs.YtlbmmdkmelcedaaDoor
