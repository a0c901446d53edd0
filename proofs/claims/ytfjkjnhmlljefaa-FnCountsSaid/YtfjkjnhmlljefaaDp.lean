/-
  The count by profiles as the program runs it. Plain definitions and facts.
-/
import Derived.Test.YtfjkjnhmlljefaaKit
namespace Go.Proofs.Ytfjkjnhmlljefaa
set_option linter.unusedVariables false

def w64 (n : Int) : Int := (n + 9223372036854775808) % 18446744073709551616 - 9223372036854775808

def putAt (l : List Int) (k : Nat) (n : Int) : List Int := l.set k (w64 (l.getD k 0 + n))

def dpCell (S : Nat → Nat → Bool) (x y : Nat) (l : List Int) (k : Nat) (n : Int) : List Int :=
  if n = 0 then l else
  if S x y = false then (if k.testBit x then l else putAt l k n)
  else if k.testBit x then putAt l (k - 2 ^ x) n
  else
    let l1 := if S x (y + 1) then putAt l (k ||| 2 ^ x) n else l
    if S (x + 1) y && !k.testBit (x + 1) then putAt l1 (k ||| 2 ^ (x + 1)) n else l1

def dpTo (S : Nat → Nat → Bool) (x y : Nat) (ways : List Int) (m : Nat) : List Int :=
  (List.range m).foldl (fun l k => dpCell S x y l k (ways.getD k 0)) (List.replicate 256 0)

theorem dpTo_zero (S : Nat → Nat → Bool) (x y : Nat) (ways : List Int) : dpTo S x y ways 0 = List.replicate 256 0 := rfl
theorem dpTo_succ (S : Nat → Nat → Bool) (x y : Nat) (ways : List Int) (m : Nat) : dpTo S x y ways (m + 1) = dpCell S x y (dpTo S x y ways m) m (ways.getD m 0) := by
  unfold dpTo
  rw [List.range_succ, List.foldl_append]
  rfl

def dpAll (S : Nat → Nat → Bool) : Nat → List Int
  | 0 => (List.replicate 256 0).set 0 1
  | i + 1 => dpTo S (i % 8) (i / 8) (dpAll S i) 256

/-- What the program answers. -/
def dpCount (S : Nat → Nat → Bool) : Int := (dpAll S 64).getD 0 0

theorem putAt_length (l : List Int) (k : Nat) (n : Int) : (putAt l k n).length = l.length := by simp [putAt]
theorem dpCell_length (S : Nat → Nat → Bool) (x y : Nat) (l : List Int) (k : Nat) (n : Int) : (dpCell S x y l k n).length = l.length := by
  unfold dpCell
  simp only
  split
  · rfl
  · split
    · split
      · rfl
      · exact putAt_length ..
    · split
      · exact putAt_length ..
      · split <;> split <;> simp [putAt_length]
theorem dpTo_length (S : Nat → Nat → Bool) (x y : Nat) (ways : List Int) (m : Nat) : (dpTo S x y ways m).length = 256 := by
  induction m with
  | zero => rw [dpTo_zero, List.length_replicate]
  | succ m ih => rw [dpTo_succ, dpCell_length, ih]
theorem dpAll_length (S : Nat → Nat → Bool) (i : Nat) : (dpAll S i).length = 256 := by
  cases i with
  | zero => unfold dpAll; rw [List.length_set, List.length_replicate]
  | succ i => exact dpTo_length _ _ _ _ _

def Fits (l : List Int) : Prop := ∀ n ∈ l, -9223372036854775808 ≤ n ∧ n ≤ 9223372036854775807
theorem w64_fits (n : Int) : -9223372036854775808 ≤ w64 n ∧ w64 n ≤ 9223372036854775807 := by unfold w64; omega
theorem w64_in {n : Int} (h : -9223372036854775808 ≤ n ∧ n ≤ 9223372036854775807) : w64 n = n := by unfold w64; omega
theorem w64_mod (n : Int) : w64 n % 18446744073709551616 = n % 18446744073709551616 := by unfold w64; omega
theorem fits_put {l : List Int} (h : Fits l) (k : Nat) (n : Int) : Fits (putAt l k n) := by
  intro z hz
  rcases List.mem_or_eq_of_mem_set hz with hz | rfl
  · exact h z hz
  · exact w64_fits _
theorem fits_cell {l : List Int} (h : Fits l) (S : Nat → Nat → Bool) (x y k : Nat) (n : Int) : Fits (dpCell S x y l k n) := by
  unfold dpCell
  simp only
  split
  · exact h
  · split
    · split
      · exact h
      · exact fits_put h _ _
    · split
      · exact fits_put h _ _
      · split <;> split <;> first | exact h | exact fits_put h _ _ | exact fits_put (fits_put h _ _) _ _
theorem fits_to (S : Nat → Nat → Bool) (x y : Nat) (ways : List Int) (m : Nat) : Fits (dpTo S x y ways m) := by
  induction m with
  | zero => intro z hz; rw [dpTo_zero] at hz; have := List.eq_of_mem_replicate hz; omega
  | succ m ih => rw [dpTo_succ]; exact fits_cell ih _ _ _ _ _
theorem fits_all (S : Nat → Nat → Bool) (i : Nat) : Fits (dpAll S i) := by
  cases i with
  | zero =>
    intro z hz
    rcases List.mem_or_eq_of_mem_set hz with hz | rfl
    · have := List.eq_of_mem_replicate hz; omega
    · omega
  | succ i => exact fits_to _ _ _ _ _

end Go.Proofs.Ytfjkjnhmlljefaa
