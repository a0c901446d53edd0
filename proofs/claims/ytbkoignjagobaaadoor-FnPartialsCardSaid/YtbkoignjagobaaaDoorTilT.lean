/-
  A tiling's text: both sides.
-/
import Derived.Test.YtbkoignjagobaaaDoorDomT
import Derived.Test.YtbkoignjagobaaaDoorDoms
import Derived.Test.YtbkoignjagobaaaDoorOwn
import Derived.Test.YtbkoignjagobaaaDoorShelfJ
import Derived.WalkSmall
namespace Go.Proofs.YtbkoignjagobaaaDoor
open Go.RowKit
set_option linter.unusedVariables false
set_option linter.unusedSimpArgs false

def dtP (p : DomI) : ByteArray := dtB p.1 p.2.1 p.2.2
def dokP (p : DomI) : Bool := domB p.1 p.2.1 p.2.2
def jn (L : List DomI) : List UInt8 := Lib.join (L.map fun p => (dtP p).data.toList) [32]
/-- A tiling's text. -/
def ttB (L : List DomI) : ByteArray := if L.all dokP then strD (jn L) else ⟨#[]⟩
theorem strD_of (s : ByteArray) : strD s.data.toList = s := by
  apply ByteArray.ext
  simp [strD]
theorem jn_one (p : DomI) : jn [p] = (dtP p).data.toList := by unfold jn; rw [List.map_cons, List.map_nil, Lib.join_one]
theorem jn_snoc {L : List DomI} {p : DomI} (h : L ≠ []) : jn (L ++ [p]) = jn L ++ [32] ++ (dtP p).data.toList := by
  cases L with
  | nil => exact absurd rfl h
  | cons q L =>
    unfold jn
    simp only [List.cons_append, List.map_cons, List.map_append, List.map_nil, Lib.join_cons]
    simp [Lib.joinTail]
theorem dtP_size (p : DomI) : (dtP p).size ≤ 4 := by
  unfold dtP dtB
  split
  · rename_i h
    obtain ⟨⟨x0, x7⟩, y0, y7⟩ := dom_box h
    have h1 := itoa_small x0 x7
    have h2 := itoa_small y0 y7
    rw [ByteArray.size_append, ByteArray.size_append, ByteArray.size_append, h1, h2]
    split <;> decide
  · decide
theorem tail_len (L : List DomI) : (Lib.joinTail [32] (L.map fun p => (dtP p).data.toList)).length ≤ 5 * L.length := by
  induction L with
  | nil => simp [Lib.joinTail]
  | cons p L ih =>
    have hp := dtP_size p
    have e : (dtP p).data.toList.length = (dtP p).size := rfl
    simp only [Lib.joinTail, List.map_cons, List.flatten_cons, List.length_append, List.length_cons, List.length_nil, e] at ih ⊢
    omega
theorem jn_len (L : List DomI) : (jn L).length ≤ 5 * L.length := by
  cases L with
  | nil => simp [jn, Lib.join_nil]
  | cons p L =>
    have hp := dtP_size p
    have e : (dtP p).data.toList.length = (dtP p).size := rfl
    have := tail_len L
    unfold jn
    rw [List.map_cons, Lib.join_cons, List.length_append, e, List.length_cons]
    omega
theorem tt_yes {L : List DomI} (h : ∀ p ∈ L, dokP p = true) : ttB L = strD (jn L) := by
  unfold ttB
  rw [if_pos (List.all_eq_true.2 h)]
theorem tt_no {L : List DomI} {k : Nat} {p : DomI} (h : L[k]? = some p) (hp : dokP p = false) : ttB L = ⟨#[]⟩ := by
  unfold ttB
  rw [if_neg]
  intro hc
  have := List.all_eq_true.1 hc p (List.mem_of_getElem? h)
  rw [hp] at this
  cases this
theorem ok_step {L : List DomI} {k : Nat} {p : DomI} (h : ∀ q ∈ L.take k, dokP q = true) (hk : L[k]? = some p) (hp : dokP p = true) : ∀ q ∈ L.take (k + 1), dokP q = true := by
  intro q hq
  rw [List.take_add_one, hk] at hq
  simp at hq
  rcases hq with hq | rfl
  · exact h q hq
  · exact hp
theorem take_ne {L : List DomI} {k : Nat} (h0 : 0 < k) (hk : k < L.length) : L.take k ≠ [] := by
  intro h
  have := congrArg List.length h
  rw [List.length_take, List.length_nil] at this
  omega
end Go.Proofs.YtbkoignjagobaaaDoor
