/-
  What is true of the neighbors of a valid cell.
-/
import Derived.Test.YtfckmopdojgggaaNbrL
namespace Go.Proofs.Ytfckmopdojgggaa
set_option linter.unusedVariables false

def ixL (L : List (Int × Int)) (k : Nat) : Int := match L[k]? with
  | some p => idxI p.1 p.2
  | none => 0
def nbChk (x y : Int) : Bool :=
  decide (2 ≤ (nbL x y).length) && decide ((nbL x y).length ≤ 4) &&
  (nbL x y).all (fun p => nbB x y p.1 p.2 && nbB p.1 p.2 x y && (blackB p.1 p.2 != blackB x y)) &&
  (List.range 4).all (fun k => decide ((nbL x y).length ≤ k) || decide (k = 0) || decide (ixL (nbL x y) (k - 1) < ixL (nbL x y) k)) &&
  !nbB x y x y && decide (inB (idxI x y) 0 63 = true) && decide (atX (idxI x y) = x) && decide (atY (idxI x y) = y)
set_option maxRecDepth 100000 in
theorem nbChk_all : ∀ x y : Fin 8, nbChk (x.val : Int) (y.val : Int) = true := by decide +kernel
theorem nbChk_of {x y : Int} (h : okB x y = true) : nbChk x y = true := by
  obtain ⟨⟨h0, h1⟩, h2, h3⟩ := okB_iff.1 h
  obtain ⟨i, rfl⟩ := Int.eq_ofNat_of_zero_le h0
  obtain ⟨j, rfl⟩ := Int.eq_ofNat_of_zero_le h2
  exact nbChk_all ⟨i, by omega⟩ ⟨j, by omega⟩
theorem nbF_len {x y : Int} (h : okB x y = true) : 2 ≤ (nbL x y).length ∧ (nbL x y).length ≤ 4 := by
  have c := nbChk_of h
  simp only [nbChk, Bool.and_eq_true, decide_eq_true_eq] at c
  exact ⟨c.1.1.1.1.1.1.1, c.1.1.1.1.1.1.2⟩
theorem nbF_at {x y : Int} (h : okB x y = true) {k : Nat} {u v : Int} (hk : (nbL x y)[k]? = some (u, v)) : nbB x y u v = true ∧ nbB u v x y = true ∧ blackB u v ≠ blackB x y := by
  have c := nbChk_of h
  simp only [nbChk, Bool.and_eq_true, decide_eq_true_eq] at c
  have d := List.all_eq_true.1 c.1.1.1.1.1.2 (u, v) (List.mem_of_getElem? hk)
  simpa [and_assoc] using d
theorem nbF_up {x y : Int} (h : okB x y = true) {k : Nat} {u v u' v' : Int} (hk : (nbL x y)[k + 1]? = some (u, v)) (hk' : (nbL x y)[k]? = some (u', v')) : idxI u' v' < idxI u v := by
  have c := nbChk_of h
  simp only [nbChk, Bool.and_eq_true, decide_eq_true_eq] at c
  have hl : k + 1 < (nbL x y).length := (List.getElem?_eq_some_iff.1 hk).1
  have d := List.all_eq_true.1 c.1.1.1.1.2 (k + 1) (List.mem_range.2 (by have := (nbF_len h).2; omega))
  simp only [Bool.or_eq_true, decide_eq_true_eq, ixL, Nat.add_sub_cancel, hk, hk'] at d
  omega
theorem nbF_self {x y : Int} (h : okB x y = true) : nbB x y x y = false ∧ inB (idxI x y) 0 63 = true ∧ atX (idxI x y) = x ∧ atY (idxI x y) = y := by
  have c := nbChk_of h
  simp only [nbChk, Bool.and_eq_true, decide_eq_true_eq] at c
  exact ⟨by simpa using c.1.1.1.2, c.1.1.2, c.1.2, c.2⟩
end Go.Proofs.Ytfckmopdojgggaa
