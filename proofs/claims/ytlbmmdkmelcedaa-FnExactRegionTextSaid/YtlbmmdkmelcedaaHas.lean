/-
  Contracts of 'has a cell'.
-/
import Derived.Test.YtlbmmdkmelcedaaSet
import Derived.Test.YtlbmmdkmelcedaaRegL
namespace Go.Proofs.Ytlbmmdkmelcedaa
open Go.RowKit
set_option linter.unusedVariables false
set_option linter.unusedSimpArgs false

theorem setK_bit {zs : List Int} (h : rokB zs = true) : ∀ k, k ≤ 8 → ∀ y x, x < 8 → (setK zs k).testBit (8 * y + x) = (decide (y < k) && (zs.getD y 0).toNat.testBit x) := by
  intro k
  induction k with
  | zero => intro _ y x _; simp [setK]
  | succ k ih =>
    intro hk y x hx
    have hm : (zs.getD k 0).toNat < 2 ^ 8 := by
      by_cases hl : k < zs.length
      · have := (rok_iff.1 h).2 zs[k] (List.getElem_mem hl)
        rw [List.getD_eq_getElem?_getD, List.getElem?_eq_getElem hl]
        simp; omega
      · rw [List.getD_eq_getElem?_getD, List.getElem?_eq_none (by omega)]; simp
    rw [setK, Nat.testBit_or, ih (by omega) y x hx, Nat.mul_comm, Nat.testBit_two_pow_mul]
    by_cases h1 : y < k
    · have h2 : ¬ 8 * y + x ≥ 8 * k := by omega
      have h3 : y < k + 1 := by omega
      simp [h1, h2, h3]
    · by_cases h2 : y = k
      · subst h2
        simp
      · have h3 : ¬ y < k + 1 := by omega
        have h4 : (zs.getD k 0).toNat.testBit (8 * y + x - 8 * k) = false := Nat.testBit_lt_two_pow (Nat.lt_of_lt_of_le hm (Nat.pow_le_pow_right (by omega) (by omega)))
        rw [h4]
        simp [h1, h3]
theorem hasB_row {zs : List Int} (h : rokB zs = true) {x y : Int} (hxy : okB x y = true) : hasB (setS zs) x y = (decide (y < zs.length) && (zs.getD y.toNat 0).toNat.testBit x.toNat) := by
  obtain ⟨⟨hx0, hx7⟩, hy0, hy7⟩ := okB_iff.1 hxy
  have e : (y * 8 + x).toNat = 8 * y.toNat + x.toNat := by omega
  unfold hasB setS
  rw [hxy, e, setK_bit h zs.length (rok_iff.1 h).1 _ _ (by omega), Bool.true_and]
  congr 1
  exact decide_eq_decide.2 (by omega)

theorem i64_and_one {m : Nat} (h : m < 1000) : bits .and .i64 (m : Int) 1 = ((m % 2 : Nat) : Int) := by
  show IntKind.i64.wrap ((BitVec.ofInt 64 (m : Int) &&& BitVec.ofInt 64 (1 : Int)).toNat : Int) = _
  have e : (BitVec.ofInt 64 (m : Int)).toNat = m := by rw [BitVec.ofInt_natCast, BitVec.toNat_ofNat]; exact Nat.mod_eq_of_lt (by omega)
  have e1 : (BitVec.ofInt 64 (1 : Int)).toNat = 1 := by decide
  rw [BitVec.toNat_and, e, e1, nat_mask1, IntKind.wrap_i64]
  omega
theorem row_bit {m n : Nat} (h : m < 256) : bits .and .i64 ((m : Int) / 2 ^ n) 1 = ((m / 2 ^ n % 2 : Nat) : Int) := by
  have e : ((m : Int) / 2 ^ n) = ((m / 2 ^ n : Nat) : Int) := by simp
  rw [e]
  exact i64_and_one (Nat.lt_of_le_of_lt (Nat.div_le_self _ _) (by omega))


/-- A region has a cell. -/
def hcB (zs : List Int) (x y : Int) : Bool := rokB zs && hasB (setS zs) x y
theorem hcB_no {zs : List Int} {x y : Int} (h : rokB zs = false) : hcB zs x y = false := by simp [hcB, h]
theorem hcB_yes {zs : List Int} {x y : Int} (h : rokB zs = true) : hcB zs x y = hasB (setS zs) x y := by simp [hcB, h]
theorem hasB_no {S : Nat} {x y : Int} (h : okB x y = false) : hasB S x y = false := by simp [hasB, h]
end Go.Proofs.Ytlbmmdkmelcedaa
