/-
  Sets of cells as numbers: what a shift, 'or' and 'and' do.
-/
import Derived.Test.YtbkoignjagobaaaDoorKit
namespace Go.Proofs.YtbkoignjagobaaaDoor
open Go.RowKit
theorem ret_u {a b : Int} (h : a = b) : Ending.returned (.int .u64 a) = .returned (.int .u64 b) := by rw [h]
theorem two64 : (2 : Nat) ^ 64 = 18446744073709551616 := by decide
theorem u64_bit {n : Nat} (hn : n < 64) : IntKind.u64.wrap ((2 : Int) ^ n) = ((2 ^ n : Nat) : Int) := by
  have h : (2 : Nat) ^ n < 2 ^ 64 := Nat.pow_lt_pow_right (by omega) hn
  rw [two64] at h
  rw [IntKind.wrap_u64, show ((2 : Int) ^ n) = ((2 ^ n : Nat) : Int) by simp]
  exact Int.emod_eq_of_lt (Int.natCast_nonneg _) (Int.ofNat_lt.2 h)
theorem u64_or_bit {S n : Nat} (hS : S < 2 ^ 64) (hn : n < 64) : bits .or .u64 (S : Int) (IntKind.u64.wrap ((2 : Int) ^ n)) = ((S ||| 2 ^ n : Nat) : Int) := by
  have h : (2 : Nat) ^ n < 2 ^ 64 := Nat.pow_lt_pow_right (by omega) hn
  rw [u64_bit hn]
  rw [two64] at h hS
  exact u64_or_nat S (2 ^ n) hS h
theorem u64_and_nat64 {a b : Nat} (ha : a < 2 ^ 64) (hb : b < 2 ^ 64) : bits .and .u64 (a : Int) (b : Int) = ((a &&& b : Nat) : Int) := by
  rw [two64] at ha hb
  exact u64_and_nat a b ha hb
theorem pow_testBit (i j : Nat) : (2 ^ i).testBit j = decide (i = j) := Nat.testBit_two_pow
theorem pair_and (i j k l : Nat) : (2 ^ i ||| 2 ^ j) &&& (2 ^ k ||| 2 ^ l) = 0 ↔ i ≠ k ∧ i ≠ l ∧ j ≠ k ∧ j ≠ l := by
  constructor
  · intro h
    have t : ∀ n, ((2 ^ i ||| 2 ^ j) &&& (2 ^ k ||| 2 ^ l)).testBit n = false := fun n => by rw [h]; exact Nat.zero_testBit n
    simp only [Nat.testBit_and, Nat.testBit_or, pow_testBit] at t
    have a := t i
    have b := t j
    simp at a b
    omega
  · rintro ⟨a, b, c, d⟩
    apply Nat.eq_of_testBit_eq
    intro n
    simp only [Nat.testBit_and, Nat.testBit_or, pow_testBit, Nat.zero_testBit]
    by_cases h1 : i = n <;> by_cases h2 : j = n <;> by_cases h3 : k = n <;> by_cases h4 : l = n <;> simp [h1, h2, h3, h4] <;> omega
end Go.Proofs.YtbkoignjagobaaaDoor
