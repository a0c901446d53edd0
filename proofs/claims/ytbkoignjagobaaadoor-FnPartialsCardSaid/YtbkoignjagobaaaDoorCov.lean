/-
  The cells under the valid dominoes of a list, as bits; the first domino over a cell. Plain facts.
-/
import Derived.Test.YtbkoignjagobaaaDoorDoms
import Derived.Test.YtbkoignjagobaaaDoorDomE
import Derived.Test.YtbkoignjagobaaaDoorSet
namespace Go.Proofs.YtbkoignjagobaaaDoor
open Go.RowKit
set_option linter.unusedVariables false
set_option linter.unusedSimpArgs false

def dS (p : DomI) : Nat := if domB p.1 p.2.1 p.2.2 then domS p.1 p.2.1 p.2.2 else 0
theorem dS_yes {x y : Int} {d : Bool} (h : domB x y d = true) : dS (x, y, d) = domS x y d := by simp [dS, h]
theorem dS_no {x y : Int} {d : Bool} (h : domB x y d = false) : dS (x, y, d) = 0 := by simp [dS, h]
theorem dS_lt (p : DomI) : dS p < 2 ^ 64 := by
  unfold dS
  split
  · exact domS_lt (by assumption)
  · decide
/-- The bits of the cells under the valid ones of a list. -/
def cov (L : List DomI) : Nat := L.foldl (fun s p => s ||| dS p) 0
theorem cov_nil : cov [] = 0 := rfl
theorem cov_snoc (L : List DomI) (p : DomI) : cov (L ++ [p]) = cov L ||| dS p := by simp [cov, List.foldl_append]
theorem cov_take {L : List DomI} {k : Nat} {p : DomI} (h : L[k]? = some p) : cov (L.take (k + 1)) = cov (L.take k) ||| dS p := by rw [take_one h, cov_snoc]
theorem cov_lt (L : List DomI) : cov L < 2 ^ 64 := by
  suffices h : ∀ (M : List DomI) (s : Nat), s < 2 ^ 64 → M.foldl (fun s p => s ||| dS p) s < 2 ^ 64 from h L 0 (by decide)
  intro M
  induction M with
  | nil => intro s h; exact h
  | cons p M ih => intro s h; exact ih _ (or_lt64 h (dS_lt p))
theorem cov_bit (L : List DomI) (i : Nat) : (cov L).testBit i = L.any fun p => (dS p).testBit i := by
  suffices h : ∀ (M : List DomI) (s : Nat), (M.foldl (fun s p => s ||| dS p) s).testBit i = (s.testBit i || M.any fun p => (dS p).testBit i) by
    have := h L 0; rw [Nat.zero_testBit, Bool.false_or] at this; exact this
  intro M
  induction M with
  | nil => intro s; simp
  | cons p M ih => intro s; rw [List.foldl_cons, ih, Nat.testBit_or, List.any_cons, Bool.or_assoc]
theorem domS_bit {x y : Int} {d : Bool} (h : domB x y d = true) (i : Nat) : (domS x y d).testBit i = (decide (i = (y * 8 + x).toNat) || decide (i = (secY y d * 8 + secX x d).toNat)) := by
  unfold domS bitOf
  rw [Nat.testBit_or, pow_testBit, pow_testBit]
  congr 1 <;> exact decide_eq_decide.2 ⟨Eq.symm, Eq.symm⟩

/-- A valid domino lies over a cell. -/
def ovB (x y : Int) (d : Bool) (cx cy : Int) : Bool := domB x y d && ((x == cx && y == cy) || (secX x d == cx && secY y d == cy))
theorem ov_no {x y cx cy : Int} {d : Bool} (h : domB x y d = false) : ovB x y d cx cy = false := by simp [ovB, h]
theorem ov_und {x y cx cy : Int} {d : Bool} (h : domB x y d = true) : ovB x y d cx cy = ((undX1 x y d == cx && undY1 x y d == cy) || (undX2 x y d == cx && undY2 x y d == cy)) := by
  obtain ⟨a1, a2, a3, a4⟩ := und_yes h
  simp [ovB, h, a1, a2, a3, a4]
theorem ov_has {x y cx cy : Int} {d : Bool} (h : domB x y d = true) : hasB (domS x y d) cx cy = ovB x y d cx cy := by
  obtain ⟨k1, k2⟩ := domB_ok h
  by_cases hc : okB cx cy = true
  · unfold hasB ovB
    rw [domS_bit h, hc, h, Bool.true_and, Bool.true_and]
    have e1 := bit_eq hc k1
    have e2 := bit_eq hc k2
    rw [Bool.eq_iff_iff]
    simp only [Bool.or_eq_true, decide_eq_true_eq, e1, e2, Bool.and_eq_true, beq_iff_eq]
    constructor
    · rintro (⟨a, b⟩ | ⟨a, b⟩)
      · exact .inl ⟨a.symm, b.symm⟩
      · exact .inr ⟨a.symm, b.symm⟩
    · rintro (⟨a, b⟩ | ⟨a, b⟩)
      · exact .inl ⟨a.symm, b.symm⟩
      · exact .inr ⟨a.symm, b.symm⟩
  · have hc' : okB cx cy = false := by simpa using hc
    have h1 : ¬ (x = cx ∧ y = cy) := by rintro ⟨rfl, rfl⟩; exact hc k1
    have h2 : ¬ (secX x d = cx ∧ secY y d = cy) := by rintro ⟨rfl, rfl⟩; exact hc k2
    have e1 : (x == cx && y == cy) = false := by rw [Bool.eq_false_iff]; intro hh; simp at hh; exact h1 hh
    have e2 : (secX x d == cx && secY y d == cy) = false := by rw [Bool.eq_false_iff]; intro hh; simp at hh; exact h2 hh
    simp [hasB, ovB, hc', e1, e2]
theorem dS_has (p : DomI) {i : Nat} (hi : i < 64) : (dS p).testBit i = ovB p.1 p.2.1 p.2.2 ((i : Int) % 8) ((i : Int) / 8) := by
  obtain ⟨x, y, d⟩ := p
  cases h : domB x y d
  · rw [dS_no h, Nat.zero_testBit, ov_no h]
  · rw [dS_yes h, ← ov_has h]
    have h1 : okB ((i : Int) % 8) ((i : Int) / 8) = true := by rw [okB_iff]; omega
    have h2 : ((i : Int) / 8 * 8 + (i : Int) % 8).toNat = i := by omega
    simp [hasB, h1, h2]

/-- The first domino over a cell; -1 where there is none. -/
def dat (L : List DomI) (cx cy : Int) : Int := match L.findIdx? fun p => ovB p.1 p.2.1 p.2.2 cx cy with | some i => (i : Int) | none => -1
theorem dat_at {L : List DomI} {cx cy : Int} {k : Nat} {x y : Int} {d : Bool} (h : L[k]? = some (x, y, d)) (hb : (L.take k).all (fun p => !ovB p.1 p.2.1 p.2.2 cx cy) = true) (ho : ovB x y d cx cy = true) : dat L cx cy = k := by
  have hk := lt_of_at h
  have hf : L.findIdx? (fun p => ovB p.1 p.2.1 p.2.2 cx cy) = some k := by
    rw [List.findIdx?_eq_some_iff_getElem]
    refine ⟨hk, ?_, ?_⟩
    · rw [List.getElem?_eq_getElem hk] at h
      rw [Option.some.inj h]
      exact ho
    · intro j hj
      rw [List.all_eq_true] at hb
      have hm : L[j] ∈ L.take k := by
        rw [List.mem_take_iff_getElem]
        exact ⟨j, by omega, rfl⟩
      have := hb _ hm
      simpa using this
  simp [dat, hf]
theorem dat_none {L : List DomI} {cx cy : Int} (hb : L.all (fun p => !ovB p.1 p.2.1 p.2.2 cx cy) = true) : dat L cx cy = -1 := by
  have hf : L.findIdx? (fun p => ovB p.1 p.2.1 p.2.2 cx cy) = none := by
    rw [List.findIdx?_eq_none_iff]
    intro p hp
    have := List.all_eq_true.1 hb p hp
    simpa using this
  simp [dat, hf]
theorem dat_bd (L : List DomI) (cx cy : Int) : -1 ≤ dat L cx cy ∧ dat L cx cy < L.length ∨ dat L cx cy = -1 := by
  unfold dat
  split
  · rename_i i h
    left
    have := List.findIdx?_eq_some_iff_getElem.1 h
    obtain ⟨h1, -⟩ := this
    omega
  · right; rfl
theorem dat_neg (L : List DomI) {i : Nat} (hi : i < 64) : decide (dat L ((i : Int) % 8) ((i : Int) / 8) < 0) = !(cov L).testBit i := by
  rw [cov_bit]
  have e : (fun p : DomI => (dS p).testBit i) = fun p => ovB p.1 p.2.1 p.2.2 ((i : Int) % 8) ((i : Int) / 8) := funext fun p => dS_has p hi
  rw [e]
  unfold dat
  cases hf : L.findIdx? (fun p => ovB p.1 p.2.1 p.2.2 ((i : Int) % 8) ((i : Int) / 8)) with
  | none =>
    have h := List.findIdx?_eq_none_iff.1 hf
    have : L.any (fun p => ovB p.1 p.2.1 p.2.2 ((i : Int) % 8) ((i : Int) / 8)) = false := by
      rw [List.any_eq_false]; intro p hp; simpa using h p hp
    simp [this]
  | some k =>
    obtain ⟨h1, h2, -⟩ := List.findIdx?_eq_some_iff_getElem.1 hf
    have : L.any (fun p => ovB p.1 p.2.1 p.2.2 ((i : Int) % 8) ((i : Int) / 8)) = true := by
      rw [List.any_eq_true]; exact ⟨_, List.getElem_mem h1, h2⟩
    simp [this]
end Go.Proofs.YtbkoignjagobaaaDoor
