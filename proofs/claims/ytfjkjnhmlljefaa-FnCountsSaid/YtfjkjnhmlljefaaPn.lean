/-
  The number of ways to lay dominoes: plain definitions and facts.
-/
import Derived.Test.YtfjkjnhmlljefaaNbr
import Derived.Test.YtfjkjnhmlljefaaPart
namespace Go.Proofs.Ytfjkjnhmlljefaa
open Go.RowKit
set_option linter.unusedVariables false
set_option linter.unusedSimpArgs false

def w64p (n : Int) : Int := (n + 9223372036854775808) % 18446744073709551616 - 9223372036854775808
theorem wrap_w64p (n : Int) : IntKind.i64.wrap n = w64p n := by rw [IntKind.wrap_i64]; rfl
theorem wrap64_w64p (n : Int) : wrap64 n = w64p n := by first | rfl | (unfold wrap64 w64p; omega) | (rw [← wrap_w64p]; simp [wrap64])
def nb2 (c d : Int × Int) : Bool := nbB c.1 c.2 d.1 d.2
def pnF : Nat → List (Int × Int) → Nat → Int
  | 0, _, n => if n = 0 then 1 else 0
  | f + 1, C, n => if n = 0 then 1 else match C with
    | [] => 0
    | c :: rest => (rest.filter (nb2 c)).foldl (fun o d => w64p (o + pnF f (rest.filter fun q => !(q == d)) (n - 1))) (pnF f rest n)
theorem fold_same {α β : Type} {f g : β → α → β} (l : List α) : ∀ b, (∀ b a, a ∈ l → f b a = g b a) → l.foldl f b = l.foldl g b := by
  induction l with
  | nil => intro b _; rfl
  | cons a l ih =>
    intro b h
    simp only [List.foldl_cons]
    rw [h b a (by simp)]
    exact ih _ (fun b a ha => h b a (by simp [ha]))
theorem pn_fuel : ∀ (f g : Nat) (C : List (Int × Int)) (n : Nat), C.length ≤ f → C.length ≤ g → pnF f C n = pnF g C n := by
  intro f
  induction f with
  | zero =>
    intro g C n hf hg
    have : C = [] := List.length_eq_zero_iff.1 (by omega)
    subst this
    cases g <;> simp [pnF]
  | succ f ih =>
    intro g C n hf hg
    cases g with
    | zero =>
      have : C = [] := List.length_eq_zero_iff.1 (by omega)
      subst this
      simp [pnF]
    | succ g =>
      cases C with
      | nil => simp [pnF]
      | cons c rest =>
        simp only [List.length_cons] at hf hg
        simp only [pnF]
        split
        · rfl
        · rw [ih g rest n (by omega) (by omega)]
          refine fold_same _ _ (fun b d _ => ?_)
          have hl := List.length_filter_le (fun q => !(q == d)) rest
          rw [ih g _ (n - 1) (by omega) (by omega)]
/-- The number of ways to lay n dominoes on the cells of a list. -/
def pN (C : List (Int × Int)) (n : Nat) : Int := pnF C.length C n
theorem pN_zero (C : List (Int × Int)) : pN C 0 = 1 := by unfold pN; cases C <;> simp [pnF]
theorem pN_nil {n : Nat} (h : ¬ n = 0) : pN [] n = 0 := by simp [pN, pnF, h]
/-- What has come together behind some of the neighbors. -/
def pFold (rest : List (Int × Int)) (n : Nat) (ds : List (Int × Int)) : Int := ds.foldl (fun o d => w64p (o + pN (rest.filter fun q => !(q == d)) (n - 1))) (pN rest n)
theorem pN_cons {c : Int × Int} {rest : List (Int × Int)} {n : Nat} (h : ¬ n = 0) : pN (c :: rest) n = pFold rest n (rest.filter (nb2 c)) := by
  unfold pN pFold
  simp only [List.length_cons, pnF, if_neg h]
  refine fold_same _ _ (fun b d _ => ?_)
  have hl := List.length_filter_le (fun q => !(q == d)) rest
  unfold pN
  rw [pn_fuel rest.length _ _ (n - 1) hl (Nat.le_refl _)]
theorem pFold_snoc (rest : List (Int × Int)) (n : Nat) (ds : List (Int × Int)) (d : Int × Int) : pFold rest n (ds ++ [d]) = w64p (pFold rest n ds + pN (rest.filter fun q => !(q == d)) (n - 1)) := by
  unfold pFold
  rw [List.foldl_append]
  rfl
/- sets -/
theorem cell_inj {i j : Nat} (hi : i < 64) (hj : j < 64) (h : cellOf i = cellOf j) : i = j := by
  simp only [cellOf, Prod.mk.injEq] at h
  omega
theorem cellsL_dif {S : Nat} {k : Nat} (hS : S < 2 ^ 64) (hk : k < 64) : cellsL (dif S (2 ^ k)) = (cellsL S).filter fun q => !(q == cellOf k) := by
  unfold cellsL cellsK
  rw [List.filter_map, List.filter_filter]
  congr 1
  refine List.filter_congr fun i hi => ?_
  have hi := List.mem_range.1 hi
  rw [dif_bit hS (Nat.pow_lt_pow_right (by omega) hk), Nat.testBit_two_pow]
  simp only [Function.comp]
  cases S.testBit i
  · simp
  · simp only [Bool.true_and, Bool.and_true]
    congr 1
    by_cases e : k = i
    · subst e; simp
    · have : ¬ cellOf i = cellOf k := fun h => e (cell_inj hk hi h.symm)
      simp [e, this]
/-- The head of a set's list, and the rest as a set. -/
theorem cellsL_cons {S : Nat} {c : Int × Int} {rest : List (Int × Int)} (hS : S < 2 ^ 64) (h : cellsL S = c :: rest) : ∃ k, k < 64 ∧ c = cellOf k ∧ S.testBit k = true ∧ cellsL (dif S (2 ^ k)) = rest := by
  have hm : c ∈ cellsL S := by rw [h]; simp
  unfold cellsL cellsK at hm
  obtain ⟨k, hk, rfl⟩ := List.mem_map.1 hm
  obtain ⟨hk1, hk2⟩ := List.mem_filter.1 hk
  have hk64 := List.mem_range.1 hk1
  refine ⟨k, hk64, rfl, hk2, ?_⟩
  rw [cellsL_dif hS hk64, h, List.filter_cons]
  have hnd : (cellsL S).Nodup := by
    unfold cellsL cellsK
    unfold List.Nodup
    rw [List.pairwise_map]
    refine List.Pairwise.imp_of_mem ?_ (List.Pairwise.filter _ List.nodup_range)
    intro a b ha hb hab e
    exact hab (cell_inj (List.mem_range.1 (List.mem_filter.1 ha).1) (List.mem_range.1 (List.mem_filter.1 hb).1) e)
  rw [h] at hnd
  simp only [beq_self_eq_true, Bool.not_true, Bool.false_eq_true, if_false]
  rw [List.filter_eq_self]
  intro q hq
  have := (List.nodup_cons.1 hnd).1
  simp only [Bool.not_eq_true', beq_eq_false_iff_ne]
  intro e
  exact this (e ▸ hq)
theorem cellsL_nil {S : Nat} (hS : S < 2 ^ 64) : cellsL S = [] ↔ S = 0 := by
  constructor
  · intro h
    apply Nat.eq_of_testBit_eq
    intro i
    rw [Nat.zero_testBit]
    by_cases hi : i < 64
    · by_cases hb : S.testBit i = true
      · have : cellOf i ∈ cellsL S := by
          unfold cellsL cellsK
          exact List.mem_map.2 ⟨i, List.mem_filter.2 ⟨List.mem_range.2 hi, hb⟩, rfl⟩
        rw [h] at this
        simp at this
      · simpa using hb
    · exact Nat.testBit_lt_two_pow (Nat.lt_of_lt_of_le hS (Nat.pow_le_pow_right (by omega) (by omega)))
  · intro h
    subst h
    simp [cellsL, cellsK]
/-- The neighbors that the set has, in order, are the set's cells that are neighbors. -/
theorem nb_filter {R : Nat} (c : Int × Int) : (nbL c.1 c.2).filter (fun d => hasB R d.1 d.2) = (cellsL R).filter (nb2 c) := by
  unfold nbL nbK cellsL cellsK
  rw [List.filter_map, List.filter_map, List.filter_filter, List.filter_filter]
  congr 1
  refine List.filter_congr fun i hi => ?_
  have hi := List.mem_range.1 hi
  simp only [Function.comp, nb2]
  rw [hasB_at hi, Bool.and_comm]
end Go.Proofs.Ytfjkjnhmlljefaa
