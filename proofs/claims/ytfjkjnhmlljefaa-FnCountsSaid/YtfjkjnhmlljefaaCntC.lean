/-
  The ways to lay dominoes, counted by lists as the program does it, are those counted by sets; the laws' plain facts.
-/
import Derived.Test.YtfjkjnhmlljefaaCntB
import Derived.Test.YtfjkjnhmlljefaaRectN
namespace Go.Proofs.Ytfjkjnhmlljefaa
open Go.RowKit
set_option linter.unusedVariables false
set_option linter.unusedSimpArgs false

theorem sum_mod {R : Nat → Bool} {F : Nat → Int} {G : Nat → Nat} : ∀ l : List Nat, (∀ g ∈ l, R g = true → F g % 18446744073709551616 = (G g : Int) % 18446744073709551616) →
    (((l.filter R).map F).sum) % 18446744073709551616 = ((Tl.tot l (fun g => if R g = true then G g else 0) : Nat) : Int) % 18446744073709551616 := by
  intro l
  induction l with
  | nil => intro _; rfl
  | cons a l ih =>
    intro h
    have h1 := ih (fun g hg => h g (by simp [hg]))
    rw [Tl.tot_cons, List.filter_cons]
    by_cases ha : R a = true
    · have h2 := h a (by simp) ha
      rw [if_pos ha, if_pos ha, List.map_cons, List.sum_cons, Int.natCast_add]
      omega
    · rw [if_neg ha, if_neg ha, Int.natCast_add]
      simpa using h1
theorem part_none {S : Nat → Bool} (h : ∀ j, S j = false) {n : Nat} (hn : n ≠ 0) : Tl.part 64 S n = 0 := by
  refine Tl.part_few 64 (by omega) S n ?_
  have : Tl.many 64 S = 0 := by
    unfold Tl.many
    rw [List.length_eq_zero_iff, List.filter_eq_nil_iff]
    intro a _
    rw [h]
    simp
  omega
theorem head_low {S k : Nat} {rest : List (Int × Int)} (hk : k < 64) (h : cellsL S = cellOf k :: rest) : ∀ j, j < k → S.testBit j = false := by
  unfold cellsL cellsK at h
  have h1 := congrArg List.head? h
  rw [List.head?_map, List.head?_cons, List.head?_filter] at h1
  obtain ⟨k', h2, h3⟩ := Option.map_eq_some_iff.1 h1
  rw [List.find?_range_eq_some] at h2
  obtain ⟨h4, h5, h6⟩ := h2
  have e : k' = k := cell_inj (by simpa using h5) hk h3
  subst e
  intro j hj
  simpa using h6 j hj
theorem pn_part : ∀ (f S n : Nat), (cellsL S).length ≤ f → S < 2 ^ 64 → pN (cellsL S) n % 18446744073709551616 = ((Tl.part 64 (fun j => S.testBit j) n : Nat) : Int) % 18446744073709551616 := by
  have hnil : ∀ S n : Nat, S < 2 ^ 64 → cellsL S = [] → pN (cellsL S) n % 18446744073709551616 = ((Tl.part 64 (fun j => S.testBit j) n : Nat) : Int) % 18446744073709551616 := by
    intro S n hS h
    have h0 := (cellsL_nil hS).1 h
    rw [h]
    by_cases hn : n = 0
    · subst hn; rw [pN_zero, Tl.part_zero]; rfl
    · rw [pN_nil hn, part_none (fun j => by rw [h0]; simp) hn]; rfl
  intro f
  induction f with
  | zero =>
    intro S n hf hS
    exact hnil S n hS (List.length_eq_zero_iff.1 (by omega))
  | succ f ih =>
    intro S n hf hS
    cases h : cellsL S with
    | nil => rw [← h]; exact hnil S n hS h
    | cons c rest =>
      obtain ⟨k, hk, rfl, hb, hrest⟩ := cellsL_cons hS h
      have hlow := head_low hk h
      have hlen : rest.length ≤ f := by rw [h] at hf; simpa using hf
      have hp : 2 ^ k < 2 ^ 64 := Nat.pow_lt_pow_right (by omega) hk
      cases n with
      | zero => rw [pN_zero, Tl.part_zero]; rfl
      | succ m =>
        obtain ⟨R, hR⟩ : ∃ R, R = dif S (2 ^ k) := ⟨_, rfl⟩
        have hRl : R < 2 ^ 64 := by rw [hR]; exact dif_lt hS
        have hRb : ∀ j, R.testBit j = (S.testBit j && !(j == k)) := fun j => by
          rw [hR, dif_bit hS hp, Nat.testBit_two_pow]
          by_cases e : k = j
          · subst e; simp
          · have e2 : (j == k) = false := beq_eq_false_iff_ne.2 (fun x => e x.symm)
            simp [e, e2]
        rw [← hR] at hrest
        have hlowR : ∀ j, j ≤ k → R.testBit j = false := fun j hj => by
          rw [hRb]
          by_cases e : j = k
          · subst e; simp
          · rw [hlow j (by omega)]; rfl
        rw [pN_cons (by omega)]
        unfold pFold
        rw [fold_mod, Nat.add_sub_cancel, ← hrest, nb_nxt hRl hk hlowR, List.map_map, Tl.part_least hk hb hlow]
        have e1 : (fun j => S.testBit j && !(j == k)) = fun j => R.testBit j := by funext j; rw [hRb]
        have e2 : Tl.tot (Tl.nxt k) (fun g => if S.testBit g = true then Tl.part 64 (Tl.out2 (fun j => S.testBit j) k g) m else 0) = Tl.tot (Tl.nxt k) (fun g => if R.testBit g = true then Tl.part 64 (Tl.out2 (fun j => S.testBit j) k g) m else 0) := Tl.tot_congr fun g hg => by
          obtain ⟨g1, g2, g3⟩ := Tl.nxt_gt hg
          rw [hRb, beq_eq_false_iff_ne.2 (show g ≠ k by omega)]
          simp
        have h1 := ih R (m + 1) (by rw [hrest]; exact hlen) hRl
        have h2 := sum_mod (R := fun g => R.testBit g) (F := (fun d => pN ((cellsL R).filter fun q => !(q == d)) m) ∘ cellOf) (G := fun g => Tl.part 64 (Tl.out2 (fun j => S.testBit j) k g) m) (Tl.nxt k) (fun g hg hRg => by
          obtain ⟨g1, g2, g3⟩ := Tl.nxt_gt hg
          have hg64 := g3 hk
          have hq : 2 ^ g < 2 ^ 64 := Nat.pow_lt_pow_right (by omega) hg64
          have hfl := List.length_filter_le (fun q => !(q == cellOf g)) (cellsL R)
          have h3 := ih (dif R (2 ^ g)) m (by rw [cellsL_dif hRl hg64, hrest] at *; omega) (dif_lt hRl)
          have e3 : (fun j => (dif R (2 ^ g)).testBit j) = Tl.out2 (fun j => S.testBit j) k g := by
            funext j
            rw [dif_bit hRl hq, hRb, Nat.testBit_two_pow]
            unfold Tl.out2
            by_cases e : g = j
            · subst e; simp
            · have e5 : (j == g) = false := beq_eq_false_iff_ne.2 (fun x => e x.symm)
              simp [e, e5]
          rw [e3, cellsL_dif hRl hg64] at h3
          exact h3)
        rw [e1, e2, Int.natCast_add]
        omega
end Go.Proofs.Ytfjkjnhmlljefaa
