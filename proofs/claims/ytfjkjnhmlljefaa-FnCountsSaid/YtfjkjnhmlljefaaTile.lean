/-
  Plain: tilings counted; the count by profiles is the number of tilings; partial tilings; each cell is covered by one domino.
-/
import Derived.ProofKit
namespace Go.Proofs.Ytfjkjnhmlljefaa.Tl
set_option linter.unusedVariables false
set_option linter.unusedSimpArgs false

/-
  Plain: the number of tilings of a set of cells, by its least cell; by any of its cells; a bound.
-/
/-- Without two cells. -/
def out2 (S : Nat → Bool) (a b : Nat) : Nat → Bool := fun j => S j && !(j == a) && !(j == b)
theorem out2_comm (S : Nat → Bool) (a b c d : Nat) : out2 (out2 S a b) c d = out2 (out2 S c d) a b := by
  funext j; simp only [out2]
  cases S j <;> cases (j == a) <;> cases (j == b) <;> cases (j == c) <;> cases (j == d) <;> rfl
theorem out2_swap (S : Nat → Bool) (a b : Nat) : out2 S a b = out2 S b a := by
  funext j; simp only [out2]
  cases S j <;> cases (j == a) <;> cases (j == b) <;> rfl
/-- The neighbours behind a cell: to the right, below. -/
def nxt (i : Nat) : List Nat := (if i % 8 == 7 then [] else [i + 1]) ++ (if i < 56 then [i + 8] else [])
/-- The neighbours ahead of it. -/
def prv (i : Nat) : List Nat := (if i < 8 then [] else [i - 8]) ++ (if i % 8 == 0 then [] else [i - 1])
def nbs (i : Nat) : List Nat := prv i ++ nxt i
def tot (l : List Nat) (f : Nat → Nat) : Nat := (l.map f).sum
theorem tot_nil (f : Nat → Nat) : tot [] f = 0 := rfl
theorem tot_cons (a : Nat) (l : List Nat) (f : Nat → Nat) : tot (a :: l) f = f a + tot l f := by simp [tot]
theorem tot_append (a b : List Nat) (f : Nat → Nat) : tot (a ++ b) f = tot a f + tot b f := by simp [tot]
theorem tot_zero {l : List Nat} {f : Nat → Nat} (h : ∀ a ∈ l, f a = 0) : tot l f = 0 := by
  induction l with
  | nil => rfl
  | cons a l ih => rw [tot_cons, h a (List.mem_cons_self ..), ih (fun b hb => h b (List.mem_cons_of_mem _ hb))]
theorem tot_congr {l : List Nat} {f g : Nat → Nat} (h : ∀ a ∈ l, f a = g a) : tot l f = tot l g := by
  induction l with
  | nil => rfl
  | cons a l ih => rw [tot_cons, tot_cons, h a (List.mem_cons_self ..), ih (fun b hb => h b (List.mem_cons_of_mem _ hb))]
theorem tot_add (l : List Nat) (f g : Nat → Nat) : tot l (fun a => f a + g a) = tot l f + tot l g := by
  induction l with
  | nil => rfl
  | cons a l ih => rw [tot_cons, tot_cons, tot_cons, ih]; omega
theorem tot_comm (l m : List Nat) (f : Nat → Nat → Nat) : tot l (fun a => tot m (f a)) = tot m (fun b => tot l (fun a => f a b)) := by
  induction l with
  | nil => simp [tot_zero]
  | cons a l ih =>
    rw [tot_cons, ih, ← tot_add]
    exact tot_congr fun b _ => (tot_cons a l (fun a => f a b)).symm
/-- The tilings of a set whose cells are the last k of the 64 at most. -/
def tl : Nat → (Nat → Bool) → Nat
  | 0, _ => 1
  | k + 1, S => if S (63 - k) then tot (nxt (63 - k)) (fun g => if S g then tl k (out2 S (63 - k) g) else 0) else tl k S
theorem nxt_gt {i g : Nat} (h : g ∈ nxt i) : i < g ∧ g < i + 9 ∧ (i < 64 → g < 64) := by
  unfold nxt at h
  rcases List.mem_append.1 h with h | h
  · split at h
    · cases h
    · simp at h; subst h
      rename_i h7
      have : ¬ i % 8 = 7 := by simpa using h7
      omega
  · split at h
    · simp at h; omega
    · cases h
theorem prv_lt {i g : Nat} (h : g ∈ prv i) : g < i := by
  unfold prv at h
  rcases List.mem_append.1 h with h | h
  · split at h
    · cases h
    · simp at h; omega
  · split at h
    · cases h
    · rename_i h7
      have : ¬ i % 8 = 0 := by simpa using h7
      simp at h; omega
theorem mem_nbs {i j : Nat} (hi : i < 64) (hj : j < 64) : j ∈ nbs i ↔ i ∈ nbs j := by
  have h : ((List.range 64).all fun i => (List.range 64).all fun j => (decide (j ∈ nbs i) == decide (i ∈ nbs j))) = true := by decide +kernel
  have h1 := List.all_eq_true.1 (List.all_eq_true.1 h i (List.mem_range.2 hi)) j (List.mem_range.2 hj)
  simpa using h1
theorem nbs_facts {i : Nat} (hi : i < 64) : (nbs i).Nodup ∧ i ∉ nbs i ∧ ∀ j ∈ nbs i, j < 64 := by
  have h : ((List.range 64).all fun i => decide ((nbs i).Nodup ∧ i ∉ nbs i ∧ ∀ j ∈ nbs i, j < 64)) = true := by decide +kernel
  simpa using List.all_eq_true.1 h i (List.mem_range.2 hi)
/-- One member of a list set apart. -/
theorem tot_apart {l : List Nat} (hn : l.Nodup) (a : Nat) (f : Nat → Nat) : tot l f = (if a ∈ l then f a else 0) + tot l (fun b => if b = a then 0 else f b) := by
  induction l with
  | nil => simp [tot_nil]
  | cons c l ih =>
    obtain ⟨h1, h2⟩ := List.nodup_cons.1 hn
    rw [tot_cons, tot_cons, ih h2]
    by_cases e : c = a
    · subst e
      simp [h1]
    · have e' : ¬ a = c := fun h => e h.symm
      simp [e, e']
      split <;> omega
/-- The tilings by what covers any one of the cells. -/
theorem tl_any : ∀ (k : Nat), k ≤ 64 → ∀ (S : Nat → Bool) (c : Nat), (∀ j, S j = true → 64 - k ≤ j ∧ j < 64) → S c = true →
    tl k S = tot (nbs c) fun d => if S d then tl k (out2 S c d) else 0 := by
  intro k
  induction k with
  | zero =>
    intro _ S c hS hc
    have := hS c hc
    omega
  | succ k ih =>
    intro hk S c hS hc
    have hc64 : c < 64 := (hS c hc).2
    have hi : 63 - k < 64 := by omega
    generalize hI : 63 - k = i at *
    have hlow : ∀ j, S j = true → i ≤ j := fun j hj => by have := (hS j hj).1; omega
    have hk' : 64 - k = i + 1 := by omega
    by_cases hSi : S i = true
    · by_cases hci : c = i
      · -- the cell is the least one: its neighbours ahead do not belong
        subst hci
        show (if S (63 - k) then _ else _) = _
        rw [hI, if_pos hSi]
        unfold nbs
        rw [tot_append]
        rw [tot_zero (l := prv c) (fun d hd => by
          have h1 := prv_lt hd
          have h2 : S d = false := by
            cases h : S d
            · rfl
            · have := hlow d h; omega
          simp [h2]), Nat.zero_add]
        refine tot_congr fun d _ => ?_
        by_cases hd : S d = true
        · rw [if_pos hd, if_pos hd]
          show _ = (if out2 S c d (63 - k) then _ else _)
          rw [hI]
          have : out2 S c d c = false := by simp [out2]
          rw [this]
          simp
        · simp [hd]
      · -- another one
        have hgt : i < c := by have := hlow c hc; omega
        have e1 : tl (k + 1) S = tot (nxt i) (fun g => if S g then tl k (out2 S i g) else 0) := by
          show (if S (63 - k) then _ else _) = _
          rw [hI, if_pos hSi]
        have hin : (nxt i).Nodup := by
          have := (nbs_facts hi).1
          unfold nbs at this
          exact (List.nodup_append.1 this).2.1
        have hcm : c ∈ nxt i ↔ i ∈ nbs c := by
          rw [mem_nbs hc64 hi]
          unfold nbs
          rw [List.mem_append]
          constructor
          · exact fun h => .inr h
          · rintro (h | h)
            · have := prv_lt h; omega
            · exact h
        -- left: the least cell's partner is c, or another one
        have L : tl (k + 1) S = (if c ∈ nxt i then tl k (out2 S i c) else 0) + tot (nxt i) (fun g => tot (nbs c) (fun d => if g = c ∨ d = i ∨ g = d ∨ S g = false ∨ S d = false then 0 else tl k (out2 (out2 S i g) c d))) := by
          rw [e1, tot_apart hin c]
          congr 1
          · by_cases h : c ∈ nxt i
            · rw [if_pos h, if_pos h, if_pos hc]
            · rw [if_neg h, if_neg h]
          · refine tot_congr fun g hg => ?_
            have hg9 := nxt_gt hg
            by_cases hgc : g = c
            · rw [if_pos hgc]
              exact (tot_zero fun d _ => by simp [hgc]).symm
            · rw [if_neg hgc]
              by_cases hSg : S g = true
              · rw [if_pos hSg]
                have hc' : out2 S i g c = true := by
                  have h1 : ¬ c = g := fun h => hgc h.symm
                  simp [out2, hc, hci, h1]
                rw [ih (by omega) (out2 S i g) c (fun j hj => by
                  have hj' : S j = true ∧ ¬ j = i ∧ ¬ j = g := by simpa [out2, and_assoc] using hj
                  have h1 := hS j hj'.1
                  have h2 := hlow j hj'.1
                  omega) hc']
                refine tot_congr fun d hd => ?_
                by_cases hdi : d = i
                · subst hdi; simp [out2]
                · by_cases hdg : d = g
                  · subst hdg; simp [out2]
                  · have hgd : ¬ g = d := fun h => hdg h.symm
                    by_cases hSd : S d = true
                    · have h1 : out2 S i g d = true := by simp [out2, hSd, hdi, hdg]
                      simp [h1, hgc, hdi, hgd, hSg, hSd]
                    · have h1 : out2 S i g d = false := by simp [out2, hSd]
                      simp [h1, hSd]
              · rw [if_neg hSg]
                exact (tot_zero fun d _ => by simp [hSg]).symm
        -- right: c's partner is the least cell, or another one
        have R : (tot (nbs c) fun d => if S d then tl (k + 1) (out2 S c d) else 0) = (if i ∈ nbs c then tl k (out2 S i c) else 0) + tot (nbs c) (fun d => tot (nxt i) (fun g => if g = c ∨ d = i ∨ g = d ∨ S g = false ∨ S d = false then 0 else tl k (out2 (out2 S i g) c d))) := by
          rw [tot_apart (nbs_facts hc64).1 i]
          congr 1
          · by_cases h : i ∈ nbs c
            · rw [if_pos h, if_pos h, if_pos hSi]
              show (if out2 S c i (63 - k) then _ else _) = _
              rw [hI]
              have : out2 S c i i = false := by simp [out2]
              rw [this, out2_swap S c i]
              simp
            · rw [if_neg h, if_neg h]
          · refine tot_congr fun d hd => ?_
            by_cases hdi : d = i
            · rw [if_pos hdi]
              exact (tot_zero fun g _ => by simp [hdi]).symm
            · rw [if_neg hdi]
              by_cases hSd : S d = true
              · rw [if_pos hSd]
                show (if out2 S c d (63 - k) then tot (nxt (63 - k)) _ else _) = _
                rw [hI]
                have h1 : out2 S c d i = true := by
                  have h2 : ¬ i = c := fun h => hci h.symm
                  have h3 : ¬ i = d := fun h => hdi h.symm
                  simp [out2, hSi, h2, h3]
                rw [if_pos h1]
                refine tot_congr fun g hg => ?_
                by_cases hgc : g = c
                · subst hgc; simp [out2]
                · by_cases hgd : g = d
                  · subst hgd; simp [out2]
                  · by_cases hSg : S g = true
                    · have h2 : out2 S c d g = true := by simp [out2, hSg, hgc, hgd]
                      rw [if_pos h2, out2_comm S c d i g]
                      simp [hgc, hdi, hgd, hSg, hSd]
                    · have h2 : out2 S c d g = false := by simp [out2, hSg]
                      simp [h2, hSg]
              · rw [if_neg hSd]
                exact (tot_zero fun g _ => by simp [hSd]).symm
        rw [L, R, tot_comm]
        congr 1
        by_cases h : c ∈ nxt i
        · rw [if_pos h, if_pos (hcm.1 h)]
        · rw [if_neg h, if_neg (fun h' => h (hcm.2 h'))]
    · have hSi' : S i = false := by simpa using hSi
      have e1 : tl (k + 1) S = tl k S := by
        show (if S (63 - k) then _ else _) = _
        rw [hI, hSi']
        simp
      rw [e1, ih (by omega) S c (fun j hj => by
        have h1 := hS j hj
        have h2 := hlow j hj
        have h3 : j ≠ i := fun e => by subst e; rw [hj] at hSi'; cases hSi'
        omega) hc]
      refine tot_congr fun d _ => ?_
      by_cases hd : S d = true
      · rw [if_pos hd, if_pos hd]
        show _ = (if out2 S c d (63 - k) then _ else _)
        rw [hI]
        have : out2 S c d i = false := by simp [out2, hSi']
        rw [this]
        simp
      · simp [hd]
/-- How many cells. -/
def many (k : Nat) (S : Nat → Bool) : Nat := ((List.range k).filter fun j => S (63 - j)).length
theorem many_succ (k : Nat) (S : Nat → Bool) : many (k + 1) S = many k S + (if S (63 - k) then 1 else 0) := by
  unfold many
  rw [List.range_succ, List.filter_append, List.length_append]
  by_cases h : S (63 - k) <;> simp [h]
theorem many_congr {k : Nat} {S T : Nat → Bool} (h : ∀ j, j < k → S (63 - j) = T (63 - j)) : many k S = many k T := by
  induction k with
  | zero => rfl
  | succ k ih => rw [many_succ, many_succ, ih (fun j hj => h j (by omega)), h k (by omega)]
theorem many_out {k : Nat} {S : Nat → Bool} {a : Nat} (ha : a < 64) (hk : 64 ≤ a + k) (hk64 : k ≤ 64) (hS : S a = true) :
    many k S = many k (fun j => S j && !(j == a)) + 1 := by
  induction k with
  | zero => omega
  | succ k ih =>
    rw [many_succ, many_succ]
    by_cases e : a = 63 - k
    · have h1 : many k S = many k (fun j => S j && !(j == a)) := many_congr fun j hj => by
        have : ¬ 63 - j = a := by omega
        simp [this]
      rw [← e, h1, hS]
      simp
    · have h1 := ih (by omega) (by omega)
      have h2 : ¬ 63 - k = a := fun h => e h.symm
      rw [h1]
      simp [h2]
      omega
theorem many_le (k : Nat) (S : Nat → Bool) : many k S ≤ k := by
  induction k with
  | zero => simp [many]
  | succ k ih => rw [many_succ]; split <;> omega
theorem tl_le : ∀ (k : Nat), k ≤ 64 → ∀ (S : Nat → Bool) (m : Nat), many k S ≤ 2 * m + 1 → tl k S ≤ 2 ^ m := by
  intro k
  induction k with
  | zero => intro _ S m _; exact Nat.one_le_two_pow
  | succ k ih =>
    intro hk S m hm
    rw [many_succ] at hm
    show (if S (63 - k) then _ else _) ≤ _
    by_cases hS : S (63 - k) = true
    · rw [if_pos hS] at hm ⊢
      have hone : ∀ g ∈ nxt (63 - k), (if S g then tl k (out2 S (63 - k) g) else 0) ≤ 2 ^ (m - 1) ∧ (m = 0 → (if S g then tl k (out2 S (63 - k) g) else 0) = 0) := by
        intro g hg
        obtain ⟨g1, g2, g3⟩ := nxt_gt hg
        by_cases hSg : S g = true
        · rw [if_pos hSg]
          have h1 : many k S = many k (fun j => S j && !(j == g)) + 1 := many_out (by omega) (by omega) (by omega) hSg
          have h2 : many k (out2 S (63 - k) g) = many k (fun j => S j && !(j == g)) := many_congr fun j hj => by
            have : (63 - j == 63 - k) = false := by simp; omega
            simp [out2, this]
          refine ⟨ih (by omega) _ _ (by omega), fun h0 => by omega⟩
        · rw [if_neg hSg]
          exact ⟨Nat.zero_le _, fun _ => rfl⟩
      have hb : tot (nxt (63 - k)) (fun g => if S g then tl k (out2 S (63 - k) g) else 0) ≤ (nxt (63 - k)).length * 2 ^ (m - 1) := by
        generalize nxt (63 - k) = l at hone
        induction l with
        | nil => simp [tot_nil]
        | cons a l il =>
          rw [tot_cons, List.length_cons, Nat.succ_mul]
          have := (hone a (List.mem_cons_self ..)).1
          have := il (fun g hg => hone g (List.mem_cons_of_mem _ hg))
          omega
      have hl : (nxt (63 - k)).length ≤ 2 := by
        unfold nxt
        rw [List.length_append]
        split <;> split <;> simp
      rcases Nat.eq_zero_or_pos m with h0 | h0
      · rw [tot_zero fun g hg => (hone g hg).2 h0]
        exact Nat.zero_le _
      · have h3 : 2 ^ m = 2 * 2 ^ (m - 1) := by
          rw [← Nat.pow_succ']
          congr 1
          omega
        have h4 := Nat.mul_le_mul_right (2 ^ (m - 1)) hl
        omega
    · rw [if_neg hS] at hm ⊢
      exact ih (by omega) S m (by omega)
/-
  The count by profiles as the program runs it. Plain definitions and facts.
-/
def w64 (n : Int) : Int := (n + 9223372036854775808) % 18446744073709551616 - 9223372036854775808
def putAt (l : List Int) (k : Nat) (n : Int) : List Int := l.set k (w64 (l.getD k 0 + n))
def dpCell (S : Nat → Nat → Bool) (x y : Nat) (l : List Int) (k : Nat) (n : Int) : List Int :=
  if n = 0 then l else
  if S x y = false then (if k.testBit x then l else putAt l k n)
  else if k.testBit x then putAt l (k - 2 ^ x) n
  else
    let l1 := if S x (y + 1) then putAt l (k ||| 2 ^ x) n else l
    if S (x + 1) y && !k.testBit (x + 1) then putAt l1 (k ||| 2 ^ (x + 1)) n else l1
def dpTo (S : Nat → Nat → Bool) (x y : Nat) (ways : List Int) (m : Nat) : List Int :=
  (List.range m).foldl (fun l k => dpCell S x y l k (ways.getD k 0)) (List.replicate 256 0)
theorem dpTo_zero (S : Nat → Nat → Bool) (x y : Nat) (ways : List Int) : dpTo S x y ways 0 = List.replicate 256 0 := rfl
theorem dpTo_succ (S : Nat → Nat → Bool) (x y : Nat) (ways : List Int) (m : Nat) : dpTo S x y ways (m + 1) = dpCell S x y (dpTo S x y ways m) m (ways.getD m 0) := by
  unfold dpTo
  rw [List.range_succ, List.foldl_append]
  rfl
def dpAll (S : Nat → Nat → Bool) : Nat → List Int
  | 0 => (List.replicate 256 0).set 0 1
  | i + 1 => dpTo S (i % 8) (i / 8) (dpAll S i) 256
/-- What the program answers. -/
def dpCount (S : Nat → Nat → Bool) : Int := (dpAll S 64).getD 0 0
theorem putAt_length (l : List Int) (k : Nat) (n : Int) : (putAt l k n).length = l.length := by simp [putAt]
theorem dpCell_length (S : Nat → Nat → Bool) (x y : Nat) (l : List Int) (k : Nat) (n : Int) : (dpCell S x y l k n).length = l.length := by
  unfold dpCell
  simp only
  split
  · rfl
  · split
    · split
      · rfl
      · exact putAt_length ..
    · split
      · exact putAt_length ..
      · split <;> split <;> simp [putAt_length]
theorem dpTo_length (S : Nat → Nat → Bool) (x y : Nat) (ways : List Int) (m : Nat) : (dpTo S x y ways m).length = 256 := by
  induction m with
  | zero => rw [dpTo_zero, List.length_replicate]
  | succ m ih => rw [dpTo_succ, dpCell_length, ih]
theorem dpAll_length (S : Nat → Nat → Bool) (i : Nat) : (dpAll S i).length = 256 := by
  cases i with
  | zero => unfold dpAll; rw [List.length_set, List.length_replicate]
  | succ i => exact dpTo_length _ _ _ _ _
def Fits (l : List Int) : Prop := ∀ n ∈ l, -9223372036854775808 ≤ n ∧ n ≤ 9223372036854775807
theorem w64_fits (n : Int) : -9223372036854775808 ≤ w64 n ∧ w64 n ≤ 9223372036854775807 := by unfold w64; omega
theorem w64_in {n : Int} (h : -9223372036854775808 ≤ n ∧ n ≤ 9223372036854775807) : w64 n = n := by unfold w64; omega
theorem w64_mod (n : Int) : w64 n % 18446744073709551616 = n % 18446744073709551616 := by unfold w64; omega
theorem fits_put {l : List Int} (h : Fits l) (k : Nat) (n : Int) : Fits (putAt l k n) := by
  intro z hz
  rcases List.mem_or_eq_of_mem_set hz with hz | rfl
  · exact h z hz
  · exact w64_fits _
theorem fits_cell {l : List Int} (h : Fits l) (S : Nat → Nat → Bool) (x y k : Nat) (n : Int) : Fits (dpCell S x y l k n) := by
  unfold dpCell
  simp only
  split
  · exact h
  · split
    · split
      · exact h
      · exact fits_put h _ _
    · split
      · exact fits_put h _ _
      · split <;> split <;> first | exact h | exact fits_put h _ _ | exact fits_put (fits_put h _ _) _ _
theorem fits_to (S : Nat → Nat → Bool) (x y : Nat) (ways : List Int) (m : Nat) : Fits (dpTo S x y ways m) := by
  induction m with
  | zero => intro z hz; rw [dpTo_zero] at hz; have := List.eq_of_mem_replicate hz; omega
  | succ m ih => rw [dpTo_succ]; exact fits_cell ih _ _ _ _ _
theorem fits_all (S : Nat → Nat → Bool) (i : Nat) : Fits (dpAll S i) := by
  cases i with
  | zero =>
    intro z hz
    rcases List.mem_or_eq_of_mem_set hz with hz | rfl
    · have := List.eq_of_mem_replicate hz; omega
    · omega
  | succ i => exact fits_to _ _ _ _ _
/-! ### The sum with weights -/
def wsum (W : Nat → Nat) : Nat → List Int → Int
  | _, [] => 0
  | k, n :: l => n * (W k : Int) + wsum W (k + 1) l
theorem wsum_put (W : Nat → Nat) (l : List Int) (b k : Nat) (n : Int) (hk : k < l.length) :
    wsum W b (putAt l k n) % 18446744073709551616 = (wsum W b l + n * (W (b + k) : Int)) % 18446744073709551616 := by
  induction l generalizing b k with
  | nil => simp at hk
  | cons a l ih =>
    cases k with
    | zero =>
      simp only [putAt, List.set_cons_zero, List.getD_cons_zero, wsum, Nat.add_zero]
      have h1 : w64 (a + n) * (W b : Int) % 18446744073709551616 = (a + n) * (W b : Int) % 18446744073709551616 := by
        rw [Int.mul_emod, w64_mod, ← Int.mul_emod]
      rw [Int.add_emod, h1, ← Int.add_emod, Int.add_mul]
      congr 1
      omega
    | succ k =>
      have h1 : putAt (a :: l) (k + 1) n = a :: putAt l k n := by simp [putAt]
      rw [h1]
      simp only [wsum]
      have h2 := ih (b + 1) k (by simpa using hk)
      rw [Int.add_emod, h2, ← Int.add_emod]
      rw [show b + 1 + k = b + (k + 1) by omega]
      congr 1
      omega
theorem wsum_zero (W : Nat → Nat) (b m : Nat) : wsum W b (List.replicate m 0) = 0 := by
  induction m generalizing b with
  | zero => rfl
  | succ m ih => simp [List.replicate_succ, wsum, ih]
/-- The sum over the first m numbers of a list. -/
def psum (W : Nat → Nat) (l : List Int) : Nat → Int
  | 0 => 0
  | m + 1 => psum W l m + l.getD m 0 * (W m : Int)
theorem psum_all (W : Nat → Nat) (l : List Int) : psum W l l.length = wsum W 0 l := by
  have h : ∀ (l : List Int) (b : Nat), wsum W b l = psum (fun k => W (b + k)) l l.length := by
    have hs : ∀ (V : Nat → Nat) (a : Int) (l : List Int) (m : Nat), psum V (a :: l) (m + 1) = a * (V 0 : Int) + psum (fun k => V (k + 1)) l m := by
      intro V a l m
      induction m with
      | zero => simp [psum]
      | succ m ih =>
        rw [psum, ih, psum]
        simp only [List.getD_cons_succ]
        omega
    intro l
    induction l with
    | nil => intro b; rfl
    | cons a l ih =>
      intro b
      rw [List.length_cons, hs, wsum, ih]
      simp only [Nat.add_zero]
      congr 2
      funext k
      congr 1
      omega
  rw [h l 0]
  simp
/-! ### The weights -/
/-- Does the cell with an index belong? -/
def at8 (S : Nat → Nat → Bool) (j : Nat) : Bool := decide (j < 64) && S (j % 8) (j / 8)
def rest (S : Nat → Nat → Bool) (k s : Nat) : Nat → Bool := fun j => at8 S j && decide (k ≤ j) && (decide (k + 8 ≤ j) || !s.testBit (j % 8))
def fine (S : Nat → Nat → Bool) (k s : Nat) : Bool := (List.range 8).all fun t => !s.testBit ((k + t) % 8) || at8 S (k + t)
def wgt (S : Nat → Nat → Bool) (k s : Nat) : Nat := if fine S k s then tl (64 - k) (rest S k s) else 0
theorem fine_iff {S : Nat → Nat → Bool} {k s : Nat} : fine S k s = true ↔ ∀ j, k ≤ j → j < k + 8 → s.testBit (j % 8) = true → at8 S j = true := by
  unfold fine
  rw [List.all_eq_true]
  constructor
  · intro h j h1 h2 h3
    have := h (j - k) (List.mem_range.2 (by omega))
    rw [show k + (j - k) = j by omega] at this
    simpa [h3] using this
  · intro h t ht
    have ht8 := List.mem_range.1 ht
    have := h (k + t) (by omega) (by omega)
    cases hb : s.testBit ((k + t) % 8)
    · simp
    · simp [this hb]
theorem low_bits : ((List.range 256).all fun k => (List.range 8).all fun x => (List.range 8).all fun c =>
    ((k ||| 2 ^ x).testBit c == (k.testBit c || c == x)) && decide (k ||| 2 ^ x < 256) &&
    (!k.testBit x || (((k - 2 ^ x).testBit c == (k.testBit c && !(c == x))) && decide (k - 2 ^ x < 256)))) = true := by decide +kernel
theorem low_or {k x : Nat} (hk : k < 256) (hx : x < 8) : (∀ c, c < 8 → (k ||| 2 ^ x).testBit c = (k.testBit c || c == x)) ∧ k ||| 2 ^ x < 256 := by
  have h := fun c (hc : c < 8) => List.all_eq_true.1 (List.all_eq_true.1 (List.all_eq_true.1 low_bits k (List.mem_range.2 hk)) x (List.mem_range.2 hx)) c (List.mem_range.2 hc)
  simp only [Bool.and_eq_true, beq_iff_eq, decide_eq_true_eq] at h
  exact ⟨fun c hc => (h c hc).1.1, (h 0 (by omega)).1.2⟩
theorem low_sub {k x : Nat} (hk : k < 256) (hx : x < 8) (hb : k.testBit x = true) : (∀ c, c < 8 → (k - 2 ^ x).testBit c = (k.testBit c && !(c == x))) ∧ k - 2 ^ x < 256 := by
  have h := fun c (hc : c < 8) => List.all_eq_true.1 (List.all_eq_true.1 (List.all_eq_true.1 low_bits k (List.mem_range.2 hk)) x (List.mem_range.2 hx)) c (List.mem_range.2 hc)
  simp only [Bool.and_eq_true, beq_iff_eq, decide_eq_true_eq, hb, Bool.not_true, Bool.false_or] at h
  exact ⟨fun c hc => (h c hc).2.1, (h 0 (by omega)).2.2⟩
theorem tl_step (i : Nat) (hi : i < 64) (R : Nat → Bool) : tl (64 - i) R = if R i then tot (nxt i) (fun g => if R g then tl (63 - i) (out2 R i g) else 0) else tl (63 - i) R := by
  have h : 64 - i = (63 - i) + 1 := by omega
  rw [h]
  show (if R (63 - (63 - i)) then _ else _) = _
  rw [show 63 - (63 - i) = i by omega]
theorem wgt_skip {S : Nat → Nat → Bool} {i s : Nat} (hi : i < 64) (hS : at8 S i = false) (hb : s.testBit (i % 8) = false) : wgt S i s = wgt S (i + 1) s := by
  have hf : fine S i s = fine S (i + 1) s := by
    rw [Bool.eq_iff_iff, fine_iff, fine_iff]
    constructor
    · intro h j h1 h2 h3
      by_cases e : j = i + 8
      · subst e
        rw [show (i + 8) % 8 = i % 8 by omega, hb] at h3; cases h3
      · exact h j (by omega) (by omega) h3
    · intro h j h1 h2 h3
      by_cases e : j = i
      · subst e; rw [hb] at h3; cases h3
      · exact h j (by omega) (by omega) h3
  have hr : rest S i s = rest S (i + 1) s := by
    funext j
    unfold rest
    by_cases e : j = i
    · subst e; simp [hS]
    · by_cases e2 : j = i + 8
      · subst e2
        have h1 : (i + 8) % 8 = i % 8 := by omega
        rw [h1, hb]
        simp
      · by_cases h1 : i ≤ j
        · have h2 : i + 1 ≤ j := by omega
          by_cases h3 : i + 8 ≤ j
          · have h4 : i + 1 + 8 ≤ j := by omega
            simp [h1, h2, h3, h4]
          · have h4 : ¬ i + 1 + 8 ≤ j := by omega
            simp [h1, h2, h3, h4]
        · have h2 : ¬ i + 1 ≤ j := by omega
          simp [h1, h2]
  unfold wgt
  rw [hf, tl_step i hi, hr, show 64 - (i + 1) = 63 - i by omega]
  have : rest S (i + 1) s i = false := by unfold rest; simp; omega
  rw [this]
  simp
theorem wgt_bad {S : Nat → Nat → Bool} {i s : Nat} (hS : at8 S i = false) (hb : s.testBit (i % 8) = true) : wgt S i s = 0 := by
  have : fine S i s = false := by
    cases h : fine S i s
    · rfl
    · have := fine_iff.1 h i (Nat.le_refl _) (by omega) hb
      rw [hS] at this; cases this
  unfold wgt
  simp [this]
theorem wgt_was {S : Nat → Nat → Bool} {i s : Nat} (hi : i < 64) (hs : s < 256) (hS : at8 S i = true) (hb : s.testBit (i % 8) = true) : wgt S i s = wgt S (i + 1) (s - 2 ^ (i % 8)) := by
  obtain ⟨hbit, _⟩ := low_sub hs (show i % 8 < 8 by omega) hb
  have hf : fine S i s = fine S (i + 1) (s - 2 ^ (i % 8)) := by
    rw [Bool.eq_iff_iff, fine_iff, fine_iff]
    constructor
    · intro h j h1 h2 h3
      rw [hbit (j % 8) (by omega)] at h3
      simp only [Bool.and_eq_true, Bool.not_eq_true', beq_eq_false_iff_ne] at h3
      by_cases e : j = i + 8
      · subst e; exact absurd (by omega) h3.2
      · exact h j (by omega) (by omega) h3.1
    · intro h j h1 h2 h3
      by_cases e : j = i
      · subst e; exact hS
      · refine h j (by omega) (by omega) ?_
        rw [hbit (j % 8) (by omega), h3]
        simp; omega
  have hr : rest S i s = rest S (i + 1) (s - 2 ^ (i % 8)) := by
    funext j
    unfold rest
    rw [hbit (j % 8) (by omega)]
    by_cases e : j = i
    · subst e
      simp [hb, show ¬ j + 8 ≤ j by omega, show ¬ j + 1 ≤ j by omega]
    · by_cases e2 : j = i + 8
      · subst e2
        have h1 : (i + 8) % 8 = i % 8 := by omega
        rw [h1]
        simp
      · by_cases h1 : i ≤ j
        · have h2 : i + 1 ≤ j := by omega
          by_cases h3 : i + 8 ≤ j
          · have h4 : i + 1 + 8 ≤ j := by omega
            simp [h1, h2, h3, h4]
          · have h4 : ¬ i + 1 + 8 ≤ j := by omega
            have h5 : (j % 8 == i % 8) = false := by simp; omega
            simp [h1, h2, h3, h4, h5]
        · have h2 : ¬ i + 1 ≤ j := by omega
          simp [h1, h2]
  unfold wgt
  rw [hf, tl_step i hi, show 64 - (i + 1) = 63 - i by omega]
  have h0 : rest S i s i = false := by unfold rest; simp [hb]
  rw [h0, hr]
  simp
theorem wgt_free {S : Nat → Nat → Bool} {i s : Nat} (hi : i < 64) (hs : s < 256) (hS : at8 S i = true) (hb : s.testBit (i % 8) = false) :
    wgt S i s = (if at8 S (i + 8) then wgt S (i + 1) (s ||| 2 ^ (i % 8)) else 0) + (if i % 8 < 7 ∧ at8 S (i + 1) = true ∧ s.testBit (i % 8 + 1) = false then wgt S (i + 1) (s ||| 2 ^ (i % 8 + 1)) else 0) := by
  obtain ⟨hbit, _⟩ := low_or hs (show i % 8 < 8 by omega)
  have h64 : 64 - (i + 1) = 63 - i := by omega
  by_cases hf : fine S i s = true
  · have hf' := fine_iff.1 hf
    have e0 : wgt S i s = tot (nxt i) (fun g => if rest S i s g then tl (63 - i) (out2 (rest S i s) i g) else 0) := by
      unfold wgt
      rw [if_pos hf, tl_step i hi]
      have : rest S i s i = true := by unfold rest; simp [hS, hb]
      rw [if_pos this]
    have ed : (if rest S i s (i + 8) then tl (63 - i) (out2 (rest S i s) i (i + 8)) else 0) = if at8 S (i + 8) then wgt S (i + 1) (s ||| 2 ^ (i % 8)) else 0 := by
      have h1 : rest S i s (i + 8) = at8 S (i + 8) := by
        unfold rest
        have : i ≤ i + 8 := by omega
        simp [this]
      rw [h1]
      by_cases h2 : at8 S (i + 8) = true
      · rw [if_pos h2, if_pos h2]
        have h3 : fine S (i + 1) (s ||| 2 ^ (i % 8)) = true := by
          rw [fine_iff]
          intro j g1 g2 g3
          by_cases e : j = i + 8
          · subst e; exact h2
          · rw [hbit (j % 8) (by omega)] at g3
            have : (j % 8 == i % 8) = false := by simp; omega
            rw [this, Bool.or_false] at g3
            exact hf' j (by omega) (by omega) g3
        unfold wgt
        rw [if_pos h3, h64]
        congr 1
        funext j
        unfold out2 rest
        rw [hbit (j % 8) (by omega)]
        by_cases e : j = i
        · subst e; simp [show ¬ j + 1 ≤ j by omega]
        · by_cases e2 : j = i + 8
          · subst e2
            have : (i + 8) % 8 = i % 8 := by omega
            simp [this]
          · by_cases g1 : i ≤ j
            · have g2 : i + 1 ≤ j := by omega
              by_cases g3 : i + 8 ≤ j
              · have g4 : i + 1 + 8 ≤ j := by omega
                simp [g1, g2, g3, g4, beq_eq_false_iff_ne.2 e, beq_eq_false_iff_ne.2 e2]
              · have g4 : ¬ i + 1 + 8 ≤ j := by omega
                have g5 : (j % 8 == i % 8) = false := by simp; omega
                simp [g1, g2, g3, g4, g5, beq_eq_false_iff_ne.2 e, beq_eq_false_iff_ne.2 e2]
            · have g2 : ¬ i + 1 ≤ j := by omega
              simp [g1, g2]
      · simp [h2]
    have er : i % 8 < 7 → (if rest S i s (i + 1) then tl (63 - i) (out2 (rest S i s) i (i + 1)) else 0) = if i % 8 < 7 ∧ at8 S (i + 1) = true ∧ s.testBit (i % 8 + 1) = false then wgt S (i + 1) (s ||| 2 ^ (i % 8 + 1)) else 0 := by
      intro hx
      have hm : (i + 1) % 8 = i % 8 + 1 := by omega
      obtain ⟨hbit1, _⟩ := low_or hs (show i % 8 + 1 < 8 by omega)
      have h1 : rest S i s (i + 1) = (at8 S (i + 1) && !s.testBit (i % 8 + 1)) := by
        unfold rest
        have g1 : i ≤ i + 1 := by omega
        have g2 : ¬ i + 8 ≤ i + 1 := by omega
        simp [g1, g2, hm]
      rw [h1]
      by_cases h2 : at8 S (i + 1) = true ∧ s.testBit (i % 8 + 1) = false
      · rw [if_pos (by simp [h2.1, h2.2]), if_pos ⟨hx, h2⟩]
        have h3 : fine S (i + 1) (s ||| 2 ^ (i % 8 + 1)) = true := by
          rw [fine_iff]
          intro j g1 g2 g3
          by_cases e : j = i + 1
          · subst e; exact h2.1
          · rw [hbit1 (j % 8) (by omega)] at g3
            have : (j % 8 == i % 8 + 1) = false := by simp; omega
            rw [this, Bool.or_false] at g3
            by_cases e2 : j = i + 8
            · subst e2
              rw [show (i + 8) % 8 = i % 8 by omega, hb] at g3; cases g3
            · exact hf' j (by omega) (by omega) g3
        unfold wgt
        rw [if_pos h3, h64]
        congr 1
        funext j
        unfold out2 rest
        rw [hbit1 (j % 8) (by omega)]
        by_cases e : j = i
        · subst e; simp [show ¬ j + 1 ≤ j by omega]
        · by_cases e1 : j = i + 1
          · subst e1; simp [hm]
          · by_cases e2 : j = i + 8
            · subst e2
              have g1 : (i + 8) % 8 = i % 8 := by omega
              simp [g1, hb, beq_eq_false_iff_ne.2 (show i + 8 ≠ i by omega), beq_eq_false_iff_ne.2 (show i + 7 ≠ i by omega), beq_eq_false_iff_ne.2 (show i % 8 ≠ i % 8 + 1 by omega), beq_eq_false_iff_ne.2 (show i + 8 ≠ i + 1 by omega)]
            · by_cases g1 : i ≤ j
              · have g2 : i + 1 ≤ j := by omega
                by_cases g3 : i + 8 ≤ j
                · have g4 : i + 1 + 8 ≤ j := by omega
                  simp [g1, g2, g3, g4, beq_eq_false_iff_ne.2 e, beq_eq_false_iff_ne.2 e1]
                · have g4 : ¬ i + 1 + 8 ≤ j := by omega
                  have g5 : (j % 8 == i % 8 + 1) = false := by simp; omega
                  simp [g1, g2, g3, g4, g5, beq_eq_false_iff_ne.2 e, beq_eq_false_iff_ne.2 e1]
              · have g2 : ¬ i + 1 ≤ j := by omega
                simp [g1, g2]
      · rw [if_neg (by simpa using h2), if_neg (fun h => h2 h.2)]
    rw [e0]
    unfold nxt
    rw [tot_append]
    by_cases hx : i % 8 < 7
    · have h7 : (i % 8 == 7) = false := by simp; omega
      rw [h7]
      simp only [Bool.false_eq_true, if_false]
      rw [tot_cons, tot_nil, Nat.add_zero, er hx]
      by_cases h56 : i < 56
      · rw [if_pos h56, tot_cons, tot_nil, Nat.add_zero, ed]; omega
      · have : at8 S (i + 8) = false := by unfold at8; simp; omega
        rw [if_neg h56, tot_nil, this]; simp
    · have h7 : (i % 8 == 7) = true := by simp; omega
      rw [h7]
      simp only [if_true]
      rw [tot_nil, Nat.zero_add, if_neg (show ¬ (i % 8 < 7 ∧ at8 S (i + 1) = true ∧ s.testBit (i % 8 + 1) = false) from fun h => hx h.1), Nat.add_zero]
      by_cases h56 : i < 56
      · rw [if_pos h56, tot_cons, tot_nil, Nat.add_zero, ed]; omega
      · have : at8 S (i + 8) = false := by unfold at8; simp; omega
        rw [if_neg h56, tot_nil, this]; simp
  · have hf0 : fine S i s = false := by simpa using hf
    have hbad : ∀ s', (∀ c, c < 8 → s.testBit c = true → s'.testBit c = true) → fine S (i + 1) s' = false := by
      intro s' hss
      cases h : fine S (i + 1) s'
      · rfl
      · exfalso
        apply hf
        rw [fine_iff] at h ⊢
        intro j g1 g2 g3
        by_cases e : j = i
        · subst e; exact hS
        · exact h j (by omega) (by omega) (hss _ (by omega) g3)
    have b1 : fine S (i + 1) (s ||| 2 ^ (i % 8)) = false := hbad _ (fun c hc h => by rw [hbit c hc, h]; rfl)
    have e0 : wgt S i s = 0 := by unfold wgt; simp [hf0]
    have e1 : wgt S (i + 1) (s ||| 2 ^ (i % 8)) = 0 := by unfold wgt; simp [b1]
    rw [e0, e1]
    by_cases hx : i % 8 < 7
    · obtain ⟨hbit1, _⟩ := low_or hs (show i % 8 + 1 < 8 by omega)
      have b2 : fine S (i + 1) (s ||| 2 ^ (i % 8 + 1)) = false := hbad _ (fun c hc h => by rw [hbit1 c hc, h]; rfl)
      have e2 : wgt S (i + 1) (s ||| 2 ^ (i % 8 + 1)) = 0 := by unfold wgt; simp [b2]
      rw [e2]; simp
    · simp [hx]
/-- One state's step. -/
theorem cell_step {S : Nat → Nat → Bool} (hS8 : ∀ x y, S x y = true → x < 8 ∧ y < 8) {i k : Nat} (hi : i < 64) (hk : k < 256) (l : List Int) (hl : l.length = 256) (n : Int) :
    wsum (wgt S (i + 1)) 0 (dpCell S (i % 8) (i / 8) l k n) % 18446744073709551616 = (wsum (wgt S (i + 1)) 0 l + n * (wgt S i k : Int)) % 18446744073709551616 := by
  have hat : ∀ j, j < 64 → at8 S j = S (j % 8) (j / 8) := fun j hj => by simp [at8, hj]
  unfold dpCell
  simp only
  by_cases hn : n = 0
  · rw [if_pos hn, hn]; simp
  rw [if_neg hn]
  by_cases hSi : S (i % 8) (i / 8) = false
  · rw [if_pos hSi]
    have hA : at8 S i = false := by rw [hat i hi]; exact hSi
    by_cases hb : k.testBit (i % 8) = true
    · rw [if_pos hb, wgt_bad hA hb]; simp
    · rw [if_neg hb, wsum_put _ _ _ _ _ (by omega), Nat.zero_add, wgt_skip hi hA (by simpa using hb)]
  · rw [if_neg hSi]
    have hA : at8 S i = true := by rw [hat i hi]; simpa using hSi
    by_cases hb : k.testBit (i % 8) = true
    · obtain ⟨_, hlt⟩ := low_sub hk (show i % 8 < 8 by omega) hb
      rw [if_pos hb, wsum_put _ _ _ _ _ (by omega), Nat.zero_add, wgt_was hi hk hA hb]
    · rw [if_neg hb, wgt_free hi hk hA (by simpa using hb)]
      obtain ⟨_, hlt⟩ := low_or hk (show i % 8 < 8 by omega)
      have hdown : S (i % 8) (i / 8 + 1) = at8 S (i + 8) := by
        by_cases h : i < 56
        · rw [hat _ (by omega), show (i + 8) % 8 = i % 8 by omega, show (i + 8) / 8 = i / 8 + 1 by omega]
        · have h1 : at8 S (i + 8) = false := by unfold at8; simp; omega
          rw [h1]
          cases h2 : S (i % 8) (i / 8 + 1)
          · rfl
          · have := hS8 _ _ h2; omega
      have hl1 : (if S (i % 8) (i / 8 + 1) = true then putAt l (k ||| 2 ^ (i % 8)) n else l).length = 256 := by split <;> simp [putAt_length, hl]
      have e1 : wsum (wgt S (i + 1)) 0 (if S (i % 8) (i / 8 + 1) = true then putAt l (k ||| 2 ^ (i % 8)) n else l) % 18446744073709551616 =
          (wsum (wgt S (i + 1)) 0 l + n * ((if at8 S (i + 8) then wgt S (i + 1) (k ||| 2 ^ (i % 8)) else 0 : Nat) : Int)) % 18446744073709551616 := by
        rw [hdown]
        by_cases h : at8 S (i + 8) = true
        · rw [if_pos h, if_pos h, wsum_put _ _ _ _ _ (by omega), Nat.zero_add]
        · rw [if_neg h, if_neg h]; simp
      have hright : (S (i % 8 + 1) (i / 8) && !k.testBit (i % 8 + 1)) = true ↔ (i % 8 < 7 ∧ at8 S (i + 1) = true ∧ k.testBit (i % 8 + 1) = false) := by
        simp only [Bool.and_eq_true, Bool.not_eq_true']
        constructor
        · rintro ⟨h1, h2⟩
          have h3 := hS8 _ _ h1
          refine ⟨by omega, ?_, h2⟩
          rw [hat _ (by omega), show (i + 1) % 8 = i % 8 + 1 by omega, show (i + 1) / 8 = i / 8 by omega]
          exact h1
        · rintro ⟨h1, h2, h3⟩
          rw [hat _ (by omega), show (i + 1) % 8 = i % 8 + 1 by omega, show (i + 1) / 8 = i / 8 by omega] at h2
          exact ⟨h2, h3⟩
      rw [Int.natCast_add, Int.mul_add, ← Int.add_assoc]
      by_cases h : (S (i % 8 + 1) (i / 8) && !k.testBit (i % 8 + 1)) = true
      · have h' := hright.1 h
        obtain ⟨_, hlt1⟩ := low_or hk (show i % 8 + 1 < 8 by omega)
        rw [if_pos h, if_pos h', wsum_put _ _ _ _ _ (by omega), Nat.zero_add, Int.add_emod, e1, ← Int.add_emod]
      · rw [if_neg h, if_neg (fun h' => h (hright.2 h')), e1]; simp
theorem row_step {S : Nat → Nat → Bool} (hS8 : ∀ x y, S x y = true → x < 8 ∧ y < 8) {i : Nat} (hi : i < 64) (ways : List Int) (m : Nat) (hm : m ≤ 256) :
    wsum (wgt S (i + 1)) 0 (dpTo S (i % 8) (i / 8) ways m) % 18446744073709551616 = psum (wgt S i) ways m % 18446744073709551616 := by
  induction m with
  | zero => rw [dpTo_zero, wsum_zero]; rfl
  | succ m ih =>
    rw [dpTo_succ, cell_step hS8 hi (by omega) _ (dpTo_length ..), Int.add_emod, ih (by omega), ← Int.add_emod]
    rfl
theorem all_step {S : Nat → Nat → Bool} (hS8 : ∀ x y, S x y = true → x < 8 ∧ y < 8) (i : Nat) (hi : i ≤ 64) :
    wsum (wgt S i) 0 (dpAll S i) % 18446744073709551616 = (wgt S 0 0 : Int) % 18446744073709551616 := by
  induction i with
  | zero =>
    have : dpAll S 0 = putAt (List.replicate 256 0) 0 1 := by
      simp only [dpAll, putAt]
      congr 1
    rw [this, wsum_put _ _ _ _ _ (by rw [List.length_replicate]; omega), wsum_zero]
    simp
  | succ i ih =>
    have h1 := row_step hS8 (show i < 64 by omega) (dpAll S i) 256 (Nat.le_refl _)
    have h2 : psum (wgt S i) (dpAll S i) 256 = wsum (wgt S i) 0 (dpAll S i) := by
      have := psum_all (wgt S i) (dpAll S i)
      rwa [dpAll_length] at this
    rw [h2, ih (by omega)] at h1
    exact h1
theorem wgt_end (S : Nat → Nat → Bool) (s : Nat) (hs : s < 256) : wgt S 64 s = if s = 0 then 1 else 0 := by
  have h : fine S 64 s = decide (s = 0) := by
    by_cases h0 : s = 0
    · subst h0
      simp only [decide_true]
      rw [fine_iff]
      intro j _ _ h3
      simp at h3
    · simp only [h0, decide_false]
      cases hf : fine S 64 s
      · rfl
      · exfalso
        have hb : ((List.range 256).all fun s => s == 0 || (List.range 8).any fun c => s.testBit c) = true := by decide +kernel
        have h1 := List.all_eq_true.1 hb s (List.mem_range.2 hs)
        simp only [Bool.or_eq_true, beq_iff_eq, h0, false_or, List.any_eq_true, List.mem_range] at h1
        obtain ⟨c, hc, h2⟩ := h1
        have h3 := fine_iff.1 hf (64 + c) (by omega) (by omega) (by rw [show (64 + c) % 8 = c by omega]; exact h2)
        unfold at8 at h3
        simp at h3
        omega
  unfold wgt
  rw [h]
  by_cases h0 : s = 0 <;> simp [h0, tl]
theorem wsum_end (S : Nat → Nat → Bool) (l : List Int) (hl : l.length ≤ 256) : wsum (wgt S 64) 0 l = l.getD 0 0 := by
  cases l with
  | nil => rfl
  | cons a l =>
    have h : ∀ (l : List Int) (b : Nat), 0 < b → b + l.length ≤ 256 → wsum (wgt S 64) b l = 0 := by
      intro l
      induction l with
      | nil => intro b _ _; rfl
      | cons c l ih =>
        intro b hb hbl
        simp only [List.length_cons] at hbl
        rw [wsum, ih (b + 1) (by omega) (by omega), wgt_end S b (by omega)]
        have : ¬ b = 0 := by omega
        simp [this]
    rw [wsum, h l 1 (by omega) (by simp at hl; omega), wgt_end S 0 (by omega)]
    simp
/-- The number of tilings of a set. -/
def tiles (S : Nat → Nat → Bool) : Nat := tl 64 (at8 S)
theorem dpCount_eq {S : Nat → Nat → Bool} (hS8 : ∀ x y, S x y = true → x < 8 ∧ y < 8) : dpCount S = w64 (tiles S : Int) := by
  have h1 := all_step hS8 64 (Nat.le_refl _)
  rw [wsum_end S _ (by rw [dpAll_length]; omega)] at h1
  have h2 : wgt S 0 0 = tiles S := by
    have hf : fine S 0 0 = true := fine_iff.2 fun j _ _ h3 => by simp at h3
    have hr : rest S 0 0 = at8 S := by funext j; unfold rest; simp
    unfold wgt tiles
    rw [if_pos hf, hr]
  rw [h2] at h1
  have h3 : -9223372036854775808 ≤ dpCount S ∧ dpCount S ≤ 9223372036854775807 := by
    refine fits_all S 64 _ ?_
    unfold dpCount
    rw [List.getD_eq_getElem?_getD]
    have h4 : 0 < (dpAll S 64).length := by rw [dpAll_length]; omega
    rw [List.getElem?_eq_getElem h4]
    simp
  have h5 : dpCount S % 18446744073709551616 = (tiles S : Int) % 18446744073709551616 := h1
  unfold w64
  omega
/-- There are fewer than 2^33 of them: nothing wraps. -/
theorem tiles_le (S : Nat → Nat → Bool) : tiles S ≤ 2 ^ 32 := tl_le 64 (Nat.le_refl _) _ 32 (by have := many_le 64 (at8 S); omega)
theorem dpCount_tiles {S : Nat → Nat → Bool} (hS8 : ∀ x y, S x y = true → x < 8 ∧ y < 8) : dpCount S = (tiles S : Int) := by
  rw [dpCount_eq hS8]
  have := tiles_le S
  exact w64_in (by omega)
/-
  Plain: the ways to lay n dominoes on a set; with half as many dominoes as cells they are the tilings.
-/
def part : Nat → (Nat → Bool) → Nat → Nat
  | _, _, 0 => 1
  | 0, _, _ + 1 => 0
  | k + 1, S, n + 1 => if S (63 - k) then part k S (n + 1) + tot (nxt (63 - k)) (fun g => if S g then part k (out2 S (63 - k) g) n else 0) else part k S (n + 1)
theorem part_zero (k : Nat) (S : Nat → Bool) : part k S 0 = 1 := by cases k <;> rfl
theorem part_succ (k : Nat) (S : Nat → Bool) (n : Nat) : part (k + 1) S (n + 1) = if S (63 - k) then part k S (n + 1) + tot (nxt (63 - k)) (fun g => if S g then part k (out2 S (63 - k) g) n else 0) else part k S (n + 1) := rfl
/-- The last k cells alone are looked at. -/
theorem part_congr : ∀ (k : Nat), k ≤ 64 → ∀ (S T : Nat → Bool) (n : Nat), (∀ j, 64 ≤ j + k → S j = T j) → part k S n = part k T n := by
  intro k
  induction k with
  | zero => intro _ S T n _; cases n <;> rfl
  | succ k ih =>
    intro hk S T n h
    cases n with
    | zero => rfl
    | succ n =>
      rw [part_succ, part_succ, h (63 - k) (by omega), ih (by omega) S T (n + 1) (fun j hj => h j (by omega))]
      congr 2
      refine tot_congr fun g hg => ?_
      obtain ⟨h1, h2, h3⟩ := nxt_gt hg
      rw [h g (by omega)]
      congr 1
      refine ih (by omega) _ _ n fun j hj => ?_
      unfold out2
      rw [h j (by omega)]
theorem part_few : ∀ (k : Nat), k ≤ 64 → ∀ (S : Nat → Bool) (n : Nat), many k S < 2 * n → part k S n = 0 := by
  intro k
  induction k with
  | zero => intro _ S n h; cases n with
    | zero => omega
    | succ n => rfl
  | succ k ih =>
    intro hk S n h
    cases n with
    | zero => omega
    | succ n =>
      rw [many_succ] at h
      rw [part_succ]
      by_cases hS : S (63 - k) = true
      · rw [if_pos hS] at h ⊢
        rw [ih (by omega) S (n + 1) (by omega), Nat.zero_add]
        refine tot_zero fun g hg => ?_
        obtain ⟨h1, h2, h3⟩ := nxt_gt hg
        by_cases hSg : S g = true
        · rw [if_pos hSg]
          have h4 : many k S = many k (fun j => S j && !(j == g)) + 1 := many_out (by omega) (by omega) (by omega) hSg
          have h5 : many k (out2 S (63 - k) g) = many k (fun j => S j && !(j == g)) := many_congr fun j hj => by
            have : (63 - j == 63 - k) = false := by simp; omega
            simp [out2, this]
          exact ih (by omega) _ n (by omega)
        · rw [if_neg hSg]
      · rw [if_neg hS] at h ⊢
        exact ih (by omega) S (n + 1) (by omega)
theorem part_tl : ∀ (k : Nat), k ≤ 64 → ∀ (S : Nat → Bool) (n : Nat), many k S = 2 * n → part k S n = tl k S := by
  intro k
  induction k with
  | zero => intro _ S n h; cases n with
    | zero => rfl
    | succ n => simp [many] at h
  | succ k ih =>
    intro hk S n h
    rw [many_succ] at h
    show _ = if S (63 - k) then tot (nxt (63 - k)) (fun g => if S g then tl k (out2 S (63 - k) g) else 0) else tl k S
    by_cases hS : S (63 - k) = true
    · rw [if_pos hS] at h ⊢
      cases n with
      | zero => omega
      | succ n =>
        rw [part_succ, if_pos hS, part_few k (by omega) S (n + 1) (by omega), Nat.zero_add]
        refine tot_congr fun g hg => ?_
        obtain ⟨h1, h2, h3⟩ := nxt_gt hg
        by_cases hSg : S g = true
        · rw [if_pos hSg, if_pos hSg]
          have h4 : many k S = many k (fun j => S j && !(j == g)) + 1 := many_out (by omega) (by omega) (by omega) hSg
          have h5 : many k (out2 S (63 - k) g) = many k (fun j => S j && !(j == g)) := many_congr fun j hj => by
            have : (63 - j == 63 - k) = false := by simp; omega
            simp [out2, this]
          exact ih (by omega) _ n (by omega)
        · rw [if_neg hSg, if_neg hSg]
    · rw [if_neg hS] at h ⊢
      have h1 := ih (by omega) S n (by omega)
      cases n with
      | zero => rw [part_zero] at h1 ⊢; exact h1
      | succ n => rw [part_succ, if_neg hS]; exact h1
/-- With the least cell named. -/
theorem part_least {S : Nat → Bool} {i : Nat} (hi : i < 64) (hS : S i = true) (hlow : ∀ j, j < i → S j = false) (n : Nat) :
    part 64 S (n + 1) = part 64 (fun j => S j && !(j == i)) (n + 1) + tot (nxt i) (fun g => if S g then part 64 (out2 S i g) n else 0) := by
  have hskip : ∀ (d k : Nat), d + k = 64 → ∀ (T : Nat → Bool) (m : Nat), (∀ j, j < d → T j = false) → part 64 T m = part k T m := by
    intro d
    induction d with
    | zero => intro k hk T m _; rw [show k = 64 by omega]
    | succ d ih =>
      intro k hk T m h
      rw [ih (k + 1) (by omega) T m (fun j hj => h j (by omega))]
      cases m with
      | zero => rw [part_zero, part_zero]
      | succ m =>
        rw [part_succ, h (63 - k) (by omega)]
        simp
  rw [hskip i (64 - i) (by omega) S (n + 1) hlow, show 64 - i = (63 - i) + 1 by omega, part_succ, show 63 - (63 - i) = i by omega, if_pos hS]
  congr 1
  · rw [hskip (i + 1) (63 - i) (by omega) (fun j => S j && !(j == i)) (n + 1) (fun j hj => by
      by_cases e : j = i
      · simp [e]
      · simp [hlow j (by omega)])]
    refine part_congr _ (by omega) _ _ _ fun j hj => ?_
    have : ¬ j = i := by omega
    simp [this]
  · refine tot_congr fun g _ => ?_
    by_cases hg : S g = true
    · rw [if_pos hg, if_pos hg]
      refine (hskip (i + 1) (63 - i) (by omega) (out2 S i g) n (fun j hj => ?_)).symm
      unfold out2
      by_cases e : j = i
      · simp [e]
      · simp [hlow j (by omega)]
    · rw [if_neg hg, if_neg hg]
end Go.Proofs.Ytfjkjnhmlljefaa.Tl
