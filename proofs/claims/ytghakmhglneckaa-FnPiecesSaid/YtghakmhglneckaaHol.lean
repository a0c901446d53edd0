/-
  Holes counted: what a filling does, and how the count goes on. Plain.
-/
import Derived.Test.YtghakmhglneckaaPcs
namespace Go.Proofs.Ytghakmhglneckaa
open Go.RowKit Plain
set_option linter.unusedVariables false
set_option linter.unusedSimpArgs false

def es8 (S : Nat) : List (Nat × Nat) := pairs 100 (adj8 S.testBit)
/-- One more marked. -/
def mk1 (U : Nat → Bool) (k : Nat) : Nat → Bool := fun i => if i = k then true else U i
theorem mk1_at (U : Nat → Bool) (k i : Nat) : mk1 U k i = true ↔ i = k ∨ U i = true := by
  unfold mk1
  by_cases h : i = k <;> simp [h]
/-- What a filling from v does. -/
def Fill (S v : Nat) (U U' : Nat → Bool) : Prop :=
  (∀ u, U u = true → U' u = true) ∧ U' v = true ∧ (∀ u, U' u = true → U u = true ∨ (u < 100 ∧ free S.testBit u = true ∧ labs (es8 S) u = labs (es8 S) v)) ∧
    ∀ u t, U' u = true → U u = false → t < 100 → near u t = true → free S.testBit t = true → U' t = true
/-- What is marked when the first k have been looked at. -/
def Upto (S k : Nat) (U : Nat → Bool) : Prop :=
  (∀ u, U u = true → u < 100 ∧ free S.testBit u = true ∧ ∃ j, j < k ∧ labs (es8 S) u = labs (es8 S) j) ∧ (∀ u t, u < 100 → t < 100 → adj8 S.testBit u t = true → U u = U t) ∧
    ∀ u, u < k → u < 100 → free S.testBit u = true → U u = true
theorem near_symm (u t : Nat) : near u t = near t u := by
  unfold near
  refine decide_eq_decide.2 ?_
  constructor <;> rintro ⟨a, b, c, d⟩ <;> exact ⟨b, a, d, c⟩
theorem adj8_symm {S : Nat → Bool} {u t : Nat} (h : adj8 S u t = true) : adj8 S t u = true := by
  unfold adj8 at h ⊢
  simp only [Bool.and_eq_true] at h ⊢
  exact ⟨⟨h.1.2, h.1.1⟩, by rw [near_symm]; exact h.2⟩
theorem adj8_edge {S u t : Nat} (hu : u < 100) (ht : t < 100) (h1 : free S.testBit u = true) (h2 : free S.testBit t = true) (h : near u t = true) : labs (es8 S) u = labs (es8 S) t :=
  labs_edge (es8 S) (u, t) (mem_pairs.2 ⟨hu, ht, by unfold adj8; simp [h1, h2, h]⟩)
theorem es8_free (S : Nat) : ∀ e ∈ es8 S, free S.testBit e.1 = free S.testBit e.2 := fun e he => by
  have := (mem_pairs.1 he).2.2
  unfold adj8 at this
  simp only [Bool.and_eq_true] at this
  rw [this.1.1, this.1.2]
theorem es8_lt (S : Nat) : ∀ e ∈ es8 S, e.1 < 100 := fun e he => (mem_pairs.1 he).1
theorem upto_start (S : Nat) : Upto S 0 (fun _ => false) := ⟨fun u h => (by cases h), fun _ _ _ _ _ => rfl, fun u h => (by omega)⟩
theorem upto_skip {S k : Nat} {U : Nat → Bool} (hk : k < 100) (h : Upto S k U) (hs : free S.testBit k = false ∨ U k = true) : Upto S (k + 1) U ∧ (free S.testBit k && isMin (es8 S) k) = false := by
  refine ⟨⟨fun u hu => ?_, h.2.1, fun u hu h1 hf => ?_⟩, ?_⟩
  · obtain ⟨a, b, j, hj, hl⟩ := h.1 u hu
    exact ⟨a, b, j, by omega, hl⟩
  · by_cases e : u = k
    · subst e
      rcases hs with hs | hs
      · rw [hs] at hf; cases hf
      · exact hs
    · exact h.2.2 u (by omega) h1 hf
  · rcases hs with hs | hs
    · rw [hs]; rfl
    · obtain ⟨_, _, j, hj, hl⟩ := h.1 k hs
      have : ¬ isMin (es8 S) k = true := fun hm => isMin_iff.1 hm j hj hl.symm
      simp [this]
theorem upto_fill {S k : Nat} {U U' : Nat → Bool} (hk : k < 100) (h : Upto S k U) (hf : free S.testBit k = true) (hu : U k = false) (hF : Fill S k U U') : Upto S (k + 1) U' ∧ (free S.testBit k && isMin (es8 S) k) = true := by
  obtain ⟨f1, f2, f3, f4⟩ := hF
  have hU' : ∀ u, U' u = true → u < 100 ∧ free S.testBit u = true := fun u h1 => by
    rcases f3 u h1 with h2 | h2
    · exact ⟨(h.1 u h2).1, (h.1 u h2).2.1⟩
    · exact ⟨h2.1, h2.2.1⟩
  have hone : ∀ u t, u < 100 → t < 100 → adj8 S.testBit u t = true → U' u = true → U' t = true := fun u t hu ht ha h1 => by
    cases h2 : U u with
    | true => exact f1 t (by rw [← h.2.1 u t hu ht ha, h2])
    | false =>
      have hb := ha
      unfold adj8 at hb
      simp only [Bool.and_eq_true] at hb
      exact f4 u t h1 h2 ht hb.2 hb.1.2
  have hcl : ∀ u t, u < 100 → t < 100 → adj8 S.testBit u t = true → U' u = U' t := fun u t hu ht ha => by
    rw [Bool.eq_iff_iff]
    exact ⟨hone u t hu ht ha, hone t u ht hu (adj8_symm ha)⟩
  have key := marks_class (n := 100) (adj := adj8 S.testBit) (fun v => U' v && !U v) k (by simp [f2, hu])
    (fun u v h1 h2 ha => by
      show (U' u && !U u) = (U' v && !U v)
      rw [hcl u v h1 h2 ha, h.2.1 u v h1 h2 ha])
    (fun v hv => by
      simp only [Bool.and_eq_true, Bool.not_eq_true'] at hv
      rcases f3 v hv.1 with h2 | h2
      · rw [hv.2] at h2; cases h2
      · exact h2.2.2)
  refine ⟨⟨fun u hu => ?_, hcl, fun u h1 h2 h3 => ?_⟩, ?_⟩
  · rcases f3 u hu with h2 | h2
    · obtain ⟨a, b, j, hj, hl⟩ := h.1 u h2
      exact ⟨a, b, j, by omega, hl⟩
    · exact ⟨h2.1, h2.2.1, k, by omega, h2.2.2⟩
  · by_cases e : u = k
    · rw [e]; exact f2
    · exact f1 u (h.2.2 u (by omega) h2 h3)
  · rw [hf, Bool.true_and, isMin_iff]
    intro u huk he
    have h1 := key u
    have h2 : free S.testBit u = true := by
      have e1 := labs_const (fun v => free S.testBit v) (es8 S) (es8_free S) u
      have e2 := labs_const (fun v => free S.testBit v) (es8 S) (es8_free S) k
      (try simp only at e1 e2)
      rw [← e1, he, e2, hf]
    have h3 := h.2.2 u huk (by omega) h2
    simp only [h3, Bool.not_true, Bool.and_false] at h1
    have h4 : (labs (pairs 100 (adj8 S.testBit)) u == labs (pairs 100 (adj8 S.testBit)) k) = true := by simpa [es8] using he
    rw [h4] at h1
    cases h1
/-- How many pieces of what is free begin among the first k. -/
def hcN (S k : Nat) : Nat := cnt k fun v => free S.testBit v && isMin (es8 S) v
theorem hcN_zero (S : Nat) : hcN S 0 = 0 := rfl
theorem hcN_yes {S k : Nat} (h : (free S.testBit k && isMin (es8 S) k) = true) : hcN S (k + 1) = hcN S k + 1 := by unfold hcN; rw [cnt_succ, h]; rfl
theorem hcN_no {S k : Nat} (h : (free S.testBit k && isMin (es8 S) k) = false) : hcN S (k + 1) = hcN S k := by unfold hcN; rw [cnt_succ, h]; rfl
theorem hcN_all (S : Nat) : hcN S 100 = blanks S.testBit := mins_eq _ (es8_lt S) (es8_free S)
theorem hcN_le (S k : Nat) : hcN S k ≤ k := cnt_le _

/-- t is the j-th around v. -/
def nbAt (v j t : Nat) : Prop := t % 10 + 1 = v % 10 + j % 3 ∧ t / 10 + 1 = v / 10 + j / 3
theorem near_at {u t : Nat} : near u t = true ↔ ∃ j, j < 9 ∧ nbAt u j t := by
  unfold near nbAt
  rw [decide_eq_true_eq]
  constructor
  · rintro ⟨a, b, c, d⟩
    exact ⟨3 * (t / 10 + 1 - u / 10) + (t % 10 + 1 - u % 10), by omega, by omega, by omega⟩
  · rintro ⟨j, hj, a, b⟩
    omega
theorem nbAt_one {v j t t' : Nat} (h : nbAt v j t) (h' : nbAt v j t') : t = t' := by
  unfold nbAt at h h'
  omega
/-- A filling from v on its way, when the first k around v have been looked at. -/
def Mid (S v : Nat) (U0 Uc : Nat → Bool) (k : Nat) : Prop :=
  (∀ u, U0 u = true → Uc u = true) ∧ (∀ u, Uc u = true → U0 u = true ∨ (u < 100 ∧ free S.testBit u = true ∧ labs (es8 S) u = labs (es8 S) v)) ∧
    (∀ u t, Uc u = true → U0 u = false → t < 100 → near u t = true → free S.testBit t = true → Uc t = true) ∧ ∀ j, j < k → ∀ t, nbAt v j t → t < 100 → free S.testBit t = true → Uc t = true
theorem mid_start (S v : Nat) (U0 : Nat → Bool) : Mid S v U0 U0 0 := ⟨fun _ h => h, fun _ h => Or.inl h, fun u t h1 h2 => (by rw [h1] at h2; cases h2), fun j h => (by omega)⟩
theorem mid_skip {S v k : Nat} {U0 Uc : Nat → Bool} (h : Mid S v U0 Uc k) (hs : ∀ t, nbAt v k t → t < 100 → free S.testBit t = true → Uc t = true) : Mid S v U0 Uc (k + 1) := by
  refine ⟨h.1, h.2.1, h.2.2.1, fun j hj t ht h1 h2 => ?_⟩
  by_cases e : j = k
  · subst e; exact hs t ht h1 h2
  · exact h.2.2.2 j (by omega) t ht h1 h2
theorem mid_fill {S v k t : Nat} {U0 Uc U' : Nat → Bool} (hv : v < 100) (hfv : free S.testBit v = true) (h : Mid S v U0 Uc k) (hk : k < 9) (hn : nbAt v k t) (ht : t < 100) (hft : free S.testBit t = true) (hF : Fill S t Uc U') : Mid S v U0 U' (k + 1) := by
  obtain ⟨f1, f2, f3, f4⟩ := hF
  have hl : labs (es8 S) v = labs (es8 S) t := adj8_edge hv ht hfv hft (near_at.2 ⟨k, hk, hn⟩)
  refine ⟨fun u hu => f1 u (h.1 u hu), fun u hu => ?_, fun u s h1 h2 h3 h4 h5 => ?_, fun j hj s hs h1 h2 => ?_⟩
  · rcases f3 u hu with h1 | ⟨h1, h2, h3⟩
    · exact h.2.1 u h1
    · exact Or.inr ⟨h1, h2, h3.trans hl.symm⟩
  · cases hc : Uc u with
    | true => exact f1 s (h.2.2.1 u s hc h2 h3 h4 h5)
    | false => exact f4 u s h1 hc h3 h4 h5
  · by_cases e : j = k
    · subst e
      rw [nbAt_one hs hn]
      exact f2
    · exact f1 s (h.2.2.2 j (by omega) s hs h1 h2)
theorem mid_end {S v : Nat} {U Uc : Nat → Bool} (hv : v < 100) (hfv : free S.testBit v = true) (h : Mid S v (mk1 U v) Uc 9) : Fill S v U Uc := by
  refine ⟨fun u hu => h.1 u ((mk1_at _ _ _).2 (Or.inr hu)), h.1 v ((mk1_at _ _ _).2 (Or.inl rfl)), fun u hu => ?_, fun u t h1 h2 h3 h4 h5 => ?_⟩
  · rcases h.2.1 u hu with h1 | h1
    · rcases (mk1_at _ _ _).1 h1 with rfl | h1
      · exact Or.inr ⟨hv, hfv, rfl⟩
      · exact Or.inl h1
    · exact Or.inr h1
  · by_cases e : u = v
    · subst e
      obtain ⟨j, hj, hn⟩ := near_at.1 h4
      exact h.2.2.2 j hj t hn h3 h5
    · exact h.2.2.1 u t h1 (by unfold mk1; rw [if_neg e]; exact h2) h3 h4 h5
/-- What is free and not marked. -/
def opn (S : Nat) (U : Nat → Bool) : Nat := cnt 100 fun v => free S.testBit v && !U v
theorem opn_one {S v : Nat} {U : Nat → Bool} (hv : v < 100) (hf : free S.testBit v = true) (hu : U v = false) : opn S U = opn S (mk1 U v) + 1 := by
  unfold opn
  rw [cnt_drop hv (by simp [hf, hu])]
  congr 1
  refine cnt_congr fun u _ => ?_
  unfold mk1
  by_cases e : u = v <;> simp [e]
theorem opn_mono {S : Nat} {U U' : Nat → Bool} (h : ∀ u, U u = true → U' u = true) : opn S U' ≤ opn S U := by
  unfold opn
  refine cnt_mono fun u _ hu => ?_
  simp only [Bool.and_eq_true, Bool.not_eq_true'] at hu ⊢
  refine ⟨hu.1, ?_⟩
  cases hc : U u with
  | false => rfl
  | true => rw [h u hc] at hu; cases hu.2
theorem opn_le (S : Nat) (U : Nat → Bool) : opn S U ≤ 100 := cnt_le _

/-- A filling by a list on its way: the i-th of the list is looked at, the first j around it have been. -/
def Bq (S k : Nat) (U0 U : Nat → Bool) (L : List Nat) (i j : Nat) : Prop :=
  (∀ u, U u = true ↔ U0 u = true ∨ u ∈ L) ∧ L.Nodup ∧ (∀ u ∈ L, U0 u = false ∧ u < 100 ∧ free S.testBit u = true ∧ labs (es8 S) u = labs (es8 S) k) ∧ k ∈ L ∧
    (∀ i', i' < i → ∀ u, L[i']? = some u → ∀ t, t < 100 → near u t = true → free S.testBit t = true → U t = true) ∧
    ∀ u, L[i]? = some u → ∀ j', j' < j → ∀ t, nbAt u j' t → t < 100 → free S.testBit t = true → U t = true
theorem bq_start {S k : Nat} {U0 : Nat → Bool} (hk : k < 100) (hf : free S.testBit k = true) (hu : U0 k = false) : Bq S k U0 (mk1 U0 k) [k] 0 0 := by
  refine ⟨fun u => ?_, by simp, fun u h => ?_, by simp, fun i' h => (by omega), fun u _ j' h => (by omega)⟩
  · rw [mk1_at]; simp [or_comm]
  · simp at h; subst h; exact ⟨hu, hk, hf, rfl⟩
theorem bq_skip {S k i j u : Nat} {U0 U : Nat → Bool} {L : List Nat} (h : Bq S k U0 U L i j) (hu : L[i]? = some u) (hs : ∀ t, nbAt u j t → t < 100 → free S.testBit t = true → U t = true) : Bq S k U0 U L i (j + 1) := by
  obtain ⟨h1, h2, h3, h4, h5, h6⟩ := h
  refine ⟨h1, h2, h3, h4, h5, fun u' hu' j' hj' t ht a b => ?_⟩
  have e : u' = u := by rw [hu] at hu'; exact (Option.some.inj hu').symm
  subst e
  by_cases e : j' = j
  · subst e; exact hs t ht a b
  · exact h6 u' hu' j' (by omega) t ht a b
theorem bq_add {S k i j u t : Nat} {U0 U : Nat → Bool} {L : List Nat} (h : Bq S k U0 U L i j) (hj : j < 9) (hu : L[i]? = some u) (hn : nbAt u j t) (ht : t < 100) (hf : free S.testBit t = true) (hut : U t = false) : Bq S k U0 (mk1 U t) (L ++ [t]) i (j + 1) := by
  obtain ⟨h1, h2, h3, h4, h5, h6⟩ := h
  have hil : i < L.length := (List.getElem?_eq_some_iff.1 hu).1
  have htL : ¬ t ∈ L := fun hm => by rw [(h1 t).2 (Or.inr hm)] at hut; cases hut
  have ht0 : U0 t = false := by
    cases hc : U0 t with
    | false => rfl
    | true => rw [(h1 t).2 (Or.inl hc)] at hut; cases hut
  have hum := h3 u (List.mem_of_getElem? hu)
  refine ⟨fun v => ?_, ?_, fun v hv => ?_, List.mem_append_left _ h4, fun i' hi' v hv s a b c => ?_, fun v hv j' hj' s hs a b => ?_⟩
  · rw [mk1_at, h1]
    simp only [List.mem_append, List.mem_singleton]
    constructor
    · rintro (h | h | h)
      · exact Or.inr (Or.inr h)
      · exact Or.inl h
      · exact Or.inr (Or.inl h)
    · rintro (h | h | h)
      · exact Or.inr (Or.inl h)
      · exact Or.inr (Or.inr h)
      · exact Or.inl h
  · refine List.nodup_append.2 ⟨h2, by simp, fun a ha b hb => ?_⟩
    simp at hb
    subst hb
    intro e
    exact htL (e ▸ ha)
  · rcases List.mem_append.1 hv with hv | hv
    · exact h3 v hv
    · simp at hv
      subst hv
      exact ⟨ht0, ht, hf, (adj8_edge hum.2.1 ht hum.2.2.1 hf (near_at.2 ⟨j, hj, hn⟩)).symm.trans hum.2.2.2⟩
  · rw [List.getElem?_append_left (by omega)] at hv
    exact (mk1_at _ _ _).2 (Or.inr (h5 i' hi' v hv s a b c))
  · rw [List.getElem?_append_left hil] at hv
    have e : v = u := by rw [hu] at hv; exact (Option.some.inj hv).symm
    subst e
    by_cases e : j' = j
    · subst e
      rw [nbAt_one hs hn]
      exact (mk1_at _ _ _).2 (Or.inl rfl)
    · exact (mk1_at _ _ _).2 (Or.inr (h6 v hu j' (by omega) s hs a b))
theorem bq_next {S k i : Nat} {U0 U : Nat → Bool} {L : List Nat} (h : Bq S k U0 U L i 9) : Bq S k U0 U L (i + 1) 0 := by
  obtain ⟨h1, h2, h3, h4, h5, h6⟩ := h
  refine ⟨h1, h2, h3, h4, fun i' hi' u hu t a b c => ?_, fun u _ j' h => by omega⟩
  by_cases e : i' = i
  · subst e
    obtain ⟨j, hj, hn⟩ := near_at.1 b
    exact h6 u hu j hj t hn a c
  · exact h5 i' (by omega) u hu t a b c
theorem bq_len {S k i j : Nat} {U0 U : Nat → Bool} {L : List Nat} (h : Bq S k U0 U L i j) : L.length ≤ 100 := nodup_len 100 L h.2.1 fun u hu => (h.2.2.1 u hu).2.1
theorem bq_end {S k i j : Nat} {U0 U : Nat → Bool} {L : List Nat} (h : Bq S k U0 U L i j) (hi : L.length ≤ i) : Fill S k U0 U := by
  obtain ⟨h1, h2, h3, h4, h5, h6⟩ := h
  refine ⟨fun u hu => (h1 u).2 (Or.inl hu), (h1 k).2 (Or.inr h4), fun u hu => ?_, fun u t hu hn a b c => ?_⟩
  · rcases (h1 u).1 hu with h | h
    · exact Or.inl h
    · exact Or.inr ⟨(h3 u h).2.1, (h3 u h).2.2.1, (h3 u h).2.2.2⟩
  · rcases (h1 u).1 hu with h | h
    · rw [hn] at h; cases h
    · obtain ⟨i', hi', rfl⟩ := List.getElem_of_mem h
      exact h5 i' (by omega) _ (List.getElem?_eq_getElem hi') t a b c
theorem bq_at {S k i j u : Nat} {U0 U : Nat → Bool} {L : List Nat} (h : Bq S k U0 U L i j) (hu : L[i]? = some u) : u < 100 ∧ free S.testBit u = true := ⟨(h.2.2.1 u (List.mem_of_getElem? hu)).2.1, (h.2.2.1 u (List.mem_of_getElem? hu)).2.2.1⟩
/-- Free as the programs ask it. -/
theorem free_at (S : Nat) {x y : Nat} (hx : x < 10) (hy : y < 10) : free S.testBit (y * 10 + x) = !hasB S ((x : Int) - 1) ((y : Int) - 1) := by
  have e1 : (y * 10 + x) % 10 = x := by omega
  have e2 : (y * 10 + x) / 10 = y := by omega
  unfold free hasB
  rw [e1, e2]
  by_cases h : 1 ≤ x ∧ x ≤ 8 ∧ 1 ≤ y ∧ y ≤ 8
  · have h1 : okB ((x : Int) - 1) ((y : Int) - 1) = true := okB_iff.2 (by omega)
    have h2 : (((y : Int) - 1) * 8 + ((x : Int) - 1)).toNat = 8 * (y - 1) + (x - 1) := by omega
    rw [h1, h2]
    simp [h]
  · have h1 : okB ((x : Int) - 1) ((y : Int) - 1) = false := by
      cases hc : okB ((x : Int) - 1) ((y : Int) - 1) with
      | false => rfl
      | true => have := okB_iff.1 hc; omega
    rw [h1]
    simp [h]
/-- The number of holes of a region. -/
def hlB (zs : List Int) : Int := if rokB zs then (blanks (setS zs).testBit : Int) - 1 else 0
theorem hlB_le (zs : List Int) : -1 ≤ hlB zs ∧ hlB zs ≤ 100 := by
  unfold hlB
  split
  · have : blanks (setS zs).testBit ≤ 100 := cnt_le _
    omega
  · omega
end Go.Proofs.Ytghakmhglneckaa
