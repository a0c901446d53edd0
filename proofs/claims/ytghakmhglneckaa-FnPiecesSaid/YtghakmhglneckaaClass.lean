/-
  Plain: classes of a finite graph by labels, counted; pieces of a set and of what is left free; what a search marks is a class.
-/
import Derived.Test.YtghakmhglneckaaBfs
namespace Go.Proofs.Ytghakmhglneckaa.Plain
set_option linter.unusedVariables false
set_option linter.unusedSimpArgs false


/-- One edge laid: all that bear the label of b get the label of a. -/
def joinLab (lab : Nat → Nat) (e : Nat × Nat) : Nat → Nat := fun v => if lab v = lab e.2 then lab e.1 else lab v

/-- The labels behind a list of edges (the last edge of the list is laid first). -/
def labs : List (Nat × Nat) → Nat → Nat
  | [] => fun v => v
  | e :: es => joinLab (labs es) e

theorem labs_in {es : List (Nat × Nat)} {e : Nat × Nat} {v : Nat} (h : labs es v = labs es e.2) : labs (e :: es) v = labs es e.1 := if_pos h
theorem labs_out {es : List (Nat × Nat)} {e : Nat × Nat} {v : Nat} (h : ¬ labs es v = labs es e.2) : labs (e :: es) v = labs es v := if_neg h

theorem labs_idem (es : List (Nat × Nat)) (v : Nat) : labs es (labs es v) = labs es v := by
  induction es generalizing v with
  | nil => rfl
  | cons e es ih =>
    by_cases h : labs es v = labs es e.2
    · rw [labs_in h]
      by_cases h2 : labs es (labs es e.1) = labs es e.2
      · rw [labs_in h2]
      · rw [labs_out h2, ih]
    · rw [labs_out h, labs_out (by rw [ih]; exact h), ih]

theorem labs_edge (es : List (Nat × Nat)) (e : Nat × Nat) (h : e ∈ es) : labs es e.1 = labs es e.2 := by
  induction es with
  | nil => cases h
  | cons f es ih =>
    rcases List.mem_cons.1 h with rfl | h
    · rw [labs_in (v := e.2) rfl]
      by_cases h2 : labs es e.1 = labs es e.2
      · rw [labs_in h2]
      · rw [labs_out h2]
    · have := ih h
      by_cases h2 : labs es e.1 = labs es f.2
      · rw [labs_in h2, labs_in (this ▸ h2)]
      · rw [labs_out h2, labs_out (this ▸ h2), this]

/-- Whatever does not change along an edge does not change from v to its label. -/
theorem labs_const {α : Type} (K : Nat → α) (es : List (Nat × Nat)) (h : ∀ e ∈ es, K e.1 = K e.2) (v : Nat) : K (labs es v) = K v := by
  induction es generalizing v with
  | nil => rfl
  | cons e es ih =>
    have ih' := ih (fun f hf => h f (List.mem_cons_of_mem _ hf))
    have he := h e (List.mem_cons_self ..)
    by_cases h2 : labs es v = labs es e.2
    · rw [labs_in h2, ih' e.1, he, ← ih' e.2, ← h2, ih' v]
    · rw [labs_out h2, ih' v]

theorem labs_lt {n : Nat} (es : List (Nat × Nat)) (h : ∀ e ∈ es, e.1 < n) (v : Nat) (hv : v < n) : labs es v < n := by
  induction es generalizing v with
  | nil => exact hv
  | cons e es ih =>
    have ih' := ih (fun f hf => h f (List.mem_cons_of_mem _ hf))
    by_cases h2 : labs es v = labs es e.2
    · rw [labs_in h2]; exact ih' _ (h e (List.mem_cons_self ..))
    · rw [labs_out h2]; exact ih' _ hv

/-- How many of 0 .. n-1 satisfy p. -/
def cnt (n : Nat) (p : Nat → Bool) : Nat := ((List.range n).filter p).length

theorem cnt_succ (n : Nat) (p : Nat → Bool) : cnt (n + 1) p = cnt n p + (if p n then 1 else 0) := by
  unfold cnt
  rw [List.range_succ, List.filter_append, List.length_append]
  by_cases h : p n <;> simp [h]

theorem cnt_congr {n : Nat} {p q : Nat → Bool} (h : ∀ v, v < n → p v = q v) : cnt n p = cnt n q := by
  induction n with
  | zero => rfl
  | succ n ih => rw [cnt_succ, cnt_succ, ih (fun v hv => h v (by omega)), h n (by omega)]

theorem cnt_le {n : Nat} (p : Nat → Bool) : cnt n p ≤ n := by
  induction n with
  | zero => simp [cnt]
  | succ n ih => rw [cnt_succ]; split <;> omega

theorem cnt_not {n : Nat} (p : Nat → Bool) : cnt n p + cnt n (fun v => !p v) = n := by
  induction n with
  | zero => simp [cnt]
  | succ n ih =>
    rw [cnt_succ, cnt_succ]
    by_cases h : p n <;> simp [h] <;> omega

theorem cnt_split {n : Nat} (p q : Nat → Bool) : cnt n p = cnt n (fun v => p v && q v) + cnt n (fun v => p v && !q v) := by
  induction n with
  | zero => simp [cnt]
  | succ n ih =>
    rw [cnt_succ, cnt_succ, cnt_succ, ih]
    by_cases h : p n <;> by_cases h2 : q n <;> simp [h, h2] <;> omega

theorem cnt_false {n : Nat} {p : Nat → Bool} (h : ∀ v, v < n → p v = false) : cnt n p = 0 := by
  induction n with
  | zero => simp [cnt]
  | succ n ih => rw [cnt_succ, ih (fun v hv => h v (by omega)), h n (by omega)]; simp

theorem cnt_one {n : Nat} {p : Nat → Bool} {a : Nat} (ha : a < n) (hp : p a = true) (h : ∀ v, v < n → p v = true → v = a) : cnt n p = 1 := by
  induction n with
  | zero => omega
  | succ n ih =>
    rw [cnt_succ]
    by_cases e : a = n
    · subst e
      rw [cnt_false (fun v hv => ?_), hp]; · simp
      by_cases hv2 : p v = true
      · have := h v (by omega) hv2; omega
      · simpa using hv2
    · have hn : p n = false := by
        by_cases hv2 : p n = true
        · have := h n (by omega) hv2; omega
        · simpa using hv2
      rw [ih (by omega) (fun v hv => h v (by omega)), hn]; simp

theorem cnt_mono {n : Nat} {p q : Nat → Bool} (h : ∀ v, v < n → p v = true → q v = true) : cnt n p ≤ cnt n q := by
  induction n with
  | zero => simp [cnt]
  | succ n ih =>
    rw [cnt_succ, cnt_succ]
    have := ih (fun v hv => h v (by omega))
    by_cases h1 : p n = true
    · rw [h n (by omega) h1, h1]; simpa using this
    · simp [h1]; omega

/-- One of them taken away. -/
theorem cnt_drop {n : Nat} {p : Nat → Bool} {a : Nat} (ha : a < n) (hp : p a = true) : cnt n p = cnt n (fun v => p v && !(v == a)) + 1 := by
  rw [cnt_split p (fun v => v == a)]
  rw [cnt_one (a := a) ha (by simp [hp]) (fun v _ hv => by simp at hv; exact hv.2)]
  omega

/-- An injective map from the ones to the others. -/
theorem cnt_inj {n m : Nat} {p q : Nat → Bool} (f : Nat → Nat) (hf : ∀ v, v < n → p v = true → f v < m ∧ q (f v) = true)
    (hi : ∀ u v, u < n → v < n → p u = true → p v = true → f u = f v → u = v) : cnt n p ≤ cnt m q := by
  induction n generalizing q with
  | zero => simp [cnt]
  | succ n ih =>
    rw [cnt_succ]
    by_cases h : p n = true
    · obtain ⟨h1, h2⟩ := hf n (by omega) h
      rw [cnt_drop h1 h2, h]
      have := ih (q := fun v => q v && !(v == f n)) (fun v hv hp => by
        obtain ⟨g1, g2⟩ := hf v (by omega) hp
        refine ⟨g1, ?_⟩
        have hne : f v ≠ f n := fun e => by have := hi v n (by omega) (by omega) hp h e; omega
        simp [g2, hne]) (fun u v hu hv => hi u v (by omega) (by omega))
      simpa using this
    · have := ih (q := q) (fun v hv => hf v (by omega)) (fun u v hu hv => hi u v (by omega) (by omega))
      simp [h]; exact this


/-! ### The graph of an adjacency -/
def pairs (n : Nat) (adj : Nat → Nat → Bool) : List (Nat × Nat) := (List.range n).flatMap fun i => ((List.range n).filter (adj i)).map fun j => (i, j)
theorem mem_pairs {n : Nat} {adj : Nat → Nat → Bool} {e : Nat × Nat} : e ∈ pairs n adj ↔ e.1 < n ∧ e.2 < n ∧ adj e.1 e.2 = true := by
  obtain ⟨a, b⟩ := e
  simp [pairs]

/-! ### The set and its two graphs -/
/-- Side by side in the square of 8. -/
def side4 (a b : Nat) : Bool := (a % 8 == b % 8 && (a + 8 == b || b + 8 == a)) || (a / 8 == b / 8 && (a + 1 == b || b + 1 == a))
def adj4 (S : Nat → Bool) (a b : Nat) : Bool := S a && S b && side4 a b
/-- A cell of the square of 10 (with its ring) that does not belong. -/
def free (S : Nat → Bool) (v : Nat) : Bool := !(decide (1 ≤ v % 10 ∧ v % 10 ≤ 8 ∧ 1 ≤ v / 10 ∧ v / 10 ≤ 8) && S (8 * (v / 10 - 1) + (v % 10 - 1)))
def near (u v : Nat) : Bool := decide (u % 10 ≤ v % 10 + 1 ∧ v % 10 ≤ u % 10 + 1 ∧ u / 10 ≤ v / 10 + 1 ∧ v / 10 ≤ u / 10 + 1)
def adj8 (S : Nat → Bool) (u v : Nat) : Bool := free S u && free S v && near u v

def pieces (S : Nat → Bool) : Nat := cnt 64 fun v => S v && labs (pairs 64 (adj4 S)) v == v
/-- The pieces of what does not belong, the ring's among them. -/
def blanks (S : Nat → Bool) : Nat := cnt 100 fun v => free S v && labs (pairs 100 (adj8 S)) v == v



/-- A marked set that is closed, all of whose members bear the start's label, is the start's class. -/
theorem marks_class {n : Nat} {adj : Nat → Nat → Bool} (M : Nat → Bool) (c : Nat) (hc : M c = true)
    (hclosed : ∀ u v, u < n → v < n → adj u v = true → M u = M v) (hlab : ∀ v, M v = true → labs (pairs n adj) v = labs (pairs n adj) c) (v : Nat) :
    M v = (labs (pairs n adj) v == labs (pairs n adj) c) := by
  have hk : ∀ v, M (labs (pairs n adj) v) = M v := labs_const M (pairs n adj) (fun e he => by
    obtain ⟨h1, h2, h3⟩ := mem_pairs.1 he
    exact hclosed e.1 e.2 h1 h2 h3)
  rw [Bool.eq_iff_iff]
  constructor
  · intro h
    simpa using hlab v h
  · intro h
    have h1 : labs (pairs n adj) v = labs (pairs n adj) c := by simpa using h
    rw [← hk v, h1, hk c, hc]

/-- No smaller one bears its label. -/
def isMin (es : List (Nat × Nat)) (v : Nat) : Bool := (List.range v).all fun u => !(labs es u == labs es v)
theorem isMin_iff {es : List (Nat × Nat)} {v : Nat} : isMin es v = true ↔ ∀ u, u < v → labs es u ≠ labs es v := by
  unfold isMin
  rw [List.all_eq_true]
  simp only [List.mem_range, Bool.not_eq_true', beq_eq_false_iff_ne]

theorem has_min (es : List (Nat × Nat)) (L : Nat) : ∀ v, labs es v = L → ∃ m, m ≤ v ∧ labs es m = L ∧ isMin es m = true := by
  intro v
  induction v using Nat.strongRecOn with
  | _ v ih =>
    intro hv
    by_cases h : isMin es v = true
    · exact ⟨v, Nat.le_refl _, hv, h⟩
    · have : ¬ ∀ u, u < v → labs es u ≠ labs es v := fun h' => h (isMin_iff.2 h')
      simp only [Classical.not_forall, Classical.not_not] at this
      obtain ⟨u, hu, hl⟩ := this
      obtain ⟨m, h1, h2, h3⟩ := ih u hu (hl.trans hv)
      exact ⟨m, by omega, h2, h3⟩

theorem mins_eq {n : Nat} {es : List (Nat × Nat)} (P : Nat → Bool) (hb : ∀ e ∈ es, e.1 < n) (hP : ∀ e ∈ es, P e.1 = P e.2) :
    cnt n (fun v => P v && isMin es v) = cnt n (fun v => P v && labs es v == v) := by
  have hPl : ∀ v, P (labs es v) = P v := labs_const P es hP
  apply Nat.le_antisymm
  · refine cnt_inj (labs es) (fun v hv hp => ?_) (fun u v hu hv hp hq he => ?_)
    · simp only [Bool.and_eq_true] at hp
      exact ⟨labs_lt es hb v hv, by rw [hPl, hp.1, labs_idem]; simp⟩
    · simp only [Bool.and_eq_true] at hp hq
      have h1 := isMin_iff.1 hp.2
      have h2 := isMin_iff.1 hq.2
      rcases Nat.lt_trichotomy u v with h | h | h
      · exact absurd he (h2 u h)
      · exact h
      · exact absurd he.symm (h1 v h)
  · have hm : ∀ L, ∃ m, (labs es L = L → m ≤ L ∧ labs es m = L ∧ isMin es m = true) := by
      intro L
      by_cases h : labs es L = L
      · obtain ⟨m, h1, h2, h3⟩ := has_min es L L h
        exact ⟨m, fun _ => ⟨h1, h2, h3⟩⟩
      · exact ⟨0, fun h' => absurd h' h⟩
    refine cnt_inj (fun L => (hm L).choose) (fun v hv hp => ?_) (fun u v hu hv hp hq he => ?_)
    · simp only [Bool.and_eq_true, beq_iff_eq] at hp
      obtain ⟨h1, h2, h3⟩ := (hm v).choose_spec hp.2
      refine ⟨by omega, ?_⟩
      rw [h3, ← hPl, h2, hp.1]
      rfl
    · simp only [Bool.and_eq_true, beq_iff_eq] at hp hq
      obtain ⟨_, h2, _⟩ := (hm u).choose_spec hp.2
      obtain ⟨_, h2', _⟩ := (hm v).choose_spec hq.2
      have he' : (hm u).choose = (hm v).choose := he
      rw [he'] at h2
      exact h2.symm.trans h2'

/-- One class taken away: one label fewer. -/
theorem cnt_class {n : Nat} {es : List (Nat × Nat)} (P : Nat → Bool) (c : Nat) (hc : c < n) (hb : ∀ e ∈ es, e.1 < n) (hP : ∀ e ∈ es, P e.1 = P e.2) (hPc : P c = true) :
    cnt n (fun v => P v && labs es v == v) = cnt n (fun v => (P v && !(labs es v == labs es c)) && labs es v == v) + 1 := by
  have hPl : ∀ v, P (labs es v) = P v := labs_const P es hP
  rw [cnt_drop (a := labs es c) (labs_lt es hb c hc) (by rw [hPl, hPc, labs_idem]; simp)]
  congr 1
  refine cnt_congr fun v _ => ?_
  by_cases h : labs es v = v
  · rw [h]
    cases P v <;> simp
  · have : (labs es v == v) = false := by simpa using h
    rw [this]
    simp
end Go.Proofs.Ytghakmhglneckaa.Plain
