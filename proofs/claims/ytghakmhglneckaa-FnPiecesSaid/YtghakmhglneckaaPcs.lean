/-
  A search marks a class of the set's graph; the pieces counted. Plain.
-/
import Derived.Test.YtghakmhglneckaaClass
import Derived.Test.YtghakmhglneckaaReach
namespace Go.Proofs.Ytghakmhglneckaa
open Go.RowKit Plain
set_option linter.unusedVariables false
set_option linter.unusedSimpArgs false

theorem side_all : ∀ a : Fin 64, ∀ b : Fin 64, side4 a.val b.val = nbB (cellOf a.val).1 (cellOf a.val).2 (cellOf b.val).1 (cellOf b.val).2 := by decide +kernel
theorem cell_inj {a b : Nat} (ha : a < 64) (hb : b < 64) (h : cellOf a = cellOf b) : a = b := by
  have := congrArg idxN h
  rwa [idxN_at ha, idxN_at hb] at this
theorem mem_nb {a b : Nat} (ha : a < 64) (hb : b < 64) : cellOf b ∈ nbL (cellOf a).1 (cellOf a).2 ↔ side4 a b = true := by
  rw [show side4 a b = _ from side_all ⟨a, ha⟩ ⟨b, hb⟩]
  unfold nbL nbK
  rw [List.mem_map]
  constructor
  · rintro ⟨i, hi, he⟩
    rw [List.mem_filter, List.mem_range] at hi
    have := cell_inj hi.1 hb he
    subst this
    exact hi.2
  · intro h
    exact ⟨b, by rw [List.mem_filter, List.mem_range]; exact ⟨hb, h⟩, rfl⟩
theorem fold_all {S : Nat} (Q : List CellI) : ∀ (L : List CellI) {q : CellI}, q ∈ Q → hasB S q.1 q.2 = true → q ∈ Q.foldl (stepN S) L := by
  induction Q with
  | nil => intro L q h; cases h
  | cons p Q ih =>
    intro L q h hs
    rcases List.mem_cons.1 h with rfl | h
    · simp only [List.foldl_cons]
      obtain ⟨R, hR⟩ := fold_pre (S := S) Q (stepN S L q)
      rw [hR]
      refine List.mem_append_left _ ?_
      by_cases hin : q ∈ L
      · rw [stepN_in hin]; exact hin
      · rw [stepN_yes hs hin]; simp
    · exact ih _ h hs
theorem fold_only {S : Nat} (Q : List CellI) : ∀ (L : List CellI) {q : CellI}, q ∈ Q.foldl (stepN S) L → q ∈ L ∨ q ∈ Q ∧ hasB S q.1 q.2 = true := by
  induction Q with
  | nil => intro L q h; exact Or.inl h
  | cons p Q ih =>
    intro L q h
    rcases ih _ h with h | ⟨h1, h2⟩
    · unfold stepN at h
      split at h
      · rename_i hc
        rw [Bool.and_eq_true] at hc
        rcases List.mem_append.1 h with h | h
        · exact Or.inl h
        · simp at h; subst h; exact Or.inr ⟨by simp, hc.1⟩
      · exact Or.inl h
    · exact Or.inr ⟨List.mem_cons_of_mem _ h1, h2⟩
theorem bfs_pre (S : Nat) (c : CellI) (k : Nat) : ∃ R, bfsL S c (k + 1) = bfsL S c k ++ R := by
  show ∃ R, (match (bfsL S c k)[k]? with | some q => stepC S (bfsL S c k) q | none => bfsL S c k) = _
  split
  · exact fold_pre _ _
  · exact ⟨[], by simp⟩
theorem bfs_done {S : Nat} {c : CellI} : ∀ k i p q, i < k → (bfsL S c k)[i]? = some p → q ∈ nbL p.1 p.2 → hasB S q.1 q.2 = true → q ∈ bfsL S c k := by
  intro k
  induction k with
  | zero => intro i p q h; omega
  | succ k ih =>
    intro i p q hi hp hq hs
    obtain ⟨R, hR⟩ := bfs_pre S c k
    by_cases hik : i < (bfsL S c k).length
    · have hp' : (bfsL S c k)[i]? = some p := by rw [hR, List.getElem?_append_left hik] at hp; exact hp
      by_cases he : i = k
      · subst he
        rw [bfs_succ hp']
        exact fold_all _ _ hq hs
      · rw [hR]
        exact List.mem_append_left _ (ih i p q (by omega) hp' hq hs)
    · exfalso
      have hn : (bfsL S c k)[k]? = none := List.getElem?_eq_none (by omega)
      have he : bfsL S c (k + 1) = bfsL S c k := by
        show (match (bfsL S c k)[k]? with | some q => stepC S (bfsL S c k) q | none => bfsL S c k) = _
        rw [hn]
      rw [he, List.getElem?_eq_none (by omega)] at hp
      cases hp
theorem bfs_start (S : Nat) (c : CellI) : ∀ k, c ∈ bfsL S c k := by
  intro k
  induction k with
  | zero => simp [bfsL]
  | succ k ih =>
    obtain ⟨R, hR⟩ := bfs_pre S c k
    rw [hR]
    exact List.mem_append_left _ ih
theorem bfs_closed {S : Nat} {c p q : CellI} (hc : hasB S c.1 c.2 = true) (hp : p ∈ bfsR S c) (hq : q ∈ nbL p.1 p.2) (hs : hasB S q.1 q.2 = true) : q ∈ bfsR S c := by
  obtain ⟨i, hi, rfl⟩ := List.getElem_of_mem hp
  have hl := good_len (good_bfs hc 64)
  exact bfs_done 64 i _ q (by unfold bfsR at hi; omega) (List.getElem?_eq_getElem hi) hq hs
theorem bfs_least {S : Nat} {c : CellI} (hc : hasB S c.1 c.2 = true) (M : CellI → Prop) (h0 : M c) (hM : ∀ p q, M p → hasB S p.1 p.2 = true → q ∈ nbL p.1 p.2 → hasB S q.1 q.2 = true → M q) : ∀ k p, p ∈ bfsL S c k → M p := by
  intro k
  induction k with
  | zero => intro p hp; simp [bfsL] at hp; subst hp; exact h0
  | succ k ih =>
    intro p hp
    by_cases hk : ∃ q, (bfsL S c k)[k]? = some q
    · obtain ⟨q, hq⟩ := hk
      rw [bfs_succ hq] at hp
      rcases fold_only _ _ hp with h | ⟨h1, h2⟩
      · exact ih p h
      · have hqm := List.mem_of_getElem? hq
        exact hM q p (ih q hqm) ((good_bfs hc k).2 q hqm) h1 h2
    · have hn : (bfsL S c k)[k]? = none := by
        cases h : (bfsL S c k)[k]? with
        | none => rfl
        | some q => exact absurd ⟨q, h⟩ hk
      have he : bfsL S c (k + 1) = bfsL S c k := by
        show (match (bfsL S c k)[k]? with | some q => stepC S (bfsL S c k) q | none => bfsL S c k) = _
        rw [hn]
      rw [he] at hp
      exact ih p hp
theorem side_symm (a b : Nat) : side4 a b = side4 b a := by
  unfold side4
  rw [Bool.eq_iff_iff]
  simp only [Bool.or_eq_true, Bool.and_eq_true, beq_iff_eq]
  constructor <;> rintro (⟨h, h2⟩ | ⟨h, h2⟩)
  · exact Or.inl ⟨h.symm, h2.symm⟩
  · exact Or.inr ⟨h.symm, h2.symm⟩
  · exact Or.inl ⟨h.symm, h2.symm⟩
  · exact Or.inr ⟨h.symm, h2.symm⟩
/-- The edges of a set's graph. -/
def es4 (S : Nat) : List (Nat × Nat) := pairs 64 (adj4 S.testBit)
/-- A part of the set that is closed under its edges. -/
def Part (S s : Nat) : Prop := (∀ k, s.testBit k = true → S.testBit k = true) ∧ ∀ e ∈ es4 S, s.testBit e.1 = s.testBit e.2
theorem Part.self (S : Nat) : Part S S := ⟨fun _ h => h, fun e he => by
  have := (mem_pairs.1 he).2.2
  unfold adj4 at this
  simp only [Bool.and_eq_true] at this
  rw [this.1.1, this.1.2]⟩
theorem bfs_class {S s c v : Nat} (hP : Part S s) (hc : c < 64) (hs : s.testBit c = true) (hv : v < 64) :
    decide (cellOf v ∈ bfsR s (cellOf c)) = (labs (es4 S) v == labs (es4 S) c) := by
  have hc0 : hasB s (cellOf c).1 (cellOf c).2 = true := by rw [hasB_at hc]; exact hs
  have hin : ∀ u, u < 64 → cellOf u ∈ bfsR s (cellOf c) → s.testBit u = true := fun u hu h => by
    have := (good_bfs hc0 64).2 _ h
    rwa [hasB_at hu] at this
  have hadj : ∀ u v, u < 64 → v < 64 → adj4 S.testBit u v = true → cellOf u ∈ bfsR s (cellOf c) → cellOf v ∈ bfsR s (cellOf c) := fun u v hu hv ha hm => by
    have h1 : s.testBit u = s.testBit v := hP.2 (u, v) (mem_pairs.2 ⟨hu, hv, ha⟩)
    have h2 := hin u hu hm
    have h3 : side4 u v = true := by unfold adj4 at ha; simp only [Bool.and_eq_true] at ha; exact ha.2
    exact bfs_closed hc0 hm ((mem_nb hu hv).2 h3) (by rw [hasB_at hv, ← h1, h2])
  have key := marks_class (n := 64) (adj := adj4 S.testBit) (fun u => decide (u < 64) && decide (cellOf u ∈ bfsR s (cellOf c))) c
    (by simp [hc]; exact bfs_start s _ 64)
    (fun u v hu hv ha => by
      simp only [hu, hv, decide_true, Bool.true_and]
      refine decide_eq_decide.2 ⟨hadj u v hu hv ha, hadj v u hv hu ?_⟩
      unfold adj4 at ha ⊢
      simp only [Bool.and_eq_true] at ha ⊢
      exact ⟨⟨ha.1.2, ha.1.1⟩, by rw [side_symm]; exact ha.2⟩)
    (fun u hu => by
      simp only [Bool.and_eq_true, decide_eq_true_eq] at hu
      have := bfs_least hc0 (fun p => ∀ i, i < 64 → cellOf i = p → labs (es4 S) i = labs (es4 S) c)
        (fun i hi he => by rw [cell_inj hi hc he])
        (fun p q hp hps hq hqs i hi he => by
          have hpo : okB p.1 p.2 = true := by unfold hasB at hps; rw [Bool.and_eq_true] at hps; exact hps.1
          obtain ⟨hj, hje⟩ := cell_idx hpo
          have h1 := hp (idxN p) hj hje
          rw [← h1]
          have h2 : side4 (idxN p) i = true := (mem_nb hj hi).1 (by rw [hje, he]; exact hq)
          have h3 : S.testBit (idxN p) = true := hP.1 _ (by rw [← hasB_at hj, hje]; exact hps)
          have h4 : S.testBit i = true := hP.1 _ (by rw [← hasB_at hi, he]; exact hqs)
          exact (labs_edge (es4 S) (idxN p, i) (mem_pairs.2 ⟨hj, hi, by unfold adj4; simp [h2, h3, h4]⟩)).symm) 64 (cellOf u) hu.2
      exact this u hu.1 rfl) v
  simpa [hv, es4] using key
/-- The number of pieces. -/
def pcN (S : Nat) : Nat := pieces S.testBit
theorem es4_lt (S : Nat) : ∀ e ∈ es4 S, e.1 < 64 := fun e he => (mem_pairs.1 he).1
theorem pcN_mins (S : Nat) : cnt 64 (fun v => S.testBit v && isMin (es4 S) v) = pcN S := mins_eq _ (es4_lt S) (Part.self S).2
/-- What is still to be counted. -/
def leftN (S s : Nat) : Nat := cnt 64 fun v => s.testBit v && labs (es4 S) v == v
theorem left_self (S : Nat) : leftN S S = pcN S := rfl
theorem left_zero (S : Nat) : leftN S 0 = 0 := cnt_false (fun v _ => by simp)
theorem left_step {S s O c : Nat} (hP : Part S s) (hs : s < 2 ^ 64) (hc : c < 64) (h : s.testBit c = true) (hO : SetOf O (bfsR s (cellOf c))) (t : Nat) (ht : ∀ k, k < 64 → t.testBit k = (s.testBit k && !O.testBit k)) (ht2 : t < 2 ^ 64) :
    Part S t ∧ leftN S s = leftN S t + 1 := by
  have hO2 : ∀ k, k < 64 → O.testBit k = (labs (es4 S) k == labs (es4 S) c) := fun k hk => by
    rw [← bfs_class hP hc h hk, ← hasB_at hk, hO.2]
  have hbig : ∀ k, 64 ≤ k → t.testBit k = false := fun k hk => Nat.testBit_lt_two_pow (Nat.lt_of_lt_of_le ht2 (Nat.pow_le_pow_right (by omega) hk))
  refine ⟨⟨fun k hk => ?_, fun e he => ?_⟩, ?_⟩
  · by_cases h6 : k < 64
    · rw [ht k h6, Bool.and_eq_true] at hk; exact hP.1 k hk.1
    · rw [hbig k (by omega)] at hk; cases hk
  · obtain ⟨h1, h2, h3⟩ := mem_pairs.1 he
    rw [ht _ h1, ht _ h2, hO2 _ h1, hO2 _ h2, hP.2 e he, labs_edge (es4 S) e he]
  · unfold leftN
    rw [cnt_class (n := 64) (es := es4 S) s.testBit c hc (es4_lt S) hP.2 h]
    congr 1
    refine cnt_congr fun v hv => ?_
    rw [ht v hv, hO2 v hv]
end Go.Proofs.Ytghakmhglneckaa
