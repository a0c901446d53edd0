/-
  Dominoes in order: plain facts.
-/
import Derived.Test.YtbkoignjagobaaaDoorDoms
import Derived.Test.YtbkoignjagobaaaDoorDomC
namespace Go.Proofs.YtbkoignjagobaaaDoor
open Go.RowKit
set_option linter.unusedVariables false
set_option linter.unusedSimpArgs false

def ordP (p : DomI) : Int := ordI p.1 p.2.1 p.2.2
theorem ord_inj {p q : DomI} (hp : domB p.1 p.2.1 p.2.2 = true) (hq : domB q.1 q.2.1 q.2.2 = true) (h : ordP p = ordP q) : p = q := by
  obtain ⟨x, y, d⟩ := p
  obtain ⟨u, v, e⟩ := q
  have a := okB_iff.1 (domB_ok hp).1
  have b := okB_iff.1 (domB_ok hq).1
  simp only [ordP, ordI, b2i] at h
  have : y = v ∧ x = u ∧ d = e := by
    cases d <;> cases e <;> simp at h ⊢ <;> simp only at a b <;> omega
  obtain ⟨rfl, rfl, rfl⟩ := this
  rfl
def Okd (L : List DomI) : Prop := ∀ p ∈ L, domB p.1 p.2.1 p.2.2 = true
def Srt (L : List DomI) : Prop := L.Pairwise fun p q => ordP p < ordP q
theorem srt_at {L : List DomI} (h : Srt L) {i j : Nat} {p q : DomI} (hij : i < j) (hp : L[i]? = some p) (hq : L[j]? = some q) : ordP p < ordP q := by
  have h1 := lt_of_at hp
  have h2 := lt_of_at hq
  have := List.pairwise_iff_getElem.1 h i j h1 h2 hij
  rw [List.getElem?_eq_getElem h1] at hp
  rw [List.getElem?_eq_getElem h2] at hq
  cases hp; cases hq
  exact this
/-- One domino put into its place. -/
def insD (L : List DomI) (p : DomI) : List DomI := if L.any (· == p) then L else (L.filter fun q => decide (ordP q < ordP p)) ++ p :: L.filter fun q => decide (ordP p < ordP q)
theorem ins_skip {L : List DomI} {p : DomI} {k : Nat} (h : L[k]? = some p) : insD L p = L := by
  have : L.any (· == p) = true := List.any_eq_true.2 ⟨p, List.mem_of_getElem? h, by simp⟩
  simp [insD, this]
theorem ins_at {L : List DomI} {p : DomI} {k : Nat} (h1 : ∀ q ∈ L.take k, ordP q < ordP p) (h2 : ∀ q ∈ L.drop k, ordP p < ordP q) : insD L p = L.take k ++ p :: L.drop k := by
  have hn : L.any (· == p) = false := by
    rw [List.any_eq_false]
    intro q hq he
    have he' : q = p := by simpa using he
    subst he'
    rw [← List.take_append_drop k L, List.mem_append] at hq
    rcases hq with hq | hq
    · have := h1 _ hq; omega
    · have := h2 _ hq; omega
  have e1 : L.filter (fun q => decide (ordP q < ordP p)) = L.take k := by
    conv => lhs; rw [← List.take_append_drop k L]
    rw [List.filter_append, List.filter_eq_self.2 (fun q hq => by simpa using h1 q hq), List.filter_eq_nil_iff.2 (fun q hq => by have := h2 q hq; simp; omega), List.append_nil]
  have e2 : L.filter (fun q => decide (ordP p < ordP q)) = L.drop k := by
    conv => lhs; rw [← List.take_append_drop k L]
    rw [List.filter_append, List.filter_eq_nil_iff.2 (fun q hq => by have := h1 q hq; simp; omega), List.filter_eq_self.2 (fun q hq => by simpa using h2 q hq), List.nil_append]
  simp [insD, hn, e1, e2]
theorem ins_okd {L : List DomI} {p : DomI} (h : Okd L) (hp : domB p.1 p.2.1 p.2.2 = true) : Okd (insD L p) := by
  intro q hq
  unfold insD at hq
  split at hq
  · exact h q hq
  · rcases List.mem_append.1 hq with hq | hq
    · exact h q (List.mem_filter.1 hq).1
    · rcases List.mem_cons.1 hq with rfl | hq
      · exact hp
      · exact h q (List.mem_filter.1 hq).1
theorem ins_srt {L : List DomI} {p : DomI} (h : Srt L) : Srt (insD L p) := by
  unfold insD
  split
  · exact h
  · refine List.pairwise_append.2 ⟨List.Pairwise.sublist List.filter_sublist h, ?_, ?_⟩
    · refine List.pairwise_cons.2 ⟨fun q hq => by simpa using (List.mem_filter.1 hq).2, List.Pairwise.sublist List.filter_sublist h⟩
    · intro a ha b hb
      have h1 : ordP a < ordP p := by simpa using (List.mem_filter.1 ha).2
      rcases List.mem_cons.1 hb with rfl | hb
      · exact h1
      · have h2 : ordP p < ordP b := by simpa using (List.mem_filter.1 hb).2
        omega
theorem ins_len (L : List DomI) (p : DomI) : (insD L p).length ≤ L.length + 1 := by
  unfold insD
  split
  · omega
  · have h : ∀ M : List DomI, (M.filter fun q => decide (ordP q < ordP p)).length + (M.filter fun q => decide (ordP p < ordP q)).length ≤ M.length := by
      intro M
      induction M with
      | nil => simp
      | cons q M ih =>
        simp only [List.filter_cons, List.length_cons]
        by_cases a : ordP q < ordP p
        · have b : ¬ ordP p < ordP q := by omega
          simp [a, b]; omega
        · by_cases b : ordP p < ordP q
          · simp [a, b]; omega
          · simp [a, b]; omega
    have := h L
    rw [List.length_append, List.length_cons]
    omega
/-- The valid ones of a list, each once, in order. -/
def srtL (L : List DomI) : List DomI := L.foldl (fun o p => if domB p.1 p.2.1 p.2.2 then insD o p else o) []
theorem srt_no {L : List DomI} {k : Nat} {x y : Int} {d : Bool} (h : L[k]? = some (x, y, d)) (hb : domB x y d = false) : srtL (L.take (k + 1)) = srtL (L.take k) := by
  rw [take_one h]; simp [srtL, List.foldl_append, hb]
theorem srt_yes {L : List DomI} {k : Nat} {x y : Int} {d : Bool} (h : L[k]? = some (x, y, d)) (hb : domB x y d = true) : srtL (L.take (k + 1)) = insD (srtL (L.take k)) (x, y, d) := by
  rw [take_one h]; simp [srtL, List.foldl_append, hb]
theorem srt_inv (L : List DomI) : Okd (srtL L) ∧ Srt (srtL L) ∧ (srtL L).length ≤ L.length := by
  suffices h : ∀ (M o : List DomI), Okd o → Srt o → Okd (M.foldl (fun o p => if domB p.1 p.2.1 p.2.2 then insD o p else o) o) ∧ Srt (M.foldl (fun o p => if domB p.1 p.2.1 p.2.2 then insD o p else o) o) ∧ (M.foldl (fun o p => if domB p.1 p.2.1 p.2.2 then insD o p else o) o).length ≤ o.length + M.length by
    have := h L [] (by intro p hp; cases hp) List.Pairwise.nil
    simpa [srtL] using this
  intro M
  induction M with
  | nil => intro o h1 h2; exact ⟨h1, h2, by simp⟩
  | cons p M ih =>
    intro o h1 h2
    rw [List.foldl_cons, List.length_cons]
    split
    · rename_i hp
      have := ih (insD o p) (ins_okd h1 hp) (ins_srt h2)
      have hl := ins_len o p
      exact ⟨this.1, this.2.1, by omega⟩
    · have := ih o h1 h2
      exact ⟨this.1, this.2.1, by omega⟩
/-- The valid ones of a sorted list are at most so many: every order lies below 128. -/
theorem ord_bd2 {p : DomI} (h : domB p.1 p.2.1 p.2.2 = true) : 0 ≤ ordP p ∧ ordP p ≤ 127 := ord_bd h
theorem srt_small {L : List DomI} (h : Srt L) (ho : Okd L) : L.length ≤ 128 := by
  have key : ∀ (n : Nat), ∀ (M : List DomI), Srt M → Okd M → (∀ p ∈ M, (128 : Int) - n ≤ ordP p) → M.length ≤ n := by
    intro n
    induction n with
    | zero =>
      intro M _ hM hb
      cases M with
      | nil => simp
      | cons p M =>
        have h1 := ord_bd2 (hM p (List.mem_cons_self ..))
        have h2 := hb p (List.mem_cons_self ..)
        omega
    | succ n ih =>
      intro M hs hM hb
      cases M with
      | nil => simp
      | cons p M =>
        obtain ⟨h1, h2⟩ := List.pairwise_cons.1 hs
        have := ih M h2 (fun q hq => hM q (List.mem_cons_of_mem _ hq)) (fun q hq => by have := h1 q hq; have := hb p (List.mem_cons_self ..); omega)
        simp; omega
  exact key 128 L h ho (fun p hp => by have := ord_bd2 (ho p hp); omega)
end Go.Proofs.YtbkoignjagobaaaDoor
