/-
  What a walk is told of a slice: the cells that it shows, in whatever memory; how such facts go on over new blocks and writes elsewhere. And plain facts on lists.
-/
import Derived.Test.YtbkoignjagobaaaDoorKit
import Derived.Laws.OwnMore
import Derived.OwnWalk
namespace Go.Proofs.YtbkoignjagobaaaDoor
open Go.RowKit
set_option linter.unusedVariables false
set_option linter.unusedSimpArgs false

/-- The slice value of address 'a' shows the cells 'xs' (an empty one may have whatever address). -/
def Rd (w : World) (a : Option Addr) (xs : List Value) : Prop :=
  xs = [] ∨ ∃ b off, a = some ⟨b, off, none⟩ ∧ b < w.heap.size ∧ ∀ j, j < xs.length → w.cell? ⟨b, off + j, none⟩ = xs[j]?
abbrev RdI (w : World) (a : Option Addr) (zs : List Int) : Prop := Rd w a (zs.map (Value.int .i64))

section
variable {w w' : World} {a : Option Addr} {xs : List Value} {zs : List Int}
theorem Rd.nil_ : Rd w a [] := .inl rfl
theorem Rd.below (h : Rd w a xs) (hb : Below w.heap.size w w') : Rd w' a xs := by
  rcases h with h | ⟨b, off, h1, h2, h3⟩
  · exact .inl h
  · exact .inr ⟨b, off, h1, Nat.lt_of_lt_of_le h2 hb.size, fun j hj => (hb.cell (p := ⟨b, off + j, none⟩) h2).trans (h3 j hj)⟩
theorem Rd.alloc (h : Rd w a xs) (o : Obj) : Rd (w.alloc o) a xs := h.below ((Below.refl _ _).alloc (Nat.le_refl _) _)
theorem Rd.drew (h : Rd w a xs) : Rd w.drew a xs := h
theorem Rd.grown {row : Option Nat} (h : Rd w a xs) (hg : w.grownBy w' row) (hr : ∀ b off, a = some ⟨b, off, none⟩ → row ≠ some b) : Rd w' a xs := by
  rcases h with h | ⟨b, off, h1, h2, h3⟩
  · exact .inl h
  · exact .inr ⟨b, off, h1, Nat.lt_of_lt_of_le h2 hg.size, fun j hj => (World.cell?_of_block (a := ⟨b, off + j, none⟩) (hg.block b h2 (fun e => hr b off h1 e.symm))).trans (h3 j hj)⟩
theorem Rd.of_own {B e s n c : Nat} (h : w.ownsRow B e s (.slice a n c) n xs) : Rd w a xs := by
  rcases h.2 with ⟨hv, hn⟩ | ⟨g, cap, cur, hv, hb, hg, hnc, hcm, hcs, ht⟩
  · left
    have := h.1
    subst hn
    exact List.eq_nil_of_length_eq_zero (by omega)
  · have hv' : a = some ⟨g, 0, none⟩ ∧ c = cap := by injection hv with h1 h2 h3; exact ⟨h1, h3⟩
    obtain ⟨rfl, rfl⟩ := hv'
    refine .inr ⟨g, 0, rfl, (Array.getElem?_eq_some_iff.1 hg).1, fun j hj => ?_⟩
    rw [Nat.zero_add]
    exact h.cellAt j (by rw [← h.1]; exact hj)
theorem Rd.at_ (h : Rd w a xs) {k : Nat} (hk : k < xs.length) : ∃ b off u, a = some ⟨b, off, none⟩ ∧ b < w.heap.size ∧ w.cell? ⟨b, off + k, none⟩ = some u ∧ xs[k]? = some u := by
  rcases h with h | ⟨b, off, h1, h2, h3⟩
  · subst h; simp at hk
  · exact ⟨b, off, xs[k], h1, h2, by rw [h3 k hk, List.getElem?_eq_getElem hk], List.getElem?_eq_getElem hk⟩
theorem RdI.at_ (h : RdI w a zs) {k : Nat} (hk : k < zs.length) : ∃ b off v, a = some ⟨b, off, none⟩ ∧ b < w.heap.size ∧ w.cell? ⟨b, off + k, none⟩ = some (.int .i64 v) ∧ Hid (zs[k]? = some v) := by
  obtain ⟨b, off, u, h1, h2, h3, h4⟩ := Rd.at_ h (k := k) (by simpa using hk)
  rw [List.getElem?_map, Option.map_eq_some_iff] at h4
  obtain ⟨v, h5, rfl⟩ := h4
  exact ⟨b, off, v, h1, h2, h3, h5⟩
theorem IsRow.rd {k : IntKind} {len cap : Nat} (h : IsRow k w a len cap zs) : Rd w a ((zs.take len).map (Value.int k)) ∧ (zs.take len).length = len ∧ (∀ n ∈ zs, (Lit.int k n).wf = true) ∧ len ≤ cap ∧ cap ≤ maxLen := by
  rcases h with ⟨rfl, rfl, rfl, rfl⟩ | ⟨x, rfl, h1, h2, h3, h4, h5⟩
  · exact ⟨.inl rfl, rfl, by simp, Nat.le_refl _, by simp [maxLen]⟩
  · refine ⟨?_, by simp; omega, h5, h1, h2⟩
    by_cases h0 : len = 0
    · subst h0; exact .inl (by simp)
    · have hc0 := h4 0 (by omega)
      obtain ⟨b, off, p⟩ := x
      have hp : p = none := by
        cases p with
        | none => rfl
        | some p =>
          exfalso
          simp [Addr.add, World.cell?] at hc0
          split at hc0 <;> simp_all
      subst hp
      refine .inr ⟨b, off, rfl, ?_, fun j hj => ?_⟩
      · have := World.block_lt_of_cell? w _ hc0
        simpa [Addr.add] using this
      · simp at hj
        have := h4 j (by omega)
        rw [show ((⟨b, off, none⟩ : Addr).add j) = ⟨b, off + j, none⟩ by unfold Addr.add; split <;> simp_all] at this
        rw [this]
        have hj1 : j < len := by omega
        simp [List.getElem?_take, hj1]
        rw [List.getElem?_eq_getElem (by omega)]
        simp
end

section
variable {α : Type} {xs : List α} {k : Nat} {v : α}
theorem take_one (h : xs[k]? = some v) : xs.take (k + 1) = xs.take k ++ [v] := by
  rw [List.take_add_one, h]; rfl
theorem lt_of_at (h : xs[k]? = some v) : k < xs.length := (List.getElem?_eq_some_iff.1 h).1
theorem all_take {p : α → Bool} (h : xs[k]? = some v) (hp : (xs.take k).all p = true) (hv : p v = true) : (xs.take (k + 1)).all p = true := by
  rw [take_one h, List.all_append, hp]; simp [hv]
theorem all_no {p : α → Bool} (h : xs[k]? = some v) (hv : p v = false) : xs.all p = false := by
  rw [Bool.eq_false_iff]
  intro ha
  rw [List.all_eq_true] at ha
  have := ha v (List.mem_of_getElem? h)
  rw [hv] at this
  cases this
theorem all_whole {p : α → Bool} {n : Nat} (hn : xs.length = n) (hp : (xs.take n).all p = true) : xs.all p = true := by rwa [List.take_of_length_le (by omega)] at hp
end
end Go.Proofs.YtbkoignjagobaaaDoor
