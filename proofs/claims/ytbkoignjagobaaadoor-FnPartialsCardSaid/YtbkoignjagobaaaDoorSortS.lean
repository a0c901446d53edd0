/-
  The reference sorts dominoes.
-/
import Derived.Test.YtbkoignjagobaaaDoorSort
import Derived.Test.YtbkoignjagobaaaDoorList
import Derived.Test.YtbkoignjagobaaaDoorRegI
import Derived.Maps.AppendAt
namespace Go.Proofs.YtbkoignjagobaaaDoor
open Go.RowKit
set_option linter.unusedVariables false
set_option linter.unusedSimpArgs false

theorem own_some {w : World} {B e s n : Nat} {v : Value} {xs : List Value} (h : w.ownsRow B e s v n xs) (hn : v ≠ .slice none 0 0) : ∃ g c, v = .slice (some ⟨g, 0, none⟩) n c ∧ B ≤ g ∧ g < w.heap.size ∧ n ≤ c := by
  rcases h.2 with ⟨hv, -⟩ | ⟨g, cap, cur, hv, hg, hh, hc, r⟩
  · exact absurd hv hn
  · exact ⟨g, cap, hv, hg, (Array.getElem?_eq_some_iff.1 hh).1, hc⟩
theorem OwnD.below {w w' : World} {B : Nat} {v : Value} {L : List DomI} (h : OwnD w B v L) (hb : Below w.heap.size w w') : OwnD w' B v L := own_below h hb
theorem OwnD.cap {w : World} {B g n c : Nat} {L : List DomI} (h : OwnD w B (.slice (some ⟨g, 0, none⟩) n c) L) : L.length ≤ c := by
  rcases h.2 with ⟨hv, -⟩ | ⟨g, cap, cur, hv, hg, hh, hc, r⟩
  · cases hv
  · injection hv with _ _ h3; rw [h3]; exact hc
theorem OwnD.cell_ {w : World} {B g c : Nat} {L : List DomI} (h : OwnD w B (.slice (some ⟨g, 0, none⟩) L.length c) L) (i : Nat) (hi : i < L.length * 3) : w.cell? ⟨g, i, none⟩ = (flatD L)[i]? := h.cellAt i (by omega)
theorem flatD_one (L : List DomI) : ∀ u ∈ flatD L, u.oneCell' = true := by
  intro u hu
  simp only [flatD, List.mem_flatMap] at hu
  obtain ⟨p, -, hp⟩ := hu
  simp at hp
  rcases hp with rfl | rfl | rfl <;> rfl
theorem OwnD.src_take {w : World} {B g c : Nat} {L : List DomI} (h : OwnD w B (.slice (some ⟨g, 0, none⟩) L.length c) L) (j : Nat) : ∀ i u, (flatD (L.take j))[i]? = some u → w.cell? ((⟨g, 0, none⟩ : Addr).add i) = some u := by
  intro i u hu
  have hl := lt_of_at hu
  rw [← flatD_take, List.getElem?_take] at hu
  rw [show ((⟨g, 0, none⟩ : Addr).add i) = ⟨g, i, none⟩ by unfold Addr.add; split <;> simp_all]
  split at hu
  · have h3 := lt_of_at hu
    rw [flatD_len] at h3
    rw [h.cell_ i h3]; exact hu
  · cases hu
theorem OwnD.src_drop {w : World} {B g c : Nat} {L : List DomI} (h : OwnD w B (.slice (some ⟨g, 0, none⟩) L.length c) L) (j : Nat) : ∀ i u, (flatD (L.drop j))[i]? = some u → w.cell? ((⟨g, j * 3, none⟩ : Addr).add i) = some u := by
  intro i u hu
  rw [← flatD_drop, List.getElem?_drop] at hu
  rw [show ((⟨g, j * 3, none⟩ : Addr).add i) = ⟨g, j * 3 + i, none⟩ by unfold Addr.add; split <;> simp_all]
  have h3 := lt_of_at hu
  rw [flatD_len] at h3
  rw [h.cell_ _ h3]; exact hu
theorem src_none {w : World} {ad : Addr} {xs : List Value} (h : xs.length = 0) : ∀ i u, xs[i]? = some u → w.cell? (ad.add i) = some u := by
  intro i u hu
  have := lt_of_at hu
  omega

end Go.Proofs.YtbkoignjagobaaaDoor
