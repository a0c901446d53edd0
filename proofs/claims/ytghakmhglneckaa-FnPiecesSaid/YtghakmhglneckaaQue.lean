/-
  A queue of cells: a slice of a block of the call's own, with an offset.
-/
import Derived.Test.YtghakmhglneckaaBfs
import Derived.Test.YtghakmhglneckaaCountB
import Derived.ArgAppend
namespace Go.Proofs.Ytghakmhglneckaa
open Go.RowKit
set_option linter.unusedVariables false
set_option linter.unusedSimpArgs false

def OwnQ (w : World) (B b off n cap : Nat) (Q : List CellI) : Prop :=
  ∃ cur, w.heap[b]? = some (.cells cur 35 (0, 0)) ∧ B ≤ b ∧ off + cap * 2 ≤ cur.size ∧ n ≤ cap ∧ Q.length = n ∧ ∀ i, i < n * 2 → cur[off + i]? = (flatC Q)[i]?
theorem OwnQ.lt {w : World} {B b off n cap : Nat} {Q : List CellI} (h : OwnQ w B b off n cap Q) : B ≤ b ∧ b < w.heap.size ∧ Q.length = n ∧ n ≤ cap := by
  obtain ⟨cur, h1, h2, h3, h4, h5, h6⟩ := h
  exact ⟨h2, (Array.getElem?_eq_some_iff.1 h1).1, h5, h4⟩
theorem OwnQ.of_own {w : World} {B g n c : Nat} {Q : List CellI} (h : OwnC w B (.slice (some ⟨g, 0, none⟩) n c) Q) (hn : Q.length = n) : OwnQ w B g 0 n c Q := by
  subst hn
  rcases h.2 with ⟨hv, -⟩ | ⟨g', cap, cur, hv, hb, hg, hnc, hcm, hcs, ht⟩
  · cases hv
  · have e : g' = g ∧ c = cap := by injection hv with e1 _ e3; injection e1 with e1; injection e1 with e1; exact ⟨e1.symm, e3⟩
    obtain ⟨rfl, rfl⟩ := e
    refine ⟨cur, hg, hb, by omega, hnc, rfl, fun i hi => ?_⟩
    rw [← ht, List.getElem?_take_of_lt hi, Nat.zero_add]
    simp
theorem OwnQ.below {w w' : World} {B b off n cap : Nat} {Q : List CellI} (h : OwnQ w B b off n cap Q) (hb : Below w.heap.size w w') : OwnQ w' B b off n cap Q := by
  have hl := h.lt.2.1
  obtain ⟨cur, h1, h2⟩ := h
  exact ⟨cur, (hb.block b hl).trans h1, h2⟩
theorem OwnQ.alloc {w : World} {B b off n cap : Nat} {Q : List CellI} (h : OwnQ w B b off n cap Q) (o : Obj) : OwnQ (w.alloc o) B b off n cap Q := h.below ((Below.refl _ _).alloc (Nat.le_refl _) o)
theorem OwnQ.rd {w : World} {B b off n cap : Nat} {Q : List CellI} (h : OwnQ w B b off n cap Q) : Rd w (some ⟨b, off, none⟩) (flatC Q) := by
  have hl := h.lt
  obtain ⟨cur, h1, h2, h3, h4, h5, h6⟩ := h
  refine .inr ⟨b, off, rfl, hl.2.1, fun j hj => ?_⟩
  rw [flatC_len, h5] at hj
  simp only [World.cell?, h1]
  exact h6 j hj
theorem OwnQ.holds {w : World} {B b off n cap : Nat} {Q : List CellI} (h : OwnQ w B b off n cap Q) : ∀ j u, (flatC Q)[j]? = some u → w.cell? ⟨b, off + j, none⟩ = some u := by
  obtain ⟨cur, h1, h2, h3, h4, h5, h6⟩ := h
  intro j u hu
  have hj := lt_of_at hu
  rw [flatC_len, h5] at hj
  simp only [World.cell?, h1]
  rw [h6 j hj, hu]
  rfl
theorem OwnQ.grow {w : World} {B n : Nat} {Q : List CellI} {v : Value} {x y : Int} (h : w.ownsRow B 35 2 v (n + 1) (flatC Q ++ [.int .i64 x, .int .i64 y])) (hn : Q.length = n) :
    ∃ g c, v = .slice (some ⟨g, 0, none⟩) (n + 1) c ∧ B ≤ g ∧ OwnQ w B g 0 (n + 1) c (Q ++ [(x, y)]) := by
  have h0 := h
  rcases h.2 with ⟨hv, hz⟩ | ⟨g, cap, cur, hv, hg, r⟩
  · omega
  · subst hv
    refine ⟨g, cap, rfl, hg, OwnQ.of_own (Q := Q ++ [(x, y)]) ?_ (by simp [hn])⟩
    unfold OwnC
    rw [flatC_app]
    simpa [hn] using h0
theorem OwnQ.mono {w : World} {B B' b off n cap : Nat} {Q : List CellI} (h : OwnQ w B b off n cap Q) (hb : B' ≤ B) : OwnQ w B' b off n cap Q := by
  obtain ⟨cur, h1, h2, h3⟩ := h
  exact ⟨cur, h1, Nat.le_trans hb h2, h3⟩
theorem Rd.heap_ {w w' : World} {a : Option Addr} {b : Nat} {xs : List Value} (h : Rd w a xs) (hs : w.heap.size ≤ w'.heap.size) (hne : ∀ bb oo, a = some ⟨bb, oo, none⟩ → bb ≠ b) (hh : ∀ i, i ≠ b → w'.heap[i]? = w.heap[i]?) : Rd w' a xs := by
  rcases h with h | ⟨b', o', he, hl, hc⟩
  · exact .inl h
  · refine .inr ⟨b', o', he, by omega, fun j hj => ?_⟩
    rw [← hc j hj]
    exact World.cell?_of_block (hh b' (hne b' o' he))
theorem flatC_cons (p : CellI) (L : List CellI) : flatC (p :: L) = .int .i64 p.1 :: .int .i64 p.2 :: flatC L := by simp [flatC]
theorem OwnQ.tail {w : World} {B b off n cap : Nat} {q : CellI} {Q : List CellI} (h : OwnQ w B b off (n + 1) cap (q :: Q)) : OwnQ w B b (off + 2) n (cap - 1) Q := by
  obtain ⟨cur, h1, h2, h3, h4, h5, h6⟩ := h
  refine ⟨cur, h1, h2, by omega, by omega, by simpa using h5, fun i hi => ?_⟩
  have := h6 (i + 2) (by omega)
  rw [flatC_cons] at this
  rw [show off + 2 + i = off + (i + 2) by omega, this]
  rfl
theorem OwnQ.tail0 {w : World} {B b off n cap : Nat} {q : CellI} {Q : List CellI} (h : OwnQ w B b off (n + 1) cap (q :: Q)) (hc : cap - 1 = 0) : OwnQ w B b off n (cap - 1) Q := by
  obtain ⟨cur, h1, h2, h3, h4, h5, h6⟩ := h
  exact ⟨cur, h1, h2, by omega, by omega, by simpa using h5, fun i hi => absurd hi (by omega)⟩
theorem OwnQ.spare {w : World} {B b off n cap : Nat} {Q : List CellI} (h : OwnQ w B b off n cap Q) (hr : n + 1 ≤ cap) {j : Nat} (hj : j < 2) : (w.cell? ⟨b, off + n * 2 + j, none⟩).isSome = true ∧ w.frozen? ⟨b, off + n * 2 + j, none⟩ = false := by
  obtain ⟨cur, h1, h2, h3, h4, h5, h6⟩ := h
  refine ⟨?_, by simp [World.frozen?, h1]⟩
  simp only [World.cell?, h1]
  rw [Array.getElem?_eq_getElem (by omega)]
  rfl
theorem OwnQ.snoc {w : World} {B b off n cap : Nat} {Q : List CellI} (h : OwnQ w B b off n cap Q) (hr : n + 1 ≤ cap) (x y : Int) :
    OwnQ (w.setCells b (off + n * 2) [.int .i64 x, .int .i64 y]) B b off (n + 1) cap (Q ++ [(x, y)]) ∧ (∀ B', B' ≤ b → Below B' w (w.setCells b (off + n * 2) [.int .i64 x, .int .i64 y])) ∧ (∀ i, i ≠ b → (w.setCells b (off + n * 2) [.int .i64 x, .int .i64 y]).heap[i]? = w.heap[i]?) := by
  have e : w.setCells b (off + n * 2) [.int .i64 x, .int .i64 y] = (w.setCell ⟨b, off + n * 2, none⟩ (.int .i64 x)).setCell ⟨b, off + n * 2 + 1, none⟩ (.int .i64 y) := rfl
  rw [e]
  obtain ⟨cur, h1, h2, h3, h4, h5, h6⟩ := h
  have q1 := heap_setCell_same w b (off + n * 2) cur _ (.int .i64 x) h1
  have q2 := heap_setCell_same _ b (off + n * 2 + 1) _ _ (.int .i64 y) q1
  refine ⟨⟨_, q2, h2, by simpa using h3, hr, by simp [h5], fun i hi => ?_⟩, fun B' hB' => ?_, fun i hi => ?_⟩
  · rw [flatC_app, Array.getElem?_setIfInBounds, Array.getElem?_setIfInBounds]
    have hlen : (flatC Q).length = n * 2 := by rw [flatC_len, h5]
    by_cases ha : i < n * 2
    · rw [List.getElem?_append_left (by omega), if_neg (by omega), if_neg (by omega)]
      exact h6 i ha
    · rw [List.getElem?_append_right (by omega), hlen]
      by_cases hb : i = n * 2
      · subst hb
        rw [if_neg (by omega), if_pos rfl, if_pos (by omega)]
        simp
      · have : i = n * 2 + 1 := by omega
        subst this
        rw [if_pos (by omega), if_pos (by simp; omega)]
        rw [show n * 2 + 1 - n * 2 = 1 by omega]
        rfl
  · exact ((Below.refl B' w).setCell (by simpa using hB') _).setCell (by simpa using hB') _
  · rw [Below.heap_setCell _ _ _ i hi, Below.heap_setCell _ _ _ i hi]
end Go.Proofs.Ytghakmhglneckaa
