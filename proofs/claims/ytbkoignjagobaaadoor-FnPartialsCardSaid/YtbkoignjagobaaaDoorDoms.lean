/-
  Lists of dominoes: how one that came in is read; one that a call owns.
-/
import Derived.Test.YtbkoignjagobaaaDoorMem
import Derived.Test.YtbkoignjagobaaaDoorDom
namespace Go.Proofs.YtbkoignjagobaaaDoor
open Go.ChangeShapes Go.WideShapes Go.ChangeAt Go.RowKit Go.Joins Go.Deep
set_option linter.unusedVariables false
set_option linter.unusedSimpArgs false

abbrev DomI := Int × Int × Bool
def flatD (L : List DomI) : List Value := L.flatMap fun p => [.int .i64 p.1, .int .i64 p.2.1, .bool p.2.2]
theorem flatD_cons (p : DomI) (L : List DomI) : flatD (p :: L) = .int .i64 p.1 :: .int .i64 p.2.1 :: .bool p.2.2 :: flatD L := by simp [flatD]
theorem flatD_len (L : List DomI) : (flatD L).length = L.length * 3 := by
  induction L with
  | nil => rfl
  | cons p L ih => rw [flatD_cons]; simp only [List.length_cons, ih]; omega
theorem flatD_app (L : List DomI) (p : DomI) : flatD (L ++ [p]) = flatD L ++ [.int .i64 p.1, .int .i64 p.2.1, .bool p.2.2] := by simp [flatD]
theorem flatD_append (L M : List DomI) : flatD (L ++ M) = flatD L ++ flatD M := by simp [flatD]
theorem flatD_at (L : List DomI) : ∀ k, k < L.length → (flatD L)[k * 3]? = (L[k]?).map (fun p => Value.int .i64 p.1) ∧ (flatD L)[k * 3 + 1]? = (L[k]?).map (fun p => Value.int .i64 p.2.1) ∧ (flatD L)[k * 3 + 2]? = (L[k]?).map (fun p => Value.bool p.2.2) := by
  induction L with
  | nil => intro k hk; simp at hk
  | cons p L ih =>
    intro k hk
    cases k with
    | zero => rw [flatD_cons]; simp
    | succ k =>
      have := ih k (by simpa using hk)
      rw [flatD_cons, show (k + 1) * 3 = k * 3 + 1 + 1 + 1 by omega]
      simpa using this
theorem flatD_take (L : List DomI) (k : Nat) : (flatD L).take (k * 3) = flatD (L.take k) := by
  induction L generalizing k with
  | nil => simp [flatD]
  | cons p L ih =>
    cases k with
    | zero => simp [flatD]
    | succ k => rw [flatD_cons, show (k + 1) * 3 = k * 3 + 1 + 1 + 1 by omega]; simp [ih k, flatD_cons]
theorem flatD_drop (L : List DomI) (k : Nat) : (flatD L).drop (k * 3) = flatD (L.drop k) := by
  induction L generalizing k with
  | nil => simp [flatD]
  | cons p L ih =>
    cases k with
    | zero => simp
    | succ k => rw [flatD_cons, show (k + 1) * 3 = k * 3 + 1 + 1 + 1 by omega]; simp [ih k]
abbrev RdD (w : World) (a : Option Addr) (L : List DomI) : Prop := Rd w a (flatD L)
theorem RdD_at {w : World} {a : Option Addr} {L : List DomI} (h : RdD w a L) {k : Nat} (hk : k < L.length) :
    ∃ b off x y d, a = some ⟨b, off, none⟩ ∧ b < w.heap.size ∧ w.cell? ⟨b, off + k * 3, none⟩ = some (.int .i64 x) ∧ w.cell? ⟨b, off + k * 3 + 1, none⟩ = some (.int .i64 y) ∧ w.cell? ⟨b, off + k * 3 + 2, none⟩ = some (.bool d) ∧ Hid (L[k]? = some (x, y, d)) := by
  obtain ⟨h1, h2, h3⟩ := flatD_at L k hk
  rw [List.getElem?_eq_getElem hk] at h1 h2 h3
  have hlen := flatD_len L
  rcases h with h0 | ⟨b, off, h4, h5, h6⟩
  · rw [h0] at h1; simp at h1
  · refine ⟨b, off, L[k].1, L[k].2.1, L[k].2.2, h4, h5, ?_, ?_, ?_, ?_⟩
    · rw [h6 (k * 3) (by omega), h1]; rfl
    · rw [Nat.add_assoc, h6 (k * 3 + 1) (by omega), h2]; rfl
    · rw [Nat.add_assoc, h6 (k * 3 + 2) (by omega), h3]; rfl
    · exact Lib.hid (List.getElem?_eq_getElem hk)

/-- What a walk is told of a slice of dominoes that came in. -/
def IsDoms (w : World) (a : Option Addr) (len cap : Nat) (zs : List DomI) : Prop :=
  zs.length = len ∧ len ≤ cap ∧ cap ≤ maxLen ∧ RdD w a zs ∧ ∀ p ∈ zs, (Lit.int .i64 p.1).wf = true ∧ (Lit.int .i64 p.2.1).wf = true

section
variable {H : Type} {enc : TypeId × Value → H} {P : Program} {w : World} {base : Nat} {spare : Nat → Bool} {held : Bool}
theorem open_slice_fields {t e : TypeId} {fs : Array Field} {fuel : Nat} {cs : List Value} {x : DataW H × List MemPlace} (ht : P.underlying t = some (.slice e)) (he : P.underlying e = some (.struct fs))
    (hone : oneCellFields P fs = true) (hC : P.cellsOf e = fs.size) (h : DataW.trod enc P w base spare held fuel t cs = some x) :
    (cs = [.slice none 0 0]) ∨
    ∃ (a : Addr) (len cap m : Nat), cs = [.slice (some a) len cap] ∧ len ≤ cap ∧ cap ≤ maxLen ∧ m = (if spare a.block then cap else len) ∧
      ∀ i, i < m → ∃ (ys : List (DataW H × List MemPlace)) (n : Nat), 
        ∀ (j : Nat) (f : Field), fs[j]? = some f → ∃ (v : Value) (y : DataW H × List MemPlace), w.cell? (a.add (i * fs.size + j)) = some v ∧ ys[j]? = some y ∧ DataW.trod enc P w base spare held n f.type [v] = some y := by
  rcases open_slice ht h with h0 | ⟨a, len, cap, m, n, D, Pl, hcs, hb, hl, hm, hmm, hx, hi⟩
  · exact .inl h0.1
  · refine .inr ⟨a, len, cap, m, hcs, hl, hm, hmm, fun i him => ?_⟩
    obtain ⟨cs', hc, ht'⟩ := hi i him
    rw [hC] at hc
    obtain ⟨ys, n', hn', hy, hlen, hyl, hf⟩ := DataW.trod_struct he ht'
    obtain ⟨_, hcl, hat⟩ := World.cells?_some hc
    simp only [Prod.mk.injEq] at hy
    refine ⟨ys, n', fun j f hj => ?_⟩
    obtain ⟨ho, hk⟩ := hone_of hone j f hj
    have hjl : j < fs.size := (Array.getElem?_eq_some_iff.1 hj).1
    have hcell := hat j hjl
    have hv : cs'[j]? = some (cs'[j]'(by omega)) := List.getElem?_eq_getElem (by omega)
    have h1 := hf j f hj
    rw [ho, hk] at h1
    have hone' : (cs'.drop j).take 1 = [cs'[j]'(by omega)] := by
      rw [List.drop_eq_getElem_cons (by omega)]
      rfl
    rw [hone'] at h1
    have hys : ys[j]? = some (ys[j]'(by omega)) := List.getElem?_eq_getElem (by omega)
    refine ⟨_, _, ?_, hys, h1.trans hys⟩
    rw [← Go.Deep.add_add, hcell, hv]

theorem doms_of_cells {r : Reach} {b0 : Nat} {t e : TypeId} {f0 f1 f2 : Field} {v : Value} {d : DataW H} {p : List MemPlace}
    (ht : P.underlying t = some (.slice e)) (he : P.underlying e = some (.struct #[f0, f1, f2])) (h0 : P.underlying f0.type = some (.int .i64)) (h1 : P.underlying f1.type = some (.int .i64)) (h2 : P.underlying f2.type = some .bool)
    (hone : oneCellFields P #[f0, f1, f2] = true) (hC : P.cellsOf e = 3) (hv : Value.okWide P w r b0 t v) (h : DataW.Trod enc P w base (fun _ => true) held t v d p) :
    ∃ a len cap zs, v = .slice a len cap ∧ IsDoms w a len cap zs := by
  obtain ⟨a, len, cap, rfl⟩ := okWide_slice ht hv
  obtain ⟨fuel, hf⟩ := h
  rcases open_slice_fields ht he hone hC hf with hcs | ⟨x, l, c, m, hcs, hl, hm, hmm, hi⟩
  · have hcs' : Value.slice a len cap = .slice none 0 0 := by simpa [Value.cells] using hcs
    injection hcs' with e1 e2 e3
    subst e1 e2 e3
    exact ⟨none, 0, 0, [], rfl, rfl, Nat.le_refl _, by simp [maxLen], .inl rfl, by simp⟩
  · have hcs' : Value.slice a len cap = .slice (some x) l c := by simpa [Value.cells] using hcs
    injection hcs' with e1 e2 e3
    subst e1 e2 e3
    simp only [if_true] at hmm
    have hex : ∀ k, k ≤ len → ∃ zs : List DomI, zs.length = k ∧ (∀ i q, zs[i]? = some q → w.cell? (x.add (i * 3)) = some (.int .i64 q.1) ∧ w.cell? (x.add (i * 3 + 1)) = some (.int .i64 q.2.1) ∧ w.cell? (x.add (i * 3 + 2)) = some (.bool q.2.2)) ∧ ∀ p ∈ zs, (Lit.int .i64 p.1).wf = true ∧ (Lit.int .i64 p.2.1).wf = true := by
      intro k
      induction k with
      | zero => intro _; exact ⟨[], rfl, by simp, by simp⟩
      | succ k ih =>
        intro hk
        obtain ⟨zs, hz, hc, hw⟩ := ih (by omega)
        obtain ⟨ys, n, hj⟩ := hi k (by omega)
        obtain ⟨v0, y0, c0, _, t0⟩ := hj 0 f0 rfl
        obtain ⟨v1, y1, c1, _, t1⟩ := hj 1 f1 rfl
        obtain ⟨v2, y2, c2, _, t2⟩ := hj 2 f2 rfl
        obtain ⟨x0, e0, _, w0⟩ := DataW.trod_int h0 t0
        obtain ⟨x1, e1, _, w1⟩ := DataW.trod_int h1 t1
        obtain ⟨x2, e2, _⟩ := DataW.trod_bool h2 t2
        simp only [List.cons.injEq, and_true] at e0 e1 e2
        subst e0 e1 e2
        refine ⟨zs ++ [(x0, x1, x2)], by simp [hz], ?_, ?_⟩
        · intro i q hq
          by_cases hik : i < k
          · rw [List.getElem?_append_left (by omega)] at hq
            exact hc i q hq
          · have : i = k := by have := (List.getElem?_eq_some_iff.1 hq).1; simp at this; omega
            subst this
            rw [List.getElem?_append_right (by omega), hz, Nat.sub_self] at hq
            simp at hq
            subst hq
            exact ⟨c0, c1, c2⟩
        · intro p hp
          rcases List.mem_append.1 hp with h | h
          · exact hw p h
          · simp at h; subst h; exact ⟨w0, w1⟩
    obtain ⟨zs, hz, hc, hw⟩ := hex len (Nat.le_refl _)
    refine ⟨some x, len, cap, zs, rfl, hz, hl, hm, ?_, hw⟩
    by_cases hl0 : len = 0
    · left; rw [List.eq_nil_of_length_eq_zero (hz.trans hl0)]; rfl
    · have hz0 : zs[0]? = some (zs[0]'(by omega)) := List.getElem?_eq_getElem (by omega)
      have hc0 := (hc 0 _ hz0).1
      obtain ⟨b, off, p'⟩ := x
      have hp : p' = none := by
        cases p' with
        | none => rfl
        | some p' =>
          exfalso
          simp [Addr.add, World.cell?] at hc0
          split at hc0 <;> simp_all
      subst hp
      have hadd : ∀ j, ((⟨b, off, none⟩ : Addr).add j) = ⟨b, off + j, none⟩ := fun j => by unfold Addr.add; split <;> simp_all
      refine .inr ⟨b, off, rfl, ?_, fun j hj => ?_⟩
      · have := World.block_lt_of_cell? w _ hc0
        rw [hadd] at this
        exact this
      · rw [flatD_len] at hj
        have hkj : j / 3 < zs.length := by omega
        obtain ⟨g1, g2, g3⟩ := flatD_at zs (j / 3) hkj
        rw [List.getElem?_eq_getElem hkj] at g1 g2 g3
        obtain ⟨k1, k2, k3⟩ := hc (j / 3) _ (List.getElem?_eq_getElem hkj)
        rw [hadd] at k1 k2 k3
        have hm3 : j = j / 3 * 3 ∨ j = j / 3 * 3 + 1 ∨ j = j / 3 * 3 + 2 := by omega
        rcases hm3 with h3 | h3 | h3
        · rw [h3, g1]; exact k1
        · rw [h3, g2]; exact k2
        · rw [h3, g3]; exact k3
end
theorem IsDoms.rd {w : World} {a : Option Addr} {len cap : Nat} {zs : List DomI} (h : IsDoms w a len cap zs) : RdD w a zs ∧ zs.length = len ∧ len ≤ maxLen := ⟨h.2.2.2.1, h.1, Nat.le_trans h.2.1 h.2.2.1⟩

theorem domInfo : (Tryd.prog.info? 34).map (fun i => (i.zero, i.size, i.bytes)) = some (some (.agg #[.int .i64 0, .int .i64 0, .bool false]), 3, 24) := by kernel_rfl
/-- The slice value shows the dominoes L, in blocks from B on. -/
def OwnD (w : World) (B : Nat) (v : Value) (L : List DomI) : Prop := w.ownsRow B 34 3 v L.length (flatD L)
theorem OwnD.alloc {w : World} {B : Nat} {v : Value} {L : List DomI} (h : OwnD w B v L) (o : Obj) : OwnD (w.alloc o) B v L := World.ownsRow.alloc h o
theorem OwnD.rd {w : World} {B : Nat} {a : Option Addr} {n c : Nat} {L : List DomI} (h : OwnD w B (.slice a n c) L) (hn : L.length = n) : RdD w a L := by
  subst hn
  exact Rd.of_own h
theorem OwnD.snoc {w : World} {B : Nat} {v : Value} {L : List DomI} {x y : Int} {d : Bool} (h : w.ownsRow B 34 3 v (L.length + 1) (flatD L ++ [.int .i64 x, .int .i64 y, .bool d])) : OwnD w B v (L ++ [(x, y, d)]) := by
  unfold OwnD
  rw [flatD_app, List.length_append]
  exact h
theorem OwnD.new (w : World) (B : Nat) (hB : B ≤ w.heap.size) (o : Obj) (ho : o = .cells #[] 34) : OwnD (w.alloc o) B (.slice (some ⟨w.heap.size, 0, none⟩) 0 0) [] := by
  subst ho
  exact World.ownsRow_made w #[] 0 hB (by simp [maxLen]) (by simp)
theorem dom_three_new (w : World) (x y z : Value) (t : TypeId) : ∀ j u, [x, y, z][j]? = some u → (w.alloc (.cells #[x, y, z] t)).cell? ((⟨w.heap.size, 0, none⟩ : Addr).add j) = some u := by
  intro j u hj
  match j, hj with
  | 0, hj => simp at hj; subst hj; simp [Addr.add]
  | 1, hj => simp at hj; subst hj; simp [Addr.add]
  | 2, hj => simp at hj; subst hj; simp [Addr.add]
  | (j + 3), hj => simp at hj
end Go.Proofs.YtbkoignjagobaaaDoor
