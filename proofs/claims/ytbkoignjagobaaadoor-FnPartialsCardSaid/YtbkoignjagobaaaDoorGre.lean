/-
  Dominoes laid greedily in a region: what such a laying keeps.
-/
import Derived.Test.YtbkoignjagobaaaDoorParP
import Derived.Test.YtbkoignjagobaaaDoorDrawReg
namespace Go.Proofs.YtbkoignjagobaaaDoor
open Go.RowKit
set_option linter.unusedVariables false
set_option linter.unusedSimpArgs false

theorem At.grownA {w0 w1 w2 : World} {g : Nat} {a : Option Addr} {n c : Nat} {r : Nat} (h : At w0 w1 g a n c) (hg : w1.grownBy w2 (some r)) (h1 : w0.heap.size ≤ r) (h2 : r ≠ g) : At w0 w2 g a n c := by
  obtain ⟨h1', ⟨i, x, k⟩, h3⟩ := h
  have hb : w2.heap[g]? = w1.heap[g]? := hg.block g k.lt (fun e => h2 (by cases e; rfl))
  have e : ∀ p : Nat, w2.cell? ⟨g, p, none⟩ = w1.cell? ⟨g, p, none⟩ := fun p => World.cell?_of_block (a := ⟨g, p, none⟩) hb
  have f : ∀ p : Nat, w2.frozen? ⟨g, p, none⟩ = w1.frozen? ⟨g, p, none⟩ := fun p => World.frozen?_of_block (a := ⟨g, p, none⟩) hb
  exact ⟨h1'.trans ((Below.refl _ _).grown hg h1'.size (fun k hk => by cases hk; exact h1)), ⟨i, x, Nat.lt_of_lt_of_le k.lt hg.size, k.le, (e 0).trans k.c0, (e 1).trans k.c1, (e 2).trans k.c2, (f 1).trans k.f1, (f 2).trans k.f2⟩, h3⟩
/-- A box of three cells. -/
def Box3 (w : World) (b : Nat) (x y z : Value) : Prop :=
  b < w.heap.size ∧ (w.cell? ⟨b, 0, none⟩ = some x ∧ w.cell? ⟨b, 1, none⟩ = some y ∧ w.cell? ⟨b, 2, none⟩ = some z) ∧ w.frozen? ⟨b, 0, none⟩ = false ∧ w.frozen? ⟨b, 1, none⟩ = false ∧ w.frozen? ⟨b, 2, none⟩ = false
theorem Box3.new (w : World) (x y z : Value) (t : TypeId) : Box3 (w.alloc (.cells #[x, y, z] t)) w.heap.size x y z := ⟨by simp, ⟨by simp, by simp, by simp⟩, by simp, by simp, by simp⟩
theorem Box3.grown {w w' : World} {b g : Nat} {x y z : Value} (h : Box3 w b x y z) (hg : w.grownBy w' (some g)) (hn : b ≠ g) : Box3 w' b x y z :=
  ⟨Nat.lt_of_lt_of_le h.1 hg.size, ⟨(far_of hg _ _ h.1 hn).trans h.2.1.1, (far_of hg _ _ h.1 hn).trans h.2.1.2.1, (far_of hg _ _ h.1 hn).trans h.2.1.2.2⟩, (ice_of hg _ _ h.1 hn).trans h.2.2.1, (ice_of hg _ _ h.1 hn).trans h.2.2.2.1, (ice_of hg _ _ h.1 hn).trans h.2.2.2.2⟩
theorem Box3.below {w w' : World} {b : Nat} {x y z : Value} (h : Box3 w b x y z) (hb : Below w.heap.size w w') : Box3 w' b x y z :=
  ⟨Nat.lt_of_lt_of_le h.1 hb.size, ⟨(hb.cell (p := ⟨b, 0, none⟩) h.1).trans h.2.1.1, (hb.cell (p := ⟨b, 1, none⟩) h.1).trans h.2.1.2.1, (hb.cell (p := ⟨b, 2, none⟩) h.1).trans h.2.1.2.2⟩, (hb.frozen (p := ⟨b, 0, none⟩) h.1).trans h.2.2.1, (hb.frozen (p := ⟨b, 1, none⟩) h.1).trans h.2.2.2.1, (hb.frozen (p := ⟨b, 2, none⟩) h.1).trans h.2.2.2.2⟩
theorem Box3.put {w : World} {b : Nat} {x y z : Value} (h : Box3 w b x y z) (x' y' z' : Value) : Box3 (((w.setCell ⟨b, 0, none⟩ x').setCell ⟨b, 1, none⟩ y').setCell ⟨b, 2, none⟩ z') b x' y' z' := by
  obtain ⟨h1, ⟨c0, c1, c2⟩, f0, f1, f2⟩ := h
  have k1 : (w.setCell ⟨b, 0, none⟩ x').cell? ⟨b, 1, none⟩ = some y := (sc_ne (by decide)).trans c1
  have k2 : ((w.setCell ⟨b, 0, none⟩ x').setCell ⟨b, 1, none⟩ y').cell? ⟨b, 2, none⟩ = some z := (sc_ne (by decide)).trans ((sc_ne (by decide)).trans c2)
  refine ⟨by simpa [World.setCell] using h1, ⟨?_, ?_, World.cell?_setCell_same _ _ _ k2⟩, by simp [f0], by simp [f1], by simp [f2]⟩
  · exact (sc_ne (by decide)).trans ((sc_ne (by decide)).trans (World.cell?_setCell_same _ _ _ c0))
  · exact (sc_ne (by decide)).trans (World.cell?_setCell_same _ _ _ k1)
theorem Box3.put_far {w : World} {b b' : Nat} {x y z : Value} (h : Box3 w b x y z) (hn : b' ≠ b) (x' y' z' : Value) : Box3 (((w.setCell ⟨b', 0, none⟩ x').setCell ⟨b', 1, none⟩ y').setCell ⟨b', 2, none⟩ z') b x y z := by
  obtain ⟨h1, ⟨c0, c1, c2⟩, f0, f1, f2⟩ := h
  have e : ∀ o, (((w.setCell ⟨b', 0, none⟩ x').setCell ⟨b', 1, none⟩ y').setCell ⟨b', 2, none⟩ z').cell? ⟨b, o, none⟩ = w.cell? ⟨b, o, none⟩ := fun o =>
    (World.cell?_setCell_far _ _ _ _ hn).trans ((World.cell?_setCell_far _ _ _ _ hn).trans (World.cell?_setCell_far _ _ _ _ hn))
  exact ⟨by simpa [World.setCell] using h1, ⟨(e 0).trans c0, (e 1).trans c1, (e 2).trans c2⟩, by simp [f0], by simp [f1], by simp [f2]⟩
def idxP (p : Int × Int) : Nat := (p.2 * 8 + p.1).toNat
theorem idx_cell (i : Nat) : idxP (cellOf i) = i := by
  unfold idxP cellOf
  simp only
  omega
theorem cellsL_pw (S : Nat) : (cellsL S).Pairwise fun p q => idxP p < idxP q := by
  unfold cellsL cellsK
  rw [List.pairwise_map]
  refine List.Pairwise.filter _ (List.Pairwise.imp (fun {i j} h => ?_) List.pairwise_lt_range)
  rw [idx_cell, idx_cell]
  exact h
theorem cellsL_mem {S : Nat} {x y : Int} (h : (x, y) ∈ cellsL S) : okB x y = true ∧ S.testBit (y * 8 + x).toNat = true := by
  unfold cellsL cellsK at h
  rw [List.mem_map] at h
  obtain ⟨i, hi, he⟩ := h
  rw [List.mem_filter, List.mem_range] at hi
  have e := idx_cell i
  rw [he] at e
  unfold idxP at e
  simp only at e
  rw [e]
  unfold cellOf at he
  injection he with e1 e2
  exact ⟨okB_iff.2 (by omega), hi.2⟩
/-- What the laying keeps behind k cells. -/
def GI (S : Nat) (M : List (Int × Int)) (k : Nat) (G : List DomI) : Prop :=
  accTo S G G.length = true ∧ (∀ q ∈ G, ∀ j p, k ≤ j → M[j]? = some p → (q.2.1 * 8 + q.1).toNat < idxP p) ∧ G.length ≤ k
theorem GI.zero (S : Nat) (M : List (Int × Int)) : GI S M 0 [] := ⟨rfl, (fun q h => by cases h), Nat.le_refl _⟩
theorem GI.skip {S : Nat} {M : List (Int × Int)} {k : Nat} {G : List DomI} (h : GI S M k G) : GI S M (k + 1) G :=
  ⟨h.1, fun q hq j p hj hp => h.2.1 q hq j p (by omega) hp, by have := h.2.2; omega⟩
theorem dat_bit {G : List DomI} {x y : Int} (h : okB x y = true) (hd : dat G x y < 0) : (cov G).testBit (y * 8 + x).toNat = false := by
  obtain ⟨⟨x0, x7⟩, y0, y7⟩ := okB_iff.1 h
  have e := dat_neg G (i := (y * 8 + x).toNat) (by omega)
  rw [show (((y * 8 + x).toNat : Nat) : Int) % 8 = x by omega, show (((y * 8 + x).toNat : Nat) : Int) / 8 = y by omega, decide_eq_true hd] at e
  simpa using e.symm
theorem GI.add {zs : List Int} {M : List (Int × Int)} {k : Nat} {G : List DomI} {x y : Int} {d : Bool} (hok : rokB zs = true) (hM : M = coL zs) (h : GI (setS zs) M k G) (hk : M[k]? = some (x, y)) (h1 : dat G x y < 0) (h2 : domB x y d = true) (h3 : hcB zs (secX x d) (secY y d) = true) (h4 : dat G (secX x d) (secY y d) < 0) :
    GI (setS zs) M (k + 1) (G ++ [(x, y, d)]) := by
  subst hM
  obtain ⟨a1, a2, a3⟩ := h
  obtain ⟨k1, k2⟩ := domB_ok h2
  rw [coL_yes hok] at hk a2 ⊢
  have hm := cellsL_mem (List.mem_of_getElem? hk)
  have b1 := dat_bit k1 h1
  have b2 := dat_bit k2 h4
  rw [hcB_yes hok] at h3
  unfold hasB at h3
  rw [Bool.and_eq_true] at h3
  have hf : freeB (setS zs) (cov G) (x, y, d) = true := by
    unfold freeB
    simp only [hm.2, b1, h3.2, b2, Bool.not_false, Bool.and_self]
  obtain ⟨c1, c2⟩ := acc_snoc (S := setS zs) (k := (y * 8 + x).toNat) a1 (fun q hq => a2 q hq k _ (Nat.le_refl _) hk) rfl h2 hf
  refine ⟨c1, ?_, by rw [List.length_append]; simp; omega⟩
  intro q hq j p hj hp
  have := c2 q hq
  have hpw := List.pairwise_iff_getElem.1 (cellsL_pw (setS zs)) k j (lt_of_at hk) (lt_of_at hp) (by omega)
  rw [(List.getElem?_eq_some_iff.1 hk).2, (List.getElem?_eq_some_iff.1 hp).2] at hpw
  have e : idxP (x, y) = (y * 8 + x).toNat := rfl
  rw [e] at hpw
  omega
theorem GI.acc {S : Nat} {M : List (Int × Int)} {k : Nat} {G : List DomI} (h : GI S M k G) : accTo S G G.length = true := h.1

/-- What lies in memory while the dominoes are laid. -/
structure GrS (w0 w1 w : World) (g : Nat) (a : Option Addr) (n c : Nat) (ad : Option Addr) (rs : List Int) (al : Option Addr) (M : List (Int × Int)) (p : Nat) (V : Value) (o m d : Nat) (G : List DomI) : Prop where
  at_ : At w0 w g a n c
  gr : w1.grownBy w (some g)
  own : OwnD w w1.heap.size (.slice (some ⟨o, 0, none⟩) m d) G
  len : G.length = m
  rd : RdI w ad rs
  ls : Rd w al (flatC M)
  no : o ≠ g
  nl : ∀ b off, al = some ⟨b, off, none⟩ → b ≠ g ∧ b ≠ o ∧ b < w.heap.size
  nr : ∀ b off, ad = some ⟨b, off, none⟩ → b ≠ g ∧ b < w1.heap.size
  lo : w0.heap.size ≤ w1.heap.size
  bp : Box1 w p V
  np : p ≠ g ∧ p ≠ o
section
variable {w0 w1 w w' : World} {g : Nat} {a : Option Addr} {n c : Nat} {ad : Option Addr} {rs : List Int} {al : Option Addr} {M : List (Int × Int)} {p : Nat} {V : Value} {o m d : Nat} {G : List DomI}
theorem GrS.draw (h : GrS w0 w1 w g a n c ad rs al M p V o m d G) (hat : At w0 w' g a n c) (hg : w.grownBy w' (some g)) : GrS w0 w1 w' g a n c ad rs al M p V o m d G :=
  ⟨hat, gc_step h.gr hg, World.ownsRow.kept h.own hg (.inr (by intro e; cases e; exact h.no rfl)), h.len, Rd.grown h.rd hg (fun b off e k => (h.nr b off e).1 (by cases k; rfl)), Rd.grown h.ls hg (fun b off e k => (h.nl b off e).1 (by cases k; rfl)), h.no,
    fun b off e => ⟨(h.nl b off e).1, (h.nl b off e).2.1, Nat.lt_of_lt_of_le (h.nl b off e).2.2 hg.size⟩, h.nr, h.lo, h.bp.grown hg h.np.1, h.np⟩
theorem GrS.below (h : GrS w0 w1 w g a n c ad rs al M p V o m d G) (hb : Below w.heap.size w w') : GrS w0 w1 w' g a n c ad rs al M p V o m d G :=
  ⟨h.at_.below hb, gr_below h.gr hb, own_below h.own hb, h.len, Rd.below h.rd hb, Rd.below h.ls hb, h.no, fun b off e => ⟨(h.nl b off e).1, (h.nl b off e).2.1, Nat.lt_of_lt_of_le (h.nl b off e).2.2 hb.size⟩, h.nr, h.lo, h.bp.below hb, h.np⟩
theorem GrS.alloc (h : GrS w0 w1 w g a n c ad rs al M p V o m d G) (x : Obj) : GrS w0 w1 (w.alloc x) g a n c ad rs al M p V o m d G := h.below (Below.alloc (Below.refl _ _) (Nat.le_refl _) _)
theorem GrS.drewN (h : GrS w0 w1 w g a n c ad rs al M p V o m d G) (k : Nat) : GrS w0 w1 (w.drewN k) g a n c ad rs al M p V o m d G := h.below (below_drewN (Below.refl _ _) k)
theorem GrS.ge (h : GrS w0 w1 w g a n c ad rs al M p V o m d G) : w1.heap.size ≤ o ∧ o < w.heap.size := World.ownsRow.lt h.own o rfl
theorem GrS.rdD (h : GrS w0 w1 w g a n c ad rs al M p V o m d G) : RdD w (some ⟨o, 0, none⟩) G := OwnD.rd h.own h.len
theorem rd_far {w : World} {a : Option Addr} {xs : List Value} (h : Rd w a xs) {q i : Nat} (hq : ∀ b off, a = some ⟨b, off, none⟩ → b ≠ q) (u : Value) : Rd (w.setCell ⟨q, i, none⟩ u) a xs := by
  rcases h with h1 | ⟨b, off, e, h2, h3⟩
  · exact .inl h1
  · refine .inr ⟨b, off, e, by simpa [World.setCell] using h2, fun j hj => ?_⟩
    rw [World.cell?_setCell_far _ _ _ _ (by show q ≠ b; exact fun x => hq b off e x.symm)]
    exact h3 j hj
theorem ownD_far {w : World} {B o m d : Nat} {G : List DomI} (h : OwnD w B (.slice (some ⟨o, 0, none⟩) m d) G) {q i : Nat} (hq : o ≠ q) (u : Value) : OwnD (w.setCell ⟨q, i, none⟩ u) B (.slice (some ⟨o, 0, none⟩) m d) G := by
  refine ⟨h.1, ?_⟩
  rcases h.2 with h2 | ⟨g', cap', cur', hv, hg2, hh, r2⟩
  · exact .inl h2
  · refine .inr ⟨g', cap', cur', hv, hg2, ?_, r2⟩
    obtain ⟨e2, -, -⟩ := Value.slice.inj hv
    cases e2
    rw [Below.heap_setCell _ ⟨q, i, none⟩ _ o (by simpa using hq)]
    exact hh
theorem GrS.put (h : GrS w0 w1 w g a n c ad rs al M p V o m d G) {q : Nat} (h1 : w1.heap.size ≤ q) (h2 : q ≠ g) (h3 : o ≠ q) (h4 : ∀ b off, al = some ⟨b, off, none⟩ → b ≠ q) (h5 : p ≠ q) (i : Nat) (u : Value) : GrS w0 w1 (w.setCell ⟨q, i, none⟩ u) g a n c ad rs al M p V o m d G :=
  ⟨h.at_.setR (Nat.le_trans h.lo h1) h2 _, gr_new h.gr h1 _ _, ownD_far h.own h3 _, h.len, rd_far h.rd (fun b off e => by have := (h.nr b off e).2; omega) _, rd_far h.ls h4 _, h.no,
    fun b off e => ⟨(h.nl b off e).1, (h.nl b off e).2.1, by simpa [World.setCell] using (h.nl b off e).2.2⟩, h.nr, h.lo, h.bp.far (fun e => h5 e.symm), h.np⟩
/-- A domino is appended. -/
theorem GrS.app {v3 : Value} {x y : Int} {b : Bool} (h : GrS w0 w1 w g a n c ad rs al M p V o m d G) (hown : w'.ownsRow w1.heap.size 34 3 v3 (m + 1) (flatD G ++ [.int .i64 x, .int .i64 y, .bool b])) (hg : w.grownBy w' (Value.slice (some ⟨o, 0, none⟩) m d).ownBlock) (hat : v3.ownBlock = (Value.slice (some ⟨o, 0, none⟩) m d).ownBlock ∨ ∃ s, v3.ownBlock = some s ∧ w.heap.size ≤ s) :
    ∃ o' d', v3 = .slice (some ⟨o', 0, none⟩) (m + 1) d' ∧ GrS w0 w1 w' g a n c ad rs al M p V o' (m + 1) d' (G ++ [(x, y, b)]) := by
  have hg' : w.grownBy w' (some o) := hg
  have hlo := h.lo
  obtain ⟨o1, o2⟩ := h.ge
  rcases hown.2 with ⟨hv, hn⟩ | ⟨o', cap, cur, hv, r⟩
  · omega
  · subst hv
    have hat' : o' = o ∨ w.heap.size ≤ o' := by
      rcases hat with e | ⟨s, e, hs⟩
      · left; simpa [Value.ownBlock] using e
      · right; simp [Value.ownBlock] at e; omega
    have hgl := h.at_.lt
    refine ⟨o', cap, rfl, ⟨h.at_.grownA hg' (by omega) h.no, ⟨hg'.os.trans h.gr.os, hg'.tape.trans h.gr.tape, hg'.output.trans h.gr.output, Nat.le_trans h.gr.size hg'.size, fun i hi hne => (hg'.block i (Nat.lt_of_lt_of_le hi h.gr.size) (fun e => by cases e; omega)).trans (h.gr.block i hi hne)⟩,
      OwnD.snoc (by rw [h.len]; exact hown), by rw [List.length_append, h.len]; rfl, Rd.grown h.rd hg' (fun b off e k => by cases k; have := (h.nr o off e).2; omega), Rd.grown h.ls hg' (fun b off e k => (h.nl b off e).2.1 (by cases k; rfl)), ?_, ?_, h.nr, hlo, h.bp.grown hg' h.np.2, ⟨h.np.1, ?_⟩⟩⟩
    · rcases hat' with e | e
      · rw [e]; exact h.no
      · omega
    · intro b1 off e
      obtain ⟨n1, n2, n3⟩ := h.nl b1 off e
      refine ⟨n1, ?_, Nat.lt_of_lt_of_le n3 hg'.size⟩
      rcases hat' with e | e
      · rw [e]; exact n2
      · omega
    · have hpl := h.bp.1
      rcases hat' with e | e
      · rw [e]; exact h.np.2
      · omega
/-- A block apart from all that the laying keeps. -/
structure Qf (w1 : World) (g o p q : Nat) (al : Option Addr) : Prop where
  lo : w1.heap.size ≤ q
  ng : q ≠ g
  no : o ≠ q
  nl : ∀ b off, al = some ⟨b, off, none⟩ → b ≠ q
  np : p ≠ q
theorem GrS.newq (h : GrS w0 w1 w g a n c ad rs al M p V o m d G) : Qf w1 g o p w.heap.size al :=
  ⟨h.gr.size, by have := h.at_.lt; omega, by have := h.ge.2; omega, fun b off e => by have := (h.nl b off e).2.2; omega, by have := h.bp.1; omega⟩
theorem GrS.set1 (h : GrS w0 w1 w g a n c ad rs al M p V o m d G) {q : Nat} (hq : Qf w1 g o p q al) (i : Nat) (u : Value) : GrS w0 w1 (w.setCell ⟨q, i, none⟩ u) g a n c ad rs al M p V o m d G :=
  h.put hq.lo hq.ng hq.no hq.nl hq.np i u
theorem GrS.three (h : GrS w0 w1 w g a n c ad rs al M p V o m d G) {q : Nat} (hq : Qf w1 g o p q al) {x y z : Value} (hN : Box3 w q x y z) (x' y' z' : Value) : GrS w0 w1 (((w.setCell ⟨q, 0, none⟩ x').setCell ⟨q, 1, none⟩ y').setCell ⟨q, 2, none⟩ z') g a n c ad rs al M p V o m d G ∧ Box3 (((w.setCell ⟨q, 0, none⟩ x').setCell ⟨q, 1, none⟩ y').setCell ⟨q, 2, none⟩ z') q x' y' z' :=
  ⟨((h.set1 hq 0 x').set1 hq 1 y').set1 hq 2 z', hN.put x' y' z'⟩
theorem Box3.put2 {w : World} {b : Nat} {x y z : Value} (h : Box3 w b x y z) (z' : Value) : Box3 (w.setCell ⟨b, 2, none⟩ z') b x y z' := by
  obtain ⟨h1, ⟨c0, c1, c2⟩, f0, f1, f2⟩ := h
  exact ⟨by simpa [World.setCell] using h1, ⟨(sc_ne (by decide)).trans c0, (sc_ne (by decide)).trans c1, World.cell?_setCell_same _ _ _ c2⟩, by simp [f0], by simp [f1], by simp [f2]⟩
end
end Go.Proofs.YtbkoignjagobaaaDoor
