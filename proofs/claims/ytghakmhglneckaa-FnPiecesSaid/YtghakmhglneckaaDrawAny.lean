/-
  The draw of whatever region; the draw of a region with holes.
-/
import Derived.Test.YtghakmhglneckaaDrawReg
namespace Go.Proofs.Ytghakmhglneckaa
open Go.RowKit
set_option linter.unusedVariables false
set_option linter.unusedSimpArgs false

theorem pick_at {w0 w1 : World} {a : Option Addr} {n g c : Nat} {zs : List Int} (K : CodeOk w0 a n zs) (h : At w0 w1 g a n c) (b : Option Addr) (m d : Nat) (ys : List Int) (hm0 : 0 < m) (hm : m ≤ maxLen) (hys : ys.length = m) (hy : ∀ v ∈ ys, (Lit.int .i64 v).wf = true) (hb : RdI w1 b ys) (hbg : ∀ x, b = some x → x.block ≠ g) :
    Calls Try.prog 72 #[.pointer (some ⟨g, 0, none⟩), .slice b m d] w1 fun e w2 => ∃ v : Int, e = .returned (.int .i64 v) ∧ (At w0 w2 g a n c ∧ w1.grownBy w2 (some g)) :=
  (l01PickInt_any g a n c zs w0 w1 K.len K.max K.bytes K.rd h.1 h.2.2 h.2.1 b m d ys hm0 hm hys hy hb hbg).mono (fun e w2 hd => by
    obtain ⟨v, he, -, hat, hg⟩ := h.next hd
    exact ⟨v, he, hat, hg⟩)
/-- A region in its variable. -/
structure RgL (w0 w1 w : World) (g : Nat) (a : Option Addr) (n c p q b m d : Nat) (rs : List Int) : Prop where
  at_ : At w0 w g a n c
  own : OwnI w w1.heap.size (.slice (some ⟨b, 0, none⟩) m d) rs
  len : rs.length = m
  pos : 1 ≤ m
  bq : Box1 w q (.slice (some ⟨b, 0, none⟩) m d)
  bp : Box1 w p (.slice none 0 0)
  gr : w1.grownBy w (some g)
  ne : q ≠ g ∧ p ≠ g ∧ p ≠ q
  lo : w0.heap.size ≤ w1.heap.size ∧ w1.heap.size ≤ q ∧ w1.heap.size ≤ p
section
variable {w0 w1 w w' : World} {g : Nat} {a : Option Addr} {n c p q b m d : Nat} {rs : List Int}
theorem RgL.neb (h : RgL w0 w1 w g a n c p q b m d rs) : b ≠ q ∧ b ≠ p ∧ b ≠ g ∧ b < w.heap.size ∧ w1.heap.size ≤ b := by
  obtain ⟨c1, c2⟩ := ownI_at h.own h.len (k := 0) (by rw [h.len]; exact h.pos)
  obtain ⟨o1, o2⟩ := World.ownsRow.lt h.own b rfl
  refine ⟨?_, ?_, ?_, o2, o1⟩
  · rintro rfl
    have := h.bq.2.1
    rw [c1] at this
    cases this
  · rintro rfl
    have := h.bp.2.1
    rw [c1] at this
    cases this
  · rintro rfl
    obtain ⟨i, x, k⟩ := h.at_.2.1
    have := k.c0
    rw [c1] at this
    cases this
theorem RgL.draw (h : RgL w0 w1 w g a n c p q b m d rs) (hat : At w0 w' g a n c) (hg : w.grownBy w' (some g)) : RgL w0 w1 w' g a n c p q b m d rs := by
  obtain ⟨n1, n2, n3⟩ := h.ne
  exact ⟨hat, World.ownsRow.kept h.own hg (.inr (by intro e; cases e; exact h.neb.2.2.1 rfl)), h.len, h.pos, h.bq.grown hg n1, h.bp.grown hg n2, gc_step h.gr hg, h.ne, h.lo⟩
theorem RgL.drew (h : RgL w0 w1 w g a n c p q b m d rs) : RgL w0 w1 w.drew g a n c p q b m d rs :=
  ⟨h.at_.drewN 1, h.own, h.len, h.pos, h.bq, h.bp, gbd h.gr 1, h.ne, h.lo⟩
theorem RgL.alloc (h : RgL w0 w1 w g a n c p q b m d rs) (o : Obj) : RgL w0 w1 (w.alloc o) g a n c p q b m d rs :=
  ⟨h.at_.alloc o, OwnI.below h.own (Below.alloc (Below.refl _ _) (Nat.le_refl _) _), h.len, h.pos, h.bq.below (Below.alloc (Below.refl _ _) (Nat.le_refl _) _), h.bp.below (Below.alloc (Below.refl _ _) (Nat.le_refl _) _), gc_alloc h.gr _, h.ne, h.lo⟩
theorem RgL.rd (h : RgL w0 w1 w g a n c p q b m d rs) : RdI w (some ⟨b, 0, none⟩) rs := Rd.of_own (B := w1.heap.size) (by have := h.own; unfold OwnI at this; rw [h.len] at this; exact this)
/-- The end: the region is stored in the result's box. -/
theorem RgL.fin (h : RgL w0 w1 w g a n c p q b m d rs) (u : Value) : RdI (w.setCell ⟨p, 0, none⟩ u) (some ⟨b, 0, none⟩) rs ∧ Below w0.heap.size w0 (w.setCell ⟨p, 0, none⟩ u) ∧ w1.grownBy (w.setCell ⟨p, 0, none⟩ u) (some g) := by
  obtain ⟨b1, b2, b3, b4, b5⟩ := h.neb
  obtain ⟨l0, l1, l2⟩ := h.lo
  refine ⟨?_, h.at_.1.setCell (p := ⟨p, 0, none⟩) (by simp; omega) _, gr_new h.gr l2 _ _⟩
  rcases h.rd with h1 | ⟨b', off, e, h2, h3⟩
  · exact .inl h1
  · refine .inr ⟨b', off, e, by simpa [World.setCell] using h2, fun j hj => ?_⟩
    have e2 : b = b' := by injection e with e; injection e
    subst e2
    rw [World.cell?_setCell_far _ _ _ _ (by show p ≠ b; exact fun x => b2 x.symm)]
    exact h3 j hj
theorem RgS.toL (h : RgS w0 w1 w g a n c p q b m d rs) (hm : 1 ≤ m) : RgL w0 w1 w g a n c p q b m d rs :=
  ⟨h.at_, h.own, h.len, hm, h.bq, h.bp, h.gr, ⟨h.ne.2.2.1, h.ne.2.2.2.1, h.ne.2.2.2.2.2⟩, ⟨h.lo.1, h.lo.2.2.1, h.lo.2.2.2⟩⟩
end
theorem three_new (w : World) (x y z : Value) (t : TypeId) : ∀ j, j < [x, y, z].length → (w.alloc (.cells #[x, y, z] t)).cell? ⟨w.heap.size, 0 + j, none⟩ = [x, y, z][j]? := by
  intro j hj
  have h3 : j < 3 := by simpa using hj
  have : j = 0 ∨ j = 1 ∨ j = 2 := by omega
  rcases this with rfl | rfl | rfl <;> simp
theorem At.grownA {w0 w1 w2 : World} {g : Nat} {a : Option Addr} {n c : Nat} {r : Nat} (h : At w0 w1 g a n c) (hg : w1.grownBy w2 (some r)) (h1 : w0.heap.size ≤ r) (h2 : r ≠ g) : At w0 w2 g a n c := by
  obtain ⟨h1', ⟨i, x, k⟩, h3⟩ := h
  have hb : w2.heap[g]? = w1.heap[g]? := hg.block g k.lt (fun e => h2 (by cases e; rfl))
  have e : ∀ p : Nat, w2.cell? ⟨g, p, none⟩ = w1.cell? ⟨g, p, none⟩ := fun p => World.cell?_of_block (a := ⟨g, p, none⟩) hb
  have f : ∀ p : Nat, w2.frozen? ⟨g, p, none⟩ = w1.frozen? ⟨g, p, none⟩ := fun p => World.frozen?_of_block (a := ⟨g, p, none⟩) hb
  exact ⟨h1'.trans ((Below.refl _ _).grown hg h1'.size (fun k hk => by cases hk; exact h1)), ⟨i, x, Nat.lt_of_lt_of_le k.lt hg.size, k.le, (e 0).trans k.c0, (e 1).trans k.c1, (e 2).trans k.c2, (f 1).trans k.f1, (f 2).trans k.f2⟩, h3⟩
theorem RgL.row0 {w0 w1 w : World} {g : Nat} {a : Option Addr} {n c p q b m d : Nat} {rs : List Int} (h : RgL w0 w1 w g a n c p q b m d rs) : w.ownsRow w1.heap.size 3 1 (.slice (some ⟨b, 0, none⟩) m d) m (flatI rs) := by
  have := h.own
  unfold OwnI at this
  rwa [h.len] at this
theorem RgL.app {w0 w1 w w6 : World} {g : Nat} {a : Option Addr} {n c p q b m d : Nat} {rs : List Int} {v3 : Value} {z : Int} {o : Obj} (h : RgL w0 w1 w g a n c p q b m d rs) (hown : w6.ownsRow w1.heap.size 3 1 v3 (m + 1) (flatI rs ++ [.int .i64 z])) (hg : (w.alloc o).grownBy w6 (Value.slice (some ⟨b, 0, none⟩) m d).ownBlock) :
    ∃ b' d', v3 = .slice (some ⟨b', 0, none⟩) (m + 1) d' ∧ Box1 w6 q (.slice (some ⟨b, 0, none⟩) m d) ∧ w.heap.size ≤ w6.heap.size ∧ RgL w0 w1 (w6.setCell ⟨q, 0, none⟩ (.slice (some ⟨b', 0, none⟩) (m + 1) d')) g a n c p q b' (m + 1) d' (rs ++ [z]) := by
  obtain ⟨m1, m2, m3, m4, m5⟩ := h.neb
  obtain ⟨n1, n2, n3⟩ := h.ne
  obtain ⟨l0, l1, l2⟩ := h.lo
  have hg' : (w.alloc o).grownBy w6 (some b) := hg
  have ha := h.alloc o
  rcases hown.2 with ⟨hv, hn⟩ | ⟨b', cap, cur, hv, r⟩
  · omega
  · subst hv
    have own6 : OwnI w6 w1.heap.size (.slice (some ⟨b', 0, none⟩) (m + 1) cap) (rs ++ [z]) := by
      unfold OwnI
      rw [flatI_app, List.length_append, h.len]
      exact hown
    have bq6 : Box1 w6 q _ := ha.bq.grown hg' (fun e => m1 e.symm)
    have bp6 : Box1 w6 p _ := ha.bp.grown hg' (fun e => m2 e.symm)
    have at6 : At w0 w6 g a n c := ha.at_.grownA hg' (by omega) m3
    have len6 : (rs ++ [z]).length = m + 1 := by rw [List.length_append, h.len]; rfl
    obtain ⟨c1, c2⟩ := ownI_at own6 len6 (k := 0) (by omega)
    have hbq : b' ≠ q := by
      rintro rfl
      have := bq6.2.1
      rw [c1] at this
      cases this
    refine ⟨b', cap, rfl, bq6, Nat.le_trans (by simp) hg'.size, ⟨at6.setR (by omega) n1 _, ?_, len6, by omega, bq6.put _, bp6.far (fun e => n3 e.symm), gr_new ⟨hg'.os.trans ha.gr.os, hg'.tape.trans ha.gr.tape, hg'.output.trans ha.gr.output, Nat.le_trans ha.gr.size hg'.size, fun i hi hne => (hg'.block i (Nat.lt_of_lt_of_le hi ha.gr.size) (fun e => by cases e; omega)).trans (ha.gr.block i hi hne)⟩ l1 _ _, h.ne, h.lo⟩⟩
    refine ⟨own6.1, ?_⟩
    rcases own6.2 with h2 | ⟨g', cap', cur', hv, hg2, hh, r2⟩
    · exact .inl h2
    · refine .inr ⟨g', cap', cur', hv, hg2, ?_, r2⟩
      obtain ⟨e2, -, -⟩ := Value.slice.inj hv
      cases e2
      rw [Below.heap_setCell _ ⟨q, 0, none⟩ _ b' (by simp; exact hbq)]
      exact hh
--begin l03Any
set_option maxHeartbeats 3200000 in
set_option maxRecDepth 100000 in
theorem l03Any_at {w0 w1 : World} {a : Option Addr} {n g c : Nat} {zs : List Int} (K : CodeOk w0 a n zs) (h : At w0 w1 g a n c) :
    Calls Try.prog 58 #[.pointer (some ⟨g, 0, none⟩)] w1 fun e w2 => ∃ (ad : Option Addr) (m d : Nat) (rs : List Int), e = .returned (.agg #[.slice ad m d]) ∧ rs.length = m ∧ m ≤ 9 ∧ RdI w2 ad rs ∧ Below w0.heap.size w0 w2 ∧ w1.grownBy w2 (some g) := by
  obtain ⟨i0, hi, hz0, hz1, hz2⟩ := info_parts intInfo
  have HK := Lib.hid K
  have hgl := h.lt
  have hw0 : w0.heap.size ≤ w1.heap.size := h.1.size
  have hpg : w1.heap.size ≠ g := by omega
  have HA := Lib.hid (h.alloc (.cells #[.slice none 0 0] 27))
  have HP := Lib.hid (Box1.new w1 (.slice none 0 0) 27)
  clear K h
  go_enter Try.func58, Try.ntmps58
  go_wp2_with (go_at_call 71; fail)
  refine (l03Region_at HK.out HA.out).mono ?_
  rintro e w2 ⟨b, m, d, rs, rfl, hok, hlen, hm1, hm5, hbg, hO, hat, hgw⟩
  have hbl := World.ownsRow.lt hO b rfl
  simp at hbl
  have hg2 := hat.lt
  have hs2 := hgw.size
  simp at hs2
  have P2 := Lib.hid (HP.out.grown hgw hpg)
  have HL : Hid (RgL w0 w1 (w2.alloc (.cells #[.slice (some ⟨b, 0, none⟩) m d] 27)) g a n c w1.heap.size w2.heap.size b m d rs) := Lib.hid (by
    have e1 : Below w2.heap.size w2 (w2.alloc (.cells #[.slice (some ⟨b, 0, none⟩) m d] 27)) := Below.alloc (Below.refl _ _) (Nat.le_refl _) _
    exact ⟨hat.alloc _, ownI_low (OwnI.below hO e1) (by simp), hlen, hm1, Box1.new w2 _ _, P2.out.below e1, gc_alloc (gc_step (gc_alloc (World.grownBy.refl _ _) _) hgw) _, ⟨by omega, hpg, by omega⟩, ⟨hw0, by omega, Nat.le_refl _⟩⟩)
  clear hO hlen hat hgw hbl P2 HP HA hok hbg hg2
  go_wp2_with (go_at_call 57; fail)
  obtain ⟨wa, hwa⟩ : ∃ wa, wa = w2.alloc (.cells #[.slice (some ⟨b, 0, none⟩) m d] 27) := ⟨_, rfl⟩
  rw [← hwa] at HL ⊢
  obtain ⟨q, hq⟩ : ∃ q, q = w2.heap.size := ⟨_, rfl⟩
  rw [← hq] at HL ⊢
  obtain ⟨p, hp⟩ : ∃ p, p = w1.heap.size := ⟨_, rfl⟩
  rw [← hp] at HL ⊢
  clear hwa hq hp hs2
  refine (below_at HK.out HL.out.at_ 10 (WalkArith.wf_i64 (by omega))).mono ?_
  rintro e w3 ⟨v, rfl, ⟨hv0, hv1, -⟩, hat, hgw⟩
  have hv2 := hv1 (by omega)
  have H3 := Lib.hid (HL.out.draw hat hgw)
  clear hat hgw HL hv1
  have HEND : Hid (∀ (wf : World) (b m d : Nat) (rs : List Int), m ≤ 9 → RgL w0 w1 wf g a n c p q b m d rs → (∃ (ad : Option Addr) (m' d' : Nat) (rs : List Int), Ending.returned (.agg #[.slice (some ⟨b, 0, none⟩) m d]) = .returned (.agg #[.slice ad m' d']) ∧ rs.length = m' ∧ m' ≤ 9 ∧ RdI (wf.setCell ⟨p, 0, none⟩ (.slice (some ⟨b, 0, none⟩) m d)) ad rs ∧ Below w0.heap.size w0 (wf.setCell ⟨p, 0, none⟩ (.slice (some ⟨b, 0, none⟩) m d)) ∧ w1.grownBy (wf.setCell ⟨p, 0, none⟩ (.slice (some ⟨b, 0, none⟩) m d)) (some g))) := Lib.hid (by
    intro wf b m d rs hm h
    exact ⟨_, m, d, rs, rfl, h.len, hm, h.fin _⟩)
  obtain ⟨n1, n2, n3⟩ := H3.out.ne
  have n3' : ¬ q = p := fun e => n3 e.symm
  by_cases c0 : v = 0
  · subst c0
    obtain ⟨b1, b2, b3, b4, b5⟩ := H3.out.neb
    obtain ⟨q1, q2, q3⟩ := H3.out.bq
    have hm0 : (0 : Int) < (m : Int) := by omega
    have hm0N : 0 < m := by omega
    have HN := Lib.hid (H3.out.drew.alloc (.cells #[.int .i64 (-1), .int .i64 255, .int .i64 256] 3))
    go_wp2_with fail
    refine hold_start (S := (fun w' => w'.cell? ⟨q, 0, none⟩ = some (.slice (some ⟨b, 0, none⟩) m d) ∧ w3.heap.size ≤ w'.heap.size)) (by kernel_rfl) (by kernel_rfl) (by intro _ _ d _ _ h; cases d <;> exact h) ?_ (fun hHC hH0 => ?_)
    · ((try dsimp only); (repeat' apply And.intro) <;> first | (with_reducible assumption) | (go_keep; done) | omega | (go_simp; done) | (go_simp; omega) | (simp; done) | (simp; omega))
    refine hold_plain 0 (v := ?_) hHC hH0 (by simp only [List.getElem?_toArray, List.getElem?_cons_succ, List.getElem?_cons_zero]; rfl) rfl (by kernel_rfl) ?_ ?_
    rotate_left 1
    · (intro w hSw; (try dsimp only at hSw); go_simp; try with_reducible rfl)
    try simp only [Act.put, List.setIfInBounds_toArray, List.set_cons_zero, List.set_cons_succ]
    refine hold_plain 1 (v := ?_) hHC hH0 (by simp only [List.getElem?_toArray, List.getElem?_cons_succ, List.getElem?_cons_zero]; rfl) rfl (by kernel_rfl) ?_ ?_
    rotate_left 1
    · (intro w hSw; (try dsimp only at hSw); go_simp; try with_reducible rfl)
    try simp only [Act.put, List.setIfInBounds_toArray, List.set_cons_zero, List.set_cons_succ]
    refine hold_plain 2 (v := ?_) hHC hH0 (by simp only [List.getElem?_toArray, List.getElem?_cons_succ, List.getElem?_cons_zero]; rfl) rfl (by kernel_rfl) ?_ ?_
    rotate_left 1
    · (intro w hSw; (try dsimp only at hSw); go_simp; try with_reducible rfl)
    try simp only [Act.put, List.setIfInBounds_toArray, List.set_cons_zero, List.set_cons_succ]
    refine hold_call0 3 (by simp only [List.getElem?_toArray, List.getElem?_cons_succ, List.getElem?_cons_zero]; rfl) rfl (by kernel_rfl) (fun K hK => ?_)
    go_simp
    refine hK.out _ _ ?_ (fun hH1 => ?_)
    · ((try dsimp only); (repeat' apply And.intro) <;> first | (with_reducible assumption) | (go_keep; done) | omega | (go_simp; done) | (go_simp; omega) | (simp; done) | (simp; omega))
    clear hK K hH0
    try simp only [Act.put, List.setIfInBounds_toArray, List.set_cons_zero, List.set_cons_succ]
    refine hold_call0 4 (by simp only [List.getElem?_toArray, List.getElem?_cons_succ, List.getElem?_cons_zero]; rfl) rfl (by kernel_rfl) (fun K hK => ?_)
    go_simp
    (refine (pick_at HK.out HN.out.at_ _ 3 3 [-1, 255, 256] (by omega) (by unfold maxLen; omega) rfl (by decide) (.inr ⟨_, 0, rfl, by simp, three_new _ _ _ _ _⟩) (fun x hx => by cases hx; have := H3.out.at_.lt; simp; omega)).mono ?_; rintro e w4 ⟨u, rfl, hat, hgw⟩; have H4 := Lib.hid (HN.out.draw hat hgw); have hz4 : w3.heap.size ≤ w4.heap.size := Nat.le_trans (by simp) hgw.size; obtain ⟨hc, hf⟩ := ownI_at H4.out.own H4.out.len (k := 0) (by rw [H4.out.len]; omega); obtain ⟨_, r2, r3⟩ := H4.out.bq; have hbz := H4.out.neb.2.2.2.1; clear hat hgw)
    refine hK.out _ _ ?_ (fun hH2 => ?_)
    · ((try dsimp only); (repeat' apply And.intro) <;> first | (with_reducible assumption) | (go_keep; done) | omega | (go_simp; done) | (go_simp; omega) | (simp; done) | (simp; omega))
    clear hK K hH1
    try simp only [Act.put, List.setIfInBounds_toArray, List.set_cons_zero, List.set_cons_succ]
    refine hold_plain 5 (v := ?_) hHC hH2 (by simp only [List.getElem?_toArray, List.getElem?_cons_succ, List.getElem?_cons_zero]; rfl) rfl (by kernel_rfl) ?_ ?_
    rotate_left 1
    · (intro w hSw; (try dsimp only at hSw); go_simp; try with_reducible rfl)
    try simp only [Act.put, List.setIfInBounds_toArray, List.set_cons_zero, List.set_cons_succ]
    refine hold_call0 6 (by simp only [List.getElem?_toArray, List.getElem?_cons_succ, List.getElem?_cons_zero]; rfl) rfl (by kernel_rfl) (fun K hK => ?_)
    go_simp
    refine hK.out _ _ ?_ (fun hH3 => ?_)
    · ((try dsimp only); (repeat' apply And.intro) <;> first | (with_reducible assumption) | (go_keep; done) | omega | (go_simp; done) | (go_simp; omega) | (simp; done) | (simp; omega))
    clear hK K hH2
    try simp only [Act.put, List.setIfInBounds_toArray, List.set_cons_zero, List.set_cons_succ]
    refine wpAnyH_done (by kernel_rfl) ?_ _
    (try dsimp only at hH3)
    go_split_ands
    clear hHC
    have H5 : Hid (RgL w0 w1 (w4.setCell ⟨b, 0, none⟩ (.int .i64 u)) g a n c p q b m d (rs.set 0 u)) := Lib.hid (by
      have h := H4.out
      obtain ⟨l0, l1, l2⟩ := h.lo
      obtain ⟨m1, m2, m3, m4, m5⟩ := h.neb
      exact ⟨h.at_.setR (by omega) m3 _, ownI_set h.own h.len 0 u, by rw [List.length_set]; exact h.len, h.pos, h.bq.far m1, h.bp.far m2, gr_new h.gr m5 _ _, h.ne, h.lo⟩)
    obtain ⟨wz, hwz⟩ : ∃ wz, wz = w4.setCell ⟨b, 0, none⟩ (.int .i64 u) := ⟨_, rfl⟩
    rw [← hwz] at H5 ⊢
    clear hwz hc hf
    obtain ⟨q1, q2, q3⟩ := H5.out.bq
    obtain ⟨p1, p2, p3⟩ := H5.out.bp
    have hpc : (wz.setCell ⟨p, 0, none⟩ (.slice (some ⟨b, 0, none⟩) m d)).cell? ⟨p, 0, none⟩ = some (.slice (some ⟨b, 0, none⟩) m d) := World.cell?_setCell_same _ _ _ p2
    go_wp2_with fail
    exact bodyPost_ret (v := .agg #[.slice (some ⟨b, 0, none⟩) m d]) (by simp [results, Try.results58, go_sem, hpc]) rfl (HEND.out wz _ _ _ _ (by omega) H5.out)
  · by_cases c1 : v = 1
    · subst c1
      go_wp2_with fail
      go_loopw [] (fun wr => ∃ (b m d : Nat) (rs : List Int), m ≤ 9 ∧ wr.cell? ⟨q, 0, none⟩ = some (.slice (some ⟨b, 0, none⟩) m d) ∧ Hid (RgL w0 w1 wr g a n c p q b m d rs)) (fun wr => 9 - (match wr.cell? ⟨q, 0, none⟩ with | some (.slice _ k _) => k | _ => 0))
      case atStart => exact ⟨b, m, d, rs, by omega, H3.out.bq.2.1, H3⟩
      case round =>
        clear H3
        obtain ⟨b, m, d, rs, hm9, hcq, HL⟩ := hrel
        obtain ⟨q1, q2, q3⟩ := HL.out.bq
        go_wp2_with fail
        refine hold_start (S := (fun w' => w'.cell? ⟨q, 0, none⟩ = some (.slice (some ⟨b, 0, none⟩) m d) ∧ wr.heap.size ≤ w'.heap.size)) (by kernel_rfl) (by kernel_rfl) (by intro _ _ d _ _ h; cases d <;> exact h) ?_ (fun hHC hH0 => ?_)
        · ((try dsimp only); (repeat' apply And.intro) <;> first | (with_reducible assumption) | (go_keep; done) | omega | (go_simp; done) | (go_simp; omega) | (simp; done) | (simp; omega))
        refine hold_plain 0 (v := ?_) hHC hH0 (by simp only [List.getElem?_toArray, List.getElem?_cons_succ, List.getElem?_cons_zero]; rfl) rfl (by kernel_rfl) ?_ ?_
        rotate_left 1
        · (intro w hSw; (try dsimp only at hSw); go_simp; try with_reducible rfl)
        try simp only [Act.put, List.setIfInBounds_toArray, List.set_cons_zero, List.set_cons_succ]
        refine hold_plain 1 (v := ?_) hHC hH0 (by simp only [List.getElem?_toArray, List.getElem?_cons_succ, List.getElem?_cons_zero]; rfl) rfl (by kernel_rfl) ?_ ?_
        rotate_left 1
        · (intro w hSw; (try dsimp only at hSw); go_simp; try with_reducible rfl)
        try simp only [Act.put, List.setIfInBounds_toArray, List.set_cons_zero, List.set_cons_succ]
        refine hold_plain 2 (v := ?_) hHC hH0 (by simp only [List.getElem?_toArray, List.getElem?_cons_succ, List.getElem?_cons_zero]; rfl) rfl (by kernel_rfl) ?_ ?_
        rotate_left 1
        · (intro w hSw; (try dsimp only at hSw); go_simp; try with_reducible rfl)
        try simp only [Act.put, List.setIfInBounds_toArray, List.set_cons_zero, List.set_cons_succ]
        refine hold_plain 3 (v := ?_) hHC hH0 (by simp only [List.getElem?_toArray, List.getElem?_cons_succ, List.getElem?_cons_zero]; rfl) rfl (by kernel_rfl) ?_ ?_
        rotate_left 1
        · (intro w hSw; (try dsimp only at hSw); go_simp; try with_reducible rfl)
        try simp only [Act.put, List.setIfInBounds_toArray, List.set_cons_zero, List.set_cons_succ]
        refine hold_call0 4 (by simp only [List.getElem?_toArray, List.getElem?_cons_succ, List.getElem?_cons_zero]; rfl) rfl (by kernel_rfl) (fun K hK => ?_)
        go_simp
        (refine (below_at HK.out HL.out.drew.at_ 2 (WalkArith.wf_i64 (by omega))).mono ?_; rintro e w4 ⟨u, rfl, ⟨hu0, hu1, -⟩, hat, hgw⟩; have hu2 := hu1 (by omega); have ew : IntKind.i64.wrap (8 + u) = 8 + u := (by rw [IntKind.wrap_i64]; omega); have H4 := Lib.hid (HL.out.drew.draw hat hgw); have hz4 : wr.heap.size ≤ w4.heap.size := hgw.size; obtain ⟨_, r2, r3⟩ := H4.out.bq; clear hat hgw hu1)
        refine hK.out _ _ ?_ (fun hH1 => ?_)
        · ((try dsimp only); (repeat' apply And.intro) <;> first | (with_reducible assumption) | (go_keep; done) | omega | (go_simp; done) | (go_simp; omega) | (simp; done) | (simp; omega))
        clear hK K hH0
        try simp only [Act.put, List.setIfInBounds_toArray, List.set_cons_zero, List.set_cons_succ]
        refine hold_plain 5 (v := ?_) hHC hH1 (by simp only [List.getElem?_toArray, List.getElem?_cons_succ, List.getElem?_cons_zero]; rfl) rfl (by kernel_rfl) ?_ ?_
        rotate_left 1
        · (intro w hSw; (try dsimp only at hSw); go_simp; try with_reducible rfl)
        try simp only [Act.put, List.setIfInBounds_toArray, List.set_cons_zero, List.set_cons_succ]
        refine hold_plain 6 (v := ?_) hHC hH1 (by simp only [List.getElem?_toArray, List.getElem?_cons_succ, List.getElem?_cons_zero]; rfl) rfl (by kernel_rfl) ?_ ?_
        rotate_left 1
        · (intro w hSw; (try dsimp only at hSw); go_simp; try with_reducible rfl)
        try simp only [Act.put, List.setIfInBounds_toArray, List.set_cons_zero, List.set_cons_succ]
        refine wpAnyH_done (by kernel_rfl) ?_ _
        (try dsimp only at hH1)
        go_split_ands
        clear hHC
        by_cases hlt : (m : Int) < 8 + u
        · have hm8 : m ≤ 8 := by omega
          clear q1 q2 q3
          go_wp2_with fail
          refine hold_start (S := (fun w' => w4.heap.size ≤ w'.heap.size)) (by kernel_rfl) (by kernel_rfl) (by intro _ _ d _ _ h; cases d <;> exact h) ?_ (fun hHC hH0 => ?_)
          · ((try dsimp only); (repeat' apply And.intro) <;> first | (with_reducible assumption) | (go_keep; done) | omega | (go_simp; done) | (go_simp; omega) | (simp; done) | (simp; omega))
          refine hold_plain 0 (v := ?_) hHC hH0 (by simp only [List.getElem?_toArray, List.getElem?_cons_succ, List.getElem?_cons_zero]; rfl) rfl (by kernel_rfl) ?_ ?_
          rotate_left 1
          · (intro w hSw; (try dsimp only at hSw); go_simp; try with_reducible rfl)
          try simp only [Act.put, List.setIfInBounds_toArray, List.set_cons_zero, List.set_cons_succ]
          refine hold_plain 2 (v := ?_) hHC hH0 (by simp only [List.getElem?_toArray, List.getElem?_cons_succ, List.getElem?_cons_zero]; rfl) rfl (by kernel_rfl) ?_ ?_
          rotate_left 1
          · (intro w hSw; (try dsimp only at hSw); go_simp; try with_reducible rfl)
          try simp only [Act.put, List.setIfInBounds_toArray, List.set_cons_zero, List.set_cons_succ]
          refine hold_two 1 3 (by simp only [List.getElem?_toArray, List.getElem?_cons_succ, List.getElem?_cons_zero]; rfl) rfl (by simp only [List.getElem?_toArray, List.getElem?_cons_succ, List.getElem?_cons_zero]; rfl) rfl (by kernel_rfl) (fun K hK => ?_) (fun K hK => ?_)
          focus
            go_simp
            refine hK.out _ _ ?_ (fun hH1 => ?_)
            · ((try dsimp only); (repeat' apply And.intro) <;> first | (with_reducible assumption) | (go_keep; done) | omega | (go_simp; done) | (go_simp; omega) | (simp; done) | (simp; omega))
            clear hK K hH0
            try simp only [Act.put, List.setIfInBounds_toArray, List.set_cons_zero, List.set_cons_succ]
            refine hold_call0 3 (by simp only [List.getElem?_toArray, List.getElem?_cons_succ, List.getElem?_cons_zero]; rfl) rfl (by kernel_rfl) (fun K hK => ?_)
            go_simp
            first | (refine (below_at HK.out H4.out.drew.at_ 4 (WalkArith.wf_i64 (by omega))).mono ?_; rintro e w5 ⟨z, rfl, ⟨hz0', hz1', -⟩, hat, hgw⟩; have H5 := Lib.hid (H4.out.drew.draw hat hgw); have hz5 : w4.heap.size ≤ w5.heap.size := hgw.size; obtain ⟨t1, t2, t3⟩ := H5.out.bq; have hbz := H5.out.lo; clear hat hgw hz1') | (refine wp_append_own _ _ _ 22 rfl w1.heap.size 3 i0 (.int .i64 0) 1 8 Try.underlying22 hi hz0 hz1 hz2 rfl (by decide) (.slice (some ⟨b, 0, none⟩) m d) m (flatI rs) (by rfl) (World.ownsRow.alloc H5.out.row0 _) ⟨w5.heap.size, 0, none⟩ 1 1 [.int .i64 z] (by rfl) rfl (one_new _ _ _) (by intro u hu; simp at hu; subst hu; rfl) (by unfold maxLen; omega) (by omega) (by simp; omega) ?_; intro v3 w6 hown3 hgrow3 hnil3; obtain ⟨b', d', rfl, ⟨s1, s2, s3⟩, hz6, h6⟩ := H5.out.app hown3 hgrow3; have H6 := Lib.hid h6; have hz6' : w4.heap.size ≤ w6.heap.size := Nat.le_trans hz5 hz6; clear hown3 hgrow3 hnil3 h6)
            refine hK.out _ _ ?_ (fun hH2 => ?_)
            · ((try dsimp only); (repeat' apply And.intro) <;> first | (with_reducible assumption) | (go_keep; done) | omega | (go_simp; done) | (go_simp; omega) | (simp; done) | (simp; omega))
            clear hK K hH1
            try simp only [Act.put, List.setIfInBounds_toArray, List.set_cons_zero, List.set_cons_succ]
            refine hold_call0 4 (by simp only [List.getElem?_toArray, List.getElem?_cons_succ, List.getElem?_cons_zero]; rfl) rfl (by kernel_rfl) (fun K hK => ?_)
            go_simp
            refine hK.out _ _ ?_ (fun hH3 => ?_)
            · ((try dsimp only); (repeat' apply And.intro) <;> first | (with_reducible assumption) | (go_keep; done) | omega | (go_simp; done) | (go_simp; omega) | (simp; done) | (simp; omega))
            clear hK K hH2
            try simp only [Act.put, List.setIfInBounds_toArray, List.set_cons_zero, List.set_cons_succ]
            refine hold_call0 5 (by simp only [List.getElem?_toArray, List.getElem?_cons_succ, List.getElem?_cons_zero]; rfl) rfl (by kernel_rfl) (fun K hK => ?_)
            first | (refine (below_at HK.out H4.out.drew.at_ 4 (WalkArith.wf_i64 (by omega))).mono ?_; rintro e w5 ⟨z, rfl, ⟨hz0', hz1', -⟩, hat, hgw⟩; have H5 := Lib.hid (H4.out.drew.draw hat hgw); have hz5 : w4.heap.size ≤ w5.heap.size := hgw.size; obtain ⟨t1, t2, t3⟩ := H5.out.bq; have hbz := H5.out.lo; clear hat hgw hz1') | (refine wp_append_own _ _ _ 22 rfl w1.heap.size 3 i0 (.int .i64 0) 1 8 Try.underlying22 hi hz0 hz1 hz2 rfl (by decide) (.slice (some ⟨b, 0, none⟩) m d) m (flatI rs) (by rfl) (World.ownsRow.alloc H5.out.row0 _) ⟨w5.heap.size, 0, none⟩ 1 1 [.int .i64 z] (by rfl) rfl (one_new _ _ _) (by intro u hu; simp at hu; subst hu; rfl) (by unfold maxLen; omega) (by omega) (by simp; omega) ?_; intro v3 w6 hown3 hgrow3 hnil3; obtain ⟨b', d', rfl, ⟨s1, s2, s3⟩, hz6, h6⟩ := H5.out.app hown3 hgrow3; have H6 := Lib.hid h6; have hz6' : w4.heap.size ≤ w6.heap.size := Nat.le_trans hz5 hz6; clear hown3 hgrow3 hnil3 h6)
            refine hK.out _ _ ?_ (fun hH4 => ?_)
            · ((try dsimp only); (repeat' apply And.intro) <;> first | (with_reducible assumption) | (go_keep; done) | omega | (go_simp; done) | (go_simp; omega) | (simp; done) | (simp; omega))
            clear hK K hH3
            try simp only [Act.put, List.setIfInBounds_toArray, List.set_cons_zero, List.set_cons_succ]
            refine hold_plain 6 (v := ?_) hHC hH4 (by simp only [List.getElem?_toArray, List.getElem?_cons_succ, List.getElem?_cons_zero]; rfl) rfl (by kernel_rfl) ?_ ?_
            rotate_left 1
            · (intro w hSw; (try dsimp only at hSw); go_simp; try with_reducible rfl)
            try simp only [Act.put, List.setIfInBounds_toArray, List.set_cons_zero, List.set_cons_succ]
            refine hold_call0 7 (by simp only [List.getElem?_toArray, List.getElem?_cons_succ, List.getElem?_cons_zero]; rfl) rfl (by kernel_rfl) (fun K hK => ?_)
            go_simp
            refine hK.out _ _ ?_ (fun hH5 => ?_)
            · ((try dsimp only); (repeat' apply And.intro) <;> first | (with_reducible assumption) | (go_keep; done) | omega | (go_simp; done) | (go_simp; omega) | (simp; done) | (simp; omega))
            clear hK K hH4
            try simp only [Act.put, List.setIfInBounds_toArray, List.set_cons_zero, List.set_cons_succ]
            refine wpAnyH_done (by kernel_rfl) ?_ _
            (try dsimp only at hH5)
            go_split_ands
            clear hHC
          rotate_left 1
          focus
            go_simp
            first | (refine (below_at HK.out H4.out.drew.at_ 4 (WalkArith.wf_i64 (by omega))).mono ?_; rintro e w5 ⟨z, rfl, ⟨hz0', hz1', -⟩, hat, hgw⟩; have H5 := Lib.hid (H4.out.drew.draw hat hgw); have hz5 : w4.heap.size ≤ w5.heap.size := hgw.size; obtain ⟨t1, t2, t3⟩ := H5.out.bq; have hbz := H5.out.lo; clear hat hgw hz1') | (refine wp_append_own _ _ _ 22 rfl w1.heap.size 3 i0 (.int .i64 0) 1 8 Try.underlying22 hi hz0 hz1 hz2 rfl (by decide) (.slice (some ⟨b, 0, none⟩) m d) m (flatI rs) (by rfl) (World.ownsRow.alloc H5.out.row0 _) ⟨w5.heap.size, 0, none⟩ 1 1 [.int .i64 z] (by rfl) rfl (one_new _ _ _) (by intro u hu; simp at hu; subst hu; rfl) (by unfold maxLen; omega) (by omega) (by simp; omega) ?_; intro v3 w6 hown3 hgrow3 hnil3; obtain ⟨b', d', rfl, ⟨s1, s2, s3⟩, hz6, h6⟩ := H5.out.app hown3 hgrow3; have H6 := Lib.hid h6; have hz6' : w4.heap.size ≤ w6.heap.size := Nat.le_trans hz5 hz6; clear hown3 hgrow3 hnil3 h6)
            refine hK.out _ _ ?_ (fun hH1 => ?_)
            · ((try dsimp only); (repeat' apply And.intro) <;> first | (with_reducible assumption) | (go_keep; done) | omega | (go_simp; done) | (go_simp; omega) | (simp; done) | (simp; omega))
            clear hK K hH0
            try simp only [Act.put, List.setIfInBounds_toArray, List.set_cons_zero, List.set_cons_succ]
            refine hold_two 1 4 (by simp only [List.getElem?_toArray, List.getElem?_cons_succ, List.getElem?_cons_zero]; rfl) rfl (by simp only [List.getElem?_toArray, List.getElem?_cons_succ, List.getElem?_cons_zero]; rfl) rfl (by kernel_rfl) (fun K hK => ?_) (fun K hK => ?_)
            focus
              go_simp
              refine hK.out _ _ ?_ (fun hH2 => ?_)
              · ((try dsimp only); (repeat' apply And.intro) <;> first | (with_reducible assumption) | (go_keep; done) | omega | (go_simp; done) | (go_simp; omega) | (simp; done) | (simp; omega))
              clear hK K hH1
              try simp only [Act.put, List.setIfInBounds_toArray, List.set_cons_zero, List.set_cons_succ]
              refine hold_call0 4 (by simp only [List.getElem?_toArray, List.getElem?_cons_succ, List.getElem?_cons_zero]; rfl) rfl (by kernel_rfl) (fun K hK => ?_)
              go_simp
              refine hK.out _ _ ?_ (fun hH3 => ?_)
              · ((try dsimp only); (repeat' apply And.intro) <;> first | (with_reducible assumption) | (go_keep; done) | omega | (go_simp; done) | (go_simp; omega) | (simp; done) | (simp; omega))
              clear hK K hH2
              try simp only [Act.put, List.setIfInBounds_toArray, List.set_cons_zero, List.set_cons_succ]
              refine hold_call0 5 (by simp only [List.getElem?_toArray, List.getElem?_cons_succ, List.getElem?_cons_zero]; rfl) rfl (by kernel_rfl) (fun K hK => ?_)
              first | (refine (below_at HK.out H4.out.drew.at_ 4 (WalkArith.wf_i64 (by omega))).mono ?_; rintro e w5 ⟨z, rfl, ⟨hz0', hz1', -⟩, hat, hgw⟩; have H5 := Lib.hid (H4.out.drew.draw hat hgw); have hz5 : w4.heap.size ≤ w5.heap.size := hgw.size; obtain ⟨t1, t2, t3⟩ := H5.out.bq; have hbz := H5.out.lo; clear hat hgw hz1') | (refine wp_append_own _ _ _ 22 rfl w1.heap.size 3 i0 (.int .i64 0) 1 8 Try.underlying22 hi hz0 hz1 hz2 rfl (by decide) (.slice (some ⟨b, 0, none⟩) m d) m (flatI rs) (by rfl) (World.ownsRow.alloc H5.out.row0 _) ⟨w5.heap.size, 0, none⟩ 1 1 [.int .i64 z] (by rfl) rfl (one_new _ _ _) (by intro u hu; simp at hu; subst hu; rfl) (by unfold maxLen; omega) (by omega) (by simp; omega) ?_; intro v3 w6 hown3 hgrow3 hnil3; obtain ⟨b', d', rfl, ⟨s1, s2, s3⟩, hz6, h6⟩ := H5.out.app hown3 hgrow3; have H6 := Lib.hid h6; have hz6' : w4.heap.size ≤ w6.heap.size := Nat.le_trans hz5 hz6; clear hown3 hgrow3 hnil3 h6)
              refine hK.out _ _ ?_ (fun hH4 => ?_)
              · ((try dsimp only); (repeat' apply And.intro) <;> first | (with_reducible assumption) | (go_keep; done) | omega | (go_simp; done) | (go_simp; omega) | (simp; done) | (simp; omega))
              clear hK K hH3
              try simp only [Act.put, List.setIfInBounds_toArray, List.set_cons_zero, List.set_cons_succ]
              refine hold_plain 6 (v := ?_) hHC hH4 (by simp only [List.getElem?_toArray, List.getElem?_cons_succ, List.getElem?_cons_zero]; rfl) rfl (by kernel_rfl) ?_ ?_
              rotate_left 1
              · (intro w hSw; (try dsimp only at hSw); go_simp; try with_reducible rfl)
              try simp only [Act.put, List.setIfInBounds_toArray, List.set_cons_zero, List.set_cons_succ]
              refine hold_call0 7 (by simp only [List.getElem?_toArray, List.getElem?_cons_succ, List.getElem?_cons_zero]; rfl) rfl (by kernel_rfl) (fun K hK => ?_)
              go_simp
              refine hK.out _ _ ?_ (fun hH5 => ?_)
              · ((try dsimp only); (repeat' apply And.intro) <;> first | (with_reducible assumption) | (go_keep; done) | omega | (go_simp; done) | (go_simp; omega) | (simp; done) | (simp; omega))
              clear hK K hH4
              try simp only [Act.put, List.setIfInBounds_toArray, List.set_cons_zero, List.set_cons_succ]
              refine wpAnyH_done (by kernel_rfl) ?_ _
              (try dsimp only at hH5)
              go_split_ands
              clear hHC
            rotate_left 1
            focus
              go_simp
              refine hK.out _ _ ?_ (fun hH2 => ?_)
              · ((try dsimp only); (repeat' apply And.intro) <;> first | (with_reducible assumption) | (go_keep; done) | omega | (go_simp; done) | (go_simp; omega) | (simp; done) | (simp; omega))
              clear hK K hH1
              try simp only [Act.put, List.setIfInBounds_toArray, List.set_cons_zero, List.set_cons_succ]
              refine hold_call0 1 (by simp only [List.getElem?_toArray, List.getElem?_cons_succ, List.getElem?_cons_zero]; rfl) rfl (by kernel_rfl) (fun K hK => ?_)
              go_simp
              refine hK.out _ _ ?_ (fun hH3 => ?_)
              · ((try dsimp only); (repeat' apply And.intro) <;> first | (with_reducible assumption) | (go_keep; done) | omega | (go_simp; done) | (go_simp; omega) | (simp; done) | (simp; omega))
              clear hK K hH2
              try simp only [Act.put, List.setIfInBounds_toArray, List.set_cons_zero, List.set_cons_succ]
              refine hold_call0 5 (by simp only [List.getElem?_toArray, List.getElem?_cons_succ, List.getElem?_cons_zero]; rfl) rfl (by kernel_rfl) (fun K hK => ?_)
              first | (refine (below_at HK.out H4.out.drew.at_ 4 (WalkArith.wf_i64 (by omega))).mono ?_; rintro e w5 ⟨z, rfl, ⟨hz0', hz1', -⟩, hat, hgw⟩; have H5 := Lib.hid (H4.out.drew.draw hat hgw); have hz5 : w4.heap.size ≤ w5.heap.size := hgw.size; obtain ⟨t1, t2, t3⟩ := H5.out.bq; have hbz := H5.out.lo; clear hat hgw hz1') | (refine wp_append_own _ _ _ 22 rfl w1.heap.size 3 i0 (.int .i64 0) 1 8 Try.underlying22 hi hz0 hz1 hz2 rfl (by decide) (.slice (some ⟨b, 0, none⟩) m d) m (flatI rs) (by rfl) (World.ownsRow.alloc H5.out.row0 _) ⟨w5.heap.size, 0, none⟩ 1 1 [.int .i64 z] (by rfl) rfl (one_new _ _ _) (by intro u hu; simp at hu; subst hu; rfl) (by unfold maxLen; omega) (by omega) (by simp; omega) ?_; intro v3 w6 hown3 hgrow3 hnil3; obtain ⟨b', d', rfl, ⟨s1, s2, s3⟩, hz6, h6⟩ := H5.out.app hown3 hgrow3; have H6 := Lib.hid h6; have hz6' : w4.heap.size ≤ w6.heap.size := Nat.le_trans hz5 hz6; clear hown3 hgrow3 hnil3 h6)
              refine hK.out _ _ ?_ (fun hH4 => ?_)
              · ((try dsimp only); (repeat' apply And.intro) <;> first | (with_reducible assumption) | (go_keep; done) | omega | (go_simp; done) | (go_simp; omega) | (simp; done) | (simp; omega))
              clear hK K hH3
              try simp only [Act.put, List.setIfInBounds_toArray, List.set_cons_zero, List.set_cons_succ]
              refine hold_plain 6 (v := ?_) hHC hH4 (by simp only [List.getElem?_toArray, List.getElem?_cons_succ, List.getElem?_cons_zero]; rfl) rfl (by kernel_rfl) ?_ ?_
              rotate_left 1
              · (intro w hSw; (try dsimp only at hSw); go_simp; try with_reducible rfl)
              try simp only [Act.put, List.setIfInBounds_toArray, List.set_cons_zero, List.set_cons_succ]
              refine hold_call0 7 (by simp only [List.getElem?_toArray, List.getElem?_cons_succ, List.getElem?_cons_zero]; rfl) rfl (by kernel_rfl) (fun K hK => ?_)
              go_simp
              refine hK.out _ _ ?_ (fun hH5 => ?_)
              · ((try dsimp only); (repeat' apply And.intro) <;> first | (with_reducible assumption) | (go_keep; done) | omega | (go_simp; done) | (go_simp; omega) | (simp; done) | (simp; omega))
              clear hK K hH4
              try simp only [Act.put, List.setIfInBounds_toArray, List.set_cons_zero, List.set_cons_succ]
              refine wpAnyH_done (by kernel_rfl) ?_ _
              (try dsimp only at hH5)
              go_split_ands
              clear hHC
          all_goals (
            obtain ⟨wz, hwz⟩ : ∃ wz, wz = w6.setCell ⟨q, 0, none⟩ (.slice (some ⟨b', 0, none⟩) (m + 1) d') := ⟨_, rfl⟩
            rw [← hwz] at H6 ⊢
            have hcz := H6.out.bq.2.1
            clear hwz
            go_wp2_with fail
            go_roundw
            case rel => exact ⟨b', m + 1, d', _, by omega, hcz, H6⟩
            case measure => rw [hcz]; first | (rw [hcq]; simp; omega) | (simp; omega))
        · clear q1 q2 q3
          obtain ⟨q1, q2, q3⟩ := H4.out.bq
          obtain ⟨p1, p2, p3⟩ := H4.out.bp
          have hpc : (w4.setCell ⟨p, 0, none⟩ (.slice (some ⟨b, 0, none⟩) m d)).cell? ⟨p, 0, none⟩ = some (.slice (some ⟨b, 0, none⟩) m d) := World.cell?_setCell_same _ _ _ p2
          go_wp2_with fail
          exact bodyPost_ret (v := .agg #[.slice (some ⟨b, 0, none⟩) m d]) (by simp [results, Try.results58, go_sem, hpc]) rfl (by obtain ⟨b1, m1, d1, r1, h1, h2⟩ := HEND.out w4 _ _ _ _ hm9 H4.out; exact ⟨b1, m1, ⟨d1, h1⟩, r1, h2⟩)
    · by_cases c2 : v = 2
      · subst c2
        obtain ⟨q1, q2, q3⟩ := H3.out.bq
        obtain ⟨p1, p2, p3⟩ := H3.out.bp
        have X5 : Box1 (w3.setCell ⟨q, 0, none⟩ (.slice (some ⟨b, 0, none⟩) 0 d)) p (.slice none 0 0) := H3.out.bp.far n3'
        have Y5 : Box1 (w3.setCell ⟨q, 0, none⟩ (.slice (some ⟨b, 0, none⟩) 0 d)) q (.slice (some ⟨b, 0, none⟩) 0 d) := H3.out.bq.put _
        have hBz : Below w0.heap.size w0 ((w3.setCell ⟨q, 0, none⟩ (.slice (some ⟨b, 0, none⟩) 0 d)).setCell ⟨p, 0, none⟩ (.slice (some ⟨b, 0, none⟩) 0 d)) := by
          obtain ⟨l0, l1, l2⟩ := H3.out.lo
          exact (H3.out.at_.1.setCell (p := ⟨q, 0, none⟩) (by simp; omega) _).setCell (p := ⟨p, 0, none⟩) (by simp; omega) _
        have hGz : w1.grownBy ((w3.setCell ⟨q, 0, none⟩ (.slice (some ⟨b, 0, none⟩) 0 d)).setCell ⟨p, 0, none⟩ (.slice (some ⟨b, 0, none⟩) 0 d)) (some g) := by
          obtain ⟨l0, l1, l2⟩ := H3.out.lo
          exact gr_new (gr_new H3.out.gr l1 _ _) l2 _ _
        have HBz := Lib.hid hBz
        have HGz := Lib.hid hGz
        clear hGz
        have hpc : ((w3.setCell ⟨q, 0, none⟩ (.slice (some ⟨b, 0, none⟩) 0 d)).setCell ⟨p, 0, none⟩ (.slice (some ⟨b, 0, none⟩) 0 d)).cell? ⟨p, 0, none⟩ = some (.slice (some ⟨b, 0, none⟩) 0 d) := World.cell?_setCell_same _ _ _ X5.2.1
        obtain ⟨x1, x2, x3⟩ := X5
        obtain ⟨y1, y2, y3⟩ := Y5
        clear hBz
        go_wp2_with fail
        exact bodyPost_ret (v := .agg #[.slice (some ⟨b, 0, none⟩) 0 d]) (by simp [results, Try.results58, go_sem, hpc]) rfl ⟨_, 0, d, [], rfl, rfl, by omega, .inl rfl, HBz.out, HGz.out⟩
      · have k0 : (v == 0) = false := by rw [beq_eq_false_iff_ne]; exact c0
        have k1 : (v == 1) = false := by rw [beq_eq_false_iff_ne]; exact c1
        have k2 : (v == 2) = false := by rw [beq_eq_false_iff_ne]; exact c2
        obtain ⟨q1, q2, q3⟩ := H3.out.bq
        obtain ⟨p1, p2, p3⟩ := H3.out.bp
        have hpc : (w3.setCell ⟨p, 0, none⟩ (.slice (some ⟨b, 0, none⟩) m d)).cell? ⟨p, 0, none⟩ = some (.slice (some ⟨b, 0, none⟩) m d) := World.cell?_setCell_same _ _ _ p2
        go_wp2_with fail
        exact bodyPost_ret (v := .agg #[.slice (some ⟨b, 0, none⟩) m d]) (by simp [results, Try.results58, go_sem, hpc]) rfl (HEND.out w3 _ _ _ _ (by omega) H3.out)
--end l03Any
theorem rd_far {w : World} {ad : Option Addr} {rs : List Int} {p : Nat} (h : RdI w ad rs) (hp : Box1 w p (.slice none 0 0)) (u : Value) : RdI (w.setCell ⟨p, 0, none⟩ u) ad rs := by
  rcases h with h | ⟨b, off, e, h2, h3⟩
  · exact .inl h
  · refine .inr ⟨b, off, e, by simpa [World.setCell] using h2, fun j hj => ?_⟩
    have h4 := h3 j hj
    rw [← h4]
    apply World.cell?_setCell_other
    intro e2
    have e3 : b = p ∧ off + j = 0 := by simp at e2; omega
    rw [e3.1, e3.2, hp.2.1] at h4
    rw [List.getElem?_map] at h4
    cases hx : rs[j]? with
    | none => rw [hx] at h4; simp at h4
    | some z => rw [hx] at h4; simp at h4
set_option maxHeartbeats 3200000 in
set_option maxRecDepth 100000 in
theorem drawHol_any (a : Option Addr) (n c : Nat) (zs : List Int) (w : World) (K : CodeOk w a n zs) :
    Calls Try.prog 25 #[.slice a n c] w fun e w' => ∃ (ad : Option Addr) (m d : Nat) (rs : List Int), e = .returned (.agg #[.slice ad m d]) ∧ rs.length = m ∧ m ≤ 9 ∧ RdI w' ad rs ∧ Below w.heap.size w w' := by
  have HK := Lib.hid K
  have e0 : Below w.heap.size w (w.alloc (.cells #[.slice none 0 0] 27)) := Below.alloc (Below.refl _ _) (Nat.le_refl _) _
  have HE0 := Lib.hid e0
  have HP := Lib.hid (Box1.new w (.slice none 0 0) 27)
  clear K e0
  go_enter Try.func25, Try.ntmps25
  go_wp2_with (go_at_call 54; fail)
  refine (l01New_any a n c zs _ HK.out.len HK.out.le HK.out.bytes (Rd.below HK.out.rd HE0.out)).mono ?_
  rintro e w2 ⟨g, rfl, hg, hc, hb⟩
  simp at hg
  have hs2 := hb.size
  simp at hs2
  have P2 := Lib.hid (HP.out.below hb)
  have H2 : Hid (At w w2 g a n c) := Lib.hid ⟨HE0.out.trans (hb.mono (by simp)), hc, by omega⟩
  have G2 : Hid (w.grownBy w2 (some g)) := Lib.hid (gr_below (gc_alloc (World.grownBy.refl _ _) _) hb)
  have hpg : w.heap.size ≠ g := by omega
  clear hb hc HP HE0 hs2 hg
  go_wp2_with (go_at_call 55; fail)
  refine (once_at HK.out H2.out 3 (WalkArith.wf_i64 (by omega))).mono ?_
  rintro e w3 ⟨β, rfl, hat, hgw⟩
  have P3 := Lib.hid (P2.out.grown hgw hpg)
  have H3 := Lib.hid hat
  have G3 := Lib.hid (gc_step G2.out hgw)
  clear hat hgw P2 H2 G2
  cases β
  · go_wp2_with (go_at_call 58; fail)
    refine (l03Any_at HK.out H3.out).mono ?_
    rintro e w4 ⟨ad, m, d, rs, rfl, hlen, hm9, hrd, hB4, hgw⟩
    have P4 := P3.out.grown hgw hpg
    have HR4 := Lib.hid (rd_far hrd P4 (.slice ad m d))
    have HB4 : Hid (Below w.heap.size w (w4.setCell ⟨w.heap.size, 0, none⟩ (.slice ad m d))) := Lib.hid (hB4.setCell (p := ⟨w.heap.size, 0, none⟩) (Nat.le_refl _) _)
    have HL4 := Lib.hid hlen
    have hpc : (w4.setCell ⟨w.heap.size, 0, none⟩ (.slice ad m d)).cell? ⟨w.heap.size, 0, none⟩ = some (.slice ad m d) := World.cell?_setCell_same _ _ _ P4.2.1
    obtain ⟨p1, p2, p3⟩ := P4
    clear hrd hB4 hgw hlen P3 H3 G3
    go_wp2_with fail
    exact bodyPost_ret (v := .agg #[.slice ad m d]) (by simp [results, Try.results25, go_sem, hpc]) rfl ⟨_, _, _, rs, rfl, HL4.out, hm9, HR4.out, HB4.out⟩
  · go_wp2_with (go_at_call 57; fail)
    refine (below_at HK.out H3.out 4 (WalkArith.wf_i64 (by omega))).mono ?_
    rintro e w4 ⟨v, rfl, ⟨hv0, hv1, -⟩, hat, hgw⟩
    have hv2 := hv1 (by omega)
    have P4 := Lib.hid (P3.out.grown hgw hpg)
    have G4 := Lib.hid (gc_step G3.out hgw)
    have H4 := Lib.hid hat
    clear hv1 hat hgw H3 P3 G3
    go_wp2_with (go_at_call 57; fail)
    refine (below_at HK.out H4.out 3 (WalkArith.wf_i64 (by omega))).mono ?_
    rintro e w5 ⟨u, rfl, ⟨hu0, hu1, -⟩, hat, hgw⟩
    have hu2 := hu1 (by omega)
    have P5 := Lib.hid (P4.out.grown hgw hpg)
    have G5 := Lib.hid (gc_step G4.out hgw)
    have H5 := Lib.hid hat
    clear hu1 hat hgw H4 P4 G4
    obtain ⟨W, hW⟩ : ∃ W : Nat, 3 + v = W := ⟨(3 + v).toNat, by omega⟩
    obtain ⟨H, hH⟩ : ∃ H : Nat, 3 + u = H := ⟨(3 + u).toNat, by omega⟩
    have hW3 : 3 ≤ W := by omega
    have hW6 : W ≤ 6 := by omega
    have hH3 : 3 ≤ H := by omega
    have hH5 : H ≤ 5 := by omega
    clear hv0 hv2 hu0 hu2
    go_wp2_with (go_at_call 56; fail)
    refine (rect_at W H _ _ _ (by omega) (by omega) (by omega) (by omega) (by omega) (by omega)).mono ?_
    rintro e w6 ⟨b, d, rs, rfl, hO, hlen, hval, -, hb⟩
    have hs5 := G5.out.size
    have hbl := World.ownsRow.lt hO b rfl
    have hg5 := H5.out.lt
    have hp5 := P5.out.1
    have HS : Hid (RgS w w (w6.alloc (.cells #[.slice (some ⟨b, 0, none⟩) H d] 27)) g a n c w.heap.size w6.heap.size b H d rs) := Lib.hid (by
      have e1 : Below w6.heap.size w6 (w6.alloc (.cells #[.slice (some ⟨b, 0, none⟩) H d] 27)) := Below.alloc (Below.refl _ _) (Nat.le_refl _) _
      have hs6 := hb.size
      exact ⟨(H5.out.below hb).alloc _, ownI_low (OwnI.below hO e1) hs5, hlen, hval, Box1.new w6 _ _, (P5.out.below hb).below e1, gc_alloc (gr_below G5.out hb) _, ⟨by omega, by omega, by omega, hpg, by omega, by omega⟩, ⟨Nat.le_refl _, by omega, by omega, Nat.le_refl _⟩⟩)
    clear hO hlen hval hbl hg5 hp5 hs5 P5 G5 H5 hb
    go_wp2_with (go_at_call 57; fail)
    obtain ⟨wa, hwa⟩ : ∃ wa, wa = w6.alloc (.cells #[.slice (some ⟨b, 0, none⟩) H d] 27) := ⟨_, rfl⟩
    rw [← hwa] at HS ⊢
    obtain ⟨q, hq⟩ : ∃ q, q = w6.heap.size := ⟨_, rfl⟩
    rw [← hq] at HS ⊢
    have HEND : Hid (∀ (wf : World) (rs : List Int), RgS w w wf g a n c w.heap.size q b H d rs → (∃ (ad : Option Addr) (m d' : Nat) (rs : List Int), Ending.returned (.agg #[.slice (some ⟨b, 0, none⟩) H d]) = .returned (.agg #[.slice ad m d']) ∧ rs.length = m ∧ m ≤ 9 ∧ RdI (wf.setCell ⟨w.heap.size, 0, none⟩ (.slice (some ⟨b, 0, none⟩) H d)) ad rs ∧ Below w.heap.size w (wf.setCell ⟨w.heap.size, 0, none⟩ (.slice (some ⟨b, 0, none⟩) H d)))) := Lib.hid (by
      intro wf rs h
      have hf := (h.toL (by omega)).fin (.slice (some ⟨b, 0, none⟩) H d)
      exact ⟨_, H, d, rs, rfl, h.len, by omega, hf.1, hf.2.1⟩)
    clear hwa hq hpg
    refine (below_at HK.out HS.out.at_ 3 (WalkArith.wf_i64 (by omega))).mono ?_
    rintro e w7 ⟨k0, rfl, ⟨hk0, hk1, -⟩, hat, hgw⟩
    have hk2 := hk1 (by omega)
    have HS7 := Lib.hid (HS.out.draw hat hgw)
    obtain ⟨n1, n2, n3, n4, n5, n6⟩ := HS.out.ne
    have n1' : ¬ b = q := fun e => n1 e.symm
    have n2' : ¬ b = w.heap.size := fun e => n2 e.symm
    clear hat hgw HS hk1
    go_wp2_with fail
    go_loopw [5] (fun kv wr => ∃ (k : Int) (rs : List Int), kv = .int .i64 k ∧ 0 ≤ k ∧ k ≤ 3 ∧ Hid (RgS w w wr g a n c w.heap.size q b H d rs)) (fun kv _ => (intOf kv).toNat)
    case atStart => exact ⟨1 + k0, rs, rfl, by omega, by omega, HS7⟩
    case round =>
      clear HS7
      obtain ⟨k, rs, rfl, hk0, hk4, HS⟩ := hrel
      obtain ⟨q1, q2, q3⟩ := HS.out.bq
      by_cases hlt : 0 < k
      · have hH2 : (0 : Int) < (H : Int) - 2 := by omega
        go_wp2_with (go_at_call 57; fail)
        refine (below_at HK.out HS.out.at_ ((H : Int) - 2) (WalkArith.wf_i64 (by omega))).mono ?_
        rintro e w8 ⟨y, rfl, ⟨hy0, hy1, -⟩, hat, hgw⟩
        have hy2 := hy1 (by omega)
        have HS8 := Lib.hid (HS.out.draw hat hgw)
        clear hat hgw HS hy1 q1 q2 q3
        obtain ⟨Y, hY⟩ : ∃ Y : Nat, 1 + y = Y := ⟨(1 + y).toNat, by omega⟩
        have hYH : Y < H := by omega
        clear hy2 hy0
        go_wp2_with (go_at_call 57; fail)
        refine (below_at HK.out HS8.out.at_ 3 (WalkArith.wf_i64 (by omega))).mono ?_
        rintro e w9 ⟨x, rfl, ⟨hx0, hx1, -⟩, hat, hgw⟩
        have hx2 := hx1 (by omega)
        have HS9 := Lib.hid (HS8.out.draw hat hgw)
        clear hat hgw HS8 hx1
        obtain ⟨X, hX⟩ : ∃ X : Nat, 1 + x = X := ⟨(1 + x).toNat, by omega⟩
        have hX8 : X < 8 := by omega
        clear hx2 hx0
        obtain ⟨m, hm, hc, hf, hbl⟩ := HS9.out.row (k := Y) hYH
        obtain ⟨q1, q2, q3⟩ := HS9.out.bq
        have e1 : bits .and .i64 ((m : Int) / 2 ^ X) 1 = ((m / 2 ^ X % 2 : Nat) : Int) := row_bit hm
        have hYI : (Y : Int) < (H : Int) := by omega
        by_cases ht : m.testBit X = true
        · have hts : ((m : Int) / 2 ^ X % 2 == 1) = true := by rw [bit_test, ← testBit_mod]; exact ht
          have hle := rp_le hm hX8 ht
          have eP := rp_pow (x := X) hX8
          obtain ⟨P, hP⟩ : ∃ P : Nat, P = 2 ^ X := ⟨_, rfl⟩
          have HPZ : Hid ((P : Int) = 2 ^ X) := Lib.hid (by rw [hP]; simp)
          rw [← hP] at eP hle
          obtain ⟨r, hr⟩ : ∃ r : Nat, r = m - P := ⟨_, rfl⟩
          have e2 : (m : Int) - (P : Int) = (r : Int) := by omega
          have e5 : IntKind.i64.wrap (r : Int) = (r : Int) := by rw [IntKind.wrap_i64]; omega
          have e4 : (m : Int) - 2 ^ X = (r : Int) := by rw [← HPZ.out]; exact e2
          have hr255 : r ≤ 255 := by omega
          have HS10 := Lib.hid ((HS9.out.put Y (r : Int) (by omega) (by omega)).drew)
          clear ht hP hr hle
          go_wp2_with fail
          refine hold_start (S := (fun w' => w'.cell? ⟨q, 0, none⟩ = some (.slice (some ⟨b, 0, none⟩) H d) ∧ w9.heap.size ≤ w'.heap.size)) (by kernel_rfl) (by kernel_rfl) (by intro _ _ d _ _ h; cases d <;> exact h) ?_ (fun hHC hH0 => ?_)
          · (first | (go_keep; done) | ((try go_split_ands); (repeat' apply And.intro) <;> first | assumption | (with_reducible refine Rd.below ?_ hb1; assumption) | (with_reducible refine Rd.drew ?_; repeat' (first | assumption | (with_reducible refine Rd.alloc ?_ _))) | (refine (hb1.cell (by first | omega | (simp; done) | (simp; omega))).trans ?_; first | assumption | simp) | (exact below_step hb1 (by first | omega | (simp; done) | (simp; omega)) (by assumption)) | (have hz' := hb1.size; (try simp at hz'); omega) | ((repeat' (first | assumption | (with_reducible exact Below.refl _ _) | (with_reducible refine Below.drew ?_) | (with_reducible refine Below.alloc ?_ ?_ _) | (with_reducible refine Below.setCell ?_ ?_ _) | omega | (simp; done) | (simp; omega))); done) | go_simp | (simp; done) | (simp; omega)))
          refine hold_plain 0 (v := ?_) hHC hH0 (by simp only [List.getElem?_toArray, List.getElem?_cons_succ, List.getElem?_cons_zero]; rfl) rfl (by kernel_rfl) ?_ ?_
          rotate_left 1
          · (intro w hSw; (try dsimp only at hSw); go_simp; try with_reducible rfl)
          try simp only [Act.put, List.setIfInBounds_toArray, List.set_cons_zero, List.set_cons_succ]
          refine hold_plain 1 (v := ?_) hHC hH0 (by simp only [List.getElem?_toArray, List.getElem?_cons_succ, List.getElem?_cons_zero]; rfl) rfl (by kernel_rfl) ?_ ?_
          rotate_left 1
          · (intro w hSw; (try dsimp only at hSw); go_simp; try with_reducible rfl)
          try simp only [Act.put, List.setIfInBounds_toArray, List.set_cons_zero, List.set_cons_succ]
          refine hold_plain 2 (v := ?_) hHC hH0 (by simp only [List.getElem?_toArray, List.getElem?_cons_succ, List.getElem?_cons_zero]; rfl) rfl (by kernel_rfl) ?_ ?_
          rotate_left 1
          · (intro w hSw; (try dsimp only at hSw); go_simp; try with_reducible rfl)
          try simp only [Act.put, List.setIfInBounds_toArray, List.set_cons_zero, List.set_cons_succ]
          refine hold_plain 3 (v := ?_) hHC hH0 (by simp only [List.getElem?_toArray, List.getElem?_cons_succ, List.getElem?_cons_zero]; rfl) rfl (by kernel_rfl) ?_ ?_
          rotate_left 1
          · (intro w hSw; (try dsimp only at hSw); go_simp; try with_reducible rfl)
          try simp only [Act.put, List.setIfInBounds_toArray, List.set_cons_zero, List.set_cons_succ]
          refine hold_plain 4 (v := ?_) hHC hH0 (by simp only [List.getElem?_toArray, List.getElem?_cons_succ, List.getElem?_cons_zero]; rfl) rfl (by kernel_rfl) ?_ ?_
          rotate_left 1
          · (intro w hSw; (try dsimp only at hSw); go_simp; try with_reducible rfl)
          try simp only [Act.put, List.setIfInBounds_toArray, List.set_cons_zero, List.set_cons_succ]
          refine hold_plain 5 (v := ?_) hHC hH0 (by simp only [List.getElem?_toArray, List.getElem?_cons_succ, List.getElem?_cons_zero]; rfl) rfl (by kernel_rfl) ?_ ?_
          rotate_left 1
          · (intro w hSw; (try dsimp only at hSw); go_simp; try with_reducible rfl)
          try simp only [Act.put, List.setIfInBounds_toArray, List.set_cons_zero, List.set_cons_succ]
          refine hold_plain 6 (v := ?_) hHC hH0 (by simp only [List.getElem?_toArray, List.getElem?_cons_succ, List.getElem?_cons_zero]; rfl) rfl (by kernel_rfl) ?_ ?_
          rotate_left 1
          · (intro w hSw; (try dsimp only at hSw); go_simp; try with_reducible rfl)
          try simp only [Act.put, List.setIfInBounds_toArray, List.set_cons_zero, List.set_cons_succ]
          refine hold_plain 8 (v := ?_) hHC hH0 (by simp only [List.getElem?_toArray, List.getElem?_cons_succ, List.getElem?_cons_zero]; rfl) rfl (by kernel_rfl) ?_ ?_
          rotate_left 1
          · (intro w hSw; (try dsimp only at hSw); go_simp; try with_reducible rfl)
          try simp only [Act.put, List.setIfInBounds_toArray, List.set_cons_zero, List.set_cons_succ]
          refine hold_plain 9 (v := ?_) hHC hH0 (by simp only [List.getElem?_toArray, List.getElem?_cons_succ, List.getElem?_cons_zero]; rfl) rfl (by kernel_rfl) ?_ ?_
          rotate_left 1
          · (intro w hSw; (try dsimp only at hSw); go_simp; try with_reducible rfl)
          try simp only [Act.put, List.setIfInBounds_toArray, List.set_cons_zero, List.set_cons_succ]
          refine hold_call0 7 (by simp only [List.getElem?_toArray, List.getElem?_cons_succ, List.getElem?_cons_zero]; rfl) rfl (by kernel_rfl) (fun K hK => ?_)
          go_simp
          refine hK.out _ _ ?_ (fun hH1 => ?_)
          · (first | (go_keep; done) | ((try go_split_ands); (repeat' apply And.intro) <;> first | assumption | (with_reducible refine Rd.below ?_ hb1; assumption) | (with_reducible refine Rd.drew ?_; repeat' (first | assumption | (with_reducible refine Rd.alloc ?_ _))) | (refine (hb1.cell (by first | omega | (simp; done) | (simp; omega))).trans ?_; first | assumption | simp) | (exact below_step hb1 (by first | omega | (simp; done) | (simp; omega)) (by assumption)) | (have hz' := hb1.size; (try simp at hz'); omega) | ((repeat' (first | assumption | (with_reducible exact Below.refl _ _) | (with_reducible refine Below.drew ?_) | (with_reducible refine Below.alloc ?_ ?_ _) | (with_reducible refine Below.setCell ?_ ?_ _) | omega | (simp; done) | (simp; omega))); done) | go_simp | (simp; done) | (simp; omega)))
          clear hK K hH0
          try simp only [Act.put, List.setIfInBounds_toArray, List.set_cons_zero, List.set_cons_succ]
          refine hold_plain 10 (v := ?_) hHC hH1 (by simp only [List.getElem?_toArray, List.getElem?_cons_succ, List.getElem?_cons_zero]; rfl) rfl (by kernel_rfl) ?_ ?_
          rotate_left 1
          · (intro w hSw; (try dsimp only at hSw); go_simp; try with_reducible rfl)
          try simp only [Act.put, List.setIfInBounds_toArray, List.set_cons_zero, List.set_cons_succ]
          refine hold_plain 11 (v := ?_) hHC hH1 (by simp only [List.getElem?_toArray, List.getElem?_cons_succ, List.getElem?_cons_zero]; rfl) rfl (by kernel_rfl) ?_ ?_
          rotate_left 1
          · (intro w hSw; (try dsimp only at hSw); go_simp; try with_reducible rfl)
          try simp only [Act.put, List.setIfInBounds_toArray, List.set_cons_zero, List.set_cons_succ]
          refine hold_call0 12 (by simp only [List.getElem?_toArray, List.getElem?_cons_succ, List.getElem?_cons_zero]; rfl) rfl (by kernel_rfl) (fun K hK => ?_)
          go_simp
          refine hK.out _ _ ?_ (fun hH2 => ?_)
          · (first | (go_keep; done) | ((try go_split_ands); (repeat' apply And.intro) <;> first | assumption | (with_reducible refine Rd.below ?_ hb1; assumption) | (with_reducible refine Rd.drew ?_; repeat' (first | assumption | (with_reducible refine Rd.alloc ?_ _))) | (refine (hb1.cell (by first | omega | (simp; done) | (simp; omega))).trans ?_; first | assumption | simp) | (exact below_step hb1 (by first | omega | (simp; done) | (simp; omega)) (by assumption)) | (have hz' := hb1.size; (try simp at hz'); omega) | ((repeat' (first | assumption | (with_reducible exact Below.refl _ _) | (with_reducible refine Below.drew ?_) | (with_reducible refine Below.alloc ?_ ?_ _) | (with_reducible refine Below.setCell ?_ ?_ _) | omega | (simp; done) | (simp; omega))); done) | go_simp | (simp; done) | (simp; omega)))
          clear hK K hH1
          try simp only [Act.put, List.setIfInBounds_toArray, List.set_cons_zero, List.set_cons_succ]
          refine wpAnyH_done (by kernel_rfl) ?_ _
          (try dsimp only at hH2)
          go_split_ands
          clear hHC
          obtain ⟨wz, hwz⟩ : ∃ wz, wz = (w9.setCell ⟨b, Y, none⟩ (.int .i64 (r : Int))).drew := ⟨_, rfl⟩
          rw [← hwz] at HS10 ⊢
          clear hwz
          go_wp2_with fail
          go_roundw
          case rel => exact ⟨k - 1, _, by go_num, by omega, by omega, HS10⟩
          case measure => simp [intOf]; omega
        · have ht' : m.testBit X = false := by simpa using ht
          have hts : ((m : Int) / 2 ^ X % 2 == 1) = false := by rw [bit_test, ← testBit_mod]; exact ht'
          clear ht ht'
          go_wp2_with fail
          go_roundw
          case rel => exact ⟨k - 1, rs, by go_num, by omega, by omega, HS9⟩
          case measure => simp [intOf]; omega
      · obtain ⟨p1, p2, p3⟩ := HS.out.bp
        have hpc : (wr.setCell ⟨w.heap.size, 0, none⟩ (.slice (some ⟨b, 0, none⟩) H d)).cell? ⟨w.heap.size, 0, none⟩ = some (.slice (some ⟨b, 0, none⟩) H d) := World.cell?_setCell_same _ _ _ p2
        go_wp2_with fail
        exact bodyPost_ret (v := .agg #[.slice (some ⟨b, 0, none⟩) H d]) (by simp [results, Try.results25, go_sem, hpc]) rfl (by have h := HEND.out wr rs HS.out; first | exact h | (obtain ⟨b1, m1, d1, r1, h1, h2⟩ := h; first | exact ⟨b1, m1, ⟨d1, h1⟩, r1, h2⟩ | exact ⟨b1, m1, d1, h1, r1, h2⟩))
end Go.Proofs.Ytghakmhglneckaa
