/-
  The draw of a domino that is valid.
-/
import Derived.Test.YtlbmmdkmelcedaaDoorDrawN
import Derived.Test.YtlbmmdkmelcedaaDoorDom
namespace Go.Proofs.YtlbmmdkmelcedaaDoor
open Go.RowKit
set_option linter.unusedVariables false
set_option linter.unusedSimpArgs false

/-- A box of three cells. -/
def Box3 (w : World) (b : Nat) (x y z : Value) : Prop :=
  b < w.heap.size ∧ (w.cell? ⟨b, 0, none⟩ = some x ∧ w.cell? ⟨b, 1, none⟩ = some y ∧ w.cell? ⟨b, 2, none⟩ = some z) ∧ w.frozen? ⟨b, 0, none⟩ = false ∧ w.frozen? ⟨b, 1, none⟩ = false ∧ w.frozen? ⟨b, 2, none⟩ = false
theorem Box3.new (w : World) (x y z : Value) (t : TypeId) : Box3 (w.alloc (.cells #[x, y, z] t)) w.heap.size x y z := ⟨by simp, ⟨by simp, by simp, by simp⟩, by simp, by simp, by simp⟩
theorem Box3.grown {w w' : World} {b g : Nat} {x y z : Value} (h : Box3 w b x y z) (hg : w.grownBy w' (some g)) (hn : b ≠ g) : Box3 w' b x y z :=
  ⟨Nat.lt_of_lt_of_le h.1 hg.size, ⟨(far_of hg _ _ h.1 hn).trans h.2.1.1, (far_of hg _ _ h.1 hn).trans h.2.1.2.1, (far_of hg _ _ h.1 hn).trans h.2.1.2.2⟩, (ice_of hg _ _ h.1 hn).trans h.2.2.1, (ice_of hg _ _ h.1 hn).trans h.2.2.2.1, (ice_of hg _ _ h.1 hn).trans h.2.2.2.2⟩
theorem Box3.below {w w' : World} {b : Nat} {x y z : Value} (h : Box3 w b x y z) (hb : Below w.heap.size w w') : Box3 w' b x y z :=
  ⟨Nat.lt_of_lt_of_le h.1 hb.size, ⟨(hb.cell (p := ⟨b, 0, none⟩) h.1).trans h.2.1.1, (hb.cell (p := ⟨b, 1, none⟩) h.1).trans h.2.1.2.1, (hb.cell (p := ⟨b, 2, none⟩) h.1).trans h.2.1.2.2⟩, (hb.frozen (p := ⟨b, 0, none⟩) h.1).trans h.2.2.1, (hb.frozen (p := ⟨b, 1, none⟩) h.1).trans h.2.2.2.1, (hb.frozen (p := ⟨b, 2, none⟩) h.1).trans h.2.2.2.2⟩
theorem Box3.put {w : World} {b : Nat} {x y z : Value} (h : Box3 w b x y z) (x' y' z' : Value) : Box3 (((w.setCell ⟨b, 0, none⟩ x').setCell ⟨b, 1, none⟩ y').setCell ⟨b, 2, none⟩ z') b x' y' z' := by
  obtain ⟨h1, ⟨c0, c1, c2⟩, f0, f1, f2⟩ := h
  have k1 : (w.setCell ⟨b, 0, none⟩ x').cell? ⟨b, 1, none⟩ = some y := (sc_ne (by decide)).trans c1
  have k2 : ((w.setCell ⟨b, 0, none⟩ x').setCell ⟨b, 1, none⟩ y').cell? ⟨b, 2, none⟩ = some z := (sc_ne (by decide)).trans ((sc_ne (by decide)).trans c2)
  refine ⟨by simpa [World.setCell] using h1, ⟨?_, ?_, World.cell?_setCell_same _ _ _ k2⟩, by simp [f0], by simp [f1], by simp [f2]⟩
  · exact (sc_ne (by decide)).trans ((sc_ne (by decide)).trans (World.cell?_setCell_same _ _ _ c0))
  · exact (sc_ne (by decide)).trans (World.cell?_setCell_same _ _ _ k1)
theorem Box3.put_far {w : World} {b b' : Nat} {x y z : Value} (h : Box3 w b x y z) (hn : b' ≠ b) (x' y' z' : Value) : Box3 (((w.setCell ⟨b', 0, none⟩ x').setCell ⟨b', 1, none⟩ y').setCell ⟨b', 2, none⟩ z') b x y z := by
  obtain ⟨h1, ⟨c0, c1, c2⟩, f0, f1, f2⟩ := h
  have e : ∀ o, (((w.setCell ⟨b', 0, none⟩ x').setCell ⟨b', 1, none⟩ y').setCell ⟨b', 2, none⟩ z').cell? ⟨b, o, none⟩ = w.cell? ⟨b, o, none⟩ := fun o =>
    (World.cell?_setCell_far _ _ _ _ hn).trans ((World.cell?_setCell_far _ _ _ _ hn).trans (World.cell?_setCell_far _ _ _ _ hn))
  exact ⟨by simpa [World.setCell] using h1, ⟨(e 0).trans c0, (e 1).trans c1, (e 2).trans c2⟩, by simp [f0], by simp [f1], by simp [f2]⟩
theorem gc_new {a w : World} {r : Option Nat} {b : Nat} (h : a.grownBy w r) (hb : a.heap.size ≤ b) (o : Nat) (u : Value) : a.grownBy (w.setCell ⟨b, o, none⟩ u) r :=
  ⟨h.os, h.tape, h.output, by simpa [World.setCell] using h.size, fun i hi hne => (Below.heap_setCell w ⟨b, o, none⟩ u i (by show i ≠ b; omega)).trans (h.block i hi hne)⟩
theorem At.setD {w0 w1 : World} {g : Nat} {a : Option Addr} {n c : Nat} (h : At w0 w1 g a n c) {b o : Nat} (hb : w0.heap.size ≤ b) (hn : b ≠ g) (v : Value) : At w0 (w1.setCell ⟨b, o, none⟩ v) g a n c := by
  obtain ⟨h1, ⟨i, x, h2⟩, h3⟩ := h
  have e : ∀ p : Nat, (w1.setCell ⟨b, o, none⟩ v).cell? ⟨g, p, none⟩ = w1.cell? ⟨g, p, none⟩ := fun p => World.cell?_setCell_far _ _ _ _ hn
  exact ⟨h1.setCell (p := ⟨b, o, none⟩) hb v, ⟨i, x, by simpa [World.setCell] using h2.lt, h2.le, (e 0).trans h2.c0, (e 1).trans h2.c1, (e 2).trans h2.c2, by simp [h2.f1], by simp [h2.f2]⟩, h3⟩
set_option maxHeartbeats 1600000 in
set_option maxRecDepth 100000 in
theorem l05Domino_at {w0 w1 : World} {a : Option Addr} {n g c : Nat} {zs : List Int} (K : CodeOk w0 a n zs) (h : At w0 w1 g a n c) :
    Calls Tryd.prog 54 #[.pointer (some ⟨g, 0, none⟩)] w1 fun e w2 => ∃ (x y : Int) (d : Bool), e = .returned (.agg #[.int .i64 x, .int .i64 y, .bool d]) ∧ domB x y d = true ∧ At w0 w2 g a n c ∧ w1.grownBy w2 (some g) := by
  have HK := Lib.hid K
  have hne : w1.heap.size ≠ g := by have := h.lt; omega
  have hle : w0.heap.size ≤ w1.heap.size := h.1.size
  have HA := Lib.hid (h.alloc (.cells #[.int .i64 0, .int .i64 0, .bool false] 33))
  have HG : Hid (w1.grownBy (w1.alloc (.cells #[.int .i64 0, .int .i64 0, .bool false] 33)) (some g)) := Lib.hid (gc_alloc (World.grownBy.refl _ _) _)
  clear K h
  go_enter Tryd.func54, Tryd.ntmps54
  go_wp2_with (go_at_call 42; fail)
  refine (once_at HK.out HA.out 2 (WalkArith.wf_i64 (by omega))).mono ?_
  rintro e w2 ⟨b, rfl, hat, hgw⟩
  have B2 := Lib.hid ((Box3.new w1 (.int .i64 0) (.int .i64 0) (.bool false) 33).grown hgw hne)
  have H2 := Lib.hid hat
  have G2 := Lib.hid (gc_step HG.out hgw)
  clear hat hgw HA HG
  cases b
  · go_wp2_with (go_at_call 43; fail)
    refine (below_at HK.out H2.out 7 (WalkArith.wf_i64 (by omega))).mono ?_
    rintro e w3 ⟨v, rfl, ⟨hv0, hv1, -⟩, hat, hgw⟩
    have hv2 := hv1 (by omega)
    have B3 := Lib.hid (B2.out.grown hgw hne)
    have H3 := Lib.hid hat
    have G3 := Lib.hid (gc_step G2.out hgw)
    clear hv1 hat hgw H2 B2 G2
    go_wp2_with (go_at_call 43; fail)
    refine (below_at HK.out H3.out 8 (WalkArith.wf_i64 (by omega))).mono ?_
    rintro e w4 ⟨u, rfl, ⟨hu0, hu1, -⟩, hat, hgw⟩
    have hu2 := hu1 (by omega)
    have B4 := B3.out.grown hgw hne
    have H4 := Lib.hid hat
    have G4 := Lib.hid (gc_step G3.out hgw)
    clear hu1 hat hgw H3 B3 G3
    obtain ⟨hlt, ⟨d0, d1, d2⟩, e0, e1, e2⟩ := B4
    go_wp2_with fail
    exact bodyPost_ret (v := .agg #[.int .i64 v, .int .i64 u, .bool false]) (by simp [results, Tryd.results54, go_sem, d0, d1, d2]) rfl ⟨_, _, _, rfl, domB_iff.2 ⟨⟨hv0, hu0⟩, by simp; omega⟩, ((H4.out.setD hle hne _).setD hle hne _).setD hle hne _, gc_new (gc_new (gc_new G4.out (Nat.le_refl _) _ _) (Nat.le_refl _) _ _) (Nat.le_refl _) _ _⟩
  · go_wp2_with (go_at_call 43; fail)
    refine (below_at HK.out H2.out 8 (WalkArith.wf_i64 (by omega))).mono ?_
    rintro e w3 ⟨v, rfl, ⟨hv0, hv1, -⟩, hat, hgw⟩
    have hv2 := hv1 (by omega)
    have B3 := Lib.hid (B2.out.grown hgw hne)
    have H3 := Lib.hid hat
    have G3 := Lib.hid (gc_step G2.out hgw)
    clear hv1 hat hgw H2 B2 G2
    go_wp2_with (go_at_call 43; fail)
    refine (below_at HK.out H3.out 7 (WalkArith.wf_i64 (by omega))).mono ?_
    rintro e w4 ⟨u, rfl, ⟨hu0, hu1, -⟩, hat, hgw⟩
    have hu2 := hu1 (by omega)
    have B4 := B3.out.grown hgw hne
    have H4 := Lib.hid hat
    have G4 := Lib.hid (gc_step G3.out hgw)
    clear hu1 hat hgw H3 B3 G3
    obtain ⟨hlt, ⟨d0, d1, d2⟩, e0, e1, e2⟩ := B4
    go_wp2_with fail
    exact bodyPost_ret (v := .agg #[.int .i64 v, .int .i64 u, .bool true]) (by simp [results, Tryd.results54, go_sem, d0, d1, d2]) rfl ⟨_, _, _, rfl, domB_iff.2 ⟨⟨hv0, hu0⟩, by simp; omega⟩, ((H4.out.setD hle hne _).setD hle hne _).setD hle hne _, gc_new (gc_new (gc_new G4.out (Nat.le_refl _) _ _) (Nat.le_refl _) _ _) (Nat.le_refl _) _ _⟩
set_option maxHeartbeats 1600000 in
set_option maxRecDepth 100000 in
theorem drawDoms_any (a : Option Addr) (n c : Nat) (zs : List Int) (w : World) (K : CodeOk w a n zs) :
    Calls Tryd.prog 32 #[.slice a n c] w fun e w' => ∃ (x y u v : Int) (d q : Bool), e = .returned (.tuple #[.agg #[.int .i64 x, .int .i64 y, .bool d], .agg #[.int .i64 u, .int .i64 v, .bool q]]) ∧ domB x y d = true ∧ domB u v q = true ∧ Below w.heap.size w w' := by
  have hBw : Below w.heap.size w ((w.alloc (.cells #[.int .i64 0, .int .i64 0, .bool false] 33)).alloc (.cells #[.int .i64 0, .int .i64 0, .bool false] 33)) := by repeat' (first | assumption | (with_reducible exact Below.refl _ _) | (with_reducible refine Below.drew ?_) | (with_reducible refine Below.alloc ?_ ?_ _) | (with_reducible refine Below.setCell ?_ ?_ _) | omega | (simp; done) | (simp; omega))
  have HK := Lib.hid (K.below hBw)
  have HBW := Lib.hid hBw
  have HX := Lib.hid ((Box3.new w (.int .i64 0) (.int .i64 0) (.bool false) 33).below (Below.alloc (Below.refl _ _) (Nat.le_refl _) (.cells #[.int .i64 0, .int .i64 0, .bool false] 33)))
  have HY := Lib.hid (Box3.new (w.alloc (.cells #[.int .i64 0, .int .i64 0, .bool false] 33)) (.int .i64 0) (.int .i64 0) (.bool false) 33)
  clear K hBw
  obtain ⟨wb, hwb⟩ : ∃ wb, wb = ((w.alloc (.cells #[.int .i64 0, .int .i64 0, .bool false] 33)).alloc (.cells #[.int .i64 0, .int .i64 0, .bool false] 33)) := ⟨_, rfl⟩
  rw [← hwb] at HK HBW HX HY
  have HY : Hid (Box3 wb (w.heap.size + 1) (.int .i64 0) (.int .i64 0) (.bool false)) := Lib.hid (by simpa using HY.out)
  have hsb : wb.heap.size = w.heap.size + 2 := by rw [hwb]; simp
  have HSB := Lib.hid hsb
  clear hsb
  go_enter Tryd.func32, Tryd.ntmps32
  go_wp2_with (go_at_call 41; fail)
  rw [← hwb]
  refine (new_at HK.out c (Below.refl _ _)).mono ?_
  rintro e w2 ⟨g, rfl, hat⟩
  have X2 := Lib.hid (HX.out.below hat.1)
  have Y2 := Lib.hid (HY.out.below hat.1)
  have H2 := Lib.hid hat
  have hg : w.heap.size + 2 ≤ g := by have := hat.2.2; have := HSB.out; omega
  clear hat HX HY hwb
  go_wp2_with (go_at_call 54; fail)
  refine (l05Domino_at HK.out H2.out).mono ?_
  rintro e w3 ⟨x, y, d, rfl, hd, hat, hgw⟩
  have X3 := Lib.hid (X2.out.grown hgw (by omega))
  have Y3 := Lib.hid (Y2.out.grown hgw (by omega))
  have H3 := Lib.hid hat
  have HD := Lib.hid hd
  have hz3 : g < w3.heap.size := hat.lt
  clear hat hgw hd X2 Y2 H2
  have hB3 : Below w.heap.size w w3 := HBW.out.trans (H3.out.1.mono (by have := HSB.out; omega))
  have hs3 := hB3.size
  have hne5 : w3.heap.size ≠ g := by omega
  have hx3 := X3.out.1
  have hy3 := Y3.out.1
  have N4 : Hid (Box3 (w3.alloc (.cells #[.int .i64 x, .int .i64 y, .bool d] 33)).drew w3.heap.size (.int .i64 x) (.int .i64 y) (.bool d)) := Lib.hid (Box3.new w3 (.int .i64 x) (.int .i64 y) (.bool d) 33)
  have X4 : Hid (Box3 (w3.alloc (.cells #[.int .i64 x, .int .i64 y, .bool d] 33)).drew w.heap.size (.int .i64 0) (.int .i64 0) (.bool false)) := Lib.hid (X3.out.below (Below.drew ((Below.refl _ _).alloc (Nat.le_refl _) (.cells #[.int .i64 x, .int .i64 y, .bool d] 33))))
  have Y4 : Hid (Box3 (w3.alloc (.cells #[.int .i64 x, .int .i64 y, .bool d] 33)).drew (w.heap.size + 1) (.int .i64 0) (.int .i64 0) (.bool false)) := Lib.hid (Y3.out.below (Below.drew ((Below.refl _ _).alloc (Nat.le_refl _) (.cells #[.int .i64 x, .int .i64 y, .bool d] 33))))
  go_wp2_with fail
  refine hold_start (S := (fun w' => w'.cell? ⟨w3.heap.size, 0, none⟩ = some (.int .i64 x) ∧ w'.cell? ⟨w3.heap.size, 1, none⟩ = some (.int .i64 y) ∧ w'.cell? ⟨w3.heap.size, 2, none⟩ = some (.bool d) ∧ Below w.heap.size w w' ∧ w3.heap.size + 1 ≤ w'.heap.size)) (by kernel_rfl) (by kernel_rfl) (by intro _ _ d _ _ h; cases d <;> exact h) ?_ (fun hHC hH0 => ?_)
  · ((try dsimp only); (repeat' apply And.intro) <;> first | (with_reducible assumption) | ((repeat' (with_reducible refine (World.cell?_setCell_far _ _ _ _ (by show _ ≠ _; omega)).trans ?_)); with_reducible assumption) | ((repeat' (first | (with_reducible assumption) | (with_reducible refine Below.drew ?_) | (with_reducible refine Below.alloc ?_ ?_ _) | (with_reducible refine Below.setCell ?_ ?_ _) | omega | (simp; done) | (simp; omega))); done) | go_simp | (simp; omega))
  refine hold_plain 0 (v := ?_) hHC hH0 (by simp only [List.getElem?_toArray, List.getElem?_cons_succ, List.getElem?_cons_zero]; rfl) rfl (by kernel_rfl) ?_ ?_
  rotate_left 1
  · (intro w hSw; (try dsimp only at hSw); go_simp; try with_reducible rfl)
  try simp only [Act.put, List.setIfInBounds_toArray, List.set_cons_zero, List.set_cons_succ]
  refine hold_plain 1 (v := ?_) hHC hH0 (by simp only [List.getElem?_toArray, List.getElem?_cons_succ, List.getElem?_cons_zero]; rfl) rfl (by kernel_rfl) ?_ ?_
  rotate_left 1
  · (intro w hSw; (try dsimp only at hSw); go_simp; try with_reducible rfl)
  try simp only [Act.put, List.setIfInBounds_toArray, List.set_cons_zero, List.set_cons_succ]
  refine hold_call0 2 (by simp only [List.getElem?_toArray, List.getElem?_cons_succ, List.getElem?_cons_zero]; rfl) rfl (by kernel_rfl) (fun K hK => ?_)
  go_simp
  (refine (l05Domino_at HK.out ((H3.out.alloc _).drewN 1)).mono ?_; rintro e w1 ⟨u, v, q, rfl, hq, hat, hgw⟩; have HQ := Lib.hid hq; obtain ⟨_, ⟨c0, c1, c2⟩, _, _, _⟩ := N4.out.grown hgw hne5; have X5 := Lib.hid (X4.out.grown hgw (by omega)); have Y5 := Lib.hid (Y4.out.grown hgw (by omega)); obtain ⟨_, ⟨m0, m1, m2⟩, k0, k1, k2⟩ := X5.out; obtain ⟨_, ⟨n0, n1, n2⟩, l0, l1, l2⟩ := Y5.out; have hB4 : Below w.heap.size w w1 := HBW.out.trans (hat.1.mono (by have := HSB.out; omega)); have hz4 : w3.heap.size + 1 ≤ w1.heap.size := Nat.le_trans (by simp) hgw.size; clear hat hgw hq)
  refine hK.out _ _ ?_ (fun hH1 => ?_)
  · ((try dsimp only); (repeat' apply And.intro) <;> first | (with_reducible assumption) | ((repeat' (with_reducible refine (World.cell?_setCell_far _ _ _ _ (by show _ ≠ _; omega)).trans ?_)); with_reducible assumption) | ((repeat' (first | (with_reducible assumption) | (with_reducible refine Below.drew ?_) | (with_reducible refine Below.alloc ?_ ?_ _) | (with_reducible refine Below.setCell ?_ ?_ _) | omega | (simp; done) | (simp; omega))); done) | go_simp | (simp; omega))
  clear hK K hH0
  try simp only [Act.put, List.setIfInBounds_toArray, List.set_cons_zero, List.set_cons_succ]
  refine hold_call0 3 (by simp only [List.getElem?_toArray, List.getElem?_cons_succ, List.getElem?_cons_zero]; rfl) rfl (by kernel_rfl) (fun K hK => ?_)
  go_simp
  refine hK.out _ _ ?_ (fun hH2 => ?_)
  · ((try dsimp only); (repeat' apply And.intro) <;> first | (with_reducible assumption) | ((repeat' (with_reducible refine (World.cell?_setCell_far _ _ _ _ (by show _ ≠ _; omega)).trans ?_)); with_reducible assumption) | ((repeat' (first | (with_reducible assumption) | (with_reducible refine Below.drew ?_) | (with_reducible refine Below.alloc ?_ ?_ _) | (with_reducible refine Below.setCell ?_ ?_ _) | omega | (simp; done) | (simp; omega))); done) | go_simp | (simp; omega))
  clear hK K hH1
  try simp only [Act.put, List.setIfInBounds_toArray, List.set_cons_zero, List.set_cons_succ]
  refine hold_call0 4 (by simp only [List.getElem?_toArray, List.getElem?_cons_succ, List.getElem?_cons_zero]; rfl) rfl (by kernel_rfl) (fun K hK => ?_)
  go_simp
  refine hK.out _ _ ?_ (fun hH3 => ?_)
  · ((try dsimp only); (repeat' apply And.intro) <;> first | (with_reducible assumption) | ((repeat' (with_reducible refine (World.cell?_setCell_far _ _ _ _ (by show _ ≠ _; omega)).trans ?_)); with_reducible assumption) | ((repeat' (first | (with_reducible assumption) | (with_reducible refine Below.drew ?_) | (with_reducible refine Below.alloc ?_ ?_ _) | (with_reducible refine Below.setCell ?_ ?_ _) | omega | (simp; done) | (simp; omega))); done) | go_simp | (simp; omega))
  clear hK K hH2
  try simp only [Act.put, List.setIfInBounds_toArray, List.set_cons_zero, List.set_cons_succ]
  refine wpAnyH_done (by kernel_rfl) ?_ _
  (try dsimp only at hH3)
  go_split_ands
  clear hHC
  have F2 := (X5.out.put (.int .i64 x) (.int .i64 y) (.bool d)).put_far (b' := w.heap.size + 1) (by omega) (.int .i64 u) (.int .i64 v) (.bool q)
  have F3 := (Y5.out.put_far (b' := w.heap.size) (by omega) (.int .i64 x) (.int .i64 y) (.bool d)).put (.int .i64 u) (.int .i64 v) (.bool q)
  clear m0 m1 m2 n0 n1 n2 k0 k1 k2 l0 l1 l2 c0 c1 c2
  obtain ⟨wf, hwf⟩ : ∃ wf, wf = ((((((w1.setCell ⟨w.heap.size, 0, none⟩ (.int .i64 x)).setCell ⟨w.heap.size, 1, none⟩ (.int .i64 y)).setCell ⟨w.heap.size, 2, none⟩ (.bool d)).setCell ⟨w.heap.size + 1, 0, none⟩ (.int .i64 u)).setCell ⟨w.heap.size + 1, 1, none⟩ (.int .i64 v)).setCell ⟨w.heap.size + 1, 2, none⟩ (.bool q)) := ⟨_, rfl⟩
  rw [← hwf] at F2 F3 ⊢
  have hBf : Below w.heap.size w wf := by rw [hwf]; repeat' (first | assumption | (with_reducible refine Below.setCell ?_ ?_ _) | omega | (simp; done) | (simp; omega))
  clear hwf
  obtain ⟨_, ⟨m0, m1, m2⟩, _, _, _⟩ := F2
  obtain ⟨_, ⟨n0, n1, n2⟩, _, _, _⟩ := F3
  go_wp2_with fail
  exact bodyPost_ret (v := .tuple #[.agg #[.int .i64 x, .int .i64 y, .bool d], .agg #[.int .i64 u, .int .i64 v, .bool q]]) (by simp [results, Tryd.results32, go_sem, m0, m1, m2, n0, n1, n2]) rfl ⟨_, _, _, _, _, _, rfl, HD.out, HQ.out, hBf⟩
end Go.Proofs.YtlbmmdkmelcedaaDoor
