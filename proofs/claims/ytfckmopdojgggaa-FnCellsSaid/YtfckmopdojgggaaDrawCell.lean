/-
  The draw of a cell that is valid.
-/
import Derived.Test.YtfckmopdojgggaaDrawN
import Derived.Test.YtfckmopdojgggaaCellsC
namespace Go.Proofs.Ytfckmopdojgggaa
open Go.RowKit
set_option linter.unusedVariables false
set_option linter.unusedSimpArgs false

/-- A box of two cells. -/
def Box2 (w : World) (b : Nat) (x y : Value) : Prop :=
  b < w.heap.size ∧ w.cell? ⟨b, 0, none⟩ = some x ∧ w.cell? ⟨b, 1, none⟩ = some y ∧ w.frozen? ⟨b, 0, none⟩ = false ∧ w.frozen? ⟨b, 1, none⟩ = false
theorem Box2.new (w : World) (x y : Value) (t : TypeId) : Box2 (w.alloc (.cells #[x, y] t)) w.heap.size x y := ⟨by simp, by simp, by simp, by simp, by simp⟩
theorem Box2.grown {w w' : World} {b g : Nat} {x y : Value} (h : Box2 w b x y) (hg : w.grownBy w' (some g)) (hn : b ≠ g) : Box2 w' b x y :=
  ⟨Nat.lt_of_lt_of_le h.1 hg.size, (far_of hg _ _ h.1 hn).trans h.2.1, (far_of hg _ _ h.1 hn).trans h.2.2.1, (ice_of hg _ _ h.1 hn).trans h.2.2.2.1, (ice_of hg _ _ h.1 hn).trans h.2.2.2.2⟩
theorem Box2.below {w w' : World} {b : Nat} {x y : Value} (h : Box2 w b x y) (hb : Below w.heap.size w w') : Box2 w' b x y :=
  ⟨Nat.lt_of_lt_of_le h.1 hb.size, (hb.cell (p := ⟨b, 0, none⟩) h.1).trans h.2.1, (hb.cell (p := ⟨b, 1, none⟩) h.1).trans h.2.2.1, (hb.frozen (p := ⟨b, 0, none⟩) h.1).trans h.2.2.2.1, (hb.frozen (p := ⟨b, 1, none⟩) h.1).trans h.2.2.2.2⟩
theorem At.set {w0 w1 : World} {g : Nat} {a : Option Addr} {n c : Nat} (h : At w0 w1 g a n c) {b o : Nat} (hb : w0.heap.size ≤ b) (hn : b ≠ g) (v : Value) : At w0 (w1.setCell ⟨b, o, none⟩ v) g a n c := by
  obtain ⟨h1, ⟨i, x, h2⟩, h3⟩ := h
  have e : ∀ p : Nat, (w1.setCell ⟨b, o, none⟩ v).cell? ⟨g, p, none⟩ = w1.cell? ⟨g, p, none⟩ := fun p => World.cell?_setCell_far _ _ _ _ hn
  exact ⟨h1.setCell (p := ⟨b, o, none⟩) hb v, ⟨i, x, by simpa [World.setCell] using h2.lt, h2.le, (e 0).trans h2.c0, (e 1).trans h2.c1, (e 2).trans h2.c2, by simp [h2.f1], by simp [h2.f2]⟩, h3⟩

set_option maxHeartbeats 800000 in
set_option maxRecDepth 100000 in
theorem l02Cell_at {w0 w1 : World} {a : Option Addr} {n g c : Nat} {zs : List Int} (K : CodeOk w0 a n zs) (h : At w0 w1 g a n c) :
    Calls Try.prog 67 #[.pointer (some ⟨g, 0, none⟩)] w1 fun e w2 => ∃ x y : Int, e = .returned (.agg #[.int .i64 x, .int .i64 y]) ∧ okB x y = true ∧ At w0 w2 g a n c := by
  have HK := Lib.hid K
  have hne : w1.heap.size ≠ g := by have := h.lt; omega
  have hle : w0.heap.size ≤ w1.heap.size := h.1.size
  have HA := Lib.hid (h.alloc (.cells #[.int .i64 0, .int .i64 0] 37))
  clear K h
  go_enter Try.func67, Try.ntmps67
  go_wp2_with (go_at_call 88; fail)
  refine (below_at HK.out HA.out 8 (WalkArith.wf_i64 (by omega))).mono ?_
  rintro e w2 ⟨v, rfl, ⟨hv0, hv1, -⟩, hat, hgw⟩
  have hv2 := hv1 (by omega)
  have B2 := Lib.hid ((Box2.new w1 (.int .i64 0) (.int .i64 0) 37).grown hgw hne)
  have H2 := Lib.hid hat
  clear hv1 hat hgw HA
  go_wp2_with (go_at_call 88; fail)
  refine (below_at HK.out H2.out 8 (WalkArith.wf_i64 (by omega))).mono ?_
  rintro e w3 ⟨u, rfl, ⟨hu0, hu1, -⟩, hat, hgw⟩
  have hu2 := hu1 (by omega)
  have B3 := B2.out.grown hgw hne
  have H3 := Lib.hid hat
  clear hu1 hat hgw H2 B2
  obtain ⟨hlt, d0, d1, e0, e1⟩ := B3
  go_wp2
  exact bodyPost_ret (v := .agg #[.int .i64 v, .int .i64 u]) (by simp [results, Try.results67, go_sem, d0, d1]) rfl ⟨_, _, rfl, okB_iff.2 (by omega), (H3.out.set hle hne _).set hle hne _⟩
theorem drawCell_any (a : Option Addr) (n c : Nat) (zs : List Int) (w : World) (K : CodeOk w a n zs) :
    Calls Try.prog 25 #[.slice a n c] w fun e w' => ∃ x y : Int, e = .returned (.agg #[.int .i64 x, .int .i64 y]) ∧ okB x y = true ∧ Below w.heap.size w w' := by
  have HK := Lib.hid (K.below ((Below.refl w.heap.size w).alloc (Nat.le_refl _) (.cells #[.int .i64 0, .int .i64 0] 37)))
  have HB := Lib.hid (Box2.new w (.int .i64 0) (.int .i64 0) 37)
  clear K
  go_enter Try.func25, Try.ntmps25
  go_wp2_with (go_at_call 68; fail)
  refine (new_at HK.out c (Below.refl _ _)).mono ?_
  rintro e w2 ⟨g, rfl, hat⟩
  have H2 := Lib.hid hat
  clear hat
  go_wp2_with (go_at_call 67; fail)
  refine (l02Cell_at HK.out H2.out).mono ?_
  rintro e w3 ⟨x, y, rfl, hok, hat⟩
  have B3 := HB.out.below hat.1
  have HO := Lib.hid hok
  have HS : Hid (Below w.heap.size w w3) := Lib.hid (((Below.refl _ _).alloc (Nat.le_refl _) _).trans (hat.1.mono (by simp)))
  clear hat H2 HB HK hok
  obtain ⟨hlt, d0, d1, e0, e1⟩ := B3
  go_wp2
  exact bodyPost_ret (v := .agg #[.int .i64 x, .int .i64 y]) (by simp [results, Try.results25, go_sem, d0, d1]) rfl ⟨_, _, rfl, HO.out, (HS.out.setCell (p := ⟨w.heap.size, 0, none⟩) (Nat.le_refl _) _).setCell (p := ⟨w.heap.size, 1, none⟩) (Nat.le_refl _) _⟩
end Go.Proofs.Ytfckmopdojgggaa
