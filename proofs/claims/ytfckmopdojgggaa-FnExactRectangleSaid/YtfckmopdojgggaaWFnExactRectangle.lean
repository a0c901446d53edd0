/-
  The walk of the law FnExactRectangle: it returns true, and nothing that was there is written.
-/
import Derived.Test.YtfckmopdojgggaaRectI
import Derived.Test.YtfckmopdojgggaaRegL
import Derived.LoopN
namespace Go.Proofs.Ytfckmopdojgggaa.fnExactRectangle
open Go.RowKit
set_option linter.unusedVariables false
set_option linter.unusedSimpArgs false

set_option maxRecDepth 100000 in
theorem spec_no (x y : Int) (w : World) (h : inB x 1 8 = false ∨ inB y 1 8 = false) :
    Calls Try.prog 20 #[.int .i64 x, .int .i64 y] w fun e w' => e = .returned (.agg #[.slice none 0 0]) ∧ Below w.heap.size w w' := by
  have hb : (inB x 1 8 = true ∧ inB y 1 8 = false) ∨ inB x 1 8 = false := by
    cases hx : inB x 1 8
    · exact .inr rfl
    · rcases h with h | h
      · rw [h] at hx; simp at hx
      · exact .inl ⟨rfl, h⟩
  clear h
  by_cases h0 : 0 < y
  · rcases hb with ⟨hx, hy⟩ | hx
    · go_enter Try.func20, Try.ntmps20
      go_wp2_with (go_at_call 60; refine (specIn_any _ _ _ _).mono ?_; rintro e w' ⟨rfl, rfl⟩)
      refine wp_loop_rounds 1 ?_
      rw [rounds_succ]
      go_wp2_with (go_at_call 60; refine (specIn_any _ _ _ _).mono ?_; rintro e w' ⟨rfl, rfl⟩)
      exact bodyPost_ret (v := .agg #[.slice none 0 0]) (by simp [results, Try.results20, go_sem]) rfl ⟨rfl, by repeat' (first | assumption | (with_reducible exact Below.refl _ _) | (with_reducible refine Below.drew ?_) | (with_reducible refine Below.alloc ?_ ?_ _) | (with_reducible refine Below.setCell ?_ ?_ _) | omega | (simp; done) | (simp; omega))⟩
    · go_enter Try.func20, Try.ntmps20
      go_wp2_with (go_at_call 60; refine (specIn_any _ _ _ _).mono ?_; rintro e w' ⟨rfl, rfl⟩)
      refine wp_loop_rounds 1 ?_
      rw [rounds_succ]
      go_wp2_with (go_at_call 60; refine (specIn_any _ _ _ _).mono ?_; rintro e w' ⟨rfl, rfl⟩)
      exact bodyPost_ret (v := .agg #[.slice none 0 0]) (by simp [results, Try.results20, go_sem]) rfl ⟨rfl, by repeat' (first | assumption | (with_reducible exact Below.refl _ _) | (with_reducible refine Below.drew ?_) | (with_reducible refine Below.alloc ?_ ?_ _) | (with_reducible refine Below.setCell ?_ ?_ _) | omega | (simp; done) | (simp; omega))⟩
  · clear hb
    go_enter Try.func20, Try.ntmps20
    go_wp2_with (go_at_call 60; refine (specIn_any _ _ _ _).mono ?_; rintro e w' ⟨rfl, rfl⟩)
    refine wp_loop_rounds 1 ?_
    rw [rounds_succ]
    go_wp2_with (go_at_call 60; refine (specIn_any _ _ _ _).mono ?_; rintro e w' ⟨rfl, rfl⟩)
    exact bodyPost_ret (v := .agg #[.slice none 0 0]) (by simp [results, Try.results20, go_sem]) rfl ⟨rfl, by repeat' (first | assumption | (with_reducible exact Below.refl _ _) | (with_reducible refine Below.drew ?_) | (with_reducible refine Below.alloc ?_ ?_ _) | (with_reducible refine Below.setCell ?_ ?_ _) | omega | (simp; done) | (simp; omega))⟩

set_option maxRecDepth 100000 in
theorem impl_no (x y : Int) (w : World) (h : inB x 1 8 = false ∨ inB y 1 8 = false) :
    Calls Try.prog 21 #[.int .i64 x, .int .i64 y] w fun e w' => e = .returned (.agg #[.slice none 0 0]) ∧ Below w.heap.size w w' := by
  have hb : (inB x 1 8 = true ∧ inB y 1 8 = false) ∨ inB x 1 8 = false := by
    cases hx : inB x 1 8
    · exact .inr rfl
    · rcases h with h | h
      · rw [h] at hx; simp at hx
      · exact .inl ⟨rfl, h⟩
  clear h
  rcases hb with ⟨hx, hy⟩ | hx
  · go_enter Try.func21, Try.ntmps21
    go_wp2_with (go_at_call 64; refine (within_any _ _ _ _).mono ?_; rintro e w' ⟨rfl, rfl⟩)
    exact bodyPost_ret (v := .agg #[.slice none 0 0]) (by simp [results, Try.results21, go_sem]) rfl ⟨rfl, by repeat' (first | assumption | (with_reducible exact Below.refl _ _) | (with_reducible refine Below.drew ?_) | (with_reducible refine Below.alloc ?_ ?_ _) | (with_reducible refine Below.setCell ?_ ?_ _) | omega | (simp; done) | (simp; omega))⟩
  · go_enter Try.func21, Try.ntmps21
    go_wp2_with (go_at_call 64; refine (within_any _ _ _ _).mono ?_; rintro e w' ⟨rfl, rfl⟩)
    exact bodyPost_ret (v := .agg #[.slice none 0 0]) (by simp [results, Try.results21, go_sem]) rfl ⟨rfl, by repeat' (first | assumption | (with_reducible exact Below.refl _ _) | (with_reducible refine Below.drew ?_) | (with_reducible refine Below.alloc ?_ ?_ _) | (with_reducible refine Below.setCell ?_ ?_ _) | omega | (simp; done) | (simp; omega))⟩

theorem markIntS_nil (w : World) : Calls Try.prog 65 #[.slice none 0 0, .int .i64 1] w fun e w' => e = .returned (.int .i64 1) ∧ w = w' := by
  go_enter Try.func65, Try.ntmps65
  go_wp2
  refine wp_loop_rounds 1 ?_
  rw [rounds_succ]
  go_wp2
  go_ret
  exact ⟨rfl, rfl⟩
theorem markRegion_nil (w : World) : Calls Try.prog 22 #[.agg #[.slice none 0 0], .int .i64 1] w fun e w' => e = .returned (.int .i64 1) ∧ Below w.heap.size w w' := by
  have H := Lib.hid (fun o : Obj => markIntS_nil (w.alloc o))
  go_enter Try.func22, Try.ntmps22
  go_wp2_with (go_at_call 65; refine (H.out _).mono ?_; rintro e w' ⟨rfl, rfl⟩)
  go_ret
  exact ⟨rfl, by repeat' (first | assumption | (with_reducible exact Below.refl _ _) | (with_reducible refine Below.drew ?_) | (with_reducible refine Below.alloc ?_ ?_ _) | (with_reducible refine Below.setCell ?_ ?_ _) | omega | (simp; done) | (simp; omega))⟩
theorem markR_any (a : Option Addr) (n c B : Nat) (L : List Int) (W : World) (hO : OwnI W B (.slice a n c) L) (hL : L.length = n) (hn : n ≤ 1048576) :
    Calls Try.prog 22 #[.agg #[.slice a n c], .int .i64 1] W fun e w' => e = .returned (.int .i64 (1 + (n : Int))) ∧ Rd w' a (MK n) ∧ W.grownBy w' (Value.slice a n c).ownBlock := by
  subst hL
  have h0 := hO
  rcases hO.2 with ⟨hv, hl⟩ | ⟨g, cap, cur, hv, hg, r⟩
  · obtain ⟨rfl, h1, rfl⟩ := Value.slice.inj hv
    have hL : L = [] := List.length_eq_zero_iff.1 h1
    subst hL
    refine (markRegion_nil W).mono ?_
    rintro e w' ⟨rfl, hb⟩
    exact ⟨rfl, .inl rfl, ⟨hb.os, hb.tape, hb.output, hb.size, fun i hi _ => hb.block i hi⟩⟩
  · obtain ⟨rfl, -, rfl⟩ := Value.slice.inj hv
    refine (markRegion_any g L.length c B _ W hn h0).mono ?_
    rintro e w' ⟨rfl, ho, hgr⟩
    exact ⟨rfl, Rd.of_own ho, hgr⟩

theorem both (x y : Int) : ∃ (n : Nat) (L : List Int), L.length = n ∧ n ≤ 1048576 ∧
    (∀ w, Calls Try.prog 20 #[.int .i64 x, .int .i64 y] w fun e w' => ∃ a c, e = .returned (.agg #[.slice a n c]) ∧ OwnI w' w.heap.size (.slice a n c) L ∧ Below w.heap.size w w') ∧
    (∀ w, Calls Try.prog 21 #[.int .i64 x, .int .i64 y] w fun e w' => ∃ a c, e = .returned (.agg #[.slice a n c]) ∧ OwnI w' w.heap.size (.slice a n c) L ∧ Below w.heap.size w w') := by
  by_cases h : inB x 1 8 = true ∧ inB y 1 8 = true
  · obtain ⟨h3, h4⟩ := inB_iff.1 h.2
    exact ⟨y.toNat, List.replicate y.toNat (2 ^ x.toNat - 1), by simp, by omega, fun w => specRect_any x y w h.1 h.2, fun w => implRect_any x y w h.1 h.2⟩
  · have h' : inB x 1 8 = false ∨ inB y 1 8 = false := by
      cases hx : inB x 1 8
      · exact .inl rfl
      · cases hy : inB y 1 8
        · exact .inr rfl
        · exact absurd ⟨hx, hy⟩ h
    refine ⟨0, [], rfl, by omega, fun w => (spec_no x y w h').mono ?_, fun w => (impl_no x y w h').mono ?_⟩
    all_goals
      rintro e w' ⟨rfl, hb⟩
      exact ⟨none, 0, rfl, OwnI.nil _ _, hb⟩

theorem OwnI_rd {w : World} {B : Nat} {a : Option Addr} {n c : Nat} {L : List Int} (h : OwnI w B (.slice a n c) L) (hn : L.length = n) : Rd w a (flatI L) := by
  subst hn
  exact Rd.of_own h
/-- What holds on the way: the boxes p and q show the two results; the first one's numbers lie there; nothing of w has turned. -/
structure St (w W : World) (p q : Nat) (a a' : Option Addr) (n c c' : Nat) (L : List Int) : Prop where
  hp : p < W.heap.size
  hq : q < W.heap.size
  c5 : W.cell? ⟨p, 0, none⟩ = some (.slice a n c)
  c6 : W.cell? ⟨q, 0, none⟩ = some (.slice a' n c')
  ra : Rd W a (flatI L)
  lt : Below w.heap.size w W
theorem St.below {w W W' : World} {p q : Nat} {a a' : Option Addr} {n c c' : Nat} {L : List Int} (h : St w W p q a a' n c c' L) (hb : Below W.heap.size W W') : St w W' p q a a' n c c' L :=
  ⟨Nat.lt_of_lt_of_le h.hp hb.size, Nat.lt_of_lt_of_le h.hq hb.size, (hb.cell (p := ⟨p, 0, none⟩) h.hp).trans h.c5, (hb.cell (p := ⟨q, 0, none⟩) h.hq).trans h.c6, h.ra.below hb, h.lt.trans (hb.mono h.lt.size)⟩

set_option maxHeartbeats 800000 in
set_option maxRecDepth 100000 in
theorem walk (a0 : Int) (a1 : Int) (w : World) (w0 : (Lit.int .i64 a0).wf = true) (w1 : (Lit.int .i64 a1).wf = true) :
    Calls Try.prog 4 #[.int .i64 a0, .int .i64 a1] w fun e w' => e = .returned (.bool true) ∧ Below w.heap.size w w' := by
  obtain ⟨n, L, hL, hn, hs0, hi0⟩ := both a0 a1
  have HS := Lib.hid hs0
  have HI := Lib.hid hi0
  have HL := Lib.hid hL
  clear hs0 hi0 hL
  go_enter Try.func4, Try.ntmps4
  go_wp2_with (go_at_call 20; fail)
  refine (HS.out _).mono ?_
  rintro e wa ⟨a, c, rfl, hO, hb⟩
  have OA := Lib.hid hO
  have BA := hb
  clear hO hb
  go_wp2_with (go_at_call 21; fail)
  refine (HI.out _).mono ?_
  rintro e wb ⟨a', c', rfl, hO, hb⟩
  have hzb : wa.heap.size + 1 ≤ wb.heap.size := by have := hb.size; simpa using this
  have OB := Lib.hid hO
  have S0 : Hid (St w (wb.alloc (.cells #[.slice a' n c'] 27)) wa.heap.size wb.heap.size a a' n c c' L) := Lib.hid (by
    have h1 : Below wa.heap.size wa wb := ((Below.refl _ _).alloc (Nat.le_refl _) _).trans (hb.mono (by simp))
    have h2 : Below wb.heap.size wb (wb.alloc (.cells #[.slice a' n c'] 27)) := (Below.refl _ _).alloc (Nat.le_refl _) _
    refine ⟨by simp; omega, by simp, ?_, by simp, ?_, ?_⟩
    · exact (h2.cell (p := ⟨wa.heap.size, 0, none⟩) (by simp; omega)).trans ((hb.cell (p := ⟨wa.heap.size, 0, none⟩) (by simp)).trans (by simp))
    · exact ((OwnI_rd OA.out HL.out).below h1).below h2
    · exact (BA.trans (h1.mono BA.size)).trans (h2.mono (Nat.le_trans BA.size h1.size)))
  have OB0 : Hid (OwnI (wb.alloc (.cells #[.slice a' n c'] 27)) (wa.heap.size + 1) (.slice a' n c') L) := Lib.hid (by
    have h := OB.out.below ((Below.refl _ _).alloc (Nat.le_refl _) (.cells #[.slice a' n c'] 27))
    simpa using h)
  have hgb : ∀ g, (Value.slice a' n c').ownBlock = some g → wa.heap.size < g ∧ g < wb.heap.size := fun g hg => by
    have h := OB.out.lt g hg
    simp at h
    omega
  have HGB := Lib.hid hgb
  have hab : ∀ b off, a = some ⟨b, off, none⟩ → b < wa.heap.size := fun b off h => by
    rcases OA.out.2 with ⟨hv, -⟩ | ⟨g, cap, cur, hv, hg, hh, r⟩
    · cases hv; cases h
    · have := (Array.getElem?_eq_some_iff.1 hh).1
      cases hv; cases h
      exact this
  have HAB := Lib.hid hab
  have hws := BA.size
  clear hgb hb hO OA BA OB hab
  obtain ⟨p, hp⟩ : ∃ p, p = wa.heap.size := ⟨_, rfl⟩
  obtain ⟨q, hq⟩ : ∃ q, q = wb.heap.size := ⟨_, rfl⟩
  have S0' := S0.out
  obtain ⟨s1, s2, s3, s4, -, -⟩ := S0'
  go_wp2_with (go_at_call 19; fail)
  refine (eqRegion_same a' a n c' c L _ HL.out hn (OwnI_rd OB0.out HL.out) S0.out.ra).mono ?_
  rintro e wc ⟨rfl, hb⟩
  have S1 := Lib.hid (S0.out.below hb)
  have OB1 := Lib.hid (OB0.out.below hb)
  clear hb S0 OB0 s1 s2 s3 s4
  have S1' := S1.out
  obtain ⟨s1, s2, s3, s4, -, -⟩ := S1'
  go_wp2_with (go_at_call 22; fail)
  refine (markR_any a' n c' _ L _ OB1.out HL.out hn).mono ?_
  rintro e wd ⟨rfl, hR, hgr⟩
  have S2 : Hid (St w wd wa.heap.size wb.heap.size a a' n c c' L) := Lib.hid
    ⟨Nat.lt_of_lt_of_le s1 hgr.size, Nat.lt_of_lt_of_le s2 hgr.size,
      (World.cell?_of_block (a := ⟨wa.heap.size, 0, none⟩) (hgr.block _ s1 (fun e => by have h := HGB.out _ e.symm; dsimp only at h; omega))).trans s3,
      (World.cell?_of_block (a := ⟨wb.heap.size, 0, none⟩) (hgr.block _ s2 (fun e => by have h := HGB.out _ e.symm; dsimp only at h; omega))).trans s4,
      S1.out.ra.grown hgr (fun b off h e => by have h1 := HAB.out b off h; have h2 := HGB.out _ e; omega),
      S1.out.lt.grown hgr S1.out.lt.size (fun k hk => by have := HGB.out _ hk; omega)⟩
  have R2 := Lib.hid hR
  clear hR hgr S1 OB1 s1 s2 s3 s4
  have S2' := S2.out
  obtain ⟨s1, s2, s3, s4, -, -⟩ := S2'
  go_wp2_with (go_at_call 23; fail)
  refine (heldRegion_any a' n c' _ hn R2.out).mono ?_
  rintro e we ⟨rfl, hb⟩
  have S3 := Lib.hid (S2.out.below hb)
  have R3 := Lib.hid (R2.out.below hb)
  clear hb S2 R2 s1 s2 s3 s4
  have S3' := S3.out
  obtain ⟨s1, s2, s3, s4, -, -⟩ := S3'
  go_wp2_with (go_at_call 21; fail)
  refine (HI.out _).mono ?_
  rintro e wf ⟨a2, c2, rfl, hO, hb⟩
  have S4 := Lib.hid ((S3.out.below hb).below ((Below.refl _ _).alloc (Nat.le_refl _) (.cells #[.slice a2 n c2] 27)))
  have R4 := Lib.hid ((R3.out.below hb).alloc (.cells #[.slice a2 n c2] 27))
  have RO := Lib.hid ((OwnI_rd hO HL.out).alloc (.cells #[.slice a2 n c2] 27))
  clear hb S3 R3 s1 s2 s3 s4 hO
  have S4' := S4.out
  obtain ⟨s1, s2, s3, s4, -, -⟩ := S4'
  go_wp2_with (go_at_call 19; fail)
  refine (eqRegion_same a2 a n c2 c L _ HL.out hn RO.out S4.out.ra).mono ?_
  rintro e wg ⟨rfl, hb⟩
  have S5 := Lib.hid (S4.out.below hb)
  have R5 := Lib.hid (R4.out.below hb)
  clear hb S4 R4 RO s1 s2 s3 s4
  have S5' := S5.out
  obtain ⟨s1, s2, s3, s4, -, -⟩ := S5'
  go_wp2_with (go_at_call 23; fail)
  refine (heldRegion_any a' n c' _ hn R5.out).mono ?_
  rintro e wh ⟨rfl, hb⟩
  have S6 := Lib.hid (S5.out.below hb)
  clear hb S5 R5 s1 s2 s3 s4
  go_wp2
  go_ret
  exact ⟨rfl, S6.out.lt⟩
end Go.Proofs.Ytfckmopdojgggaa.fnExactRectangle
