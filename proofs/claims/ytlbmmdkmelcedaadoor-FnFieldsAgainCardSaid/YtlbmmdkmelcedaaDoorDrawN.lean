/-
  The cursor from a caller's side: what each draw hands out, and that the cursor stands. Contract of a number.
-/
import Derived.Test.YtlbmmdkmelcedaaDoorDraw
namespace Go.Proofs.YtlbmmdkmelcedaaDoor
open Go.RowKit
set_option linter.unusedVariables false
set_option linter.unusedSimpArgs false

/-- The bytes that a law draws from. -/
structure CodeOk (w : World) (a : Option Addr) (n : Nat) (zs : List Int) : Prop where
  len : zs.length = n
  le : n ≤ 1048576
  bytes : Bytes zs
  rd : RdB w a zs
theorem CodeOk.max {w : World} {a : Option Addr} {n : Nat} {zs : List Int} (h : CodeOk w a n zs) : n ≤ maxLen := by
  have := h.le
  unfold maxLen
  omega
theorem CodeOk.below {w w1 : World} {a : Option Addr} {n : Nat} {zs : List Int} (h : CodeOk w a n zs) (hb : Below w.heap.size w w1) : CodeOk w1 a n zs := ⟨h.len, h.le, h.bytes, h.rd.below hb⟩
theorem IsRow.max_ {w : World} {a : Option Addr} {len cap : Nat} {zs : List Int} (h : IsRow .u8 w a len cap zs) : len ≤ maxLen := Nat.le_trans h.rd.2.2.2.1 h.rd.2.2.2.2
theorem IsRow.code {w : World} {a : Option Addr} {len cap : Nat} {zs : List Int} (h : IsRow .u8 w a len cap zs) (hn : ¬ 1048576 < len) : CodeOk w a len (zs.take len) :=
  ⟨h.rd.2.1, by omega, fun v hv => by
    have h1 := h.rd.2.2.1 v (List.mem_of_mem_take hv)
    simp [Lit.wf, IntKind.min, IntKind.max, IntKind.signed, IntKind.bits] at h1
    omega, h.rd.1⟩
/-- In the world w1 the cursor stands in block g, over what the caller in w0 had not. -/
def At (w0 w1 : World) (g : Nat) (a : Option Addr) (n c : Nat) : Prop := Below w0.heap.size w0 w1 ∧ Cur w1 g a n c ∧ w0.heap.size ≤ g
theorem Cur.lt_ {w : World} {g : Nat} {a : Option Addr} {n c : Nat} (h : Cur w g a n c) : g < w.heap.size := by
  obtain ⟨_, _, h⟩ := h
  exact h.lt
theorem At.alloc {w0 w1 : World} {g : Nat} {a : Option Addr} {n c : Nat} (h : At w0 w1 g a n c) (o : Obj) : At w0 (w1.alloc o) g a n c :=
  ⟨Below.alloc h.1 h.1.size o, h.2.1.below (Below.alloc (Below.refl _ _) (Nat.le_refl _) o), h.2.2⟩
theorem At.drewN {w0 w1 : World} {g : Nat} {a : Option Addr} {n c : Nat} (h : At w0 w1 g a n c) (k : Nat) : At w0 (w1.drewN k) g a n c :=
  ⟨below_drewN h.1 k, h.2.1.below (below_drewN (Below.refl _ _) k), h.2.2⟩
theorem At.below {w0 w1 w2 : World} {g : Nat} {a : Option Addr} {n c : Nat} (h : At w0 w1 g a n c) (hb : Below w1.heap.size w1 w2) : At w0 w2 g a n c :=
  ⟨h.1.trans (hb.mono h.1.size), h.2.1.below hb, h.2.2⟩
theorem At.next {P : Int → Prop} {w0 w1 w2 : World} {g : Nat} {a : Option Addr} {n c : Nat} {e : Ending} (h : At w0 w1 g a n c) (hd : Drew P w1 g a n c e w2) : ∃ v : Int, e = .returned (.int .i64 v) ∧ P v ∧ At w0 w2 g a n c ∧ w1.grownBy w2 (some g) := by
  obtain ⟨v, he, hp, hc, hg⟩ := hd
  exact ⟨v, he, hp, ⟨h.1.trans (gc_below hg h.2.2 h.1.size), hc, h.2.2⟩, hg⟩
theorem far_of {w1 w2 : World} {g : Nat} (h : w1.grownBy w2 (some g)) : ∀ b o, b < w1.heap.size → b ≠ g → w2.cell? ⟨b, o, none⟩ = w1.cell? ⟨b, o, none⟩ :=
  fun b o hb hn => World.cell?_of_block (a := ⟨b, o, none⟩) (h.block b hb (fun e => hn (by cases e; rfl)))
theorem ice_of {w1 w2 : World} {g : Nat} (h : w1.grownBy w2 (some g)) : ∀ b o, b < w1.heap.size → b ≠ g → w2.frozen? ⟨b, o, none⟩ = w1.frozen? ⟨b, o, none⟩ :=
  fun b o hb hn => World.frozen?_of_block (a := ⟨b, o, none⟩) (h.block b hb (fun e => hn (by cases e; rfl)))
theorem At.lt {w0 w1 : World} {g : Nat} {a : Option Addr} {n c : Nat} (h : At w0 w1 g a n c) : g < w1.heap.size := h.2.1.lt_

theorem big_any (a : Option Addr) (n c : Nat) (w : World) (hn : n ≤ maxLen) : Calls Tryd.prog 13 #[.slice a n c] w fun e w' => e = .returned (.bool (decide (1048576 < n))) ∧ Below w.heap.size w w' := by
  unfold maxLen at hn
  go_enter Tryd.func13, Tryd.ntmps13
  go_wp2
  all_goals go_ret
  all_goals exact ⟨ret_b (by simp; omega), Below.refl _ _⟩

theorem new_at {w0 w : World} {a : Option Addr} {n : Nat} {zs : List Int} (K : CodeOk w0 a n zs) (c : Nat) (hB : Below w0.heap.size w0 w) :
    Calls Tryd.prog 41 #[.slice a n c] w fun e w' => ∃ g : Nat, e = .returned (.pointer (some ⟨g, 0, none⟩)) ∧ At w0 w' g a n c := by
  refine (l01New_any a n c zs w K.len K.le K.bytes (Rd.below K.rd hB)).mono ?_
  rintro e w' ⟨g, he, hg, hc, hb⟩
  exact ⟨g, he, hB.trans (hb.mono hB.size), hc, Nat.le_trans hB.size hg⟩
theorem byte_at {w0 w1 : World} {a : Option Addr} {n g c : Nat} {zs : List Int} (K : CodeOk w0 a n zs) (h : At w0 w1 g a n c) :
    Calls Tryd.prog 62 #[.pointer (some ⟨g, 0, none⟩)] w1 fun e w2 => ∃ v : Int, e = .returned (.int .i64 v) ∧ (0 ≤ v ∧ v ≤ 255) ∧ (At w0 w2 g a n c ∧ w1.grownBy w2 (some g)) :=
  (l01Byte_any g a n c zs w0 w1 K.len K.max K.bytes K.rd h.1 h.2.2 h.2.1).mono (fun e w2 hd => h.next hd)
theorem below_at {w0 w1 : World} {a : Option Addr} {n g c : Nat} {zs : List Int} (K : CodeOk w0 a n zs) (h : At w0 w1 g a n c) (N : Int) (hN : (Lit.int .i64 N).wf = true) :
    Calls Tryd.prog 43 #[.pointer (some ⟨g, 0, none⟩), .int .i64 N] w1 fun e w2 => ∃ v : Int, e = .returned (.int .i64 v) ∧ (0 ≤ v ∧ (0 < N → v < N) ∧ (N ≤ 0 → v = 0)) ∧ (At w0 w2 g a n c ∧ w1.grownBy w2 (some g)) :=
  (l01Below_any g a n c zs w0 w1 K.len K.max K.bytes K.rd h.1 h.2.2 h.2.1 N hN).mono (fun e w2 hd => h.next hd)
theorem once_at {w0 w1 : World} {a : Option Addr} {n g c : Nat} {zs : List Int} (K : CodeOk w0 a n zs) (h : At w0 w1 g a n c) (N : Int) (hN : (Lit.int .i64 N).wf = true) :
    Calls Tryd.prog 42 #[.pointer (some ⟨g, 0, none⟩), .int .i64 N] w1 fun e w2 => ∃ b : Bool, e = .returned (.bool b) ∧ (At w0 w2 g a n c ∧ w1.grownBy w2 (some g)) :=
  (l01Once_any g a n c zs w0 w1 K.len K.max K.bytes K.rd h.1 h.2.2 h.2.1 N hN).mono (fun e w2 hd => by
    obtain ⟨b, he, hc, hg⟩ := hd
    exact ⟨b, he, ⟨h.1.trans (gc_below hg h.2.2 h.1.size), hc, h.2.2⟩, hg⟩)

def NUMS : List Int := [-1, 0, 127, 128, 16383, 16384, 1000000000, 1000000001, 9223372036854775807, -9223372036854775808]
theorem nums_wf : ∀ v ∈ NUMS, (Lit.int .i64 v).wf = true := by decide
set_option maxHeartbeats 800000 in
set_option maxRecDepth 100000 in
theorem l01Number_any (g : Nat) (a : Option Addr) (n c : Nat) (zs : List Int) (w0 w : World) (hz : zs.length = n) (hn : n ≤ maxLen) (hbz : Bytes zs) (hcode : RdB w0 a zs) (hB : Below w0.heap.size w0 w) (hg : w0.heap.size ≤ g) (hc : Cur w g a n c) :
    Calls Tryd.prog 44 #[.pointer (some ⟨g, 0, none⟩)] w (Drew (fun v => (Lit.int .i64 v).wf = true) w g a n c) := by
  have H := Lib.hid (fun (w1 : World) (hB1 : Below w0.heap.size w0 w1) (hc1 : Cur w1 g a n c) (N : Int) (hN : (Lit.int .i64 N).wf = true) => l01Below_any g a n c zs w0 w1 hz hn hbz hcode hB1 hg hc1 N hN)
  have HP := Lib.hid (fun (w1 : World) (hB1 : Below w0.heap.size w0 w1) (hc1 : Cur w1 g a n c) (b : Option Addr) (ys : List Int) (hys : ys.length = 10) (hy : ∀ v ∈ ys, (Lit.int .i64 v).wf = true) (hb : RdI w1 b ys) (hbg : ∀ x, b = some x → x.block ≠ g) => l01PickInt_any g a n c zs w0 w1 hz hn hbz hcode hB1 hg hc1 b 10 10 ys (by omega) (by unfold maxLen; omega) hys hy hb hbg)
  have H0 : Hid (Below w0.heap.size w0 w ∧ Cur w g a n c ∧ w.grownBy w (some g)) := Lib.hid ⟨hB, hc, World.grownBy.refl _ _⟩
  have HN : Hid (∀ {w2 w1 : World}, (Below w0.heap.size w0 w1 ∧ Cur w1 g a n c ∧ w.grownBy w1 (some g)) → Cur w2 g a n c → w1.grownBy w2 (some g) → (Below w0.heap.size w0 w2 ∧ Cur w2 g a n c ∧ w.grownBy w2 (some g))) :=
    Lib.hid (fun h hc' hg' => ⟨h.1.trans (gc_below hg' hg h.1.size), hc', gc_step h.2.2 hg'⟩)
  have HA : Hid (∀ {w1 : World}, (Below w0.heap.size w0 w1 ∧ Cur w1 g a n c ∧ w.grownBy w1 (some g)) → ∀ o : Obj, (Below w0.heap.size w0 (w1.alloc o) ∧ Cur (w1.alloc o) g a n c ∧ w.grownBy (w1.alloc o) (some g))) :=
    Lib.hid (fun h o => ⟨Below.alloc h.1 h.1.size o, h.2.1.below (Below.alloc (Below.refl _ _) (Nat.le_refl _) o), gc_alloc h.2.2 o⟩)
  clear hz hn hbz hcode hB hg hc
  go_enter Tryd.func44, Tryd.ntmps44
  go_wp2_with (go_at_call 43; refine (H.out _ H0.out.1 H0.out.2.1 4 (WalkArith.wf_i64 (by omega))).mono ?_; rintro e w1 ⟨v, rfl, ⟨hv0, hv1, -⟩, hc1, hg1⟩; have H1 := Lib.hid (HN.out H0.out hc1 hg1); clear hc1 hg1 hv1 H0)
  · refine (HP.out _ (HA.out H1.out _).1 (HA.out H1.out _).2.1 _ NUMS rfl nums_wf (.inr ⟨_, 0, rfl, by simp, fun j hj => by simp [NUMS]⟩) (fun x hx => by cases hx; have := H1.out.2.1.lt_; simp; omega)).mono ?_
    rintro e w2 ⟨v, rfl, hvw, hc1, hg1⟩
    have HV := Lib.hid hvw
    have H2 := Lib.hid (HN.out (HA.out H1.out _) hc1 hg1)
    clear hc1 hg1 hvw H1
    go_wp2
    go_ret
    exact ⟨_, rfl, HV.out, H2.out.2⟩
  · refine (H.out _ H1.out.1 H1.out.2.1 1000000000 (WalkArith.wf_i64 (by omega))).mono ?_
    rintro e w2 ⟨v, rfl, ⟨hv0, hv1, -⟩, hc1, hg1⟩
    have H2 := Lib.hid (HN.out H1.out hc1 hg1)
    clear hc1 hg1 H1
    go_wp2
    go_ret
    exact ⟨_, rfl, WalkArith.wf_i64 (by omega), H2.out.2⟩
  · refine (H.out _ H1.out.1 H1.out.2.1 400 (WalkArith.wf_i64 (by omega))).mono ?_
    rintro e w2 ⟨v, rfl, ⟨hv0, hv1, -⟩, hc1, hg1⟩
    have H2 := Lib.hid (HN.out H1.out hc1 hg1)
    clear hc1 hg1 H1
    go_wp2
    go_ret
    exact ⟨_, rfl, WalkArith.wf_i64 (by omega), H2.out.2⟩
theorem number_at {w0 w1 : World} {a : Option Addr} {n g c : Nat} {zs : List Int} (K : CodeOk w0 a n zs) (h : At w0 w1 g a n c) :
    Calls Tryd.prog 44 #[.pointer (some ⟨g, 0, none⟩)] w1 fun e w2 => ∃ v : Int, e = .returned (.int .i64 v) ∧ (Lit.int .i64 v).wf = true ∧ (At w0 w2 g a n c ∧ w1.grownBy w2 (some g)) :=
  (l01Number_any g a n c zs w0 w1 K.len K.max K.bytes K.rd h.1 h.2.2 h.2.1).mono (fun e w2 hd => h.next hd)
end Go.Proofs.YtlbmmdkmelcedaaDoor
