/-
  Contracts of the cursor from which the law's inputs are drawn: what it hands out is within its bounds; nothing but the cursor's own block is written.
-/
import Derived.Test.YtbkoignjagobaaaDoorMem
import Derived.Test.YtbkoignjagobaaaDoorCellsB
namespace Go.Proofs.YtbkoignjagobaaaDoor
open Go.RowKit
set_option linter.unusedVariables false
set_option linter.unusedSimpArgs false

theorem and255 (X : Int) : 0 ≤ bits .and .i64 X 255 ∧ bits .and .i64 X 255 ≤ 255 := by
  have h : bits .and .i64 X 255 = IntKind.i64.wrap ((BitVec.ofInt 64 X &&& BitVec.ofInt 64 (255 : Int)).toNat : Int) := rfl
  have e1 : (BitVec.ofInt 64 (255 : Int)).toNat = 255 := by decide
  have h2 : (BitVec.ofInt 64 X &&& BitVec.ofInt 64 (255 : Int)).toNat ≤ 255 := by
    rw [BitVec.toNat_and, e1]
    exact Nat.and_le_right
  rw [h, IntKind.wrap_i64]
  omega
theorem and30 (X : Int) : 0 ≤ bits .and .i64 X 1073741823 ∧ bits .and .i64 X 1073741823 ≤ 1073741823 := by
  have h : bits .and .i64 X 1073741823 = IntKind.i64.wrap ((BitVec.ofInt 64 X &&& BitVec.ofInt 64 (1073741823 : Int)).toNat : Int) := rfl
  have e1 : (BitVec.ofInt 64 (1073741823 : Int)).toNat = 1073741823 := by decide
  have h2 : (BitVec.ofInt 64 X &&& BitVec.ofInt 64 (1073741823 : Int)).toNat ≤ 1073741823 := by
    rw [BitVec.toNat_and, e1]
    exact Nat.and_le_right
  rw [h, IntKind.wrap_i64]
  omega
theorem gc_set {a w : World} {g : Nat} (h : a.grownBy w (some g)) (o : Nat) (u : Value) : a.grownBy (w.setCell ⟨g, o, none⟩ u) (some g) :=
  ⟨h.os, h.tape, h.output, by simpa [World.setCell] using h.size, fun i hi hne => (Below.heap_setCell w ⟨g, o, none⟩ u i (by rintro rfl; exact hne rfl)).trans (h.block i hi hne)⟩
theorem gc_alloc {a w : World} {r : Option Nat} (h : a.grownBy w r) (o : Obj) : a.grownBy (w.alloc o) r :=
  ⟨h.os, h.tape, h.output, Nat.le_trans h.size (by simp), fun i hi hne => (Below.heap_alloc w o i (Nat.lt_of_lt_of_le hi h.size)).trans (h.block i hi hne)⟩
theorem gc_step {a w w' : World} {r : Option Nat} (h : a.grownBy w r) (hg : w.grownBy w' r) : a.grownBy w' r :=
  ⟨hg.os.trans h.os, hg.tape.trans h.tape, hg.output.trans h.output, Nat.le_trans h.size hg.size, fun i hi hne => (hg.block i (Nat.lt_of_lt_of_le hi h.size) hne).trans (h.block i hi hne)⟩
theorem gc_below {a w : World} {g B : Nat} (h : a.grownBy w (some g)) (hB : B ≤ g) (hs : B ≤ a.heap.size) : Below B a w := (Below.refl _ _).grown h hs (fun k hk => by cases hk; exact hB)
theorem below_drewN {B : Nat} {a w : World} (h : Below B a w) (n : Nat) : Below B a (w.drewN n) := ⟨h.os, h.tape, h.output, h.size, h.block⟩
theorem gbd {a w : World} {r : Option Nat} (h : a.grownBy w r) (n : Nat) : a.grownBy (w.drewN n) r := ⟨h.os, h.tape, h.output, h.size, h.block⟩

/-- The bytes of a draw, as a slice shows them. -/
abbrev RdB (w : World) (a : Option Addr) (zs : List Int) : Prop := Rd w a (zs.map (Value.int .u8))
def Bytes (zs : List Int) : Prop := ∀ v ∈ zs, 0 ≤ v ∧ v ≤ 255
/-- The cursor lies in block g, at byte i, with the number h. -/
structure CurI (w : World) (g : Nat) (a : Option Addr) (n c i : Nat) (h : Int) : Prop where
  lt : g < w.heap.size
  le : i ≤ n
  c0 : w.cell? ⟨g, 0, none⟩ = some (.slice a n c)
  c1 : w.cell? ⟨g, 1, none⟩ = some (.int .i64 i)
  c2 : w.cell? ⟨g, 2, none⟩ = some (.int .i64 h)
  f1 : w.frozen? ⟨g, 1, none⟩ = false
  f2 : w.frozen? ⟨g, 2, none⟩ = false
theorem sc_ne {w : World} {g o p : Nat} {v : Value} (h : o ≠ p) : (w.setCell ⟨g, o, none⟩ v).cell? ⟨g, p, none⟩ = w.cell? ⟨g, p, none⟩ :=
  World.cell?_setCell_other _ _ _ _ (by simp [h])
theorem CurI.drew {w : World} {g : Nat} {a : Option Addr} {n c i : Nat} {h : Int} (k : CurI w g a n c i h) (m : Nat) : CurI (w.drewN m) g a n c i h :=
  ⟨k.lt, k.le, k.c0, k.c1, k.c2, k.f1, k.f2⟩
theorem CurI.seed {w : World} {g : Nat} {a : Option Addr} {n c i : Nat} {h : Int} (k : CurI w g a n c i h) (x : Int) : CurI (w.setCell ⟨g, 2, none⟩ (.int .i64 x)) g a n c i x :=
  ⟨by simpa [World.setCell] using k.lt, k.le, (sc_ne (by decide)).trans k.c0, (sc_ne (by decide)).trans k.c1, World.cell?_setCell_same _ _ _ k.c2, by simp [k.f1], by simp [k.f2]⟩
theorem CurI.next {w : World} {g : Nat} {a : Option Addr} {n c i : Nat} {h : Int} (k : CurI w g a n c i h) (hi : i < n) : CurI (w.setCell ⟨g, 1, none⟩ (.int .i64 ((i : Int) + 1))) g a n c (i + 1) h :=
  ⟨by simpa [World.setCell] using k.lt, hi, (sc_ne (by decide)).trans k.c0, World.cell?_setCell_same _ _ _ k.c1, (sc_ne (by decide)).trans k.c2, by simp [k.f1], by simp [k.f2]⟩
def Cur (w : World) (g : Nat) (a : Option Addr) (n c : Nat) : Prop := ∃ (i : Nat) (h : Int), CurI w g a n c i h
theorem Cur.below {w w' : World} {g : Nat} {a : Option Addr} {n c : Nat} (h : Cur w g a n c) (hb : Below w.heap.size w w') : Cur w' g a n c := by
  obtain ⟨i, x, h0, hi, h1, h2, h3, h5, h6⟩ := h
  exact ⟨i, x, Nat.lt_of_lt_of_le h0 hb.size, hi, (hb.cell (p := ⟨g, 0, none⟩) h0).trans h1, (hb.cell (p := ⟨g, 1, none⟩) h0).trans h2, (hb.cell (p := ⟨g, 2, none⟩) h0).trans h3, (hb.frozen (p := ⟨g, 1, none⟩) h0).trans h5, (hb.frozen (p := ⟨g, 2, none⟩) h0).trans h6⟩
/-- What a draw leaves: a number within its bounds; the cursor; and nothing else has turned. -/
def Drew (P : Int → Prop) (w : World) (g : Nat) (a : Option Addr) (n c : Nat) (e : Ending) (w' : World) : Prop :=
  ∃ v : Int, e = .returned (.int .i64 v) ∧ P v ∧ Cur w' g a n c ∧ w.grownBy w' (some g)

set_option maxHeartbeats 800000 in
set_option maxRecDepth 100000 in
theorem l01Byte_any (g : Nat) (a : Option Addr) (n c : Nat) (zs : List Int) (w0 w : World) (hz : zs.length = n) (hn : n ≤ maxLen) (hbz : Bytes zs) (hcode : RdB w0 a zs) (hB : Below w0.heap.size w0 w) (hg : w0.heap.size ≤ g) (hc : Cur w g a n c) :
    Calls Tryd.prog 50 #[.pointer (some ⟨g, 0, none⟩)] w (Drew (fun v => 0 ≤ v ∧ v ≤ 255) w g a n c) := by
  unfold maxLen at hn
  obtain ⟨i, h, hc⟩ := hc
  have HC1 := Lib.hid hc
  obtain ⟨hgs, hi, c0, c1, c2, f1, f2⟩ := hc
  have HZ := Lib.hid hz
  clear hz
  have hcw : RdB w a zs := Rd.below hcode hB
  by_cases hlt : i < n
  · obtain ⟨b, off, u, hab, hb, hcell, hv⟩ := Rd.at_ hcode (k := i) (by simp [HZ.out, hlt])
    have hcell' := (hB.cell (p := ⟨b, off + i, none⟩) hb).trans hcell
    rw [List.getElem?_map, Option.map_eq_some_iff] at hv
    obtain ⟨v, hv1, rfl⟩ := hv
    have hvb := hbz v (List.mem_of_getElem? hv1)
    obtain ⟨hv0, hv255⟩ := hvb
    subst hab
    have hbg : b ≠ g := by omega
    have HC := Lib.hid hcode
    clear hcode hcw hbz hv1 hcell
    have hi1 : (i : Int) < (n : Int) := by omega
    go_enter Tryd.func50, Tryd.ntmps50
    go_wp2
    go_quiet (fail)
    go_wp2
    go_quiet (fail)
    go_wp2
    go_quiet (fail)
    go_wp2
    go_ret
    exact ⟨_, rfl, and255 _, ⟨i + 1, _, ((HC1.out.seed _).drew _).next hlt⟩, gc_set (gbd (gc_set (World.grownBy.refl _ _) _ _) _) _ _⟩
  · have hi1 : ¬ (i : Int) < (n : Int) := by omega
    go_enter Tryd.func50, Tryd.ntmps50
    go_wp2
    go_quiet (fail)
    go_wp2
    go_quiet (fail)
    go_wp2
    try go_quiet (fail)
    go_wp2
    go_ret
    exact ⟨_, rfl, and255 _, ⟨i, _, ((HC1.out.seed _).drew _).drew _⟩, gbd (gbd (gc_set (World.grownBy.refl _ _) _ _) _) _⟩

theorem CurI.new (w : World) (a : Option Addr) (n c : Nat) (x : Int) (ty : TypeId) : CurI (w.alloc (.cells #[.slice a n c, .int .i64 0, .int .i64 x] ty)) w.heap.size a n c 0 x :=
  ⟨by simp, Nat.zero_le _, by simp, by simp, by simp, by simp, by simp⟩

set_option maxHeartbeats 800000 in
set_option maxRecDepth 100000 in
theorem l01New_any (a : Option Addr) (n c : Nat) (zs : List Int) (w : World) (hz : zs.length = n) (hn : n ≤ 1048576) (hbz : Bytes zs) (hcode : RdB w a zs) :
    Calls Tryd.prog 14 #[.slice a n c] w fun e w' => ∃ g : Nat, e = .returned (.pointer (some ⟨g, 0, none⟩)) ∧ w.heap.size ≤ g ∧ Cur w' g a n c ∧ Below w.heap.size w w' := by
  have HZ := Lib.hid hz
  have HB := Lib.hid hbz
  have HC := Lib.hid hcode
  clear hz hbz hcode
  go_enter Tryd.func14, Tryd.ntmps14
  go_wp2
  go_loopw [3, 4] (fun h i wr => ∃ (k : Nat) (x : Int) (m : Nat), k ≤ n ∧ k ≤ 4000 ∧ i = .int .i64 k ∧ h = .int .i64 x ∧ 0 ≤ x ∧ x ≤ 1073741823 ∧ wr = w.drewN m) (fun _ i _ => 4000 - (intOf i).toNat)
  case atStart => exact ⟨0, _, 0, by omega, by omega, rfl, by go_num, by omega, by omega, rfl⟩
  case round =>
    obtain ⟨k, x, m, hk, hk4, rfl, rfl, hx0, hx1, rfl⟩ := hrel
    by_cases hlt : k < n
    · by_cases hl4 : k < 4000
      · obtain ⟨b, off, u, hab, hb, hcell, hv⟩ := Rd.at_ HC.out (k := k) (by simp [HZ.out, hlt])
        rw [List.getElem?_map, Option.map_eq_some_iff] at hv
        obtain ⟨v, hv1, rfl⟩ := hv
        have hvb := HB.out v (List.mem_of_getElem? hv1)
        obtain ⟨hv0, hv255⟩ := hvb
        subst hab
        have hk1 : (k : Int) < (n : Int) := by omega
        have hk2 : (k : Int) < 4000 := by omega
        clear hv1
        go_wp2
        go_roundw
        case rel => exact ⟨k + 1, _, _, by omega, by omega, by go_num, rfl, (and30 _).1, (and30 _).2, rfl⟩
        case measure => simp [intOf]; omega
      · have hk2 : ¬ (k : Int) < 4000 := by omega
        have hk1 : (k : Int) < (n : Int) := by omega
        go_wp2
        go_ret
        exact ⟨w.heap.size, rfl, Nat.le_refl _, ⟨0, x, CurI.new (w.drewN m) _ _ _ _ _⟩, Below.alloc (below_drewN (Below.refl _ _) m) (Nat.le_refl _) _⟩
    · have hk1 : ¬ (k : Int) < (n : Int) := by omega
      go_wp2
      go_ret
      exact ⟨w.heap.size, rfl, Nat.le_refl _, ⟨0, x, CurI.new (w.drewN m) _ _ _ _ _⟩, Below.alloc (below_drewN (Below.refl _ _) m) (Nat.le_refl _) _⟩

theorem rem_bd1 {v N : Int} (hv : 0 ≤ v) (hN : ¬ N ≤ 0) : 0 ≤ v.tmod N ∧ (0 < N → v.tmod N < N) ∧ (N ≤ 0 → v.tmod N = 0) :=
  ⟨Int.tmod_nonneg _ hv, fun h => Int.tmod_lt_of_pos _ h, fun h => absurd h hN⟩
theorem rem_bd2 {v N : Int} (hv : 0 ≤ v) (hN : ¬ N ≤ 0) : 0 ≤ v % N ∧ (0 < N → v % N < N) ∧ (N ≤ 0 → v % N = 0) :=
  ⟨Int.emod_nonneg _ (by omega), fun h => Int.emod_lt_of_pos _ h, fun h => absurd h hN⟩

set_option maxHeartbeats 800000 in
set_option maxRecDepth 100000 in
theorem l01Below_any (g : Nat) (a : Option Addr) (n c : Nat) (zs : List Int) (w0 w : World) (hz : zs.length = n) (hn : n ≤ maxLen) (hbz : Bytes zs) (hcode : RdB w0 a zs) (hB : Below w0.heap.size w0 w) (hg : w0.heap.size ≤ g) (hc : Cur w g a n c)
    (N : Int) (hN : (Lit.int .i64 N).wf = true) :
    Calls Tryd.prog 31 #[.pointer (some ⟨g, 0, none⟩), .int .i64 N] w (Drew (fun v => 0 ≤ v ∧ (0 < N → v < N) ∧ (N ≤ 0 → v = 0)) w g a n c) := by
  obtain ⟨hN0, hN1⟩ := wf_bd hN
  clear hN
  have H := Lib.hid (fun (w1 : World) (hB1 : Below w0.heap.size w0 w1) (hc1 : Cur w1 g a n c) => l01Byte_any g a n c zs w0 w1 hz hn hbz hcode hB1 hg hc1)
  have H0 : Hid (Below w0.heap.size w0 w ∧ Cur w g a n c ∧ w.grownBy w (some g)) := Lib.hid ⟨hB, hc, World.grownBy.refl _ _⟩
  have HN : Hid (∀ {w2 w1 : World}, (Below w0.heap.size w0 w1 ∧ Cur w1 g a n c ∧ w.grownBy w1 (some g)) → Cur w2 g a n c → w1.grownBy w2 (some g) → (Below w0.heap.size w0 w2 ∧ Cur w2 g a n c ∧ w.grownBy w2 (some g))) :=
    Lib.hid (fun h hc' hg' => ⟨h.1.trans (gc_below hg' hg h.1.size), hc', gc_step h.2.2 hg'⟩)
  clear hz hn hbz hcode hB hg hc
  go_enter Tryd.func31, Tryd.ntmps31
  by_cases h0 : N ≤ 0
  · go_wp2
    go_ret
    exact ⟨_, rfl, ⟨by omega, by omega, by omega⟩, H0.out.2⟩
  · by_cases h1 : N ≤ 256
    · go_wp2_with (go_at_call 50; refine (H.out _ H0.out.1 H0.out.2.1).mono ?_; rintro e w1 ⟨v, rfl, ⟨hv0, hv1⟩, hc1, hg1⟩; have H1 := Lib.hid (HN.out H0.out hc1 hg1); clear hc1 hg1)
      go_ret
      first
        | exact ⟨_, rfl, rem_bd1 hv0 (by omega), H1.out.2⟩
        | exact ⟨_, rfl, rem_bd2 hv0 (by omega), H1.out.2⟩
    · go_wp2_with (go_at_call 50; refine (H.out _ H0.out.1 H0.out.2.1).mono ?_; rintro e w1 ⟨v1, rfl, ⟨hv10, hv11⟩, hc1, hg1⟩; have H1 := Lib.hid (HN.out H0.out hc1 hg1); clear hc1 hg1)
      go_wp2_with (go_at_call 50; refine (H.out _ H1.out.1 H1.out.2.1).mono ?_; rintro e w2 ⟨v2, rfl, ⟨hv20, hv21⟩, hc1, hg1⟩; have H2 := Lib.hid (HN.out H1.out hc1 hg1); clear hc1 hg1)
      go_wp2_with (go_at_call 50; refine (H.out _ H2.out.1 H2.out.2.1).mono ?_; rintro e w3 ⟨v3, rfl, ⟨hv30, hv31⟩, hc1, hg1⟩; have H3 := Lib.hid (HN.out H2.out hc1 hg1); clear hc1 hg1)
      go_wp2_with (go_at_call 50; refine (H.out _ H3.out.1 H3.out.2.1).mono ?_; rintro e w4 ⟨v4, rfl, ⟨hv40, hv41⟩, hc1, hg1⟩; have H4 := Lib.hid (HN.out H3.out hc1 hg1); clear hc1 hg1)
      go_ret
      first
        | exact ⟨_, rfl, rem_bd1 (by omega) (by omega), H4.out.2⟩
        | exact ⟨_, rfl, rem_bd2 (by omega) (by omega), H4.out.2⟩

set_option maxHeartbeats 800000 in
set_option maxRecDepth 100000 in
theorem l01Once_any (g : Nat) (a : Option Addr) (n c : Nat) (zs : List Int) (w0 w : World) (hz : zs.length = n) (hn : n ≤ maxLen) (hbz : Bytes zs) (hcode : RdB w0 a zs) (hB : Below w0.heap.size w0 w) (hg : w0.heap.size ≤ g) (hc : Cur w g a n c)
    (N : Int) (hN : (Lit.int .i64 N).wf = true) :
    Calls Tryd.prog 33 #[.pointer (some ⟨g, 0, none⟩), .int .i64 N] w (fun e w' => ∃ b : Bool, e = .returned (.bool b) ∧ Cur w' g a n c ∧ w.grownBy w' (some g)) := by
  have H := Lib.hid (l01Below_any g a n c zs w0 w hz hn hbz hcode hB hg hc N hN)
  clear hz hn hbz hcode hB hg hc hN
  go_enter Tryd.func33, Tryd.ntmps33
  go_wp2_with (go_at_call 31; refine (H.out).mono ?_; rintro e w1 ⟨v, rfl, -, hc1, hg1⟩; have H1 := Lib.hid hc1; have H2 := Lib.hid hg1; clear hc1 hg1)
  go_ret
  exact ⟨_, rfl, H1.out, H2.out⟩


end Go.Proofs.YtbkoignjagobaaaDoor
