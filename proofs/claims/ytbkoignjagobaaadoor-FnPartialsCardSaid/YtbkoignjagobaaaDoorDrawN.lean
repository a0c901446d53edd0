/-
  The cursor from a caller's side: what each draw hands out, and that the cursor stands. Contract of a number.
-/
import Derived.Test.YtbkoignjagobaaaDoorDraw
namespace Go.Proofs.YtbkoignjagobaaaDoor
open Go.RowKit
set_option linter.unusedVariables false
set_option linter.unusedSimpArgs false

/-- The bytes that a law draws from. -/
structure CodeOk (w : World) (a : Option Addr) (n : Nat) (zs : List Int) : Prop where
  len : zs.length = n
  le : n ≤ 1048576
  bytes : Bytes zs
  rd : RdB w a zs
theorem CodeOk.max {w : World} {a : Option Addr} {n : Nat} {zs : List Int} (h : CodeOk w a n zs) : n ≤ maxLen := by
  have := h.le
  unfold maxLen
  omega
theorem CodeOk.below {w w1 : World} {a : Option Addr} {n : Nat} {zs : List Int} (h : CodeOk w a n zs) (hb : Below w.heap.size w w1) : CodeOk w1 a n zs := ⟨h.len, h.le, h.bytes, h.rd.below hb⟩
theorem IsRow.max_ {w : World} {a : Option Addr} {len cap : Nat} {zs : List Int} (h : IsRow .u8 w a len cap zs) : len ≤ maxLen := Nat.le_trans h.rd.2.2.2.1 h.rd.2.2.2.2
theorem IsRow.code {w : World} {a : Option Addr} {len cap : Nat} {zs : List Int} (h : IsRow .u8 w a len cap zs) (hn : ¬ 1048576 < len) : CodeOk w a len (zs.take len) :=
  ⟨h.rd.2.1, by omega, fun v hv => by
    have h1 := h.rd.2.2.1 v (List.mem_of_mem_take hv)
    simp [Lit.wf, IntKind.min, IntKind.max, IntKind.signed, IntKind.bits] at h1
    omega, h.rd.1⟩
/-- In the world w1 the cursor stands in block g, over what the caller in w0 had not. -/
def At (w0 w1 : World) (g : Nat) (a : Option Addr) (n c : Nat) : Prop := Below w0.heap.size w0 w1 ∧ Cur w1 g a n c ∧ w0.heap.size ≤ g
theorem Cur.lt_ {w : World} {g : Nat} {a : Option Addr} {n c : Nat} (h : Cur w g a n c) : g < w.heap.size := by
  obtain ⟨_, _, h⟩ := h
  exact h.lt
theorem At.alloc {w0 w1 : World} {g : Nat} {a : Option Addr} {n c : Nat} (h : At w0 w1 g a n c) (o : Obj) : At w0 (w1.alloc o) g a n c :=
  ⟨Below.alloc h.1 h.1.size o, h.2.1.below (Below.alloc (Below.refl _ _) (Nat.le_refl _) o), h.2.2⟩
theorem At.drewN {w0 w1 : World} {g : Nat} {a : Option Addr} {n c : Nat} (h : At w0 w1 g a n c) (k : Nat) : At w0 (w1.drewN k) g a n c :=
  ⟨below_drewN h.1 k, h.2.1.below (below_drewN (Below.refl _ _) k), h.2.2⟩
theorem At.below {w0 w1 w2 : World} {g : Nat} {a : Option Addr} {n c : Nat} (h : At w0 w1 g a n c) (hb : Below w1.heap.size w1 w2) : At w0 w2 g a n c :=
  ⟨h.1.trans (hb.mono h.1.size), h.2.1.below hb, h.2.2⟩
theorem At.next {P : Int → Prop} {w0 w1 w2 : World} {g : Nat} {a : Option Addr} {n c : Nat} {e : Ending} (h : At w0 w1 g a n c) (hd : Drew P w1 g a n c e w2) : ∃ v : Int, e = .returned (.int .i64 v) ∧ P v ∧ At w0 w2 g a n c ∧ w1.grownBy w2 (some g) := by
  obtain ⟨v, he, hp, hc, hg⟩ := hd
  exact ⟨v, he, hp, ⟨h.1.trans (gc_below hg h.2.2 h.1.size), hc, h.2.2⟩, hg⟩
theorem far_of {w1 w2 : World} {g : Nat} (h : w1.grownBy w2 (some g)) : ∀ b o, b < w1.heap.size → b ≠ g → w2.cell? ⟨b, o, none⟩ = w1.cell? ⟨b, o, none⟩ :=
  fun b o hb hn => World.cell?_of_block (a := ⟨b, o, none⟩) (h.block b hb (fun e => hn (by cases e; rfl)))
theorem ice_of {w1 w2 : World} {g : Nat} (h : w1.grownBy w2 (some g)) : ∀ b o, b < w1.heap.size → b ≠ g → w2.frozen? ⟨b, o, none⟩ = w1.frozen? ⟨b, o, none⟩ :=
  fun b o hb hn => World.frozen?_of_block (a := ⟨b, o, none⟩) (h.block b hb (fun e => hn (by cases e; rfl)))
theorem At.lt {w0 w1 : World} {g : Nat} {a : Option Addr} {n c : Nat} (h : At w0 w1 g a n c) : g < w1.heap.size := h.2.1.lt_

theorem big_any (a : Option Addr) (n c : Nat) (w : World) (hn : n ≤ maxLen) : Calls Tryd.prog 4 #[.slice a n c] w fun e w' => e = .returned (.bool (decide (1048576 < n))) ∧ Below w.heap.size w w' := by
  unfold maxLen at hn
  go_enter Tryd.func4, Tryd.ntmps4
  go_wp2
  all_goals go_ret
  all_goals exact ⟨ret_b (by simp; omega), Below.refl _ _⟩

theorem new_at {w0 w : World} {a : Option Addr} {n : Nat} {zs : List Int} (K : CodeOk w0 a n zs) (c : Nat) (hB : Below w0.heap.size w0 w) :
    Calls Tryd.prog 14 #[.slice a n c] w fun e w' => ∃ g : Nat, e = .returned (.pointer (some ⟨g, 0, none⟩)) ∧ At w0 w' g a n c := by
  refine (l01New_any a n c zs w K.len K.le K.bytes (Rd.below K.rd hB)).mono ?_
  rintro e w' ⟨g, he, hg, hc, hb⟩
  exact ⟨g, he, hB.trans (hb.mono hB.size), hc, Nat.le_trans hB.size hg⟩
theorem byte_at {w0 w1 : World} {a : Option Addr} {n g c : Nat} {zs : List Int} (K : CodeOk w0 a n zs) (h : At w0 w1 g a n c) :
    Calls Tryd.prog 50 #[.pointer (some ⟨g, 0, none⟩)] w1 fun e w2 => ∃ v : Int, e = .returned (.int .i64 v) ∧ (0 ≤ v ∧ v ≤ 255) ∧ (At w0 w2 g a n c ∧ w1.grownBy w2 (some g)) :=
  (l01Byte_any g a n c zs w0 w1 K.len K.max K.bytes K.rd h.1 h.2.2 h.2.1).mono (fun e w2 hd => h.next hd)
theorem below_at {w0 w1 : World} {a : Option Addr} {n g c : Nat} {zs : List Int} (K : CodeOk w0 a n zs) (h : At w0 w1 g a n c) (N : Int) (hN : (Lit.int .i64 N).wf = true) :
    Calls Tryd.prog 31 #[.pointer (some ⟨g, 0, none⟩), .int .i64 N] w1 fun e w2 => ∃ v : Int, e = .returned (.int .i64 v) ∧ (0 ≤ v ∧ (0 < N → v < N) ∧ (N ≤ 0 → v = 0)) ∧ (At w0 w2 g a n c ∧ w1.grownBy w2 (some g)) :=
  (l01Below_any g a n c zs w0 w1 K.len K.max K.bytes K.rd h.1 h.2.2 h.2.1 N hN).mono (fun e w2 hd => h.next hd)
theorem once_at {w0 w1 : World} {a : Option Addr} {n g c : Nat} {zs : List Int} (K : CodeOk w0 a n zs) (h : At w0 w1 g a n c) (N : Int) (hN : (Lit.int .i64 N).wf = true) :
    Calls Tryd.prog 33 #[.pointer (some ⟨g, 0, none⟩), .int .i64 N] w1 fun e w2 => ∃ b : Bool, e = .returned (.bool b) ∧ (At w0 w2 g a n c ∧ w1.grownBy w2 (some g)) :=
  (l01Once_any g a n c zs w0 w1 K.len K.max K.bytes K.rd h.1 h.2.2 h.2.1 N hN).mono (fun e w2 hd => by
    obtain ⟨b, he, hc, hg⟩ := hd
    exact ⟨b, he, ⟨h.1.trans (gc_below hg h.2.2 h.1.size), hc, h.2.2⟩, hg⟩)

end Go.Proofs.YtbkoignjagobaaaDoor
