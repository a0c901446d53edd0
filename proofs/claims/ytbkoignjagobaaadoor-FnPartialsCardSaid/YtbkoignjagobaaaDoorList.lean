/-
  Lists of cells that a call makes: what an append does to them; the cells of a set.
-/
import Derived.Test.YtbkoignjagobaaaDoorHas
import Derived.WalkSmall
import Derived.Test.YtbkoignjagobaaaDoorOwn
namespace Go.Proofs.YtbkoignjagobaaaDoor
open Go.RowKit
set_option linter.unusedVariables false
set_option linter.unusedSimpArgs false

def flatC (L : List (Int × Int)) : List Value := L.flatMap fun p => [.int .i64 p.1, .int .i64 p.2]
theorem flatC_len (L : List (Int × Int)) : (flatC L).length = L.length * 2 := by
  induction L with
  | nil => rfl
  | cons p L ih => simp only [flatC, List.flatMap_cons, List.length_append, List.length_cons, List.length_nil] at ih ⊢; omega
theorem flatC_app (L : List (Int × Int)) (p : Int × Int) : flatC (L ++ [p]) = flatC L ++ [.int .i64 p.1, .int .i64 p.2] := by simp [flatC]
def cellOf (i : Nat) : Int × Int := (((i % 8 : Nat) : Int), ((i / 8 : Nat) : Int))
def cellsK (S k : Nat) : List (Int × Int) := ((List.range k).filter fun i => S.testBit i).map cellOf
def cellsL (S : Nat) : List (Int × Int) := cellsK S 64
theorem cellsK_yes {S k : Nat} (h : S.testBit k = true) : cellsK S (k + 1) = cellsK S k ++ [cellOf k] := by
  simp [cellsK, List.range_succ, List.filter_append, h]
theorem cellsK_no {S k : Nat} (h : S.testBit k = false) : cellsK S (k + 1) = cellsK S k := by
  simp [cellsK, List.range_succ, List.filter_append, h]
theorem cellsK_len (S k : Nat) : (cellsK S k).length ≤ k := by
  unfold cellsK
  rw [List.length_map]
  exact Nat.le_trans (List.length_filter_le _ _) (by simp)
theorem cellInfo : (Tryd.prog.info? 36).map (fun i => (i.zero, i.size, i.bytes)) = some (some (.agg #[.int .i64 0, .int .i64 0]), 2, 16) := by kernel_rfl

/-- The slice value shows the cells L, in blocks from B on. -/
def OwnC (w : World) (B : Nat) (v : Value) (L : List (Int × Int)) : Prop := w.ownsRow B 36 2 v L.length (flatC L)
theorem OwnC.below {w w' : World} {B : Nat} {v : Value} {L : List (Int × Int)} (h : OwnC w B v L) (hb : Below w.heap.size w w') : OwnC w' B v L := own_below h hb
theorem OwnC.alloc {w : World} {B : Nat} {v : Value} {L : List (Int × Int)} (h : OwnC w B v L) (o : Obj) : OwnC (w.alloc o) B v L := World.ownsRow.alloc h o
theorem OwnC.snoc {w : World} {B : Nat} {v : Value} {L : List (Int × Int)} {x y : Int} (h : w.ownsRow B 36 2 v (L.length + 1) (flatC L ++ [.int .i64 x, .int .i64 y])) : OwnC w B v (L ++ [(x, y)]) := by
  unfold OwnC
  rw [flatC_app, List.length_append]
  exact h
theorem OwnC.new (w : World) (B : Nat) (hB : B ≤ w.heap.size) (o : Obj) (ho : o = .cells #[] 36) : OwnC (w.alloc o) B (.slice (some ⟨w.heap.size, 0, none⟩) 0 0) [] := by
  subst ho
  exact World.ownsRow_made w #[] 0 hB (by simp [maxLen]) (by simp)
theorem cell_pair {k : Nat} : Value.int .i64 ((k : Int) % 8) = .int .i64 (cellOf k).1 ∧ Value.int .i64 ((k : Int) / 8) = .int .i64 (cellOf k).2 := by
  unfold cellOf
  constructor <;> congr 1

set_option maxHeartbeats 800000 in
set_option maxRecDepth 100000 in
theorem cells_any (S : Nat) (w : World) (hS : Hid (S < 2 ^ 64)) :
    Calls Tryd.prog 22 #[.int .u64 (S : Int)] w fun e w' => ∃ a c, e = .returned (.slice a (cellsL S).length c) ∧ OwnC w' w.heap.size (.slice a (cellsL S).length c) (cellsL S) ∧ Below w.heap.size w w' := by
  obtain ⟨i0, hi, hz0, hz1, hz2⟩ := info_parts cellInfo
  go_enter Tryd.func22, Tryd.ntmps22
  go_wp2
  go_loopw [3, 6] (fun v i wr => ∃ (k : Nat) (L : List (Int × Int)) (a : Option Addr) (c : Nat), k ≤ 64 ∧ i = .int .i64 k ∧ v = .slice a L.length c ∧ Hid (OwnC wr w.heap.size (.slice a L.length c) L) ∧ Hid (L = cellsK S k) ∧ Below w.heap.size w wr)
    (fun _ i _ => 64 - (intOf i).toNat)
  case atStart => exact ⟨0, [], _, _, Nat.zero_le _, rfl, rfl, Lib.hid (OwnC.new _ _ (Nat.le_refl _) _ rfl), Lib.hid rfl, by repeat' (first | assumption | (with_reducible exact Below.refl _ _) | (with_reducible refine Below.drew ?_) | (with_reducible refine Below.alloc ?_ ?_ _) | (with_reducible refine Below.setCell ?_ ?_ _) | omega | (simp; done) | (simp; omega))⟩
  case round =>
    obtain ⟨k, L, a, c, hk, rfl, rfl, hO, hL, hB⟩ := hrel
    by_cases hlt : k < 64
    · have e1 : bits .and .u64 ((S : Int) / 2 ^ k) 1 = ((S / 2 ^ k % 2 : Nat) : Int) := shr_bit hS.out
      have hlen : L.length ≤ k := by have := cellsK_len S k; rw [← hL.out] at this; exact this
      have hsz := hB.size
      by_cases hb : S / 2 ^ k % 2 = 1
      · have ht : ((S : Int) / 2 ^ k % 2 == 1) = true := by rw [bit_test]; simpa using hb
        have HT : Hid (S.testBit k = true) := Lib.hid (by rw [testBit_mod]; simpa using hb)
        clear hb
        go_wp2_with (first
          | (go_at_call 40; refine (cellAt_any _ _ (by omega) (by omega)).mono ?_; rintro e w1 ⟨rfl, hb1⟩; have hzz := hb1.size; have hO1 := Lib.hid (hO.out.below hb1); have hB1 : Below w.heap.size w w1 := below_step hb1 (by omega) (by assumption); clear hb1)
          | (at_builtin; refine wpList_append_own _ rfl _ _ 31 rfl w.heap.size 36 i0 (.agg #[.int .i64 0, .int .i64 0]) 2 16 Tryd.underlying31 hi hz0 hz1 hz2 rfl (by decide) _ _ _ rfl (World.ownsRow.alloc hO1.out _) ⟨w1.heap.size, 0, none⟩ 1 1 [.int .i64 ((k : Int) % 8), .int .i64 ((k : Int) / 8)] rfl rfl (cell_two_new _ _ _ _) (by intro u hu; simp at hu; rcases hu with rfl | rfl <;> rfl) (by unfold maxLen; omega) (by omega) (by simp; omega) ?_; intro v3 w3 hown3 hgrow3 hnil3))
        obtain ⟨a3, c3, hv3⟩ := own_slice hown3
        have HO3 : Hid (OwnC w3 w.heap.size (.slice a3 (L.length + 1) c3) (L ++ [cellOf k])) := Lib.hid (by rw [hv3] at hown3; exact OwnC.snoc (x := (k : Int) % 8) (y := (k : Int) / 8) hown3)
        rw [hv3]
        have hB3 : Below w.heap.size w w3 := hB1.trans (((Below.refl _ _).alloc (by omega) _).trans (grown_below (World.ownsRow.alloc hO1.out _) hgrow3 (by simp; omega)))
        clear hown3 hgrow3 hnil3 hv3
        go_wp2
        go_roundw
        case rel => exact ⟨k + 1, L ++ [cellOf k], a3, c3, by omega, by go_num, by simp, Lib.hid (by simpa using HO3.out), Lib.hid (by rw [cellsK_yes HT.out, hL.out]), hB3⟩
        case measure => simp [intOf]; omega
      · have ht : ((S : Int) / 2 ^ k % 2 == 1) = false := by rw [bit_test]; simpa using hb
        have HT : Hid (S.testBit k = false) := Lib.hid (by rw [testBit_mod]; simpa using hb)
        clear hb
        go_wp2
        go_roundw
        case rel => exact ⟨k + 1, L, a, c, by omega, by go_num, rfl, hO, Lib.hid (by rw [cellsK_no HT.out, hL.out]), hB⟩
        case measure => simp [intOf]; omega
    · have hkn : k = 64 := by omega
      have HL : Hid (L = cellsL S) := Lib.hid (by rw [hL.out, hkn]; rfl)
      clear hkn hL
      go_wp2
      go_ret
      exact ⟨a, c, (by show Ending.returned (Value.slice a L.length c) = _; rw [HL.out]), by rw [← HL.out]; exact hO.out, hB⟩
end Go.Proofs.YtbkoignjagobaaaDoor
