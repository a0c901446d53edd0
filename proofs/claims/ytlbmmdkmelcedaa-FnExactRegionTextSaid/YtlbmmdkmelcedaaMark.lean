/-
  Contracts of the law's helpers that write into a result and look at it again.
-/
import Derived.Test.YtlbmmdkmelcedaaRegI
namespace Go.Proofs.Ytlbmmdkmelcedaa
open Go.RowKit
set_option linter.unusedVariables false
set_option linter.unusedSimpArgs false

/-- The numbers from 1 on, as cells. -/
def MK (m : Nat) : List Value := (List.range m).map fun i : Nat => Value.int .i64 (1 + (i : Int))
theorem MK_len (m : Nat) : (MK m).length = m := by simp [MK]
theorem MK_at {m i : Nat} (h : i < m) : (MK m)[i]? = some (.int .i64 (1 + (i : Int))) := by simp [MK, h]
theorem MK_succ (m : Nat) : MK (m + 1) = MK m ++ [.int .i64 (1 + (m : Int))] := by simp [MK, List.range_succ]
theorem mk_set {xs : List Value} {j : Nat} (hj : j < xs.length) (h : xs.take j = MK j) : (xs.set j (.int .i64 (1 + (j : Int)))).take (j + 1) = MK (j + 1) := by
  rw [MK_succ, ← h, List.take_add_one, List.take_set]
  simp [List.getElem?_set, hj]
  rw [List.set_eq_of_length_le (by rw [List.length_take]; omega)]
theorem gb_set {a w : World} {g : Nat} (h : a.grownBy w (some g)) (o : Nat) (u : Value) : a.grownBy (w.setCell ⟨g, o, none⟩ u) (some g) :=
  ⟨h.os, h.tape, h.output, by simpa [World.setCell] using h.size, fun i hi hne => (Below.heap_setCell w ⟨g, o, none⟩ u i (by rintro rfl; exact hne rfl)).trans (h.block i hi hne)⟩
theorem gb_alloc {a w : World} {r : Option Nat} (h : a.grownBy w r) (o : Obj) : a.grownBy (w.alloc o) r :=
  ⟨h.os, h.tape, h.output, Nat.le_trans h.size (by simp), fun i hi hne => (Below.heap_alloc w o i (Nat.lt_of_lt_of_le hi h.size)).trans (h.block i hi hne)⟩
theorem gb_step {a w w' : World} {r : Option Nat} (h : a.grownBy w r) (hg : w.grownBy w' r) : a.grownBy w' r :=
  ⟨hg.os.trans h.os, hg.tape.trans h.tape, hg.output.trans h.output, Nat.le_trans h.size hg.size, fun i hi hne => (hg.block i (Nat.lt_of_lt_of_le hi h.size) hne).trans (h.block i hi hne)⟩
theorem gb_below {a w : World} {g B : Nat} (h : a.grownBy w (some g)) (hB : B ≤ g) (hs : B ≤ a.heap.size) : Below B a w := (Below.refl _ _).grown h hs (fun k hk => by cases hk; exact hB)

set_option maxRecDepth 100000 in
theorem markIntS_any (g n c : Nat) (B : Nat) (xs : List Value) (w : World) (hn : n ≤ 1048576) (ho : w.ownsRow B 3 1 (.slice (some ⟨g, 0, none⟩) n c) n xs) :
    Calls Try.prog 24 #[.slice (some ⟨g, 0, none⟩) n c, .int .i64 1] w fun e w' => e = .returned (.int .i64 (1 + (n : Int))) ∧ w'.ownsRow B 3 1 (.slice (some ⟨g, 0, none⟩) n c) n (MK n) ∧ w.grownBy w' (some g) := by
  go_enter Try.func24, Try.ntmps24
  go_wp2
  go_loopw [1, 5] (fun s i wr => ∃ (k : Nat) (ys : List Value), k ≤ n ∧ i = .int .i64 k ∧ s = .int .i64 (1 + (k : Int)) ∧ wr.ownsRow B 3 1 (.slice (some ⟨g, 0, none⟩) n c) n ys ∧ Hid (ys.take k = MK k) ∧ w.grownBy wr (some g)) (fun _ i _ => n - (intOf i).toNat)
  case atStart => exact ⟨0, xs, Nat.zero_le _, rfl, rfl, ho, Lib.hid (by simp [MK]), World.grownBy.refl _ _⟩
  case round =>
    obtain ⟨k, ys, hk, rfl, rfl, hown, hX, hG⟩ := hrel
    have hl := hown.1
    by_cases hlt : k < n
    · have hc := hown.cellAt k (by omega)
      have hf := hown.frozenAt k
      have hk' : k < ys.length := by omega
      rw [List.getElem?_eq_getElem hk'] at hc
      obtain ⟨u, hu⟩ : ∃ u, u = ys[k] := ⟨_, rfl⟩
      rw [← hu] at hc
      have HST := Lib.hid (hown.stored k (.int .i64 (1 + (k : Int)))).1
      have HX : Hid ((ys.set k (.int .i64 (1 + (k : Int)))).take (k + 1) = MK (k + 1)) := Lib.hid (mk_set hk' hX.out)
      clear hu hl hown hk' ho
      go_wp2
      go_roundw
      case rel => exact ⟨k + 1, _, by omega, by go_num, congrArg (Value.int .i64) (by omega), HST.out, HX, gb_set hG _ _⟩
      case measure => simp [intOf]; omega
    · have hkn : k = n := by omega
      have HX : Hid (ys = MK n) := Lib.hid (by have h := hX.out; rwa [hkn, List.take_of_length_le (by omega)] at h)
      have HO := Lib.hid hown
      have HK := Lib.hid hkn
      clear hkn hl hown ho
      go_wp2
      go_ret
      exact ⟨ret_i (by rw [HK.out]), by rw [← HX.out]; exact HO.out, hG⟩
theorem markRegion_any (g n c : Nat) (B : Nat) (xs : List Value) (w : World) (hn : n ≤ 1048576) (ho : w.ownsRow B 3 1 (.slice (some ⟨g, 0, none⟩) n c) n xs) :
    Calls Try.prog 15 #[.agg #[.slice (some ⟨g, 0, none⟩) n c], .int .i64 1] w fun e w' => e = .returned (.int .i64 (1 + (n : Int))) ∧ w'.ownsRow B 3 1 (.slice (some ⟨g, 0, none⟩) n c) n (MK n) ∧ w.grownBy w' (some g) := by
  have H := Lib.hid (fun o : Obj => markIntS_any g n c B xs (w.alloc o) hn (ho.alloc o))
  clear ho
  go_enter Try.func15, Try.ntmps15
  go_wp2_with (go_at_call 24; refine (H.out _).mono ?_; rintro e w1 ⟨rfl, ho1, hg1⟩; have HO := Lib.hid ho1; have HG : Hid (w.grownBy w1 (some g)) := Lib.hid (gb_step (gb_alloc (World.grownBy.refl _ _) _) hg1); clear ho1 hg1)
  go_ret
  exact ⟨rfl, HO.out, HG.out⟩

end Go.Proofs.Ytlbmmdkmelcedaa
