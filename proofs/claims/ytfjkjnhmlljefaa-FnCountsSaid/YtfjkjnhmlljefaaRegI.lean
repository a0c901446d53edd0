/-
  Contracts of the law's helpers on lists of integers and on regions.
-/
import Derived.Test.YtfjkjnhmlljefaaMem
import Derived.Test.YtfjkjnhmlljefaaCellsB
namespace Go.Proofs.Ytfjkjnhmlljefaa
open Go.RowKit
set_option linter.unusedVariables false
set_option linter.unusedSimpArgs false

theorem intInfo : (Try.prog.info? 3).map (fun i => (i.zero, i.size, i.bytes)) = some (some (.int .i64 0), 1, 8) := by kernel_rfl
theorem szIntS_any (a : Option Addr) (n c : Nat) (w : World) (hn : n ≤ maxLen) :
    Calls Try.prog 32 #[.slice a n c, .int .i64 1048576] w fun e w' => e = .returned (.int .i64 (if n ≤ 1048576 then 1048576 - n else -1)) ∧ w = w' := by
  unfold maxLen at hn
  by_cases h : n ≤ 1048576
  · go_enter Try.func32, Try.ntmps32
    go_wp2
    go_ret
    exact ⟨ret_i (by simp [h]), rfl⟩
  · go_enter Try.func32, Try.ntmps32
    go_wp2
    go_ret
    exact ⟨ret_i (by simp [h]), rfl⟩
theorem szRegion_any (a : Option Addr) (n c : Nat) (w : World) (hn : n ≤ maxLen) :
    Calls Try.prog 11 #[.agg #[.slice a n c], .int .i64 1048576] w fun e w' => e = .returned (.int .i64 (if n ≤ 1048576 then 1048576 - n else -1)) ∧ Below w.heap.size w w' := by
  by_cases h : n ≤ 1048576
  · have H : ∀ W : World, Calls Try.prog 32 #[.slice a n c, .int .i64 1048576] W fun e w' => e = .returned (.int .i64 (1048576 - n)) ∧ W = w' := fun W => by have := szIntS_any a n c W hn; rwa [if_pos h] at this
    have H' := Lib.hid H
    clear H
    have HR : Hid ((if n ≤ 1048576 then (1048576 - n : Int) else -1) = 1048576 - n) := Lib.hid (if_pos h)
    go_enter Try.func11, Try.ntmps11
    go_wp2_with (go_at_call 32; refine (H'.out _).mono ?_; rintro e w' ⟨rfl, rfl⟩)
    go_ret
    exact ⟨ret_i (by first | rfl | exact HR.out.symm), by repeat' (first | assumption | (with_reducible exact Below.refl _ _) | (with_reducible refine Below.drew ?_) | (with_reducible refine Below.alloc ?_ ?_ _) | (with_reducible refine Below.setCell ?_ ?_ _) | omega | (simp; done) | (simp; omega))⟩
  · have H : ∀ W : World, Calls Try.prog 32 #[.slice a n c, .int .i64 1048576] W fun e w' => e = .returned (.int .i64 (-1)) ∧ W = w' := fun W => by have := szIntS_any a n c W hn; rwa [if_neg h] at this
    have H' := Lib.hid H
    clear H
    have HR : Hid ((if n ≤ 1048576 then (1048576 - n : Int) else -1) = -1) := Lib.hid (if_neg h)
    go_enter Try.func11, Try.ntmps11
    go_wp2_with (go_at_call 32; refine (H'.out _).mono ?_; rintro e w' ⟨rfl, rfl⟩)
    go_ret
    exact ⟨ret_i (by first | rfl | exact HR.out.symm), by repeat' (first | assumption | (with_reducible exact Below.refl _ _) | (with_reducible refine Below.drew ?_) | (with_reducible refine Below.alloc ?_ ?_ _) | (with_reducible refine Below.setCell ?_ ?_ _) | omega | (simp; done) | (simp; omega))⟩

set_option maxRecDepth 100000 in
/-- A copy: the first k numbers are those of the list. -/
theorem toIntS_any (a : Option Addr) (n c : Nat) (zs : List Int) (w : World) (hz : zs.length = n) (hn : n ≤ 1048576) (hr : RdI w a zs) :
    Calls Try.prog 35 #[.slice a n c] w fun e w' => e = .returned (.slice (some ⟨w.heap.size, 0, none⟩) n n) ∧
      w'.ownsRow w.heap.size 3 1 (.slice (some ⟨w.heap.size, 0, none⟩) n n) n (zs.map (Value.int .i64)) ∧ Below w.heap.size w w' := by
  obtain ⟨i0, hi, hz0, hz1, hz2⟩ := info_parts intInfo
  have HZ := Lib.hid hz
  clear hz
  go_enter Try.func35, Try.ntmps35
  go_wp2_with (at_make; refine wpList_make_full _ rfl _ _ 24 rfl w.heap.size 3 i0 (.int .i64 0) 1 Try.underlying24 hi hz0 hz1 _ _ _ _ n rfl rfl rfl rfl (by rw [hz2]; omega) (by unfold maxLen; omega) (Nat.le_refl _) ?_; intro w0 hown0 hgrow0)
  go_loopw [4] (fun i wr => ∃ k : Nat, ∃ xs : List Value, k ≤ n ∧ i = .int .i64 k ∧ wr.ownsRow w.heap.size 3 1 (.slice (some ⟨w.heap.size, 0, none⟩) n n) n xs ∧ Hid (xs.take k = (zs.take k).map (Value.int .i64)) ∧ Below w.heap.size w wr)
    (fun i _ => n - (intOf i).toNat)
  case atStart => exact ⟨0, _, Nat.zero_le _, rfl, hown0, Lib.hid (by simp), (Below.refl _ _).grown hgrow0 (Nat.le_refl _) (fun k h => by cases h)⟩
  case round =>
    obtain ⟨k, xs, hk, rfl, hown, hX, hB⟩ := hrel
    have hl := hown.1
    by_cases hlt : k < n
    · obtain ⟨b, off, v, rfl, hb, hcell, hv⟩ := RdI.at_ (Rd.below hr hB) (k := k) (by rw [HZ.out]; exact hlt)
      have hc := hown.cellAt k (by omega)
      have hf := hown.frozenAt k
      have hk' : k < xs.length := by omega
      rw [List.getElem?_eq_getElem hk'] at hc
      obtain ⟨u, hu⟩ : ∃ u, u = xs[k] := ⟨_, rfl⟩
      rw [← hu] at hc
      have hst := hown.stored k (.int .i64 v)
      have HST := Lib.hid hst
      have HL := Lib.hid hl
      have HO := Lib.hid hown
      have HR := Lib.hid hr
      clear hst hu hl hown hr
      go_wp2
      go_roundw
      case rel =>
        refine ⟨k + 1, xs.set k (.int .i64 v), by omega, by go_num, HST.out.1, Lib.hid ?_, hB.setCell (Nat.le_refl _) _⟩
        rw [take_one hv.out, List.map_append, ← hX.out, List.take_add_one, List.take_set]
        simp [List.getElem?_set, hk']
        rw [List.set_eq_of_length_le (by rw [List.length_take]; omega)]
      case measure => simp [intOf]; omega
    · have hkn : k = n := by omega
      have HX : Hid (xs = zs.map (Value.int .i64)) := Lib.hid (by
        have h := hX.out
        rw [hkn, List.take_of_length_le (by omega), List.take_of_length_le (by rw [HZ.out]; exact Nat.le_refl _)] at h
        exact h)
      have HO := Lib.hid hown
      clear hr hkn hl hown
      go_wp2
      go_ret
      exact ⟨rfl, by rw [← HX.out]; exact HO.out, hB⟩

theorem own_base {w : World} {B B' e size n : Nat} {v : Value} {xs : List Value} (h : w.ownsRow B' e size v n xs) (hB : B ≤ B') : w.ownsRow B e size v n xs :=
  ⟨h.1, h.2.imp id (fun ⟨g, cap, cur, a, b, c⟩ => ⟨g, cap, cur, a, Nat.le_trans hB b, c⟩)⟩
theorem below_drewN {B : Nat} {a w : World} (h : Below B a w) (n : Nat) : Below B a (w.drewN n) := ⟨h.os, h.tape, h.output, h.size, h.block⟩
set_option maxRecDepth 100000 in
theorem eqIntS_same (a b : Option Addr) (n c d : Nat) (zs : List Int) (w : World) (hz : zs.length = n) (hn : n ≤ 1048576) (hr : RdI w a zs) (hs : RdI w b zs) :
    Calls Try.prog 40 #[.slice a n c, .slice b n d] w fun e w' => e = .returned (.bool true) ∧ Below w.heap.size w w' := by
  have HZ := Lib.hid hz
  clear hz
  go_enter Try.func40, Try.ntmps40
  go_wp2
  go_loopw [5] (fun i wr => ∃ k : Nat, k ≤ n ∧ i = .int .i64 k ∧ Below w.heap.size w wr) (fun i _ => n - (intOf i).toNat)
  case atStart => exact ⟨0, Nat.zero_le _, rfl, Below.refl _ _⟩
  case round =>
    obtain ⟨k, hk, rfl, hB⟩ := hrel
    by_cases hlt : k < n
    · obtain ⟨b1, off1, v, rfl, hb1, hcell1, hv1⟩ := RdI.at_ (Rd.below hr hB) (k := k) (by rw [HZ.out]; exact hlt)
      obtain ⟨b2, off2, v', rfl, hb2, hcell2, hv2⟩ := RdI.at_ (Rd.below hs hB) (k := k) (by rw [HZ.out]; exact hlt)
      obtain rfl : v = v' := by have h1 := hv1.out; rw [hv2.out] at h1; exact (Option.some.inj h1).symm
      have HR := Lib.hid hr
      have HS := Lib.hid hs
      clear hr hs hv2
      go_wp2
      go_quiet (fail)
      go_wp2
      go_roundw
      case rel => exact ⟨k + 1, by omega, by go_num, below_drewN hB _⟩
      case measure => simp [intOf]; omega
    · clear hr hs
      go_wp2
      go_ret
      exact ⟨rfl, hB⟩
theorem eqRegion_same (a b : Option Addr) (n c d : Nat) (zs : List Int) (w : World) (hz : zs.length = n) (hn : n ≤ 1048576) (hr : RdI w a zs) (hs : RdI w b zs) :
    Calls Try.prog 15 #[.agg #[.slice a n c], .agg #[.slice b n d]] w fun e w' => e = .returned (.bool true) ∧ Below w.heap.size w w' := by
  have HA := fun o o' : Obj => eqIntS_same a b n c d zs ((w.alloc o).alloc o') hz hn ((hr.alloc o).alloc o') ((hs.alloc o).alloc o')
  have H := Lib.hid HA
  clear HA hr hs hz
  go_enter Try.func15, Try.ntmps15
  go_wp2_with (go_at_call 40; refine (H.out _ _).mono ?_; rintro e w1 ⟨rfl, hb1⟩; have hz := hb1.size; (try simp at hz); (first | (have hc1 : ∀ b o, b ≤ w.heap.size + 5 → w1.cell? ⟨b, o, none⟩ = _ := fun b o h => hb1.cell (p := ⟨b, o, none⟩) (by first | omega | (simp; omega)); have hf1 : ∀ b o, b ≤ w.heap.size + 5 → w1.frozen? ⟨b, o, none⟩ = _ := fun b o h => hb1.frozen (p := ⟨b, o, none⟩) (by first | omega | (simp; omega))) | (have hc1 : ∀ b o, b ≤ w.heap.size + 4 → w1.cell? ⟨b, o, none⟩ = _ := fun b o h => hb1.cell (p := ⟨b, o, none⟩) (by first | omega | (simp; omega)); have hf1 : ∀ b o, b ≤ w.heap.size + 4 → w1.frozen? ⟨b, o, none⟩ = _ := fun b o h => hb1.frozen (p := ⟨b, o, none⟩) (by first | omega | (simp; omega))) | (have hc1 : ∀ b o, b ≤ w.heap.size + 3 → w1.cell? ⟨b, o, none⟩ = _ := fun b o h => hb1.cell (p := ⟨b, o, none⟩) (by first | omega | (simp; omega)); have hf1 : ∀ b o, b ≤ w.heap.size + 3 → w1.frozen? ⟨b, o, none⟩ = _ := fun b o h => hb1.frozen (p := ⟨b, o, none⟩) (by first | omega | (simp; omega))) | (have hc1 : ∀ b o, b ≤ w.heap.size + 2 → w1.cell? ⟨b, o, none⟩ = _ := fun b o h => hb1.cell (p := ⟨b, o, none⟩) (by first | omega | (simp; omega)); have hf1 : ∀ b o, b ≤ w.heap.size + 2 → w1.frozen? ⟨b, o, none⟩ = _ := fun b o h => hb1.frozen (p := ⟨b, o, none⟩) (by first | omega | (simp; omega))) | (have hc1 : ∀ b o, b ≤ w.heap.size + 1 → w1.cell? ⟨b, o, none⟩ = _ := fun b o h => hb1.cell (p := ⟨b, o, none⟩) (by first | omega | (simp; omega)); have hf1 : ∀ b o, b ≤ w.heap.size + 1 → w1.frozen? ⟨b, o, none⟩ = _ := fun b o h => hb1.frozen (p := ⟨b, o, none⟩) (by first | omega | (simp; omega))) | (have hc1 : ∀ b o, b ≤ w.heap.size + 0 → w1.cell? ⟨b, o, none⟩ = _ := fun b o h => hb1.cell (p := ⟨b, o, none⟩) (by first | omega | (simp; omega)); have hf1 : ∀ b o, b ≤ w.heap.size + 0 → w1.frozen? ⟨b, o, none⟩ = _ := fun b o h => hb1.frozen (p := ⟨b, o, none⟩) (by first | omega | (simp; omega))) | skip); have hB : Below w.heap.size w w1 := below_step hb1 (by first | omega | (simp; done) | (simp; omega)) (by repeat' (first | assumption | (with_reducible exact Below.refl _ _) | (with_reducible refine Below.drew ?_) | (with_reducible refine Below.alloc ?_ ?_ _) | (with_reducible refine Below.setCell ?_ ?_ _) | omega | (simp; done) | (simp; omega))); clear hb1)
  go_ret
  exact ⟨rfl, by repeat' (first | assumption | (with_reducible exact Below.refl _ _) | (with_reducible refine Below.drew ?_) | (with_reducible refine Below.alloc ?_ ?_ _) | (with_reducible refine Below.setCell ?_ ?_ _) | omega | (simp; done) | (simp; omega))⟩
set_option maxRecDepth 100000 in
theorem toRegion_any (a : Option Addr) (n c : Nat) (zs : List Int) (w : World) (hz : zs.length = n) (hn : n ≤ 1048576) (hr : RdI w a zs) :
    Calls Try.prog 13 #[.agg #[.slice a n c]] w fun e w' => ∃ g, e = .returned (.agg #[.slice (some ⟨g, 0, none⟩) n n]) ∧ w.heap.size ≤ g ∧
      w'.ownsRow w.heap.size 3 1 (.slice (some ⟨g, 0, none⟩) n n) n (zs.map (Value.int .i64)) ∧ Below w.heap.size w w' := by
  have HA := fun o o' o'' : Obj => toIntS_any a n c zs (((w.alloc o).alloc o').alloc o'') hz hn (((hr.alloc o).alloc o').alloc o'')
  have H := Lib.hid HA
  clear HA hr hz
  go_enter Try.func13, Try.ntmps13
  go_wp2_with (go_at_call 35; refine (H.out _ _ _).mono ?_; rintro e w1 ⟨rfl, hown, hb1⟩; have hz := hb1.size; (try simp at hz); have hc1 : ∀ b o, b ≤ w.heap.size + 2 → w1.cell? ⟨b, o, none⟩ = _ := fun b o h => hb1.cell (p := ⟨b, o, none⟩) (by first | omega | (simp; omega)); have hf1 : ∀ b o, b ≤ w.heap.size + 2 → w1.frozen? ⟨b, o, none⟩ = _ := fun b o h => hb1.frozen (p := ⟨b, o, none⟩) (by first | omega | (simp; omega)); have HB := Lib.hid hb1; have HO : Hid (w1.ownsRow (w.heap.size + 1 + 1 + 1) 3 1 (.slice (some ⟨w.heap.size + 1 + 1 + 1, 0, none⟩) n n) n (zs.map (Value.int .i64))) := Lib.hid (by simpa using hown); clear hb1 hown)
  have hB : Below w.heap.size w w1 := below_step HB.out (by first | omega | (simp; done) | (simp; omega)) (by repeat' (first | assumption | (with_reducible exact Below.refl _ _) | (with_reducible refine Below.drew ?_) | (with_reducible refine Below.alloc ?_ ?_ _) | (with_reducible refine Below.setCell ?_ ?_ _) | omega | (simp; done) | (simp; omega)))
  exact bodyPost_ret (v := .agg #[.slice (some ⟨w.heap.size + 1 + 1 + 1, 0, none⟩) n n]) (by simp [results, Try.results13, go_sem, *] <;> omega) rfl
    ⟨_, rfl, by omega, own_base (ownsRow_setCell_below (ownsRow_setCell_below HO.out (by first | omega | (simp; done) | (simp; omega)) _) (by first | omega | (simp; done) | (simp; omega)) _) (by omega), by repeat' (first | assumption | (with_reducible exact Below.refl _ _) | (with_reducible refine Below.drew ?_) | (with_reducible refine Below.alloc ?_ ?_ _) | (with_reducible refine Below.setCell ?_ ?_ _) | omega | (simp; done) | (simp; omega))⟩
end Go.Proofs.Ytfjkjnhmlljefaa
