/-
  Contracts of the functions that look whether a region is one.
-/
import Derived.Test.YtbkoignjagobaaaDoorCellsB
import Derived.Test.YtbkoignjagobaaaDoorMem
namespace Go.Proofs.YtbkoignjagobaaaDoor
open Go.RowKit
set_option linter.unusedVariables false
set_option linter.unusedSimpArgs false

theorem allWithin_any (a : Option Addr) (n c : Nat) (zs : List Int) (lo hi : Int) (w : World) (hz : zs.length = n) (hn : n ≤ 1048576) (hr : RdI w a zs) :
    Calls Tryd.prog 39 #[.slice a n c, .int .i64 lo, .int .i64 hi] w fun e w' => e = .returned (.bool (zs.all (inB · lo hi))) ∧ w = w' := by
  have HZ := Lib.hid hz
  clear hz
  go_enter Tryd.func39, Tryd.ntmps39
  go_wp2
  go_loop [11] (fun i => ∃ k : Nat, k ≤ n ∧ i = .int .i64 k ∧ Hid ((zs.take k).all (inB · lo hi) = true)) (fun i => n - (intOf i).toNat)
  case atStart => exact ⟨0, Nat.zero_le _, rfl, Lib.hid (by simp)⟩
  case round =>
    obtain ⟨k, hk, rfl, hA⟩ := hrel
    by_cases hlt : k < n
    · obtain ⟨b, off, v, rfl, hb, hcell, hv⟩ := hr.at_ (k := k) (by rw [HZ.out]; exact hlt)
      have HR := Lib.hid hr
      clear hr
      by_cases hin : inB v lo hi = true
      · go_wp2_with (go_at_call 52; refine (within_any _ _ _ _).mono ?_; rintro e w' ⟨rfl, rfl⟩)
        go_round
        case rel => exact ⟨k + 1, by omega, by go_num, Lib.hid (all_take hv.out hA.out hin)⟩
        case measure => simp [intOf]; omega
      · have hin' : inB v lo hi = false := by simpa using hin
        go_wp2_with (go_at_call 52; refine (within_any _ _ _ _).mono ?_; rintro e w' ⟨rfl, rfl⟩)
        go_ret
        exact ⟨ret_b (all_no hv.out hin').symm, rfl⟩
    · have hkn : k = n := by omega
      have HK := Lib.hid (all_whole HZ.out (by have := hA.out; rwa [hkn] at this))
      clear hr hkn
      go_wp2
      go_ret
      exact ⟨ret_b HK.out.symm, rfl⟩

def rokB (zs : List Int) : Bool := decide (zs.length ≤ 8) && zs.all (inB · 0 255)
theorem implRok_any (a : Option Addr) (n c : Nat) (zs : List Int) (w : World) (hz : zs.length = n) (hn : n ≤ 1048576) (hr : RdI w a zs) :
    Calls Tryd.prog 19 #[.agg #[.slice a n c]] w fun e w' => e = .returned (.bool (rokB zs)) ∧ Below w.heap.size w w' := by
  have HA := fun o : Obj => allWithin_any a n c zs 0 255 (w.alloc o) hz hn (hr.alloc o)
  have H := Lib.hid HA
  clear HA hr
  by_cases h8 : n ≤ 8
  · have HB : Hid (rokB zs = zs.all (inB · 0 255)) := Lib.hid (by simp [rokB, hz, h8])
    clear hz
    go_enter Tryd.func19, Tryd.ntmps19
    go_wp2_with (go_at_call 39; refine (H.out _).mono ?_; rintro e w' ⟨rfl, rfl⟩)
    go_ret
    exact ⟨ret_b HB.out.symm, by repeat' (first | assumption | (with_reducible exact Below.refl _ _) | (with_reducible refine Below.drew ?_) | (with_reducible refine Below.alloc ?_ ?_ _) | (with_reducible refine Below.setCell ?_ ?_ _) | omega | (simp; done) | (simp; omega))⟩
  · have HB : Hid (rokB zs = false) := Lib.hid (by simp [rokB, hz, h8])
    clear hz
    go_enter Tryd.func19, Tryd.ntmps19
    go_wp2_with (go_at_call 39; refine (H.out _).mono ?_; rintro e w' ⟨rfl, rfl⟩)
    go_ret
    exact ⟨ret_b HB.out.symm, by repeat' (first | assumption | (with_reducible exact Below.refl _ _) | (with_reducible refine Below.drew ?_) | (with_reducible refine Below.alloc ?_ ?_ _) | (with_reducible refine Below.setCell ?_ ?_ _) | omega | (simp; done) | (simp; omega))⟩
theorem specRok_any (a : Option Addr) (n c : Nat) (zs : List Int) (w : World) (hz : zs.length = n) (hn : n ≤ 1048576) (hr : RdI w a zs) :
    Calls Tryd.prog 43 #[.agg #[.slice a n c]] w fun e w' => e = .returned (.bool (rokB zs)) ∧ Below w.heap.size w w' := by
  have HZ := Lib.hid hz
  clear hz
  go_enter Tryd.func43, Tryd.ntmps43
  go_wp2
  go_loop [3] (fun i => ∃ k : Nat, k ≤ n ∧ i = .int .i64 k ∧ Hid ((zs.take k).all (inB · 0 255) = true)) (fun i => n - (intOf i).toNat)
  case atStart => exact ⟨0, Nat.zero_le _, rfl, Lib.hid (by simp)⟩
  case round =>
    obtain ⟨k, hk, rfl, hA⟩ := hrel
    by_cases hlt : k < n
    · obtain ⟨b, off, v, rfl, hb, hcell, hv⟩ := hr.at_ (k := k) (by rw [HZ.out]; exact hlt)
      have HR := Lib.hid hr
      clear hr
      by_cases hin : inB v 0 255 = true
      · go_wp2_with (go_at_call 51; refine (specIn_any _ _ _ _).mono ?_; rintro e w' ⟨rfl, rfl⟩)
        go_round
        case rel => exact ⟨k + 1, by omega, by go_num, Lib.hid (all_take hv.out hA.out hin)⟩
        case measure => simp [intOf]; omega
      · have hin' : inB v 0 255 = false := by simpa using hin
        have HB : Hid (rokB zs = false) := Lib.hid (by simp only [rokB, all_no (p := (inB · 0 255)) hv.out hin', Bool.and_false])
        go_wp2_with (go_at_call 51; refine (specIn_any _ _ _ _).mono ?_; rintro e w' ⟨rfl, rfl⟩)
        go_ret
        exact ⟨ret_b HB.out.symm, by repeat' (first | assumption | (with_reducible exact Below.refl _ _) | (with_reducible refine Below.drew ?_) | (with_reducible refine Below.alloc ?_ ?_ _) | (with_reducible refine Below.setCell ?_ ?_ _) | omega | (simp; done) | (simp; omega))⟩
    · have hkn : k = n := by omega
      have HK : Hid (rokB zs = decide (n ≤ 8)) := Lib.hid (by simp only [rokB, all_whole HZ.out (by have := hA.out; rwa [hkn] at this), HZ.out, Bool.and_true])
      clear hr hkn
      by_cases h8 : n ≤ 8
      · go_wp2
        go_ret
        exact ⟨ret_b (by rw [HK.out]; first | exact (decide_eq_true h8).symm | exact (decide_eq_false h8).symm | (simp; omega)), by repeat' (first | assumption | (with_reducible exact Below.refl _ _) | (with_reducible refine Below.drew ?_) | (with_reducible refine Below.alloc ?_ ?_ _) | (with_reducible refine Below.setCell ?_ ?_ _) | omega | (simp; done) | (simp; omega))⟩
      · go_wp2
        go_ret
        exact ⟨ret_b (by rw [HK.out]; first | exact (decide_eq_true h8).symm | exact (decide_eq_false h8).symm | (simp; omega)), by repeat' (first | assumption | (with_reducible exact Below.refl _ _) | (with_reducible refine Below.drew ?_) | (with_reducible refine Below.alloc ?_ ?_ _) | (with_reducible refine Below.setCell ?_ ?_ _) | omega | (simp; done) | (simp; omega))⟩
end Go.Proofs.YtbkoignjagobaaaDoor
