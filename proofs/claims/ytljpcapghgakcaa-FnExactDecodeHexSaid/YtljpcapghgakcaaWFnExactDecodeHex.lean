/-
  The walk of the law FnExactDecodeHex: it returns true, and nothing that was there is written.
-/
import Derived.Test.YtljpcapghgakcaaHexDI
namespace Go.Proofs.Ytljpcapghgakcaa.fnExactDecodeHex
open Go.RowKit
set_option linter.unusedVariables false
set_option linter.unusedSimpArgs false

theorem spec_no (s : ByteArray) (w : World) (hs : ¬ (s.size ≤ 40000 ∧ s.size % 2 = 0)) (hm : s.size ≤ 1048576) : Calls Try.prog 8 #[.string s] w fun e w' => e = .returned (.tuple #[.string ⟨#[]⟩, .bool false]) ∧ Below w.heap.size w w' := by
  by_cases h : s.size ≤ 40000
  · have h1 : ¬ (40000 : Int) < (s.size : Int) := by omega
    have h2 : (s.size : Int) % 2 = 1 := by omega
    clear hs h
    go_enter Try.func8, Try.ntmps8
    go_wp2
    all_goals exact bodyPost_ret (v := .tuple #[.string ⟨#[]⟩, .bool false]) (by simp [results, Try.results8, go_sem]) rfl ⟨rfl, by repeat' (first | assumption | (with_reducible exact Below.refl _ _) | (with_reducible refine Below.drew ?_) | (with_reducible refine Below.alloc ?_ ?_ _) | (with_reducible refine Below.setCell ?_ ?_ _) | omega | (simp; done) | (simp; omega))⟩
  · have h1 : (40000 : Int) < (s.size : Int) := by omega
    clear hs h
    go_enter Try.func8, Try.ntmps8
    go_wp2
    all_goals exact bodyPost_ret (v := .tuple #[.string ⟨#[]⟩, .bool false]) (by simp [results, Try.results8, go_sem]) rfl ⟨rfl, by repeat' (first | assumption | (with_reducible exact Below.refl _ _) | (with_reducible refine Below.drew ?_) | (with_reducible refine Below.alloc ?_ ?_ _) | (with_reducible refine Below.setCell ?_ ?_ _) | omega | (simp; done) | (simp; omega))⟩
theorem impl_no (s : ByteArray) (w : World) (hs : ¬ (s.size ≤ 40000 ∧ s.size % 2 = 0)) (hm : s.size ≤ 1048576) : Calls Try.prog 9 #[.string s] w fun e w' => e = .returned (.tuple #[.string ⟨#[]⟩, .bool false]) ∧ Below w.heap.size w w' := by
  by_cases h : s.size % 2 = 0
  · have h1 : (40000 : Int) < (s.size : Int) := by omega
    have h2 : (s.size : Int) % 2 = 0 := by omega
    clear hs h
    go_enter Try.func9, Try.ntmps9
    go_wp2
    all_goals exact bodyPost_ret (v := .tuple #[.string ⟨#[]⟩, .bool false]) (by simp [results, Try.results9, go_sem]) rfl ⟨rfl, by repeat' (first | assumption | (with_reducible exact Below.refl _ _) | (with_reducible refine Below.drew ?_) | (with_reducible refine Below.alloc ?_ ?_ _) | (with_reducible refine Below.setCell ?_ ?_ _) | omega | (simp; done) | (simp; omega))⟩
  · have h2 : (s.size : Int) % 2 = 1 := by omega
    clear hs h
    go_enter Try.func9, Try.ntmps9
    go_wp2
    all_goals exact bodyPost_ret (v := .tuple #[.string ⟨#[]⟩, .bool false]) (by simp [results, Try.results9, go_sem]) rfl ⟨rfl, by repeat' (first | assumption | (with_reducible exact Below.refl _ _) | (with_reducible refine Below.drew ?_) | (with_reducible refine Below.alloc ?_ ?_ _) | (with_reducible refine Below.setCell ?_ ?_ _) | omega | (simp; done) | (simp; omega))⟩

set_option maxRecDepth 100000 in
theorem walk (s0 : ByteArray) (w : World) (w0 : s0.size ≤ maxLen) :
    Calls Try.prog 4 #[.string s0] w fun e w' => e = .returned (.bool true) ∧ Below w.heap.size w w' := by
  unfold maxLen at w0
  by_cases hbig : s0.size ≤ 1048576
  · obtain ⟨S, b, HS, HI⟩ : ∃ (S : ByteArray) (b : Bool), Hid (∀ w, Calls Try.prog 8 #[.string s0] w fun e w' => e = .returned (.tuple #[.string S, .bool b]) ∧ Below w.heap.size w w') ∧ Hid (∀ w, Calls Try.prog 9 #[.string s0] w fun e w' => e = .returned (.tuple #[.string S, .bool b]) ∧ Below w.heap.size w w') := by
      by_cases h : s0.size ≤ 40000 ∧ s0.size % 2 = 0
      · exact ⟨_, _, Lib.hid (fun w => specDec_any s0 w h.1 h.2), Lib.hid (fun w => implDec_any s0 w h.1 h.2)⟩
      · exact ⟨_, _, Lib.hid (fun w => spec_no s0 w h hbig), Lib.hid (fun w => impl_no s0 w h hbig)⟩
    have h1 : ¬ (1048576 : Int) < (s0.size : Int) := by omega
    clear hbig
    go_enter Try.func4, Try.ntmps4
    go_wp2_with (first | (go_at_call 8; refine (HS.out _).mono ?_; rintro e w1 ⟨rfl, hb1⟩) | (go_at_call 9; refine (HI.out _).mono ?_; rintro e w2 ⟨rfl, hb2⟩))
    all_goals go_ret
    all_goals exact ⟨rfl, hb1.trans (hb2.mono hb1.size)⟩
  · have h1 : (1048576 : Int) < (s0.size : Int) := by omega
    go_enter Try.func4, Try.ntmps4
    go_wp2
    go_ret
    exact ⟨rfl, Below.refl _ _⟩
end Go.Proofs.Ytljpcapghgakcaa.fnExactDecodeHex
