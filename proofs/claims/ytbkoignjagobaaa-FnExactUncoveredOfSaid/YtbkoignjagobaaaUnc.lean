/-
  Contracts of the uncovered cells.
-/
import Derived.Test.YtbkoignjagobaaaPartW
import Derived.Test.YtbkoignjagobaaaDat
import Derived.Test.YtbkoignjagobaaaCountB
import Derived.Maps.AppendAt
namespace Go.Proofs.Ytbkoignjagobaaa
open Go.RowKit
set_option linter.unusedVariables false
set_option linter.unusedSimpArgs false

/-- The cells that no valid domino of a list covers. -/
def uncL (zs : List Int) (L : List DomI) : List (Int × Int) := if rokB zs then cellsL (dif (setS zs) (cov L)) else []
theorem uncL_yes {zs : List Int} {L : List DomI} (h : rokB zs = true) : uncL zs L = cellsL (dif (setS zs) (cov L)) := by simp [uncL, h]
theorem uncL_no {zs : List Int} {L : List DomI} (h : rokB zs = false) : uncL zs L = [] := by simp [uncL, h]
theorem uncL_len (zs : List Int) (L : List DomI) : (uncL zs L).length ≤ 64 := by
  unfold uncL
  split
  · exact cellsK_len _ _
  · simp
theorem unc_filter (zs : List Int) (L : List DomI) : (coL zs).filter (fun p => decide (dat L p.1 p.2 < 0)) = uncL zs L := by
  by_cases h : rokB zs = true
  · rw [coL_yes h, uncL_yes h]
    unfold cellsL cellsK
    rw [List.filter_map, List.filter_filter]
    congr 1
    apply List.filter_congr
    intro i hi
    have hi' := List.mem_range.1 hi
    have e := dat_neg L hi'
    have e2 : decide (dat L (cellOf i).1 (cellOf i).2 < 0) = !(cov L).testBit i := by
      rw [← e]; rfl
    simp only [Function.comp_apply, e2]
    rw [dif_bit (setS_lt h) (cov_lt L), Bool.and_comm]
  · have h' : rokB zs = false := by simpa using h
    rw [coL_no h', uncL_no h']
    rfl

set_option maxHeartbeats 800000 in
set_option maxRecDepth 100000 in
theorem implUnc_any (a : Option Addr) (n c : Nat) (zs : List Int) (b0 : Option Addr) (m c0 : Nat) (L : List DomI) (w : World) (hz : zs.length = n) (hn : n ≤ 1048576) (hr : RdI w a zs) (hy : L.length = m) (hm : m ≤ 1048576) (hs : RdD w b0 L) :
    Calls Try.prog 24 #[.agg #[.slice a n c], .slice b0 m c0] w fun e w' => ∃ a' c', e = .returned (.slice a' (uncL zs L).length c') ∧ OwnC w' w.heap.size (.slice a' (uncL zs L).length c') (uncL zs L) ∧ Below w.heap.size w w' := by
  have HZ := Lib.hid hz
  have HY := Lib.hid hy
  clear hz hy
  by_cases h1 : rokB zs = true
  · have HC := Lib.hid (uncL_yes (L := L) h1)
    have HS := Lib.hid (fun (W : World) (h : RdI W a zs) => set_any a n c zs W HZ.out h1 h)
    have HD := Lib.hid (fun (W : World) (h : RdD W b0 L) => covered_any b0 m c0 L W HY.out hm h)
    obtain ⟨S, hS⟩ : ∃ S, S = setS zs := ⟨_, rfl⟩
    obtain ⟨C, hC⟩ : ∃ C, C = cov L := ⟨_, rfl⟩
    have hS64 : S < 2 ^ 64 := by rw [hS]; exact setS_lt h1
    have hC64 : C < 2 ^ 64 := by rw [hC]; exact cov_lt L
    have e1 : bits .andNot .u64 (S : Int) (C : Int) = ((dif S C : Nat) : Int) := u64_dif hS64 hC64
    have HT := Lib.hid (dif_lt (b := C) hS64)
    rw [← hS] at HS HC
    rw [← hC] at HD HC
    clear hS hC hS64 hC64
    go_enter Try.func24, Try.ntmps24
    go_wp2_with (first | (go_at_call 46; refine (implRok_any _ _ _ zs _ HZ.out hn (Rd.below hr (by repeat' (first | assumption | (with_reducible exact Below.refl _ _) | (with_reducible refine Below.drew ?_) | (with_reducible refine Below.alloc ?_ ?_ _) | (with_reducible refine Below.setCell ?_ ?_ _) | omega | (simp; done) | (simp; omega))))).mono ?_; rintro e wa ⟨rfl, hbwa⟩; have hzwa := hbwa.size; (try simp at hzwa); (try have hl0w_wa : w.heap.size < wa.heap.size := by omega); (try have hl1w_wa : w.heap.size + 1 < wa.heap.size := by omega); (try have hl2w_wa : w.heap.size + 1 + 1 < wa.heap.size := by omega); (try have hl3w_wa : w.heap.size + 1 + 1 + 1 < wa.heap.size := by omega); (first | (have hcw_wa : ∀ b o, b ≤ w.heap.size + 6 → wa.cell? ⟨b, o, none⟩ = _ := fun b o h => hbwa.cell (p := ⟨b, o, none⟩) (by first | omega | (simp; omega)); have hfw_wa : ∀ b o, b ≤ w.heap.size + 6 → wa.frozen? ⟨b, o, none⟩ = _ := fun b o h => hbwa.frozen (p := ⟨b, o, none⟩) (by first | omega | (simp; omega))) | (have hcw_wa : ∀ b o, b ≤ w.heap.size + 5 → wa.cell? ⟨b, o, none⟩ = _ := fun b o h => hbwa.cell (p := ⟨b, o, none⟩) (by first | omega | (simp; omega)); have hfw_wa : ∀ b o, b ≤ w.heap.size + 5 → wa.frozen? ⟨b, o, none⟩ = _ := fun b o h => hbwa.frozen (p := ⟨b, o, none⟩) (by first | omega | (simp; omega))) | (have hcw_wa : ∀ b o, b ≤ w.heap.size + 4 → wa.cell? ⟨b, o, none⟩ = _ := fun b o h => hbwa.cell (p := ⟨b, o, none⟩) (by first | omega | (simp; omega)); have hfw_wa : ∀ b o, b ≤ w.heap.size + 4 → wa.frozen? ⟨b, o, none⟩ = _ := fun b o h => hbwa.frozen (p := ⟨b, o, none⟩) (by first | omega | (simp; omega))) | (have hcw_wa : ∀ b o, b ≤ w.heap.size + 3 → wa.cell? ⟨b, o, none⟩ = _ := fun b o h => hbwa.cell (p := ⟨b, o, none⟩) (by first | omega | (simp; omega)); have hfw_wa : ∀ b o, b ≤ w.heap.size + 3 → wa.frozen? ⟨b, o, none⟩ = _ := fun b o h => hbwa.frozen (p := ⟨b, o, none⟩) (by first | omega | (simp; omega))) | (have hcw_wa : ∀ b o, b ≤ w.heap.size + 2 → wa.cell? ⟨b, o, none⟩ = _ := fun b o h => hbwa.cell (p := ⟨b, o, none⟩) (by first | omega | (simp; omega)); have hfw_wa : ∀ b o, b ≤ w.heap.size + 2 → wa.frozen? ⟨b, o, none⟩ = _ := fun b o h => hbwa.frozen (p := ⟨b, o, none⟩) (by first | omega | (simp; omega))) | (have hcw_wa : ∀ b o, b ≤ w.heap.size + 1 → wa.cell? ⟨b, o, none⟩ = _ := fun b o h => hbwa.cell (p := ⟨b, o, none⟩) (by first | omega | (simp; omega)); have hfw_wa : ∀ b o, b ≤ w.heap.size + 1 → wa.frozen? ⟨b, o, none⟩ = _ := fun b o h => hbwa.frozen (p := ⟨b, o, none⟩) (by first | omega | (simp; omega))) | (have hcw_wa : ∀ b o, b ≤ w.heap.size + 0 → wa.cell? ⟨b, o, none⟩ = _ := fun b o h => hbwa.cell (p := ⟨b, o, none⟩) (by first | omega | (simp; omega)); have hfw_wa : ∀ b o, b ≤ w.heap.size + 0 → wa.frozen? ⟨b, o, none⟩ = _ := fun b o h => hbwa.frozen (p := ⟨b, o, none⟩) (by first | omega | (simp; omega))) | skip); have hBwa : Below w.heap.size w wa := below_step hbwa (by first | omega | (simp; done) | (simp; omega)) (by repeat' (first | assumption | (with_reducible exact Below.refl _ _) | (with_reducible refine Below.drew ?_) | (with_reducible refine Below.alloc ?_ ?_ _) | (with_reducible refine Below.setCell ?_ ?_ _) | omega | (simp; done) | (simp; omega))); clear hbwa) | (go_at_call 47; refine (HS.out _ (Rd.below hr (by repeat' (first | assumption | (with_reducible exact Below.refl _ _) | (with_reducible refine Below.drew ?_) | (with_reducible refine Below.alloc ?_ ?_ _) | (with_reducible refine Below.setCell ?_ ?_ _) | omega | (simp; done) | (simp; omega))))).mono ?_; rintro e wb ⟨rfl, hbwb⟩; have hzwb := hbwb.size; (try simp at hzwb); (try have hl0w_wb : w.heap.size < wb.heap.size := by omega); (try have hl1w_wb : w.heap.size + 1 < wb.heap.size := by omega); (try have hl2w_wb : w.heap.size + 1 + 1 < wb.heap.size := by omega); (try have hl3w_wb : w.heap.size + 1 + 1 + 1 < wb.heap.size := by omega); (first | (have hcw_wb : ∀ b o, b ≤ w.heap.size + 6 → wb.cell? ⟨b, o, none⟩ = _ := fun b o h => hbwb.cell (p := ⟨b, o, none⟩) (by first | omega | (simp; omega)); have hfw_wb : ∀ b o, b ≤ w.heap.size + 6 → wb.frozen? ⟨b, o, none⟩ = _ := fun b o h => hbwb.frozen (p := ⟨b, o, none⟩) (by first | omega | (simp; omega))) | (have hcw_wb : ∀ b o, b ≤ w.heap.size + 5 → wb.cell? ⟨b, o, none⟩ = _ := fun b o h => hbwb.cell (p := ⟨b, o, none⟩) (by first | omega | (simp; omega)); have hfw_wb : ∀ b o, b ≤ w.heap.size + 5 → wb.frozen? ⟨b, o, none⟩ = _ := fun b o h => hbwb.frozen (p := ⟨b, o, none⟩) (by first | omega | (simp; omega))) | (have hcw_wb : ∀ b o, b ≤ w.heap.size + 4 → wb.cell? ⟨b, o, none⟩ = _ := fun b o h => hbwb.cell (p := ⟨b, o, none⟩) (by first | omega | (simp; omega)); have hfw_wb : ∀ b o, b ≤ w.heap.size + 4 → wb.frozen? ⟨b, o, none⟩ = _ := fun b o h => hbwb.frozen (p := ⟨b, o, none⟩) (by first | omega | (simp; omega))) | (have hcw_wb : ∀ b o, b ≤ w.heap.size + 3 → wb.cell? ⟨b, o, none⟩ = _ := fun b o h => hbwb.cell (p := ⟨b, o, none⟩) (by first | omega | (simp; omega)); have hfw_wb : ∀ b o, b ≤ w.heap.size + 3 → wb.frozen? ⟨b, o, none⟩ = _ := fun b o h => hbwb.frozen (p := ⟨b, o, none⟩) (by first | omega | (simp; omega))) | (have hcw_wb : ∀ b o, b ≤ w.heap.size + 2 → wb.cell? ⟨b, o, none⟩ = _ := fun b o h => hbwb.cell (p := ⟨b, o, none⟩) (by first | omega | (simp; omega)); have hfw_wb : ∀ b o, b ≤ w.heap.size + 2 → wb.frozen? ⟨b, o, none⟩ = _ := fun b o h => hbwb.frozen (p := ⟨b, o, none⟩) (by first | omega | (simp; omega))) | (have hcw_wb : ∀ b o, b ≤ w.heap.size + 1 → wb.cell? ⟨b, o, none⟩ = _ := fun b o h => hbwb.cell (p := ⟨b, o, none⟩) (by first | omega | (simp; omega)); have hfw_wb : ∀ b o, b ≤ w.heap.size + 1 → wb.frozen? ⟨b, o, none⟩ = _ := fun b o h => hbwb.frozen (p := ⟨b, o, none⟩) (by first | omega | (simp; omega))) | (have hcw_wb : ∀ b o, b ≤ w.heap.size + 0 → wb.cell? ⟨b, o, none⟩ = _ := fun b o h => hbwb.cell (p := ⟨b, o, none⟩) (by first | omega | (simp; omega)); have hfw_wb : ∀ b o, b ≤ w.heap.size + 0 → wb.frozen? ⟨b, o, none⟩ = _ := fun b o h => hbwb.frozen (p := ⟨b, o, none⟩) (by first | omega | (simp; omega))) | skip); have hBwb : Below w.heap.size w wb := below_step hbwb (by first | omega | (simp; done) | (simp; omega)) (by repeat' (first | assumption | (with_reducible exact Below.refl _ _) | (with_reducible refine Below.drew ?_) | (with_reducible refine Below.alloc ?_ ?_ _) | (with_reducible refine Below.setCell ?_ ?_ _) | omega | (simp; done) | (simp; omega))); clear hbwb) | (go_at_call 52; refine (HD.out _ (Rd.below hs (by repeat' (first | assumption | (with_reducible exact Below.refl _ _) | (with_reducible refine Below.drew ?_) | (with_reducible refine Below.alloc ?_ ?_ _) | (with_reducible refine Below.setCell ?_ ?_ _) | omega | (simp; done) | (simp; omega))))).mono ?_; rintro e wd ⟨rfl, hbwd⟩; have hzwd := hbwd.size; (try simp at hzwd); (try have hl0w_wd : w.heap.size < wd.heap.size := by omega); (try have hl1w_wd : w.heap.size + 1 < wd.heap.size := by omega); (try have hl2w_wd : w.heap.size + 1 + 1 < wd.heap.size := by omega); (try have hl3w_wd : w.heap.size + 1 + 1 + 1 < wd.heap.size := by omega); (first | (have hcw_wd : ∀ b o, b ≤ w.heap.size + 6 → wd.cell? ⟨b, o, none⟩ = _ := fun b o h => hbwd.cell (p := ⟨b, o, none⟩) (by first | omega | (simp; omega)); have hfw_wd : ∀ b o, b ≤ w.heap.size + 6 → wd.frozen? ⟨b, o, none⟩ = _ := fun b o h => hbwd.frozen (p := ⟨b, o, none⟩) (by first | omega | (simp; omega))) | (have hcw_wd : ∀ b o, b ≤ w.heap.size + 5 → wd.cell? ⟨b, o, none⟩ = _ := fun b o h => hbwd.cell (p := ⟨b, o, none⟩) (by first | omega | (simp; omega)); have hfw_wd : ∀ b o, b ≤ w.heap.size + 5 → wd.frozen? ⟨b, o, none⟩ = _ := fun b o h => hbwd.frozen (p := ⟨b, o, none⟩) (by first | omega | (simp; omega))) | (have hcw_wd : ∀ b o, b ≤ w.heap.size + 4 → wd.cell? ⟨b, o, none⟩ = _ := fun b o h => hbwd.cell (p := ⟨b, o, none⟩) (by first | omega | (simp; omega)); have hfw_wd : ∀ b o, b ≤ w.heap.size + 4 → wd.frozen? ⟨b, o, none⟩ = _ := fun b o h => hbwd.frozen (p := ⟨b, o, none⟩) (by first | omega | (simp; omega))) | (have hcw_wd : ∀ b o, b ≤ w.heap.size + 3 → wd.cell? ⟨b, o, none⟩ = _ := fun b o h => hbwd.cell (p := ⟨b, o, none⟩) (by first | omega | (simp; omega)); have hfw_wd : ∀ b o, b ≤ w.heap.size + 3 → wd.frozen? ⟨b, o, none⟩ = _ := fun b o h => hbwd.frozen (p := ⟨b, o, none⟩) (by first | omega | (simp; omega))) | (have hcw_wd : ∀ b o, b ≤ w.heap.size + 2 → wd.cell? ⟨b, o, none⟩ = _ := fun b o h => hbwd.cell (p := ⟨b, o, none⟩) (by first | omega | (simp; omega)); have hfw_wd : ∀ b o, b ≤ w.heap.size + 2 → wd.frozen? ⟨b, o, none⟩ = _ := fun b o h => hbwd.frozen (p := ⟨b, o, none⟩) (by first | omega | (simp; omega))) | (have hcw_wd : ∀ b o, b ≤ w.heap.size + 1 → wd.cell? ⟨b, o, none⟩ = _ := fun b o h => hbwd.cell (p := ⟨b, o, none⟩) (by first | omega | (simp; omega)); have hfw_wd : ∀ b o, b ≤ w.heap.size + 1 → wd.frozen? ⟨b, o, none⟩ = _ := fun b o h => hbwd.frozen (p := ⟨b, o, none⟩) (by first | omega | (simp; omega))) | (have hcw_wd : ∀ b o, b ≤ w.heap.size + 0 → wd.cell? ⟨b, o, none⟩ = _ := fun b o h => hbwd.cell (p := ⟨b, o, none⟩) (by first | omega | (simp; omega)); have hfw_wd : ∀ b o, b ≤ w.heap.size + 0 → wd.frozen? ⟨b, o, none⟩ = _ := fun b o h => hbwd.frozen (p := ⟨b, o, none⟩) (by first | omega | (simp; omega))) | skip); have hBwd : Below w.heap.size w wd := below_step hbwd (by first | omega | (simp; done) | (simp; omega)) (by repeat' (first | assumption | (with_reducible exact Below.refl _ _) | (with_reducible refine Below.drew ?_) | (with_reducible refine Below.alloc ?_ ?_ _) | (with_reducible refine Below.setCell ?_ ?_ _) | omega | (simp; done) | (simp; omega))); clear hbwd) | (go_at_call 54; refine (cells_any _ _ HT).mono ?_; rintro e w1 ⟨a1, c1, rfl, hO, hb1⟩; have HO := Lib.hid hO; have hB1 : Below w.heap.size w w1 := below_step hb1 (by first | omega | (simp; done) | (simp; omega)) (by repeat' (first | assumption | (with_reducible exact Below.refl _ _) | (with_reducible refine Below.drew ?_) | (with_reducible refine Below.alloc ?_ ?_ _) | (with_reducible refine Below.setCell ?_ ?_ _) | omega | (simp; done) | (simp; omega))); clear hO hb1))
    go_ret
    exact ⟨a1, c1, (by show Ending.returned (Value.slice a1 (cellsL (dif S C)).length c1) = _; rw [HC.out]), by rw [HC.out]; exact own_base HO.out (by omega), hB1⟩
  · have h1' : rokB zs = false := by simpa using h1
    have HC := Lib.hid (uncL_no (L := L) h1')
    go_enter Try.func24, Try.ntmps24
    go_wp2_with (first | (go_at_call 46; refine (implRok_any _ _ _ zs _ HZ.out hn (Rd.below hr (by repeat' (first | assumption | (with_reducible exact Below.refl _ _) | (with_reducible refine Below.drew ?_) | (with_reducible refine Below.alloc ?_ ?_ _) | (with_reducible refine Below.setCell ?_ ?_ _) | omega | (simp; done) | (simp; omega))))).mono ?_; rintro e wa ⟨rfl, hbwa⟩; have hzwa := hbwa.size; (try simp at hzwa); (try have hl0w_wa : w.heap.size < wa.heap.size := by omega); (try have hl1w_wa : w.heap.size + 1 < wa.heap.size := by omega); (try have hl2w_wa : w.heap.size + 1 + 1 < wa.heap.size := by omega); (try have hl3w_wa : w.heap.size + 1 + 1 + 1 < wa.heap.size := by omega); (first | (have hcw_wa : ∀ b o, b ≤ w.heap.size + 6 → wa.cell? ⟨b, o, none⟩ = _ := fun b o h => hbwa.cell (p := ⟨b, o, none⟩) (by first | omega | (simp; omega)); have hfw_wa : ∀ b o, b ≤ w.heap.size + 6 → wa.frozen? ⟨b, o, none⟩ = _ := fun b o h => hbwa.frozen (p := ⟨b, o, none⟩) (by first | omega | (simp; omega))) | (have hcw_wa : ∀ b o, b ≤ w.heap.size + 5 → wa.cell? ⟨b, o, none⟩ = _ := fun b o h => hbwa.cell (p := ⟨b, o, none⟩) (by first | omega | (simp; omega)); have hfw_wa : ∀ b o, b ≤ w.heap.size + 5 → wa.frozen? ⟨b, o, none⟩ = _ := fun b o h => hbwa.frozen (p := ⟨b, o, none⟩) (by first | omega | (simp; omega))) | (have hcw_wa : ∀ b o, b ≤ w.heap.size + 4 → wa.cell? ⟨b, o, none⟩ = _ := fun b o h => hbwa.cell (p := ⟨b, o, none⟩) (by first | omega | (simp; omega)); have hfw_wa : ∀ b o, b ≤ w.heap.size + 4 → wa.frozen? ⟨b, o, none⟩ = _ := fun b o h => hbwa.frozen (p := ⟨b, o, none⟩) (by first | omega | (simp; omega))) | (have hcw_wa : ∀ b o, b ≤ w.heap.size + 3 → wa.cell? ⟨b, o, none⟩ = _ := fun b o h => hbwa.cell (p := ⟨b, o, none⟩) (by first | omega | (simp; omega)); have hfw_wa : ∀ b o, b ≤ w.heap.size + 3 → wa.frozen? ⟨b, o, none⟩ = _ := fun b o h => hbwa.frozen (p := ⟨b, o, none⟩) (by first | omega | (simp; omega))) | (have hcw_wa : ∀ b o, b ≤ w.heap.size + 2 → wa.cell? ⟨b, o, none⟩ = _ := fun b o h => hbwa.cell (p := ⟨b, o, none⟩) (by first | omega | (simp; omega)); have hfw_wa : ∀ b o, b ≤ w.heap.size + 2 → wa.frozen? ⟨b, o, none⟩ = _ := fun b o h => hbwa.frozen (p := ⟨b, o, none⟩) (by first | omega | (simp; omega))) | (have hcw_wa : ∀ b o, b ≤ w.heap.size + 1 → wa.cell? ⟨b, o, none⟩ = _ := fun b o h => hbwa.cell (p := ⟨b, o, none⟩) (by first | omega | (simp; omega)); have hfw_wa : ∀ b o, b ≤ w.heap.size + 1 → wa.frozen? ⟨b, o, none⟩ = _ := fun b o h => hbwa.frozen (p := ⟨b, o, none⟩) (by first | omega | (simp; omega))) | (have hcw_wa : ∀ b o, b ≤ w.heap.size + 0 → wa.cell? ⟨b, o, none⟩ = _ := fun b o h => hbwa.cell (p := ⟨b, o, none⟩) (by first | omega | (simp; omega)); have hfw_wa : ∀ b o, b ≤ w.heap.size + 0 → wa.frozen? ⟨b, o, none⟩ = _ := fun b o h => hbwa.frozen (p := ⟨b, o, none⟩) (by first | omega | (simp; omega))) | skip); have hBwa : Below w.heap.size w wa := below_step hbwa (by first | omega | (simp; done) | (simp; omega)) (by repeat' (first | assumption | (with_reducible exact Below.refl _ _) | (with_reducible refine Below.drew ?_) | (with_reducible refine Below.alloc ?_ ?_ _) | (with_reducible refine Below.setCell ?_ ?_ _) | omega | (simp; done) | (simp; omega))); clear hbwa))
    go_ret
    exact ⟨none, 0, by rw [HC.out]; rfl, by rw [HC.out]; exact World.ownsRow_nil _ _ _ _, by repeat' (first | assumption | (with_reducible exact Below.refl _ _) | (with_reducible refine Below.drew ?_) | (with_reducible refine Below.alloc ?_ ?_ _) | (with_reducible refine Below.setCell ?_ ?_ _) | omega | (simp; done) | (simp; omega))⟩

theorem un_yes {M : List (Int × Int)} {L : List DomI} {k : Nat} {x y : Int} (h : M[k]? = some (x, y)) (hb : dat L x y < 0) : (M.take (k + 1)).filter (fun p => decide (dat L p.1 p.2 < 0)) = (M.take k).filter (fun p => decide (dat L p.1 p.2 < 0)) ++ [(x, y)] := by
  rw [take_one h]; simp [List.filter_append, hb]
theorem un_no {M : List (Int × Int)} {L : List DomI} {k : Nat} {x y : Int} (h : M[k]? = some (x, y)) (hb : ¬ dat L x y < 0) : (M.take (k + 1)).filter (fun p => decide (dat L p.1 p.2 < 0)) = (M.take k).filter (fun p => decide (dat L p.1 p.2 < 0)) := by
  rw [take_one h]; simp [List.filter_append, hb]

set_option maxHeartbeats 1600000 in
set_option maxRecDepth 100000 in
theorem specUnc_any (a : Option Addr) (n c : Nat) (zs : List Int) (b0 : Option Addr) (m c0 : Nat) (L : List DomI) (w : World) (hz : zs.length = n) (hn : n ≤ 1048576) (hr : RdI w a zs) (hy : L.length = m) (hm : m ≤ 1048576) (hs : RdD w b0 L) :
    Calls Try.prog 23 #[.agg #[.slice a n c], .slice b0 m c0] w fun e w' => ∃ a' c', e = .returned (.slice a' (uncL zs L).length c') ∧ OwnC w' w.heap.size (.slice a' (uncL zs L).length c') (uncL zs L) ∧ Below w.heap.size w w' := by
  obtain ⟨i0, hi, hz0, hz1, hz2⟩ := info_parts cellInfo
  have HZ := Lib.hid hz
  have HY := Lib.hid hy
  clear hz hy
  have HU := Lib.hid (unc_filter zs L)
  have hMl := coL_len zs
  have HCo := Lib.hid (fun (W : World) (h : RdI W a zs) => specCellsOf_any a n c zs W HZ.out hn h)
  obtain ⟨M, hM⟩ : ∃ M, M = coL zs := ⟨_, rfl⟩
  rw [← hM] at HU HCo hMl
  clear hM
  go_enter Try.func23, Try.ntmps23
  go_wp2_with (go_at_call 53; fail)
  refine (HCo.out _ (Rd.below hr (by repeat' (first | assumption | (with_reducible exact Below.refl _ _) | (with_reducible refine Below.drew ?_) | (with_reducible refine Below.alloc ?_ ?_ _) | (with_reducible refine Below.setCell ?_ ?_ _) | omega | (simp; done) | (simp; omega))))).mono ?_
  rintro e wl ⟨al, cl, rfl, hO, hb⟩
  have hzl := hb.size
  (try simp at hzl)
  have hBl : Below w.heap.size w wl := below_step hb (by first | omega | (simp; done) | (simp; omega)) (by repeat' (first | assumption | (with_reducible exact Below.refl _ _) | (with_reducible refine Below.drew ?_) | (with_reducible refine Below.alloc ?_ ?_ _) | (with_reducible refine Below.setCell ?_ ?_ _) | omega | (simp; done) | (simp; omega)))
  have hRl : Rd wl al (flatC M) := Rd.of_own hO
  have hlb : Hid (∀ b off, al = some ⟨b, off, none⟩ → w.heap.size + 2 ≤ b) := Lib.hid (fun b off e => by
    have := (hO.lt b (by rw [e]; rfl)).1
    simp at this
    omega)
  have hOut : Hid (OwnC wl (w.heap.size + 1) (.slice (some ⟨w.heap.size + 1, 0, none⟩) 0 0) []) := Lib.hid (OwnC.below (by have := OwnC.new (w.alloc (.cells #[.slice a n c] 35)) (w.heap.size + 1) (by simp) (.cells #[] 47) rfl; simpa using this) hb)
  clear hO hb
  go_wp2_with fail
  go_loopw [5, 7] (fun v i wr => ∃ (k : Nat) (N : List (Int × Int)) (a' : Option Addr) (c' : Nat), k ≤ M.length ∧ i = .int .i64 k ∧ v = .slice a' N.length c' ∧ Hid (OwnC wr (w.heap.size + 1) (.slice a' N.length c') N) ∧ Hid (N = (M.take k).filter (fun p => decide (dat L p.1 p.2 < 0))) ∧ Hid (∀ b off, al = some ⟨b, off, none⟩ → (Value.slice a' N.length c').ownBlock ≠ some b) ∧ Rd wr al (flatC M) ∧ wl.heap.size ≤ wr.heap.size ∧ Below w.heap.size w wr)
    (fun _ i _ => M.length - (intOf i).toNat)
  case atStart => exact ⟨0, [], _, _, Nat.zero_le _, rfl, rfl, hOut, Lib.hid rfl, Lib.hid (fun b off e h => by have := hlb.out b off e; simp [Value.ownBlock] at h; omega), hRl, Nat.le_refl _, hBl⟩
  case round =>
    clear hRl hBl hOut
    obtain ⟨k, N, a', c', hk, rfl, rfl, hO, hN, hNB, hR, hsz, hB⟩ := hrel
    by_cases hlt : k < M.length
    · have hlen : N.length ≤ k := by rw [hN.out]; exact Nat.le_trans (List.length_filter_le _ _) (by simp; omega)
      obtain ⟨b, off, x, y, hal, hb, hcx, hcy, hv⟩ := RdC_at hR hlt
      have HAL := Lib.hid hal
      subst hal
      by_cases hin : dat L x y < 0
      · have HN2 := Lib.hid (un_yes hv.out hin)
        go_wp2_with (first
          | (go_at_call 29; refine (specDat_any _ _ _ L _ _ _ HY.out hm (Rd.below hs (by repeat' (first | assumption | (with_reducible exact Below.refl _ _) | (with_reducible refine Below.drew ?_) | (with_reducible refine Below.alloc ?_ ?_ _) | (with_reducible refine Below.setCell ?_ ?_ _) | omega | (simp; done) | (simp; omega))))).mono ?_; rintro e wc ⟨rfl, hbwc⟩; go_must (have hzwc := hbwc.size; (try simp at hzwc); have hBwc : Below w.heap.size w wc := below_step hbwc (by first | omega | (simp; done) | (simp; omega)) (by repeat' (first | assumption | (with_reducible exact Below.refl _ _) | (with_reducible refine Below.drew ?_) | (with_reducible refine Below.alloc ?_ ?_ _) | (with_reducible refine Below.setCell ?_ ?_ _) | omega | (simp; done) | (simp; omega))); have hOc := Lib.hid (hO.out.below hbwc); have hRc : Rd wc (some ⟨b, off, none⟩) (flatC M) := Rd.below hR hbwc; have hcx' := (hbwc.cell (p := ⟨b, off + k * 2, none⟩) hb).trans hcx; have hcy' := (hbwc.cell (p := ⟨b, off + k * 2 + 1, none⟩) hb).trans hcy); clear hbwc hcx hcy)
          | (at_builtin; refine wpList_append_own_at _ rfl _ _ 39 rfl (w.heap.size + 1) 47 i0 (.agg #[.int .i64 0, .int .i64 0]) 2 16 Try.underlying39 hi hz0 hz1 hz2 rfl (by decide) _ _ _ rfl (World.ownsRow.alloc hOc.out _) ⟨wc.heap.size, 0, none⟩ 1 1 [.int .i64 x, .int .i64 y] rfl rfl (cell_two_new _ _ _ _) (by intro u hu; simp at hu; rcases hu with rfl | rfl <;> rfl) (by unfold maxLen; omega) (by omega) (by simp; omega) ?_; intro v3 w3 hown3 hgrow3 hnil3 hat3))
        obtain ⟨a3, c3, hv3⟩ := own_slice hown3
        have hG : Below (w.heap.size + 1) _ w3 := grown_below (World.ownsRow.alloc hOc.out _) hgrow3 (by simp; omega)
        have hB3 : Below w.heap.size w w3 := (hBwc.alloc (by omega) _).trans (hG.mono (by omega))
        have hz3 := hG.size
        have hR3 : Rd w3 (some ⟨b, off, none⟩) (flatC M) := Rd.grown (Rd.alloc hRc _) hgrow3 (fun b1 off1 h => by injection h with h; injection h with h1 h2; subst h1; exact hNB.out _ _ rfl)
        have HO3 : Hid (OwnC w3 (w.heap.size + 1) (.slice a3 (N.length + 1) c3) (N ++ [(x, y)])) := Lib.hid (by rw [hv3] at hown3; exact OwnC.snoc hown3)
        have hbl : b < wc.heap.size := by omega
        have HN3 : Hid (∀ b1 off1, (some ⟨b, off, none⟩ : Option Addr) = some ⟨b1, off1, none⟩ → (Value.slice a3 (N ++ [(x, y)]).length c3).ownBlock ≠ some b1) := Lib.hid (fun b1 off1 h => by
          injection h with h; injection h with h1 h2; subst h1
          have e : (Value.slice a3 (N ++ [(x, y)]).length c3).ownBlock = v3.ownBlock := by rw [hv3]; cases a3 <;> rfl
          rw [e]
          rcases hat3 with h | h
          · rw [h]; exact hNB.out _ _ rfl
          · rw [h]; simp; omega)
        go_wp2
        go_roundw
        case rel => exact ⟨k + 1, N ++ [(x, y)], a3, c3, by omega, by go_num, by rw [hv3]; simp, Lib.hid (by simpa using HO3.out), Lib.hid (by rw [HN2.out, hN.out]), HN3, hR3, by simp at hz3; omega, hB3⟩
        case measure => simp [intOf]; omega
      · have HN2 := Lib.hid (un_no hv.out hin)
        go_wp2_with (first
          | (go_at_call 29; refine (specDat_any _ _ _ L _ _ _ HY.out hm (Rd.below hs (by repeat' (first | assumption | (with_reducible exact Below.refl _ _) | (with_reducible refine Below.drew ?_) | (with_reducible refine Below.alloc ?_ ?_ _) | (with_reducible refine Below.setCell ?_ ?_ _) | omega | (simp; done) | (simp; omega))))).mono ?_; rintro e wc ⟨rfl, hbwc⟩; go_must (have hzwc := hbwc.size; (try simp at hzwc); have hBwc : Below w.heap.size w wc := below_step hbwc (by first | omega | (simp; done) | (simp; omega)) (by repeat' (first | assumption | (with_reducible exact Below.refl _ _) | (with_reducible refine Below.drew ?_) | (with_reducible refine Below.alloc ?_ ?_ _) | (with_reducible refine Below.setCell ?_ ?_ _) | omega | (simp; done) | (simp; omega))); have hOc := Lib.hid (hO.out.below hbwc); have hRc : Rd wc (some ⟨b, off, none⟩) (flatC M) := Rd.below hR hbwc); clear hbwc))
        go_roundw
        case rel => exact ⟨k + 1, N, a', c', by omega, by go_num, rfl, hOc, Lib.hid (by rw [HN2.out, hN.out]), hNB, hRc, by omega, hBwc⟩
        case measure => simp [intOf]; omega
    · have hkn : k = M.length := by omega
      have HL : Hid (N = uncL zs L) := Lib.hid (by rw [hN.out, hkn, List.take_length, HU.out])
      clear hkn hN hR
      go_wp2
      go_ret
      exact ⟨a', c', (by show Ending.returned (Value.slice a' N.length c') = _; rw [HL.out]), by rw [← HL.out]; exact own_base hO.out (by omega), hB⟩
end Go.Proofs.Ytbkoignjagobaaa
