/-
  Contracts of 'covered', 'covers a part'.
-/
import Derived.Test.YtbkoignjagobaaaDoorPart
import Derived.Test.YtbkoignjagobaaaDoorRegL
import Derived.Test.YtbkoignjagobaaaDoorCountB
import Derived.Test.YtbkoignjagobaaaDoorHas
namespace Go.Proofs.YtbkoignjagobaaaDoor
open Go.RowKit
set_option linter.unusedVariables false
set_option linter.unusedSimpArgs false

theorem u64_or64 {a b : Nat} (ha : a < 2 ^ 64) (hb : b < 2 ^ 64) : bits .or .u64 (a : Int) (b : Int) = ((a ||| b : Nat) : Int) := by
  rw [two64] at ha hb
  exact u64_or_nat a b ha hb
set_option maxHeartbeats 800000 in
set_option maxRecDepth 100000 in
theorem covered_any (a : Option Addr) (n c : Nat) (L : List DomI) (w : World) (hz : L.length = n) (hn : n ≤ 1048576) (hr : RdD w a L) :
    Calls Tryd.prog 21 #[.slice a n c] w fun e w' => e = .returned (.int .u64 ((cov L : Nat) : Int)) ∧ Below w.heap.size w w' := by
  have HZ := Lib.hid hz
  clear hz
  go_enter Tryd.func21, Tryd.ntmps21
  go_wp2_with fail
  go_loopw [8, 3] (fun i s wr => ∃ k C : Nat, k ≤ n ∧ i = .int .i64 k ∧ s = .int .u64 (C : Int) ∧ Hid (C = cov (L.take k)) ∧ Below w.heap.size w wr ∧ w.heap.size ≤ wr.heap.size) (fun i _ _ => n - (intOf i).toNat)
  case atStart => exact ⟨0, 0, Nat.zero_le _, rfl, rfl, Lib.hid rfl, Below.refl _ _, Nat.le_refl _⟩
  case round =>
    obtain ⟨k, C, hk, rfl, rfl, hC, hB, hsz⟩ := hrel
    by_cases hlt : k < n
    · obtain ⟨b, off, x, y, d, rfl, hb, hcx, hcy, hcd, hv⟩ := RdD_at (Rd.below hr hB) (k := k) (by rw [HZ.out]; exact hlt)
      have HR := Lib.hid hr
      clear hr
      by_cases hd : domB x y d = true
      · have HC2 : Hid (C ||| domS x y d = cov (L.take (k + 1))) := Lib.hid (by rw [cov_take hv.out, dS_yes hd, hC.out])
        have e1 : bits .or .u64 (C : Int) ((domS x y d : Nat) : Int) = ((C ||| domS x y d : Nat) : Int) := u64_or64 (by rw [hC.out]; exact cov_lt _) (domS_lt hd)
        go_wp2_with (first | (go_at_call 17; refine (implDom_any _ _ _ _).mono ?_; rintro e wa ⟨rfl, hbwa⟩; have hzwa := hbwa.size; (try simp at hzwa); (try have hl0wr_wa : wr.heap.size < wa.heap.size := by omega); (try have hl1wr_wa : wr.heap.size + 1 < wa.heap.size := by omega); (try have hl2wr_wa : wr.heap.size + 1 + 1 < wa.heap.size := by omega); (try have hl3wr_wa : wr.heap.size + 1 + 1 + 1 < wa.heap.size := by omega); (first | (have hcwr_wa : ∀ b o, b ≤ wr.heap.size + 6 → wa.cell? ⟨b, o, none⟩ = _ := fun b o h => hbwa.cell (p := ⟨b, o, none⟩) (by first | omega | (simp; omega)); have hfwr_wa : ∀ b o, b ≤ wr.heap.size + 6 → wa.frozen? ⟨b, o, none⟩ = _ := fun b o h => hbwa.frozen (p := ⟨b, o, none⟩) (by first | omega | (simp; omega))) | (have hcwr_wa : ∀ b o, b ≤ wr.heap.size + 5 → wa.cell? ⟨b, o, none⟩ = _ := fun b o h => hbwa.cell (p := ⟨b, o, none⟩) (by first | omega | (simp; omega)); have hfwr_wa : ∀ b o, b ≤ wr.heap.size + 5 → wa.frozen? ⟨b, o, none⟩ = _ := fun b o h => hbwa.frozen (p := ⟨b, o, none⟩) (by first | omega | (simp; omega))) | (have hcwr_wa : ∀ b o, b ≤ wr.heap.size + 4 → wa.cell? ⟨b, o, none⟩ = _ := fun b o h => hbwa.cell (p := ⟨b, o, none⟩) (by first | omega | (simp; omega)); have hfwr_wa : ∀ b o, b ≤ wr.heap.size + 4 → wa.frozen? ⟨b, o, none⟩ = _ := fun b o h => hbwa.frozen (p := ⟨b, o, none⟩) (by first | omega | (simp; omega))) | (have hcwr_wa : ∀ b o, b ≤ wr.heap.size + 3 → wa.cell? ⟨b, o, none⟩ = _ := fun b o h => hbwa.cell (p := ⟨b, o, none⟩) (by first | omega | (simp; omega)); have hfwr_wa : ∀ b o, b ≤ wr.heap.size + 3 → wa.frozen? ⟨b, o, none⟩ = _ := fun b o h => hbwa.frozen (p := ⟨b, o, none⟩) (by first | omega | (simp; omega))) | (have hcwr_wa : ∀ b o, b ≤ wr.heap.size + 2 → wa.cell? ⟨b, o, none⟩ = _ := fun b o h => hbwa.cell (p := ⟨b, o, none⟩) (by first | omega | (simp; omega)); have hfwr_wa : ∀ b o, b ≤ wr.heap.size + 2 → wa.frozen? ⟨b, o, none⟩ = _ := fun b o h => hbwa.frozen (p := ⟨b, o, none⟩) (by first | omega | (simp; omega))) | (have hcwr_wa : ∀ b o, b ≤ wr.heap.size + 1 → wa.cell? ⟨b, o, none⟩ = _ := fun b o h => hbwa.cell (p := ⟨b, o, none⟩) (by first | omega | (simp; omega)); have hfwr_wa : ∀ b o, b ≤ wr.heap.size + 1 → wa.frozen? ⟨b, o, none⟩ = _ := fun b o h => hbwa.frozen (p := ⟨b, o, none⟩) (by first | omega | (simp; omega))) | (have hcwr_wa : ∀ b o, b ≤ wr.heap.size + 0 → wa.cell? ⟨b, o, none⟩ = _ := fun b o h => hbwa.cell (p := ⟨b, o, none⟩) (by first | omega | (simp; omega)); have hfwr_wa : ∀ b o, b ≤ wr.heap.size + 0 → wa.frozen? ⟨b, o, none⟩ = _ := fun b o h => hbwa.frozen (p := ⟨b, o, none⟩) (by first | omega | (simp; omega))) | skip); have hBwa : Below w.heap.size w wa := below_step hbwa (by first | omega | (simp; done) | (simp; omega)) (by repeat' (first | assumption | (with_reducible exact Below.refl _ _) | (with_reducible refine Below.drew ?_) | (with_reducible refine Below.alloc ?_ ?_ _) | (with_reducible refine Below.setCell ?_ ?_ _) | omega | (simp; done) | (simp; omega))); clear hbwa) | (go_at_call 25; refine (domSet_any _ _ _ _ hd).mono ?_; rintro e wb ⟨rfl, hbwb⟩; have hzwb := hbwb.size; (try simp at hzwb); (try have hl0wr_wb : wr.heap.size < wb.heap.size := by omega); (try have hl1wr_wb : wr.heap.size + 1 < wb.heap.size := by omega); (try have hl2wr_wb : wr.heap.size + 1 + 1 < wb.heap.size := by omega); (try have hl3wr_wb : wr.heap.size + 1 + 1 + 1 < wb.heap.size := by omega); (first | (have hcwr_wb : ∀ b o, b ≤ wr.heap.size + 6 → wb.cell? ⟨b, o, none⟩ = _ := fun b o h => hbwb.cell (p := ⟨b, o, none⟩) (by first | omega | (simp; omega)); have hfwr_wb : ∀ b o, b ≤ wr.heap.size + 6 → wb.frozen? ⟨b, o, none⟩ = _ := fun b o h => hbwb.frozen (p := ⟨b, o, none⟩) (by first | omega | (simp; omega))) | (have hcwr_wb : ∀ b o, b ≤ wr.heap.size + 5 → wb.cell? ⟨b, o, none⟩ = _ := fun b o h => hbwb.cell (p := ⟨b, o, none⟩) (by first | omega | (simp; omega)); have hfwr_wb : ∀ b o, b ≤ wr.heap.size + 5 → wb.frozen? ⟨b, o, none⟩ = _ := fun b o h => hbwb.frozen (p := ⟨b, o, none⟩) (by first | omega | (simp; omega))) | (have hcwr_wb : ∀ b o, b ≤ wr.heap.size + 4 → wb.cell? ⟨b, o, none⟩ = _ := fun b o h => hbwb.cell (p := ⟨b, o, none⟩) (by first | omega | (simp; omega)); have hfwr_wb : ∀ b o, b ≤ wr.heap.size + 4 → wb.frozen? ⟨b, o, none⟩ = _ := fun b o h => hbwb.frozen (p := ⟨b, o, none⟩) (by first | omega | (simp; omega))) | (have hcwr_wb : ∀ b o, b ≤ wr.heap.size + 3 → wb.cell? ⟨b, o, none⟩ = _ := fun b o h => hbwb.cell (p := ⟨b, o, none⟩) (by first | omega | (simp; omega)); have hfwr_wb : ∀ b o, b ≤ wr.heap.size + 3 → wb.frozen? ⟨b, o, none⟩ = _ := fun b o h => hbwb.frozen (p := ⟨b, o, none⟩) (by first | omega | (simp; omega))) | (have hcwr_wb : ∀ b o, b ≤ wr.heap.size + 2 → wb.cell? ⟨b, o, none⟩ = _ := fun b o h => hbwb.cell (p := ⟨b, o, none⟩) (by first | omega | (simp; omega)); have hfwr_wb : ∀ b o, b ≤ wr.heap.size + 2 → wb.frozen? ⟨b, o, none⟩ = _ := fun b o h => hbwb.frozen (p := ⟨b, o, none⟩) (by first | omega | (simp; omega))) | (have hcwr_wb : ∀ b o, b ≤ wr.heap.size + 1 → wb.cell? ⟨b, o, none⟩ = _ := fun b o h => hbwb.cell (p := ⟨b, o, none⟩) (by first | omega | (simp; omega)); have hfwr_wb : ∀ b o, b ≤ wr.heap.size + 1 → wb.frozen? ⟨b, o, none⟩ = _ := fun b o h => hbwb.frozen (p := ⟨b, o, none⟩) (by first | omega | (simp; omega))) | (have hcwr_wb : ∀ b o, b ≤ wr.heap.size + 0 → wb.cell? ⟨b, o, none⟩ = _ := fun b o h => hbwb.cell (p := ⟨b, o, none⟩) (by first | omega | (simp; omega)); have hfwr_wb : ∀ b o, b ≤ wr.heap.size + 0 → wb.frozen? ⟨b, o, none⟩ = _ := fun b o h => hbwb.frozen (p := ⟨b, o, none⟩) (by first | omega | (simp; omega))) | skip); have hBwb : Below w.heap.size w wb := below_step hbwb (by first | omega | (simp; done) | (simp; omega)) (by repeat' (first | assumption | (with_reducible exact Below.refl _ _) | (with_reducible refine Below.drew ?_) | (with_reducible refine Below.alloc ?_ ?_ _) | (with_reducible refine Below.setCell ?_ ?_ _) | omega | (simp; done) | (simp; omega))); clear hbwb))
        go_roundw
        case rel => exact ⟨k + 1, C ||| domS x y d, by omega, by go_num, by first | rfl | simp, HC2, by repeat' (first | assumption | (with_reducible exact Below.refl _ _) | (with_reducible refine Below.drew ?_) | (with_reducible refine Below.alloc ?_ ?_ _) | (with_reducible refine Below.setCell ?_ ?_ _) | omega | (simp; done) | (simp; omega)), by omega⟩
        case measure => simp [intOf]; omega
      · have hd' : domB x y d = false := by simpa using hd
        have HC2 : Hid (C = cov (L.take (k + 1))) := Lib.hid (by rw [cov_take hv.out, dS_no hd', hC.out, Nat.or_zero])
        go_wp2_with (first | (go_at_call 17; refine (implDom_any _ _ _ _).mono ?_; rintro e wa ⟨rfl, hbwa⟩; have hzwa := hbwa.size; (try simp at hzwa); (try have hl0wr_wa : wr.heap.size < wa.heap.size := by omega); (try have hl1wr_wa : wr.heap.size + 1 < wa.heap.size := by omega); (try have hl2wr_wa : wr.heap.size + 1 + 1 < wa.heap.size := by omega); (try have hl3wr_wa : wr.heap.size + 1 + 1 + 1 < wa.heap.size := by omega); (first | (have hcwr_wa : ∀ b o, b ≤ wr.heap.size + 6 → wa.cell? ⟨b, o, none⟩ = _ := fun b o h => hbwa.cell (p := ⟨b, o, none⟩) (by first | omega | (simp; omega)); have hfwr_wa : ∀ b o, b ≤ wr.heap.size + 6 → wa.frozen? ⟨b, o, none⟩ = _ := fun b o h => hbwa.frozen (p := ⟨b, o, none⟩) (by first | omega | (simp; omega))) | (have hcwr_wa : ∀ b o, b ≤ wr.heap.size + 5 → wa.cell? ⟨b, o, none⟩ = _ := fun b o h => hbwa.cell (p := ⟨b, o, none⟩) (by first | omega | (simp; omega)); have hfwr_wa : ∀ b o, b ≤ wr.heap.size + 5 → wa.frozen? ⟨b, o, none⟩ = _ := fun b o h => hbwa.frozen (p := ⟨b, o, none⟩) (by first | omega | (simp; omega))) | (have hcwr_wa : ∀ b o, b ≤ wr.heap.size + 4 → wa.cell? ⟨b, o, none⟩ = _ := fun b o h => hbwa.cell (p := ⟨b, o, none⟩) (by first | omega | (simp; omega)); have hfwr_wa : ∀ b o, b ≤ wr.heap.size + 4 → wa.frozen? ⟨b, o, none⟩ = _ := fun b o h => hbwa.frozen (p := ⟨b, o, none⟩) (by first | omega | (simp; omega))) | (have hcwr_wa : ∀ b o, b ≤ wr.heap.size + 3 → wa.cell? ⟨b, o, none⟩ = _ := fun b o h => hbwa.cell (p := ⟨b, o, none⟩) (by first | omega | (simp; omega)); have hfwr_wa : ∀ b o, b ≤ wr.heap.size + 3 → wa.frozen? ⟨b, o, none⟩ = _ := fun b o h => hbwa.frozen (p := ⟨b, o, none⟩) (by first | omega | (simp; omega))) | (have hcwr_wa : ∀ b o, b ≤ wr.heap.size + 2 → wa.cell? ⟨b, o, none⟩ = _ := fun b o h => hbwa.cell (p := ⟨b, o, none⟩) (by first | omega | (simp; omega)); have hfwr_wa : ∀ b o, b ≤ wr.heap.size + 2 → wa.frozen? ⟨b, o, none⟩ = _ := fun b o h => hbwa.frozen (p := ⟨b, o, none⟩) (by first | omega | (simp; omega))) | (have hcwr_wa : ∀ b o, b ≤ wr.heap.size + 1 → wa.cell? ⟨b, o, none⟩ = _ := fun b o h => hbwa.cell (p := ⟨b, o, none⟩) (by first | omega | (simp; omega)); have hfwr_wa : ∀ b o, b ≤ wr.heap.size + 1 → wa.frozen? ⟨b, o, none⟩ = _ := fun b o h => hbwa.frozen (p := ⟨b, o, none⟩) (by first | omega | (simp; omega))) | (have hcwr_wa : ∀ b o, b ≤ wr.heap.size + 0 → wa.cell? ⟨b, o, none⟩ = _ := fun b o h => hbwa.cell (p := ⟨b, o, none⟩) (by first | omega | (simp; omega)); have hfwr_wa : ∀ b o, b ≤ wr.heap.size + 0 → wa.frozen? ⟨b, o, none⟩ = _ := fun b o h => hbwa.frozen (p := ⟨b, o, none⟩) (by first | omega | (simp; omega))) | skip); have hBwa : Below w.heap.size w wa := below_step hbwa (by first | omega | (simp; done) | (simp; omega)) (by repeat' (first | assumption | (with_reducible exact Below.refl _ _) | (with_reducible refine Below.drew ?_) | (with_reducible refine Below.alloc ?_ ?_ _) | (with_reducible refine Below.setCell ?_ ?_ _) | omega | (simp; done) | (simp; omega))); clear hbwa))
        go_roundw
        case rel => exact ⟨k + 1, C, by omega, by go_num, rfl, HC2, by repeat' (first | assumption | (with_reducible exact Below.refl _ _) | (with_reducible refine Below.drew ?_) | (with_reducible refine Below.alloc ?_ ?_ _) | (with_reducible refine Below.setCell ?_ ?_ _) | omega | (simp; done) | (simp; omega)), by omega⟩
        case measure => simp [intOf]; omega
    · have hkn : k = n := by omega
      have HC2 : Hid (C = cov L) := Lib.hid (by rw [hC.out, hkn, ← HZ.out, List.take_length])
      clear hr hkn
      go_wp2
      go_ret
      exact ⟨ret_u (by rw [HC2.out]), hB⟩

theorem RdD_two {w : World} {a : Option Addr} {L : List DomI} (h : Rd w a (flatD L)) {j k : Nat} (hj : j < L.length) (hk : k < L.length) :
    ∃ b off x y d x' y' d', a = some ⟨b, off, none⟩ ∧ b < w.heap.size ∧ (w.cell? ⟨b, off + k * 3, none⟩ = some (.int .i64 x) ∧ w.cell? ⟨b, off + k * 3 + 1, none⟩ = some (.int .i64 y) ∧ w.cell? ⟨b, off + k * 3 + 2, none⟩ = some (.bool d) ∧ Hid (L[k]? = some (x, y, d))) ∧
      w.cell? ⟨b, off + j * 3, none⟩ = some (.int .i64 x') ∧ w.cell? ⟨b, off + j * 3 + 1, none⟩ = some (.int .i64 y') ∧ w.cell? ⟨b, off + j * 3 + 2, none⟩ = some (.bool d') ∧ Hid (L[j]? = some (x', y', d')) := by
  obtain ⟨b, off, x, y, d, e1, h1, h2, h3, h4, h5⟩ := RdD_at h hk
  obtain ⟨b', off', x', y', d', e2, h1', h2', h3', h4', h5'⟩ := RdD_at h hj
  rw [e1] at e2
  injection e2 with e2
  injection e2 with e3 e4
  subst e3 e4
  exact ⟨b, off, x, y, d, x', y', d', e1, h1, ⟨h2, h3, h4, h5⟩, h2', h3', h4', h5'⟩

set_option maxHeartbeats 1600000 in
set_option maxRecDepth 100000 in
theorem implPart_any (a : Option Addr) (n c : Nat) (zs : List Int) (b0 : Option Addr) (m c0 : Nat) (L : List DomI) (w : World) (hz : zs.length = n) (hn : n ≤ 1048576) (hr : RdI w a zs) (hy : L.length = m) (hm : m ≤ 1048576) (hs : RdD w b0 L) :
    Calls Tryd.prog 10 #[.agg #[.slice a n c], .slice b0 m c0] w fun e w' => e = .returned (.bool (partB zs L)) ∧ Below w.heap.size w w' := by
  have HZ := Lib.hid hz
  have HY := Lib.hid hy
  clear hz hy
  by_cases h1 : rokB zs = true
  · obtain ⟨S, hS⟩ : ∃ S, S = setS zs := ⟨_, rfl⟩
    have HS := Lib.hid hS
    have HS64 := Lib.hid (setS_lt h1)
    have HF := Lib.hid (fun (W : World) (h : RdI W a zs) => set_any a n c zs W HZ.out h1 h)
    rw [← hS] at HF
    clear hS
    go_enter Tryd.func10, Tryd.ntmps10
    go_wp2_with (first | (go_at_call 19; refine (implRok_any _ _ _ zs _ HZ.out hn (by repeat' (first | assumption | (with_reducible refine Rd.alloc ?_ _) | (with_reducible refine Rd.drew ?_)))).mono ?_; rintro e wa ⟨rfl, hbwa⟩; have hzwa := hbwa.size; (try simp at hzwa); (try have hl0w_wa : w.heap.size < wa.heap.size := by omega); (try have hl1w_wa : w.heap.size + 1 < wa.heap.size := by omega); (try have hl2w_wa : w.heap.size + 1 + 1 < wa.heap.size := by omega); (try have hl3w_wa : w.heap.size + 1 + 1 + 1 < wa.heap.size := by omega); (first | (have hcw_wa : ∀ b o, b ≤ w.heap.size + 6 → wa.cell? ⟨b, o, none⟩ = _ := fun b o h => hbwa.cell (p := ⟨b, o, none⟩) (by first | omega | (simp; omega)); have hfw_wa : ∀ b o, b ≤ w.heap.size + 6 → wa.frozen? ⟨b, o, none⟩ = _ := fun b o h => hbwa.frozen (p := ⟨b, o, none⟩) (by first | omega | (simp; omega))) | (have hcw_wa : ∀ b o, b ≤ w.heap.size + 5 → wa.cell? ⟨b, o, none⟩ = _ := fun b o h => hbwa.cell (p := ⟨b, o, none⟩) (by first | omega | (simp; omega)); have hfw_wa : ∀ b o, b ≤ w.heap.size + 5 → wa.frozen? ⟨b, o, none⟩ = _ := fun b o h => hbwa.frozen (p := ⟨b, o, none⟩) (by first | omega | (simp; omega))) | (have hcw_wa : ∀ b o, b ≤ w.heap.size + 4 → wa.cell? ⟨b, o, none⟩ = _ := fun b o h => hbwa.cell (p := ⟨b, o, none⟩) (by first | omega | (simp; omega)); have hfw_wa : ∀ b o, b ≤ w.heap.size + 4 → wa.frozen? ⟨b, o, none⟩ = _ := fun b o h => hbwa.frozen (p := ⟨b, o, none⟩) (by first | omega | (simp; omega))) | (have hcw_wa : ∀ b o, b ≤ w.heap.size + 3 → wa.cell? ⟨b, o, none⟩ = _ := fun b o h => hbwa.cell (p := ⟨b, o, none⟩) (by first | omega | (simp; omega)); have hfw_wa : ∀ b o, b ≤ w.heap.size + 3 → wa.frozen? ⟨b, o, none⟩ = _ := fun b o h => hbwa.frozen (p := ⟨b, o, none⟩) (by first | omega | (simp; omega))) | (have hcw_wa : ∀ b o, b ≤ w.heap.size + 2 → wa.cell? ⟨b, o, none⟩ = _ := fun b o h => hbwa.cell (p := ⟨b, o, none⟩) (by first | omega | (simp; omega)); have hfw_wa : ∀ b o, b ≤ w.heap.size + 2 → wa.frozen? ⟨b, o, none⟩ = _ := fun b o h => hbwa.frozen (p := ⟨b, o, none⟩) (by first | omega | (simp; omega))) | (have hcw_wa : ∀ b o, b ≤ w.heap.size + 1 → wa.cell? ⟨b, o, none⟩ = _ := fun b o h => hbwa.cell (p := ⟨b, o, none⟩) (by first | omega | (simp; omega)); have hfw_wa : ∀ b o, b ≤ w.heap.size + 1 → wa.frozen? ⟨b, o, none⟩ = _ := fun b o h => hbwa.frozen (p := ⟨b, o, none⟩) (by first | omega | (simp; omega))) | (have hcw_wa : ∀ b o, b ≤ w.heap.size + 0 → wa.cell? ⟨b, o, none⟩ = _ := fun b o h => hbwa.cell (p := ⟨b, o, none⟩) (by first | omega | (simp; omega)); have hfw_wa : ∀ b o, b ≤ w.heap.size + 0 → wa.frozen? ⟨b, o, none⟩ = _ := fun b o h => hbwa.frozen (p := ⟨b, o, none⟩) (by first | omega | (simp; omega))) | skip); have hBwa : Below w.heap.size w wa := below_step hbwa (by first | omega | (simp; done) | (simp; omega)) (by repeat' (first | assumption | (with_reducible exact Below.refl _ _) | (with_reducible refine Below.drew ?_) | (with_reducible refine Below.alloc ?_ ?_ _) | (with_reducible refine Below.setCell ?_ ?_ _) | omega | (simp; done) | (simp; omega))); have hr_wa : RdI wa a zs := Rd.below (by repeat' (first | assumption | (with_reducible refine Rd.alloc ?_ _) | (with_reducible refine Rd.drew ?_))) hbwa; clear hbwa) | (go_at_call 20; refine (HF.out _ (by repeat' (first | assumption | (with_reducible refine Rd.alloc ?_ _) | (with_reducible refine Rd.drew ?_)))).mono ?_; rintro e wb ⟨rfl, hbwb⟩; have hzwb := hbwb.size; (try simp at hzwb); (try have hl0w_wb : w.heap.size < wb.heap.size := by omega); (try have hl1w_wb : w.heap.size + 1 < wb.heap.size := by omega); (try have hl2w_wb : w.heap.size + 1 + 1 < wb.heap.size := by omega); (try have hl3w_wb : w.heap.size + 1 + 1 + 1 < wb.heap.size := by omega); (first | (have hcw_wb : ∀ b o, b ≤ w.heap.size + 6 → wb.cell? ⟨b, o, none⟩ = _ := fun b o h => hbwb.cell (p := ⟨b, o, none⟩) (by first | omega | (simp; omega)); have hfw_wb : ∀ b o, b ≤ w.heap.size + 6 → wb.frozen? ⟨b, o, none⟩ = _ := fun b o h => hbwb.frozen (p := ⟨b, o, none⟩) (by first | omega | (simp; omega))) | (have hcw_wb : ∀ b o, b ≤ w.heap.size + 5 → wb.cell? ⟨b, o, none⟩ = _ := fun b o h => hbwb.cell (p := ⟨b, o, none⟩) (by first | omega | (simp; omega)); have hfw_wb : ∀ b o, b ≤ w.heap.size + 5 → wb.frozen? ⟨b, o, none⟩ = _ := fun b o h => hbwb.frozen (p := ⟨b, o, none⟩) (by first | omega | (simp; omega))) | (have hcw_wb : ∀ b o, b ≤ w.heap.size + 4 → wb.cell? ⟨b, o, none⟩ = _ := fun b o h => hbwb.cell (p := ⟨b, o, none⟩) (by first | omega | (simp; omega)); have hfw_wb : ∀ b o, b ≤ w.heap.size + 4 → wb.frozen? ⟨b, o, none⟩ = _ := fun b o h => hbwb.frozen (p := ⟨b, o, none⟩) (by first | omega | (simp; omega))) | (have hcw_wb : ∀ b o, b ≤ w.heap.size + 3 → wb.cell? ⟨b, o, none⟩ = _ := fun b o h => hbwb.cell (p := ⟨b, o, none⟩) (by first | omega | (simp; omega)); have hfw_wb : ∀ b o, b ≤ w.heap.size + 3 → wb.frozen? ⟨b, o, none⟩ = _ := fun b o h => hbwb.frozen (p := ⟨b, o, none⟩) (by first | omega | (simp; omega))) | (have hcw_wb : ∀ b o, b ≤ w.heap.size + 2 → wb.cell? ⟨b, o, none⟩ = _ := fun b o h => hbwb.cell (p := ⟨b, o, none⟩) (by first | omega | (simp; omega)); have hfw_wb : ∀ b o, b ≤ w.heap.size + 2 → wb.frozen? ⟨b, o, none⟩ = _ := fun b o h => hbwb.frozen (p := ⟨b, o, none⟩) (by first | omega | (simp; omega))) | (have hcw_wb : ∀ b o, b ≤ w.heap.size + 1 → wb.cell? ⟨b, o, none⟩ = _ := fun b o h => hbwb.cell (p := ⟨b, o, none⟩) (by first | omega | (simp; omega)); have hfw_wb : ∀ b o, b ≤ w.heap.size + 1 → wb.frozen? ⟨b, o, none⟩ = _ := fun b o h => hbwb.frozen (p := ⟨b, o, none⟩) (by first | omega | (simp; omega))) | (have hcw_wb : ∀ b o, b ≤ w.heap.size + 0 → wb.cell? ⟨b, o, none⟩ = _ := fun b o h => hbwb.cell (p := ⟨b, o, none⟩) (by first | omega | (simp; omega)); have hfw_wb : ∀ b o, b ≤ w.heap.size + 0 → wb.frozen? ⟨b, o, none⟩ = _ := fun b o h => hbwb.frozen (p := ⟨b, o, none⟩) (by first | omega | (simp; omega))) | skip); have hBwb : Below w.heap.size w wb := below_step hbwb (by first | omega | (simp; done) | (simp; omega)) (by repeat' (first | assumption | (with_reducible exact Below.refl _ _) | (with_reducible refine Below.drew ?_) | (with_reducible refine Below.alloc ?_ ?_ _) | (with_reducible refine Below.setCell ?_ ?_ _) | omega | (simp; done) | (simp; omega))); clear hbwb))
    go_loopw [15, 5] (fun i s wr => ∃ k Lf : Nat, k ≤ m ∧ i = .int .i64 k ∧ s = .int .u64 (Lf : Int) ∧ Hid (Lf < 2 ^ 64) ∧ Hid (∀ i, i < 64 → Lf.testBit i = (S.testBit i && !(cov (L.take k)).testBit i)) ∧ Hid (accTo S L k = true) ∧ Below w.heap.size w wr ∧ wb.heap.size ≤ wr.heap.size) (fun i _ _ => m - (intOf i).toNat)
    case atStart => exact ⟨0, S, Nat.zero_le _, rfl, rfl, Lib.hid (by rw [HS.out]; exact HS64.out), Lib.hid (fun i _ => by simp [cov_nil]), Lib.hid (accTo_zero _ _), by repeat' (first | assumption | (with_reducible exact Below.refl _ _) | (with_reducible refine Below.drew ?_) | (with_reducible refine Below.alloc ?_ ?_ _) | (with_reducible refine Below.setCell ?_ ?_ _) | omega | (simp; done) | (simp; omega)), Nat.le_refl _⟩
    case round =>
      obtain ⟨k, Lf, hk, rfl, rfl, hL64, hLb, hA, hB, hsz⟩ := hrel
      by_cases hlt : k < m
      · have hsz2 : w.heap.size ≤ wr.heap.size := hB.size
        obtain ⟨j, hj⟩ : ∃ j : Nat, j = k - 1 := ⟨_, rfl⟩
        obtain ⟨b, off, x, y, d, x', y', d', rfl, hb, ⟨hcx, hcy, hcd, hv⟩, hcx', hcy', hcd', hv'⟩ := RdD_two (Rd.below hs hB) (j := j) (k := k) (by rw [HY.out]; omega) (by rw [HY.out]; exact hlt)
        have HR := Lib.hid hs
        have HRr := Lib.hid hr
        clear hs hr
        by_cases hd : domB x y d = true
        · obtain ⟨D, hD⟩ : ∃ D, D = domS x y d := ⟨_, rfl⟩
          have HDs := Lib.hid (fun W : World => domSet_any x y d W hd)
          rw [← hD] at HDs
          have HD := Lib.hid hD
          have hD64 : Hid (D < 2 ^ 64) := Lib.hid (by rw [hD]; exact domS_lt hd)
          have HLA := Lib.hid (left_and (C := cov (L.take k)) hd hLb.out)
          rw [← hD] at HLA
          clear hD
          by_cases hf : freeB S (cov (L.take k)) (x, y, d) = true
          · have HDD : Hid (Lf &&& D = D) := Lib.hid (by have := HLA.out; rw [hf] at this; exact of_decide_eq_true this)
            have e1 : bits .and .u64 (Lf : Int) (D : Int) = (D : Int) := by rw [u64_and_nat64 hL64.out hD64.out, HDD.out]
            have e2 : bits .andNot .u64 (Lf : Int) (D : Int) = ((dif Lf D : Nat) : Int) := u64_dif hL64.out hD64.out
            have HL2 : Hid (∀ i, i < 64 → (dif Lf D).testBit i = (S.testBit i && !(cov (L.take (k + 1))).testBit i)) := Lib.hid (fun i hi => by
              rw [dif_bit hL64.out hD64.out, hLb.out i hi, cov_take hv.out, Nat.testBit_or, dS_yes hd, HD.out, Bool.not_or, Bool.and_assoc])
            have HL3 : Hid (dif Lf D < 2 ^ 64) := Lib.hid (dif_lt hL64.out)
            have HFR := Lib.hid hf
            by_cases hk0 : 0 < k
            · have hk1 : (0 : Int) < (k : Int) := by omega
              have hjm : j < m := by omega
              have hjk : (j : Int) < (m : Int) := by omega
              have HJ : Hid (k = j + 1) := Lib.hid (by omega)
              have ej : IntKind.i64.wrap ((k : Int) - 1) = (j : Int) := by rw [IntKind.wrap_i64]; omega
              clear hj
              by_cases hbf : befB x' y' d' x y d = true
              · have HA2 : Hid (accTo S L (k + 1) = true) := Lib.hid (accTo_yes hA.out hv.out (okAt_yes hd (by rw [HJ.out, befPrev_succ hv'.out]; exact hbf) HFR.out))
                clear hf
                go_wp2_with fail
                refine hold_start (S := (fun w' => w'.cell? ⟨wr.heap.size, 0, none⟩ = some (.int .i64 x) ∧ w'.cell? ⟨wr.heap.size, 1, none⟩ = some (.int .i64 y) ∧ w'.cell? ⟨wr.heap.size, 2, none⟩ = some (.bool d) ∧ w'.cell? ⟨b, off + j * 3, none⟩ = some (.int .i64 x') ∧ w'.cell? ⟨b, off + j * 3 + 1, none⟩ = some (.int .i64 y') ∧ w'.cell? ⟨b, off + j * 3 + 2, none⟩ = some (.bool d') ∧ Below w.heap.size w w' ∧ wr.heap.size + 1 ≤ w'.heap.size)) (by kernel_rfl) (by kernel_rfl) (by intro _ _ d _ _ h; cases d <;> exact h) ?_ (fun hHC hH0 => ?_)
                · (first | (go_keep; done) | ((try go_split_ands); (repeat' apply And.intro) <;> first | assumption | (with_reducible refine Rd.below ?_ hb1; assumption) | (with_reducible refine Rd.drew ?_; repeat' (first | assumption | (with_reducible refine Rd.alloc ?_ _))) | (refine (hb1.cell (by first | omega | (simp; done) | (simp; omega))).trans ?_; first | assumption | simp) | (exact below_step hb1 (by first | omega | (simp; done) | (simp; omega)) (by assumption)) | (have hz' := hb1.size; (try simp at hz'); omega) | ((repeat' (first | assumption | (with_reducible exact Below.refl _ _) | (with_reducible refine Below.drew ?_) | (with_reducible refine Below.alloc ?_ ?_ _) | (with_reducible refine Below.setCell ?_ ?_ _) | omega | (simp; done) | (simp; omega))); done) | go_simp | (simp; done) | (simp; omega)))
                refine hold_plain 0 (v := ?_) hHC hH0 (by simp only [List.getElem?_toArray, List.getElem?_cons_succ, List.getElem?_cons_zero]; rfl) rfl (by kernel_rfl) ?_ ?_
                rotate_left 1
                · (intro w hSw; (try dsimp only at hSw); go_simp; try with_reducible rfl)
                try simp only [Act.put, List.setIfInBounds_toArray, List.set_cons_zero, List.set_cons_succ]
                refine hold_call0 1 (by simp only [List.getElem?_toArray, List.getElem?_cons_succ, List.getElem?_cons_zero]; rfl) rfl (by kernel_rfl) (fun K hK => ?_)
                go_simp
                obtain ⟨_, _, _, _, _, _, _, hs2⟩ := id hH0; first | (go_at_call 17; refine (implDom_any _ _ _ _).mono ?_; rintro e w1 ⟨rfl, hb1⟩) | (go_at_call 25; refine (HDs.out _).mono ?_; rintro e w1 ⟨rfl, hb1⟩) | (go_at_call 27; refine (implBef_any _ _ _ _ _ _ _).mono ?_; rintro e w1 ⟨rfl, hb1⟩)
                refine hK.out _ _ ?_ (fun hH1 => ?_)
                · (first | (go_keep; done) | ((try go_split_ands); (repeat' apply And.intro) <;> first | assumption | (with_reducible refine Rd.below ?_ hb1; assumption) | (with_reducible refine Rd.drew ?_; repeat' (first | assumption | (with_reducible refine Rd.alloc ?_ _))) | (refine (hb1.cell (by first | omega | (simp; done) | (simp; omega))).trans ?_; first | assumption | simp) | (exact below_step hb1 (by first | omega | (simp; done) | (simp; omega)) (by assumption)) | (have hz' := hb1.size; (try simp at hz'); omega) | ((repeat' (first | assumption | (with_reducible exact Below.refl _ _) | (with_reducible refine Below.drew ?_) | (with_reducible refine Below.alloc ?_ ?_ _) | (with_reducible refine Below.setCell ?_ ?_ _) | omega | (simp; done) | (simp; omega))); done) | go_simp | (simp; done) | (simp; omega)))
                clear hK K hH0
                try simp only [Act.put, List.setIfInBounds_toArray, List.set_cons_zero, List.set_cons_succ]
                refine hold_plain 2 (v := ?_) hHC hH1 (by simp only [List.getElem?_toArray, List.getElem?_cons_succ, List.getElem?_cons_zero]; rfl) rfl (by kernel_rfl) ?_ ?_
                rotate_left 1
                · (intro w hSw; (try dsimp only at hSw); go_simp; try with_reducible rfl)
                try simp only [Act.put, List.setIfInBounds_toArray, List.set_cons_zero, List.set_cons_succ]
                refine hold_plain 3 (v := ?_) hHC hH1 (by simp only [List.getElem?_toArray, List.getElem?_cons_succ, List.getElem?_cons_zero]; rfl) rfl (by kernel_rfl) ?_ ?_
                rotate_left 1
                · (intro w hSw; (try dsimp only at hSw); go_simp; try with_reducible rfl)
                try simp only [Act.put, List.setIfInBounds_toArray, List.set_cons_zero, List.set_cons_succ]
                refine hold_yes 4 (v := ?_) hHC hH1 (by simp only [List.getElem?_toArray, List.getElem?_cons_succ, List.getElem?_cons_zero]; rfl) rfl (by kernel_rfl) (by kernel_rfl) ?_ ?_
                rotate_left 1
                · (intro w hSw; (try dsimp only at hSw); go_simp; try with_reducible rfl)
                try simp only [Act.put, List.setIfInBounds_toArray, List.set_cons_zero, List.set_cons_succ]
                refine hold_yes 5 (v := ?_) hHC hH1 (by simp only [List.getElem?_toArray, List.getElem?_cons_succ, List.getElem?_cons_zero]; rfl) rfl (by kernel_rfl) (by kernel_rfl) ?_ ?_
                rotate_left 1
                · (intro w hSw; (try dsimp only at hSw); go_simp; try with_reducible rfl)
                try simp only [Act.put, List.setIfInBounds_toArray, List.set_cons_zero, List.set_cons_succ]
                refine hold_yes 8 (v := ?_) hHC hH1 (by simp only [List.getElem?_toArray, List.getElem?_cons_succ, List.getElem?_cons_zero]; rfl) rfl (by kernel_rfl) (by kernel_rfl) ?_ ?_
                rotate_left 1
                · (intro w hSw; (try dsimp only at hSw); go_simp; try with_reducible rfl)
                try simp only [Act.put, List.setIfInBounds_toArray, List.set_cons_zero, List.set_cons_succ]
                refine hold_call1 6 (by simp only [List.getElem?_toArray, List.getElem?_cons_succ, List.getElem?_cons_zero]; rfl) rfl (by kernel_rfl) (by kernel_rfl) (fun K hK => ?_)
                go_simp
                obtain ⟨_, _, _, _, _, _, _, hs2⟩ := id hH1; first | (go_at_call 17; refine (implDom_any _ _ _ _).mono ?_; rintro e w1 ⟨rfl, hb1⟩) | (go_at_call 25; refine (HDs.out _).mono ?_; rintro e w1 ⟨rfl, hb1⟩) | (go_at_call 27; refine (implBef_any _ _ _ _ _ _ _).mono ?_; rintro e w1 ⟨rfl, hb1⟩)
                refine hK.out _ _ ?_ (fun hH2 => ?_)
                · (first | (go_keep; done) | ((try go_split_ands); (repeat' apply And.intro) <;> first | assumption | (with_reducible refine Rd.below ?_ hb1; assumption) | (with_reducible refine Rd.drew ?_; repeat' (first | assumption | (with_reducible refine Rd.alloc ?_ _))) | (refine (hb1.cell (by first | omega | (simp; done) | (simp; omega))).trans ?_; first | assumption | simp) | (exact below_step hb1 (by first | omega | (simp; done) | (simp; omega)) (by assumption)) | (have hz' := hb1.size; (try simp at hz'); omega) | ((repeat' (first | assumption | (with_reducible exact Below.refl _ _) | (with_reducible refine Below.drew ?_) | (with_reducible refine Below.alloc ?_ ?_ _) | (with_reducible refine Below.setCell ?_ ?_ _) | omega | (simp; done) | (simp; omega))); done) | go_simp | (simp; done) | (simp; omega)))
                clear hK K hH1
                try simp only [Act.put, List.setIfInBounds_toArray, List.set_cons_zero, List.set_cons_succ]
                refine hold_yes 7 (v := ?_) hHC hH2 (by simp only [List.getElem?_toArray, List.getElem?_cons_succ, List.getElem?_cons_zero]; rfl) rfl (by kernel_rfl) (by kernel_rfl) ?_ ?_
                rotate_left 1
                · (intro w hSw; (try dsimp only at hSw); go_simp; try with_reducible rfl)
                try simp only [Act.put, List.setIfInBounds_toArray, List.set_cons_zero, List.set_cons_succ]
                refine hold_call1 9 (by simp only [List.getElem?_toArray, List.getElem?_cons_succ, List.getElem?_cons_zero]; rfl) rfl (by kernel_rfl) (by kernel_rfl) (fun K hK => ?_)
                go_simp
                obtain ⟨_, _, _, _, _, _, _, hs2⟩ := id hH2; first | (go_at_call 17; refine (implDom_any _ _ _ _).mono ?_; rintro e w1 ⟨rfl, hb1⟩) | (go_at_call 25; refine (HDs.out _).mono ?_; rintro e w1 ⟨rfl, hb1⟩) | (go_at_call 27; refine (implBef_any _ _ _ _ _ _ _).mono ?_; rintro e w1 ⟨rfl, hb1⟩)
                refine hK.out _ _ ?_ (fun hH3 => ?_)
                · (first | (go_keep; done) | ((try go_split_ands); (repeat' apply And.intro) <;> first | assumption | (with_reducible refine Rd.below ?_ hb1; assumption) | (with_reducible refine Rd.drew ?_; repeat' (first | assumption | (with_reducible refine Rd.alloc ?_ _))) | (refine (hb1.cell (by first | omega | (simp; done) | (simp; omega))).trans ?_; first | assumption | simp) | (exact below_step hb1 (by first | omega | (simp; done) | (simp; omega)) (by assumption)) | (have hz' := hb1.size; (try simp at hz'); omega) | ((repeat' (first | assumption | (with_reducible exact Below.refl _ _) | (with_reducible refine Below.drew ?_) | (with_reducible refine Below.alloc ?_ ?_ _) | (with_reducible refine Below.setCell ?_ ?_ _) | omega | (simp; done) | (simp; omega))); done) | go_simp | (simp; done) | (simp; omega)))
                clear hK K hH2
                try simp only [Act.put, List.setIfInBounds_toArray, List.set_cons_zero, List.set_cons_succ]
                refine hold_yes 10 (v := ?_) hHC hH3 (by simp only [List.getElem?_toArray, List.getElem?_cons_succ, List.getElem?_cons_zero]; rfl) rfl (by kernel_rfl) (by kernel_rfl) ?_ ?_
                rotate_left 1
                · (intro w hSw; (try dsimp only at hSw); go_simp; try with_reducible rfl)
                try simp only [Act.put, List.setIfInBounds_toArray, List.set_cons_zero, List.set_cons_succ]
                refine hold_plain 11 (v := ?_) hHC hH3 (by simp only [List.getElem?_toArray, List.getElem?_cons_succ, List.getElem?_cons_zero]; rfl) rfl (by kernel_rfl) ?_ ?_
                rotate_left 1
                · (intro w hSw; (try dsimp only at hSw); go_simp; try with_reducible rfl)
                try simp only [Act.put, List.setIfInBounds_toArray, List.set_cons_zero, List.set_cons_succ]
                refine hold_plain 12 (v := ?_) hHC hH3 (by simp only [List.getElem?_toArray, List.getElem?_cons_succ, List.getElem?_cons_zero]; rfl) rfl (by kernel_rfl) ?_ ?_
                rotate_left 1
                · (intro w hSw; (try dsimp only at hSw); go_simp; try with_reducible rfl)
                try simp only [Act.put, List.setIfInBounds_toArray, List.set_cons_zero, List.set_cons_succ]
                refine hold_yes 13 (v := ?_) hHC hH3 (by simp only [List.getElem?_toArray, List.getElem?_cons_succ, List.getElem?_cons_zero]; rfl) rfl (by kernel_rfl) (by kernel_rfl) ?_ ?_
                rotate_left 1
                · (intro w hSw; (try dsimp only at hSw); go_simp; try with_reducible rfl)
                try simp only [Act.put, List.setIfInBounds_toArray, List.set_cons_zero, List.set_cons_succ]
                refine hold_yes 14 (v := ?_) hHC hH3 (by simp only [List.getElem?_toArray, List.getElem?_cons_succ, List.getElem?_cons_zero]; rfl) rfl (by kernel_rfl) (by kernel_rfl) ?_ ?_
                rotate_left 1
                · (intro w hSw; (try dsimp only at hSw); go_simp; try with_reducible rfl)
                try simp only [Act.put, List.setIfInBounds_toArray, List.set_cons_zero, List.set_cons_succ]
                refine hold_yes 15 (v := ?_) hHC hH3 (by simp only [List.getElem?_toArray, List.getElem?_cons_succ, List.getElem?_cons_zero]; rfl) rfl (by kernel_rfl) (by kernel_rfl) ?_ ?_
                rotate_left 1
                · (intro w hSw; (try dsimp only at hSw); go_simp; try with_reducible rfl)
                try simp only [Act.put, List.setIfInBounds_toArray, List.set_cons_zero, List.set_cons_succ]
                refine hold_yes 16 (v := ?_) hHC hH3 (by simp only [List.getElem?_toArray, List.getElem?_cons_succ, List.getElem?_cons_zero]; rfl) rfl (by kernel_rfl) (by kernel_rfl) ?_ ?_
                rotate_left 1
                · (intro w hSw; (try dsimp only at hSw); go_simp; try with_reducible rfl)
                try simp only [Act.put, List.setIfInBounds_toArray, List.set_cons_zero, List.set_cons_succ]
                refine hold_yes 17 (v := ?_) hHC hH3 (by simp only [List.getElem?_toArray, List.getElem?_cons_succ, List.getElem?_cons_zero]; rfl) rfl (by kernel_rfl) (by kernel_rfl) ?_ ?_
                rotate_left 1
                · (intro w hSw; (try dsimp only at hSw); go_simp; try with_reducible rfl)
                try simp only [Act.put, List.setIfInBounds_toArray, List.set_cons_zero, List.set_cons_succ]
                refine hold_yes 18 (v := ?_) hHC hH3 (by simp only [List.getElem?_toArray, List.getElem?_cons_succ, List.getElem?_cons_zero]; rfl) rfl (by kernel_rfl) (by kernel_rfl) ?_ ?_
                rotate_left 1
                · (intro w hSw; (try dsimp only at hSw); go_simp; try with_reducible rfl)
                try simp only [Act.put, List.setIfInBounds_toArray, List.set_cons_zero, List.set_cons_succ]
                refine hold_yes 19 (v := ?_) hHC hH3 (by simp only [List.getElem?_toArray, List.getElem?_cons_succ, List.getElem?_cons_zero]; rfl) rfl (by kernel_rfl) (by kernel_rfl) ?_ ?_
                rotate_left 1
                · (intro w hSw; (try dsimp only at hSw); go_simp; try with_reducible rfl)
                try simp only [Act.put, List.setIfInBounds_toArray, List.set_cons_zero, List.set_cons_succ]
                refine hold_yes 20 (v := ?_) hHC hH3 (by simp only [List.getElem?_toArray, List.getElem?_cons_succ, List.getElem?_cons_zero]; rfl) rfl (by kernel_rfl) (by kernel_rfl) ?_ ?_
                rotate_left 1
                · (intro w hSw; (try dsimp only at hSw); go_simp; try with_reducible rfl)
                try simp only [Act.put, List.setIfInBounds_toArray, List.set_cons_zero, List.set_cons_succ]
                refine hold_yes 21 (v := ?_) hHC hH3 (by simp only [List.getElem?_toArray, List.getElem?_cons_succ, List.getElem?_cons_zero]; rfl) rfl (by kernel_rfl) (by kernel_rfl) ?_ ?_
                rotate_left 1
                · (intro w hSw; (try dsimp only at hSw); go_simp; try with_reducible rfl)
                try simp only [Act.put, List.setIfInBounds_toArray, List.set_cons_zero, List.set_cons_succ]
                refine hold_call1 22 (by simp only [List.getElem?_toArray, List.getElem?_cons_succ, List.getElem?_cons_zero]; rfl) rfl (by kernel_rfl) (by kernel_rfl) (fun K hK => ?_)
                go_simp
                obtain ⟨_, _, _, _, _, _, _, hs2⟩ := id hH3; first | (go_at_call 17; refine (implDom_any _ _ _ _).mono ?_; rintro e w1 ⟨rfl, hb1⟩) | (go_at_call 25; refine (HDs.out _).mono ?_; rintro e w1 ⟨rfl, hb1⟩) | (go_at_call 27; refine (implBef_any _ _ _ _ _ _ _).mono ?_; rintro e w1 ⟨rfl, hb1⟩)
                refine hK.out _ _ ?_ (fun hH4 => ?_)
                · (first | (go_keep; done) | ((try go_split_ands); (repeat' apply And.intro) <;> first | assumption | (with_reducible refine Rd.below ?_ hb1; assumption) | (with_reducible refine Rd.drew ?_; repeat' (first | assumption | (with_reducible refine Rd.alloc ?_ _))) | (refine (hb1.cell (by first | omega | (simp; done) | (simp; omega))).trans ?_; first | assumption | simp) | (exact below_step hb1 (by first | omega | (simp; done) | (simp; omega)) (by assumption)) | (have hz' := hb1.size; (try simp at hz'); omega) | ((repeat' (first | assumption | (with_reducible exact Below.refl _ _) | (with_reducible refine Below.drew ?_) | (with_reducible refine Below.alloc ?_ ?_ _) | (with_reducible refine Below.setCell ?_ ?_ _) | omega | (simp; done) | (simp; omega))); done) | go_simp | (simp; done) | (simp; omega)))
                clear hK K hH3
                try simp only [Act.put, List.setIfInBounds_toArray, List.set_cons_zero, List.set_cons_succ]
                refine hold_yes 23 (v := ?_) hHC hH4 (by simp only [List.getElem?_toArray, List.getElem?_cons_succ, List.getElem?_cons_zero]; rfl) rfl (by kernel_rfl) (by kernel_rfl) ?_ ?_
                rotate_left 1
                · (intro w hSw; (try dsimp only at hSw); go_simp; try with_reducible rfl)
                try simp only [Act.put, List.setIfInBounds_toArray, List.set_cons_zero, List.set_cons_succ]
                refine hold_yes 24 (v := ?_) hHC hH4 (by simp only [List.getElem?_toArray, List.getElem?_cons_succ, List.getElem?_cons_zero]; rfl) rfl (by kernel_rfl) (by kernel_rfl) ?_ ?_
                rotate_left 1
                · (intro w hSw; (try dsimp only at hSw); go_simp; try with_reducible rfl)
                try simp only [Act.put, List.setIfInBounds_toArray, List.set_cons_zero, List.set_cons_succ]
                refine hold_plain 25 (v := ?_) hHC hH4 (by simp only [List.getElem?_toArray, List.getElem?_cons_succ, List.getElem?_cons_zero]; rfl) rfl (by kernel_rfl) ?_ ?_
                rotate_left 1
                · (intro w hSw; (try dsimp only at hSw); go_simp; try with_reducible rfl)
                try simp only [Act.put, List.setIfInBounds_toArray, List.set_cons_zero, List.set_cons_succ]
                refine wpAnyH_done (by kernel_rfl) ?_ _
                (try dsimp only at hH4)
                go_split_ands
                clear hHC
                go_wp2_with (first | (go_at_call 25; refine (HDs.out _).mono ?_; rintro e wz ⟨rfl, hbwz⟩; have hzwz := hbwz.size; (try simp at hzwz); (try have hl0wr_wz : wr.heap.size < wz.heap.size := by omega); (try have hl1wr_wz : wr.heap.size + 1 < wz.heap.size := by omega); (try have hl2wr_wz : wr.heap.size + 1 + 1 < wz.heap.size := by omega); (try have hl3wr_wz : wr.heap.size + 1 + 1 + 1 < wz.heap.size := by omega); (first | (have hcwr_wz : ∀ b o, b ≤ wr.heap.size + 6 → wz.cell? ⟨b, o, none⟩ = _ := fun b o h => hbwz.cell (p := ⟨b, o, none⟩) (by first | omega | (simp; omega)); have hfwr_wz : ∀ b o, b ≤ wr.heap.size + 6 → wz.frozen? ⟨b, o, none⟩ = _ := fun b o h => hbwz.frozen (p := ⟨b, o, none⟩) (by first | omega | (simp; omega))) | (have hcwr_wz : ∀ b o, b ≤ wr.heap.size + 5 → wz.cell? ⟨b, o, none⟩ = _ := fun b o h => hbwz.cell (p := ⟨b, o, none⟩) (by first | omega | (simp; omega)); have hfwr_wz : ∀ b o, b ≤ wr.heap.size + 5 → wz.frozen? ⟨b, o, none⟩ = _ := fun b o h => hbwz.frozen (p := ⟨b, o, none⟩) (by first | omega | (simp; omega))) | (have hcwr_wz : ∀ b o, b ≤ wr.heap.size + 4 → wz.cell? ⟨b, o, none⟩ = _ := fun b o h => hbwz.cell (p := ⟨b, o, none⟩) (by first | omega | (simp; omega)); have hfwr_wz : ∀ b o, b ≤ wr.heap.size + 4 → wz.frozen? ⟨b, o, none⟩ = _ := fun b o h => hbwz.frozen (p := ⟨b, o, none⟩) (by first | omega | (simp; omega))) | (have hcwr_wz : ∀ b o, b ≤ wr.heap.size + 3 → wz.cell? ⟨b, o, none⟩ = _ := fun b o h => hbwz.cell (p := ⟨b, o, none⟩) (by first | omega | (simp; omega)); have hfwr_wz : ∀ b o, b ≤ wr.heap.size + 3 → wz.frozen? ⟨b, o, none⟩ = _ := fun b o h => hbwz.frozen (p := ⟨b, o, none⟩) (by first | omega | (simp; omega))) | (have hcwr_wz : ∀ b o, b ≤ wr.heap.size + 2 → wz.cell? ⟨b, o, none⟩ = _ := fun b o h => hbwz.cell (p := ⟨b, o, none⟩) (by first | omega | (simp; omega)); have hfwr_wz : ∀ b o, b ≤ wr.heap.size + 2 → wz.frozen? ⟨b, o, none⟩ = _ := fun b o h => hbwz.frozen (p := ⟨b, o, none⟩) (by first | omega | (simp; omega))) | (have hcwr_wz : ∀ b o, b ≤ wr.heap.size + 1 → wz.cell? ⟨b, o, none⟩ = _ := fun b o h => hbwz.cell (p := ⟨b, o, none⟩) (by first | omega | (simp; omega)); have hfwr_wz : ∀ b o, b ≤ wr.heap.size + 1 → wz.frozen? ⟨b, o, none⟩ = _ := fun b o h => hbwz.frozen (p := ⟨b, o, none⟩) (by first | omega | (simp; omega))) | (have hcwr_wz : ∀ b o, b ≤ wr.heap.size + 0 → wz.cell? ⟨b, o, none⟩ = _ := fun b o h => hbwz.cell (p := ⟨b, o, none⟩) (by first | omega | (simp; omega)); have hfwr_wz : ∀ b o, b ≤ wr.heap.size + 0 → wz.frozen? ⟨b, o, none⟩ = _ := fun b o h => hbwz.frozen (p := ⟨b, o, none⟩) (by first | omega | (simp; omega))) | skip); have hBwz : Below w.heap.size w wz := below_step hbwz (by first | omega | (simp; done) | (simp; omega)) (by repeat' (first | assumption | (with_reducible exact Below.refl _ _) | (with_reducible refine Below.drew ?_) | (with_reducible refine Below.alloc ?_ ?_ _) | (with_reducible refine Below.setCell ?_ ?_ _) | omega | (simp; done) | (simp; omega))); clear hbwz))
                go_roundw
                case rel => exact ⟨k + 1, dif Lf D, by omega, by go_num, by first | rfl | simp, HL3, HL2, HA2, by repeat' (first | assumption | (with_reducible exact Below.refl _ _) | (with_reducible refine Below.drew ?_) | (with_reducible refine Below.alloc ?_ ?_ _) | (with_reducible refine Below.setCell ?_ ?_ _) | omega | (simp; done) | (simp; omega)), by omega⟩
                case measure => simp [intOf]; omega
              · have hbf' : befB x' y' d' x y d = false := by simpa using hbf
                have HN : Hid (partB zs L = false) := Lib.hid (partB_no hv.out (okAt_no2 (by rw [HJ.out, befPrev_succ hv'.out]; exact hbf')))
                clear hf
                go_wp2_with fail
                refine hold_start (S := (fun w' => w'.cell? ⟨wr.heap.size, 0, none⟩ = some (.int .i64 x) ∧ w'.cell? ⟨wr.heap.size, 1, none⟩ = some (.int .i64 y) ∧ w'.cell? ⟨wr.heap.size, 2, none⟩ = some (.bool d) ∧ w'.cell? ⟨b, off + j * 3, none⟩ = some (.int .i64 x') ∧ w'.cell? ⟨b, off + j * 3 + 1, none⟩ = some (.int .i64 y') ∧ w'.cell? ⟨b, off + j * 3 + 2, none⟩ = some (.bool d') ∧ Below w.heap.size w w' ∧ wr.heap.size + 1 ≤ w'.heap.size)) (by kernel_rfl) (by kernel_rfl) (by intro _ _ d _ _ h; cases d <;> exact h) ?_ (fun hHC hH0 => ?_)
                · (first | (go_keep; done) | ((try go_split_ands); (repeat' apply And.intro) <;> first | assumption | (with_reducible refine Rd.below ?_ hb1; assumption) | (with_reducible refine Rd.drew ?_; repeat' (first | assumption | (with_reducible refine Rd.alloc ?_ _))) | (refine (hb1.cell (by first | omega | (simp; done) | (simp; omega))).trans ?_; first | assumption | simp) | (exact below_step hb1 (by first | omega | (simp; done) | (simp; omega)) (by assumption)) | (have hz' := hb1.size; (try simp at hz'); omega) | ((repeat' (first | assumption | (with_reducible exact Below.refl _ _) | (with_reducible refine Below.drew ?_) | (with_reducible refine Below.alloc ?_ ?_ _) | (with_reducible refine Below.setCell ?_ ?_ _) | omega | (simp; done) | (simp; omega))); done) | go_simp | (simp; done) | (simp; omega)))
                refine hold_plain 0 (v := ?_) hHC hH0 (by simp only [List.getElem?_toArray, List.getElem?_cons_succ, List.getElem?_cons_zero]; rfl) rfl (by kernel_rfl) ?_ ?_
                rotate_left 1
                · (intro w hSw; (try dsimp only at hSw); go_simp; try with_reducible rfl)
                try simp only [Act.put, List.setIfInBounds_toArray, List.set_cons_zero, List.set_cons_succ]
                refine hold_call0 1 (by simp only [List.getElem?_toArray, List.getElem?_cons_succ, List.getElem?_cons_zero]; rfl) rfl (by kernel_rfl) (fun K hK => ?_)
                go_simp
                obtain ⟨_, _, _, _, _, _, _, hs2⟩ := id hH0; first | (go_at_call 17; refine (implDom_any _ _ _ _).mono ?_; rintro e w1 ⟨rfl, hb1⟩) | (go_at_call 25; refine (HDs.out _).mono ?_; rintro e w1 ⟨rfl, hb1⟩) | (go_at_call 27; refine (implBef_any _ _ _ _ _ _ _).mono ?_; rintro e w1 ⟨rfl, hb1⟩)
                refine hK.out _ _ ?_ (fun hH1 => ?_)
                · (first | (go_keep; done) | ((try go_split_ands); (repeat' apply And.intro) <;> first | assumption | (with_reducible refine Rd.below ?_ hb1; assumption) | (with_reducible refine Rd.drew ?_; repeat' (first | assumption | (with_reducible refine Rd.alloc ?_ _))) | (refine (hb1.cell (by first | omega | (simp; done) | (simp; omega))).trans ?_; first | assumption | simp) | (exact below_step hb1 (by first | omega | (simp; done) | (simp; omega)) (by assumption)) | (have hz' := hb1.size; (try simp at hz'); omega) | ((repeat' (first | assumption | (with_reducible exact Below.refl _ _) | (with_reducible refine Below.drew ?_) | (with_reducible refine Below.alloc ?_ ?_ _) | (with_reducible refine Below.setCell ?_ ?_ _) | omega | (simp; done) | (simp; omega))); done) | go_simp | (simp; done) | (simp; omega)))
                clear hK K hH0
                try simp only [Act.put, List.setIfInBounds_toArray, List.set_cons_zero, List.set_cons_succ]
                refine hold_plain 2 (v := ?_) hHC hH1 (by simp only [List.getElem?_toArray, List.getElem?_cons_succ, List.getElem?_cons_zero]; rfl) rfl (by kernel_rfl) ?_ ?_
                rotate_left 1
                · (intro w hSw; (try dsimp only at hSw); go_simp; try with_reducible rfl)
                try simp only [Act.put, List.setIfInBounds_toArray, List.set_cons_zero, List.set_cons_succ]
                refine hold_plain 3 (v := ?_) hHC hH1 (by simp only [List.getElem?_toArray, List.getElem?_cons_succ, List.getElem?_cons_zero]; rfl) rfl (by kernel_rfl) ?_ ?_
                rotate_left 1
                · (intro w hSw; (try dsimp only at hSw); go_simp; try with_reducible rfl)
                try simp only [Act.put, List.setIfInBounds_toArray, List.set_cons_zero, List.set_cons_succ]
                refine hold_yes 4 (v := ?_) hHC hH1 (by simp only [List.getElem?_toArray, List.getElem?_cons_succ, List.getElem?_cons_zero]; rfl) rfl (by kernel_rfl) (by kernel_rfl) ?_ ?_
                rotate_left 1
                · (intro w hSw; (try dsimp only at hSw); go_simp; try with_reducible rfl)
                try simp only [Act.put, List.setIfInBounds_toArray, List.set_cons_zero, List.set_cons_succ]
                refine hold_yes 5 (v := ?_) hHC hH1 (by simp only [List.getElem?_toArray, List.getElem?_cons_succ, List.getElem?_cons_zero]; rfl) rfl (by kernel_rfl) (by kernel_rfl) ?_ ?_
                rotate_left 1
                · (intro w hSw; (try dsimp only at hSw); go_simp; try with_reducible rfl)
                try simp only [Act.put, List.setIfInBounds_toArray, List.set_cons_zero, List.set_cons_succ]
                refine hold_yes 8 (v := ?_) hHC hH1 (by simp only [List.getElem?_toArray, List.getElem?_cons_succ, List.getElem?_cons_zero]; rfl) rfl (by kernel_rfl) (by kernel_rfl) ?_ ?_
                rotate_left 1
                · (intro w hSw; (try dsimp only at hSw); go_simp; try with_reducible rfl)
                try simp only [Act.put, List.setIfInBounds_toArray, List.set_cons_zero, List.set_cons_succ]
                refine hold_call1 6 (by simp only [List.getElem?_toArray, List.getElem?_cons_succ, List.getElem?_cons_zero]; rfl) rfl (by kernel_rfl) (by kernel_rfl) (fun K hK => ?_)
                go_simp
                obtain ⟨_, _, _, _, _, _, _, hs2⟩ := id hH1; first | (go_at_call 17; refine (implDom_any _ _ _ _).mono ?_; rintro e w1 ⟨rfl, hb1⟩) | (go_at_call 25; refine (HDs.out _).mono ?_; rintro e w1 ⟨rfl, hb1⟩) | (go_at_call 27; refine (implBef_any _ _ _ _ _ _ _).mono ?_; rintro e w1 ⟨rfl, hb1⟩)
                refine hK.out _ _ ?_ (fun hH2 => ?_)
                · (first | (go_keep; done) | ((try go_split_ands); (repeat' apply And.intro) <;> first | assumption | (with_reducible refine Rd.below ?_ hb1; assumption) | (with_reducible refine Rd.drew ?_; repeat' (first | assumption | (with_reducible refine Rd.alloc ?_ _))) | (refine (hb1.cell (by first | omega | (simp; done) | (simp; omega))).trans ?_; first | assumption | simp) | (exact below_step hb1 (by first | omega | (simp; done) | (simp; omega)) (by assumption)) | (have hz' := hb1.size; (try simp at hz'); omega) | ((repeat' (first | assumption | (with_reducible exact Below.refl _ _) | (with_reducible refine Below.drew ?_) | (with_reducible refine Below.alloc ?_ ?_ _) | (with_reducible refine Below.setCell ?_ ?_ _) | omega | (simp; done) | (simp; omega))); done) | go_simp | (simp; done) | (simp; omega)))
                clear hK K hH1
                try simp only [Act.put, List.setIfInBounds_toArray, List.set_cons_zero, List.set_cons_succ]
                refine hold_yes 7 (v := ?_) hHC hH2 (by simp only [List.getElem?_toArray, List.getElem?_cons_succ, List.getElem?_cons_zero]; rfl) rfl (by kernel_rfl) (by kernel_rfl) ?_ ?_
                rotate_left 1
                · (intro w hSw; (try dsimp only at hSw); go_simp; try with_reducible rfl)
                try simp only [Act.put, List.setIfInBounds_toArray, List.set_cons_zero, List.set_cons_succ]
                refine hold_call1 9 (by simp only [List.getElem?_toArray, List.getElem?_cons_succ, List.getElem?_cons_zero]; rfl) rfl (by kernel_rfl) (by kernel_rfl) (fun K hK => ?_)
                go_simp
                obtain ⟨_, _, _, _, _, _, _, hs2⟩ := id hH2; first | (go_at_call 17; refine (implDom_any _ _ _ _).mono ?_; rintro e w1 ⟨rfl, hb1⟩) | (go_at_call 25; refine (HDs.out _).mono ?_; rintro e w1 ⟨rfl, hb1⟩) | (go_at_call 27; refine (implBef_any _ _ _ _ _ _ _).mono ?_; rintro e w1 ⟨rfl, hb1⟩)
                refine hK.out _ _ ?_ (fun hH3 => ?_)
                · (first | (go_keep; done) | ((try go_split_ands); (repeat' apply And.intro) <;> first | assumption | (with_reducible refine Rd.below ?_ hb1; assumption) | (with_reducible refine Rd.drew ?_; repeat' (first | assumption | (with_reducible refine Rd.alloc ?_ _))) | (refine (hb1.cell (by first | omega | (simp; done) | (simp; omega))).trans ?_; first | assumption | simp) | (exact below_step hb1 (by first | omega | (simp; done) | (simp; omega)) (by assumption)) | (have hz' := hb1.size; (try simp at hz'); omega) | ((repeat' (first | assumption | (with_reducible exact Below.refl _ _) | (with_reducible refine Below.drew ?_) | (with_reducible refine Below.alloc ?_ ?_ _) | (with_reducible refine Below.setCell ?_ ?_ _) | omega | (simp; done) | (simp; omega))); done) | go_simp | (simp; done) | (simp; omega)))
                clear hK K hH2
                try simp only [Act.put, List.setIfInBounds_toArray, List.set_cons_zero, List.set_cons_succ]
                refine hold_yes 10 (v := ?_) hHC hH3 (by simp only [List.getElem?_toArray, List.getElem?_cons_succ, List.getElem?_cons_zero]; rfl) rfl (by kernel_rfl) (by kernel_rfl) ?_ ?_
                rotate_left 1
                · (intro w hSw; (try dsimp only at hSw); go_simp; try with_reducible rfl)
                try simp only [Act.put, List.setIfInBounds_toArray, List.set_cons_zero, List.set_cons_succ]
                refine hold_plain 11 (v := ?_) hHC hH3 (by simp only [List.getElem?_toArray, List.getElem?_cons_succ, List.getElem?_cons_zero]; rfl) rfl (by kernel_rfl) ?_ ?_
                rotate_left 1
                · (intro w hSw; (try dsimp only at hSw); go_simp; try with_reducible rfl)
                try simp only [Act.put, List.setIfInBounds_toArray, List.set_cons_zero, List.set_cons_succ]
                refine hold_plain 12 (v := ?_) hHC hH3 (by simp only [List.getElem?_toArray, List.getElem?_cons_succ, List.getElem?_cons_zero]; rfl) rfl (by kernel_rfl) ?_ ?_
                rotate_left 1
                · (intro w hSw; (try dsimp only at hSw); go_simp; try with_reducible rfl)
                try simp only [Act.put, List.setIfInBounds_toArray, List.set_cons_zero, List.set_cons_succ]
                refine hold_yes 13 (v := ?_) hHC hH3 (by simp only [List.getElem?_toArray, List.getElem?_cons_succ, List.getElem?_cons_zero]; rfl) rfl (by kernel_rfl) (by kernel_rfl) ?_ ?_
                rotate_left 1
                · (intro w hSw; (try dsimp only at hSw); go_simp; try with_reducible rfl)
                try simp only [Act.put, List.setIfInBounds_toArray, List.set_cons_zero, List.set_cons_succ]
                refine hold_yes 14 (v := ?_) hHC hH3 (by simp only [List.getElem?_toArray, List.getElem?_cons_succ, List.getElem?_cons_zero]; rfl) rfl (by kernel_rfl) (by kernel_rfl) ?_ ?_
                rotate_left 1
                · (intro w hSw; (try dsimp only at hSw); go_simp; try with_reducible rfl)
                try simp only [Act.put, List.setIfInBounds_toArray, List.set_cons_zero, List.set_cons_succ]
                refine hold_yes 15 (v := ?_) hHC hH3 (by simp only [List.getElem?_toArray, List.getElem?_cons_succ, List.getElem?_cons_zero]; rfl) rfl (by kernel_rfl) (by kernel_rfl) ?_ ?_
                rotate_left 1
                · (intro w hSw; (try dsimp only at hSw); go_simp; try with_reducible rfl)
                try simp only [Act.put, List.setIfInBounds_toArray, List.set_cons_zero, List.set_cons_succ]
                refine hold_yes 16 (v := ?_) hHC hH3 (by simp only [List.getElem?_toArray, List.getElem?_cons_succ, List.getElem?_cons_zero]; rfl) rfl (by kernel_rfl) (by kernel_rfl) ?_ ?_
                rotate_left 1
                · (intro w hSw; (try dsimp only at hSw); go_simp; try with_reducible rfl)
                try simp only [Act.put, List.setIfInBounds_toArray, List.set_cons_zero, List.set_cons_succ]
                refine hold_yes 17 (v := ?_) hHC hH3 (by simp only [List.getElem?_toArray, List.getElem?_cons_succ, List.getElem?_cons_zero]; rfl) rfl (by kernel_rfl) (by kernel_rfl) ?_ ?_
                rotate_left 1
                · (intro w hSw; (try dsimp only at hSw); go_simp; try with_reducible rfl)
                try simp only [Act.put, List.setIfInBounds_toArray, List.set_cons_zero, List.set_cons_succ]
                refine hold_yes 18 (v := ?_) hHC hH3 (by simp only [List.getElem?_toArray, List.getElem?_cons_succ, List.getElem?_cons_zero]; rfl) rfl (by kernel_rfl) (by kernel_rfl) ?_ ?_
                rotate_left 1
                · (intro w hSw; (try dsimp only at hSw); go_simp; try with_reducible rfl)
                try simp only [Act.put, List.setIfInBounds_toArray, List.set_cons_zero, List.set_cons_succ]
                refine hold_yes 19 (v := ?_) hHC hH3 (by simp only [List.getElem?_toArray, List.getElem?_cons_succ, List.getElem?_cons_zero]; rfl) rfl (by kernel_rfl) (by kernel_rfl) ?_ ?_
                rotate_left 1
                · (intro w hSw; (try dsimp only at hSw); go_simp; try with_reducible rfl)
                try simp only [Act.put, List.setIfInBounds_toArray, List.set_cons_zero, List.set_cons_succ]
                refine hold_yes 20 (v := ?_) hHC hH3 (by simp only [List.getElem?_toArray, List.getElem?_cons_succ, List.getElem?_cons_zero]; rfl) rfl (by kernel_rfl) (by kernel_rfl) ?_ ?_
                rotate_left 1
                · (intro w hSw; (try dsimp only at hSw); go_simp; try with_reducible rfl)
                try simp only [Act.put, List.setIfInBounds_toArray, List.set_cons_zero, List.set_cons_succ]
                refine hold_yes 21 (v := ?_) hHC hH3 (by simp only [List.getElem?_toArray, List.getElem?_cons_succ, List.getElem?_cons_zero]; rfl) rfl (by kernel_rfl) (by kernel_rfl) ?_ ?_
                rotate_left 1
                · (intro w hSw; (try dsimp only at hSw); go_simp; try with_reducible rfl)
                try simp only [Act.put, List.setIfInBounds_toArray, List.set_cons_zero, List.set_cons_succ]
                refine hold_call1 22 (by simp only [List.getElem?_toArray, List.getElem?_cons_succ, List.getElem?_cons_zero]; rfl) rfl (by kernel_rfl) (by kernel_rfl) (fun K hK => ?_)
                go_simp
                obtain ⟨_, _, _, _, _, _, _, hs2⟩ := id hH3; first | (go_at_call 17; refine (implDom_any _ _ _ _).mono ?_; rintro e w1 ⟨rfl, hb1⟩) | (go_at_call 25; refine (HDs.out _).mono ?_; rintro e w1 ⟨rfl, hb1⟩) | (go_at_call 27; refine (implBef_any _ _ _ _ _ _ _).mono ?_; rintro e w1 ⟨rfl, hb1⟩)
                refine hK.out _ _ ?_ (fun hH4 => ?_)
                · (first | (go_keep; done) | ((try go_split_ands); (repeat' apply And.intro) <;> first | assumption | (with_reducible refine Rd.below ?_ hb1; assumption) | (with_reducible refine Rd.drew ?_; repeat' (first | assumption | (with_reducible refine Rd.alloc ?_ _))) | (refine (hb1.cell (by first | omega | (simp; done) | (simp; omega))).trans ?_; first | assumption | simp) | (exact below_step hb1 (by first | omega | (simp; done) | (simp; omega)) (by assumption)) | (have hz' := hb1.size; (try simp at hz'); omega) | ((repeat' (first | assumption | (with_reducible exact Below.refl _ _) | (with_reducible refine Below.drew ?_) | (with_reducible refine Below.alloc ?_ ?_ _) | (with_reducible refine Below.setCell ?_ ?_ _) | omega | (simp; done) | (simp; omega))); done) | go_simp | (simp; done) | (simp; omega)))
                clear hK K hH3
                try simp only [Act.put, List.setIfInBounds_toArray, List.set_cons_zero, List.set_cons_succ]
                refine hold_yes 23 (v := ?_) hHC hH4 (by simp only [List.getElem?_toArray, List.getElem?_cons_succ, List.getElem?_cons_zero]; rfl) rfl (by kernel_rfl) (by kernel_rfl) ?_ ?_
                rotate_left 1
                · (intro w hSw; (try dsimp only at hSw); go_simp; try with_reducible rfl)
                try simp only [Act.put, List.setIfInBounds_toArray, List.set_cons_zero, List.set_cons_succ]
                refine hold_yes 24 (v := ?_) hHC hH4 (by simp only [List.getElem?_toArray, List.getElem?_cons_succ, List.getElem?_cons_zero]; rfl) rfl (by kernel_rfl) (by kernel_rfl) ?_ ?_
                rotate_left 1
                · (intro w hSw; (try dsimp only at hSw); go_simp; try with_reducible rfl)
                try simp only [Act.put, List.setIfInBounds_toArray, List.set_cons_zero, List.set_cons_succ]
                refine hold_plain 25 (v := ?_) hHC hH4 (by simp only [List.getElem?_toArray, List.getElem?_cons_succ, List.getElem?_cons_zero]; rfl) rfl (by kernel_rfl) ?_ ?_
                rotate_left 1
                · (intro w hSw; (try dsimp only at hSw); go_simp; try with_reducible rfl)
                try simp only [Act.put, List.setIfInBounds_toArray, List.set_cons_zero, List.set_cons_succ]
                refine wpAnyH_done (by kernel_rfl) ?_ _
                (try dsimp only at hH4)
                go_split_ands
                clear hHC
                go_wp2
                go_ret
                exact ⟨ret_b HN.out.symm, by repeat' (first | assumption | (with_reducible exact Below.refl _ _) | (with_reducible refine Below.drew ?_) | (with_reducible refine Below.alloc ?_ ?_ _) | (with_reducible refine Below.setCell ?_ ?_ _) | omega | (simp; done) | (simp; omega))⟩
            · have hk1 : ¬ (0 : Int) < (k : Int) := by omega
              have HK0 : Hid (k = 0) := Lib.hid (by omega)
              have HA2 : Hid (accTo S L (k + 1) = true) := Lib.hid (accTo_yes hA.out hv.out (okAt_yes hd (by rw [HK0.out]; rfl) HFR.out))
              have hk2 : decide ((0 : Int) < (k : Int)) = false := decide_eq_false hk1
              clear hf hj
              go_wp2_with fail
              refine hold_start (S := (fun w' => w'.cell? ⟨wr.heap.size, 0, none⟩ = some (.int .i64 x) ∧ w'.cell? ⟨wr.heap.size, 1, none⟩ = some (.int .i64 y) ∧ w'.cell? ⟨wr.heap.size, 2, none⟩ = some (.bool d) ∧ Below w.heap.size w w' ∧ wr.heap.size + 1 ≤ w'.heap.size)) (by kernel_rfl) (by kernel_rfl) (by intro _ _ d _ _ h; cases d <;> exact h) ?_ (fun hHC hH0 => ?_)
              · (first | (go_keep; done) | ((try go_split_ands); (repeat' apply And.intro) <;> first | assumption | (with_reducible refine Rd.below ?_ hb1; assumption) | (with_reducible refine Rd.drew ?_; repeat' (first | assumption | (with_reducible refine Rd.alloc ?_ _))) | (refine (hb1.cell (by first | omega | (simp; done) | (simp; omega))).trans ?_; first | assumption | simp) | (exact below_step hb1 (by first | omega | (simp; done) | (simp; omega)) (by assumption)) | (have hz' := hb1.size; (try simp at hz'); omega) | ((repeat' (first | assumption | (with_reducible exact Below.refl _ _) | (with_reducible refine Below.drew ?_) | (with_reducible refine Below.alloc ?_ ?_ _) | (with_reducible refine Below.setCell ?_ ?_ _) | omega | (simp; done) | (simp; omega))); done) | go_simp | (simp; done) | (simp; omega)))
              refine hold_plain 0 (v := ?_) hHC hH0 (by simp only [List.getElem?_toArray, List.getElem?_cons_succ, List.getElem?_cons_zero]; rfl) rfl (by kernel_rfl) ?_ ?_
              rotate_left 1
              · (intro w hSw; (try dsimp only at hSw); go_simp; try with_reducible rfl)
              try simp only [Act.put, List.setIfInBounds_toArray, List.set_cons_zero, List.set_cons_succ]
              refine hold_call0 1 (by simp only [List.getElem?_toArray, List.getElem?_cons_succ, List.getElem?_cons_zero]; rfl) rfl (by kernel_rfl) (fun K hK => ?_)
              go_simp
              obtain ⟨_, _, _, _, hs2⟩ := id hH0; first | (go_at_call 17; refine (implDom_any _ _ _ _).mono ?_; rintro e w1 ⟨rfl, hb1⟩) | (go_at_call 25; refine (HDs.out _).mono ?_; rintro e w1 ⟨rfl, hb1⟩)
              refine hK.out _ _ ?_ (fun hH1 => ?_)
              · (first | (go_keep; done) | ((try go_split_ands); (repeat' apply And.intro) <;> first | assumption | (with_reducible refine Rd.below ?_ hb1; assumption) | (with_reducible refine Rd.drew ?_; repeat' (first | assumption | (with_reducible refine Rd.alloc ?_ _))) | (refine (hb1.cell (by first | omega | (simp; done) | (simp; omega))).trans ?_; first | assumption | simp) | (exact below_step hb1 (by first | omega | (simp; done) | (simp; omega)) (by assumption)) | (have hz' := hb1.size; (try simp at hz'); omega) | ((repeat' (first | assumption | (with_reducible exact Below.refl _ _) | (with_reducible refine Below.drew ?_) | (with_reducible refine Below.alloc ?_ ?_ _) | (with_reducible refine Below.setCell ?_ ?_ _) | omega | (simp; done) | (simp; omega))); done) | go_simp | (simp; done) | (simp; omega)))
              clear hK K hH0
              try simp only [Act.put, List.setIfInBounds_toArray, List.set_cons_zero, List.set_cons_succ]
              refine hold_plain 2 (v := ?_) hHC hH1 (by simp only [List.getElem?_toArray, List.getElem?_cons_succ, List.getElem?_cons_zero]; rfl) rfl (by kernel_rfl) ?_ ?_
              rotate_left 1
              · (intro w hSw; (try dsimp only at hSw); go_simp; try with_reducible rfl)
              try simp only [Act.put, List.setIfInBounds_toArray, List.set_cons_zero, List.set_cons_succ]
              refine hold_plain 3 (v := ?_) hHC hH1 (by simp only [List.getElem?_toArray, List.getElem?_cons_succ, List.getElem?_cons_zero]; rfl) rfl (by kernel_rfl) ?_ ?_
              rotate_left 1
              · (intro w hSw; (try dsimp only at hSw); go_simp; try with_reducible rfl)
              try simp only [Act.put, List.setIfInBounds_toArray, List.set_cons_zero, List.set_cons_succ]
              refine hold_yes 4 (v := ?_) hHC hH1 (by simp only [List.getElem?_toArray, List.getElem?_cons_succ, List.getElem?_cons_zero]; rfl) rfl (by kernel_rfl) (by kernel_rfl) ?_ ?_
              rotate_left 1
              · (intro w hSw; (try dsimp only at hSw); go_simp; try with_reducible rfl)
              try simp only [Act.put, List.setIfInBounds_toArray, List.set_cons_zero, List.set_cons_succ]
              refine hold_yes 5 (v := ?_) hHC hH1 (by simp only [List.getElem?_toArray, List.getElem?_cons_succ, List.getElem?_cons_zero]; rfl) rfl (by kernel_rfl) (by kernel_rfl) ?_ ?_
              rotate_left 1
              · (intro w hSw; (try dsimp only at hSw); go_simp; try with_reducible rfl)
              try simp only [Act.put, List.setIfInBounds_toArray, List.set_cons_zero, List.set_cons_succ]
              refine hold_yes 8 (v := ?_) hHC hH1 (by simp only [List.getElem?_toArray, List.getElem?_cons_succ, List.getElem?_cons_zero]; rfl) rfl (by kernel_rfl) (by kernel_rfl) ?_ ?_
              rotate_left 1
              · (intro w hSw; (try dsimp only at hSw); go_simp; try with_reducible rfl)
              try simp only [Act.put, List.setIfInBounds_toArray, List.set_cons_zero, List.set_cons_succ]
              refine hold_call1 6 (by simp only [List.getElem?_toArray, List.getElem?_cons_succ, List.getElem?_cons_zero]; rfl) rfl (by kernel_rfl) (by kernel_rfl) (fun K hK => ?_)
              go_simp
              obtain ⟨_, _, _, _, hs2⟩ := id hH1; first | (go_at_call 17; refine (implDom_any _ _ _ _).mono ?_; rintro e w1 ⟨rfl, hb1⟩) | (go_at_call 25; refine (HDs.out _).mono ?_; rintro e w1 ⟨rfl, hb1⟩)
              refine hK.out _ _ ?_ (fun hH2 => ?_)
              · (first | (go_keep; done) | ((try go_split_ands); (repeat' apply And.intro) <;> first | assumption | (with_reducible refine Rd.below ?_ hb1; assumption) | (with_reducible refine Rd.drew ?_; repeat' (first | assumption | (with_reducible refine Rd.alloc ?_ _))) | (refine (hb1.cell (by first | omega | (simp; done) | (simp; omega))).trans ?_; first | assumption | simp) | (exact below_step hb1 (by first | omega | (simp; done) | (simp; omega)) (by assumption)) | (have hz' := hb1.size; (try simp at hz'); omega) | ((repeat' (first | assumption | (with_reducible exact Below.refl _ _) | (with_reducible refine Below.drew ?_) | (with_reducible refine Below.alloc ?_ ?_ _) | (with_reducible refine Below.setCell ?_ ?_ _) | omega | (simp; done) | (simp; omega))); done) | go_simp | (simp; done) | (simp; omega)))
              clear hK K hH1
              try simp only [Act.put, List.setIfInBounds_toArray, List.set_cons_zero, List.set_cons_succ]
              refine hold_yes 7 (v := ?_) hHC hH2 (by simp only [List.getElem?_toArray, List.getElem?_cons_succ, List.getElem?_cons_zero]; rfl) rfl (by kernel_rfl) (by kernel_rfl) ?_ ?_
              rotate_left 1
              · (intro w hSw; (try dsimp only at hSw); go_simp; try with_reducible rfl)
              try simp only [Act.put, List.setIfInBounds_toArray, List.set_cons_zero, List.set_cons_succ]
              refine hold_call1 9 (by simp only [List.getElem?_toArray, List.getElem?_cons_succ, List.getElem?_cons_zero]; rfl) rfl (by kernel_rfl) (by kernel_rfl) (fun K hK => ?_)
              go_simp
              obtain ⟨_, _, _, _, hs2⟩ := id hH2; first | (go_at_call 17; refine (implDom_any _ _ _ _).mono ?_; rintro e w1 ⟨rfl, hb1⟩) | (go_at_call 25; refine (HDs.out _).mono ?_; rintro e w1 ⟨rfl, hb1⟩)
              refine hK.out _ _ ?_ (fun hH3 => ?_)
              · (first | (go_keep; done) | ((try go_split_ands); (repeat' apply And.intro) <;> first | assumption | (with_reducible refine Rd.below ?_ hb1; assumption) | (with_reducible refine Rd.drew ?_; repeat' (first | assumption | (with_reducible refine Rd.alloc ?_ _))) | (refine (hb1.cell (by first | omega | (simp; done) | (simp; omega))).trans ?_; first | assumption | simp) | (exact below_step hb1 (by first | omega | (simp; done) | (simp; omega)) (by assumption)) | (have hz' := hb1.size; (try simp at hz'); omega) | ((repeat' (first | assumption | (with_reducible exact Below.refl _ _) | (with_reducible refine Below.drew ?_) | (with_reducible refine Below.alloc ?_ ?_ _) | (with_reducible refine Below.setCell ?_ ?_ _) | omega | (simp; done) | (simp; omega))); done) | go_simp | (simp; done) | (simp; omega)))
              clear hK K hH2
              try simp only [Act.put, List.setIfInBounds_toArray, List.set_cons_zero, List.set_cons_succ]
              refine hold_yes 10 (v := ?_) hHC hH3 (by simp only [List.getElem?_toArray, List.getElem?_cons_succ, List.getElem?_cons_zero]; rfl) rfl (by kernel_rfl) (by kernel_rfl) ?_ ?_
              rotate_left 1
              · (intro w hSw; (try dsimp only at hSw); go_simp; try with_reducible rfl)
              try simp only [Act.put, List.setIfInBounds_toArray, List.set_cons_zero, List.set_cons_succ]
              refine hold_plain 11 (v := ?_) hHC hH3 (by simp only [List.getElem?_toArray, List.getElem?_cons_succ, List.getElem?_cons_zero]; rfl) rfl (by kernel_rfl) ?_ ?_
              rotate_left 1
              · (intro w hSw; (try dsimp only at hSw); go_simp; try with_reducible rfl)
              try simp only [Act.put, List.setIfInBounds_toArray, List.set_cons_zero, List.set_cons_succ]
              refine hold_plain 12 (v := ?_) hHC hH3 (by simp only [List.getElem?_toArray, List.getElem?_cons_succ, List.getElem?_cons_zero]; rfl) rfl (by kernel_rfl) ?_ ?_
              rotate_left 1
              · (intro w hSw; (try dsimp only at hSw); go_simp; try with_reducible rfl)
              try simp only [Act.put, List.setIfInBounds_toArray, List.set_cons_zero, List.set_cons_succ]
              refine hold_yes 13 (v := ?_) hHC hH3 (by simp only [List.getElem?_toArray, List.getElem?_cons_succ, List.getElem?_cons_zero]; rfl) rfl (by kernel_rfl) (by kernel_rfl) ?_ ?_
              rotate_left 1
              · (intro w hSw; (try dsimp only at hSw); go_simp; try with_reducible rfl)
              try simp only [Act.put, List.setIfInBounds_toArray, List.set_cons_zero, List.set_cons_succ]
              refine hold_yes 14 (v := ?_) hHC hH3 (by simp only [List.getElem?_toArray, List.getElem?_cons_succ, List.getElem?_cons_zero]; rfl) rfl (by kernel_rfl) (by kernel_rfl) ?_ ?_
              rotate_left 1
              · (intro w hSw; (try dsimp only at hSw); go_simp; try with_reducible rfl)
              try simp only [Act.put, List.setIfInBounds_toArray, List.set_cons_zero, List.set_cons_succ]
              refine hold_yes 15 (v := ?_) hHC hH3 (by simp only [List.getElem?_toArray, List.getElem?_cons_succ, List.getElem?_cons_zero]; rfl) rfl (by kernel_rfl) (by kernel_rfl) ?_ ?_
              rotate_left 1
              · (intro w hSw; (try dsimp only at hSw); go_simp; try with_reducible rfl)
              try simp only [Act.put, List.setIfInBounds_toArray, List.set_cons_zero, List.set_cons_succ]
              refine hold_no 16 hHC hH3 (by simp only [List.getElem?_toArray, List.getElem?_cons_succ, List.getElem?_cons_zero]; rfl) rfl (by kernel_rfl) (by kernel_rfl) ?_
              try simp only [Act.put, List.setIfInBounds_toArray, List.set_cons_zero, List.set_cons_succ]
              refine hold_no 17 hHC hH3 (by simp only [List.getElem?_toArray, List.getElem?_cons_succ, List.getElem?_cons_zero]; rfl) rfl (by kernel_rfl) (by kernel_rfl) ?_
              try simp only [Act.put, List.setIfInBounds_toArray, List.set_cons_zero, List.set_cons_succ]
              refine hold_no 18 hHC hH3 (by simp only [List.getElem?_toArray, List.getElem?_cons_succ, List.getElem?_cons_zero]; rfl) rfl (by kernel_rfl) (by kernel_rfl) ?_
              try simp only [Act.put, List.setIfInBounds_toArray, List.set_cons_zero, List.set_cons_succ]
              refine hold_no 19 hHC hH3 (by simp only [List.getElem?_toArray, List.getElem?_cons_succ, List.getElem?_cons_zero]; rfl) rfl (by kernel_rfl) (by kernel_rfl) ?_
              try simp only [Act.put, List.setIfInBounds_toArray, List.set_cons_zero, List.set_cons_succ]
              refine hold_no 20 hHC hH3 (by simp only [List.getElem?_toArray, List.getElem?_cons_succ, List.getElem?_cons_zero]; rfl) rfl (by kernel_rfl) (by kernel_rfl) ?_
              try simp only [Act.put, List.setIfInBounds_toArray, List.set_cons_zero, List.set_cons_succ]
              refine hold_no 21 hHC hH3 (by simp only [List.getElem?_toArray, List.getElem?_cons_succ, List.getElem?_cons_zero]; rfl) rfl (by kernel_rfl) (by kernel_rfl) ?_
              try simp only [Act.put, List.setIfInBounds_toArray, List.set_cons_zero, List.set_cons_succ]
              refine hold_no 22 hHC hH3 (by simp only [List.getElem?_toArray, List.getElem?_cons_succ, List.getElem?_cons_zero]; rfl) rfl (by kernel_rfl) (by kernel_rfl) ?_
              try simp only [Act.put, List.setIfInBounds_toArray, List.set_cons_zero, List.set_cons_succ]
              refine hold_no 23 hHC hH3 (by simp only [List.getElem?_toArray, List.getElem?_cons_succ, List.getElem?_cons_zero]; rfl) rfl (by kernel_rfl) (by kernel_rfl) ?_
              try simp only [Act.put, List.setIfInBounds_toArray, List.set_cons_zero, List.set_cons_succ]
              refine hold_yes 24 (v := ?_) hHC hH3 (by simp only [List.getElem?_toArray, List.getElem?_cons_succ, List.getElem?_cons_zero]; rfl) rfl (by kernel_rfl) (by kernel_rfl) ?_ ?_
              rotate_left 1
              · (intro w hSw; (try dsimp only at hSw); go_simp; try with_reducible rfl)
              try simp only [Act.put, List.setIfInBounds_toArray, List.set_cons_zero, List.set_cons_succ]
              refine hold_plain 25 (v := ?_) hHC hH3 (by simp only [List.getElem?_toArray, List.getElem?_cons_succ, List.getElem?_cons_zero]; rfl) rfl (by kernel_rfl) ?_ ?_
              rotate_left 1
              · (intro w hSw; (try dsimp only at hSw); go_simp; try with_reducible rfl)
              try simp only [Act.put, List.setIfInBounds_toArray, List.set_cons_zero, List.set_cons_succ]
              refine wpAnyH_done (by kernel_rfl) ?_ _
              (try dsimp only at hH3)
              go_split_ands
              clear hHC
              go_wp2_with (first | (go_at_call 25; refine (HDs.out _).mono ?_; rintro e wz ⟨rfl, hbwz⟩; have hzwz := hbwz.size; (try simp at hzwz); (try have hl0wr_wz : wr.heap.size < wz.heap.size := by omega); (try have hl1wr_wz : wr.heap.size + 1 < wz.heap.size := by omega); (try have hl2wr_wz : wr.heap.size + 1 + 1 < wz.heap.size := by omega); (try have hl3wr_wz : wr.heap.size + 1 + 1 + 1 < wz.heap.size := by omega); (first | (have hcwr_wz : ∀ b o, b ≤ wr.heap.size + 6 → wz.cell? ⟨b, o, none⟩ = _ := fun b o h => hbwz.cell (p := ⟨b, o, none⟩) (by first | omega | (simp; omega)); have hfwr_wz : ∀ b o, b ≤ wr.heap.size + 6 → wz.frozen? ⟨b, o, none⟩ = _ := fun b o h => hbwz.frozen (p := ⟨b, o, none⟩) (by first | omega | (simp; omega))) | (have hcwr_wz : ∀ b o, b ≤ wr.heap.size + 5 → wz.cell? ⟨b, o, none⟩ = _ := fun b o h => hbwz.cell (p := ⟨b, o, none⟩) (by first | omega | (simp; omega)); have hfwr_wz : ∀ b o, b ≤ wr.heap.size + 5 → wz.frozen? ⟨b, o, none⟩ = _ := fun b o h => hbwz.frozen (p := ⟨b, o, none⟩) (by first | omega | (simp; omega))) | (have hcwr_wz : ∀ b o, b ≤ wr.heap.size + 4 → wz.cell? ⟨b, o, none⟩ = _ := fun b o h => hbwz.cell (p := ⟨b, o, none⟩) (by first | omega | (simp; omega)); have hfwr_wz : ∀ b o, b ≤ wr.heap.size + 4 → wz.frozen? ⟨b, o, none⟩ = _ := fun b o h => hbwz.frozen (p := ⟨b, o, none⟩) (by first | omega | (simp; omega))) | (have hcwr_wz : ∀ b o, b ≤ wr.heap.size + 3 → wz.cell? ⟨b, o, none⟩ = _ := fun b o h => hbwz.cell (p := ⟨b, o, none⟩) (by first | omega | (simp; omega)); have hfwr_wz : ∀ b o, b ≤ wr.heap.size + 3 → wz.frozen? ⟨b, o, none⟩ = _ := fun b o h => hbwz.frozen (p := ⟨b, o, none⟩) (by first | omega | (simp; omega))) | (have hcwr_wz : ∀ b o, b ≤ wr.heap.size + 2 → wz.cell? ⟨b, o, none⟩ = _ := fun b o h => hbwz.cell (p := ⟨b, o, none⟩) (by first | omega | (simp; omega)); have hfwr_wz : ∀ b o, b ≤ wr.heap.size + 2 → wz.frozen? ⟨b, o, none⟩ = _ := fun b o h => hbwz.frozen (p := ⟨b, o, none⟩) (by first | omega | (simp; omega))) | (have hcwr_wz : ∀ b o, b ≤ wr.heap.size + 1 → wz.cell? ⟨b, o, none⟩ = _ := fun b o h => hbwz.cell (p := ⟨b, o, none⟩) (by first | omega | (simp; omega)); have hfwr_wz : ∀ b o, b ≤ wr.heap.size + 1 → wz.frozen? ⟨b, o, none⟩ = _ := fun b o h => hbwz.frozen (p := ⟨b, o, none⟩) (by first | omega | (simp; omega))) | (have hcwr_wz : ∀ b o, b ≤ wr.heap.size + 0 → wz.cell? ⟨b, o, none⟩ = _ := fun b o h => hbwz.cell (p := ⟨b, o, none⟩) (by first | omega | (simp; omega)); have hfwr_wz : ∀ b o, b ≤ wr.heap.size + 0 → wz.frozen? ⟨b, o, none⟩ = _ := fun b o h => hbwz.frozen (p := ⟨b, o, none⟩) (by first | omega | (simp; omega))) | skip); have hBwz : Below w.heap.size w wz := below_step hbwz (by first | omega | (simp; done) | (simp; omega)) (by repeat' (first | assumption | (with_reducible exact Below.refl _ _) | (with_reducible refine Below.drew ?_) | (with_reducible refine Below.alloc ?_ ?_ _) | (with_reducible refine Below.setCell ?_ ?_ _) | omega | (simp; done) | (simp; omega))); clear hbwz))
              go_roundw
              case rel => exact ⟨k + 1, dif Lf D, by omega, by go_num, by first | rfl | simp, HL3, HL2, HA2, by repeat' (first | assumption | (with_reducible exact Below.refl _ _) | (with_reducible refine Below.drew ?_) | (with_reducible refine Below.alloc ?_ ?_ _) | (with_reducible refine Below.setCell ?_ ?_ _) | omega | (simp; done) | (simp; omega)), by omega⟩
              case measure => simp [intOf]; omega
          · have hf' : freeB S (cov (L.take k)) (x, y, d) = false := by simpa using hf
            obtain ⟨A, hA'⟩ : ∃ A, A = Lf &&& D := ⟨_, rfl⟩
            have hne : ¬ A = D := by have := HLA.out; rw [hf'] at this; rw [hA']; exact of_decide_eq_false this
            have e1 : bits .and .u64 (Lf : Int) (D : Int) = (A : Int) := by rw [u64_and_nat64 hL64.out hD64.out, hA']
            have t1 : ((A : Int) != (D : Int)) = true := by rw [bne_iff_ne]; omega
            have t2 : ((A : Int) == (D : Int)) = false := by rw [beq_eq_false_iff_ne]; omega
            have t3 : (A == D) = false := by rw [beq_eq_false_iff_ne]; exact hne
            have HN : Hid (partB zs L = false) := Lib.hid (partB_no hv.out (okAt_no3 (by rw [← HS.out]; exact hf')))
            clear hf hf' hj hA'
            go_wp2_with fail
            refine hold_start (S := (fun w' => w'.cell? ⟨wr.heap.size, 0, none⟩ = some (.int .i64 x) ∧ w'.cell? ⟨wr.heap.size, 1, none⟩ = some (.int .i64 y) ∧ w'.cell? ⟨wr.heap.size, 2, none⟩ = some (.bool d) ∧ Below w.heap.size w w' ∧ wr.heap.size + 1 ≤ w'.heap.size)) (by kernel_rfl) (by kernel_rfl) (by intro _ _ d _ _ h; cases d <;> exact h) ?_ (fun hHC hH0 => ?_)
            · (first | (go_keep; done) | ((try go_split_ands); (repeat' apply And.intro) <;> first | assumption | (with_reducible refine Rd.below ?_ hb1; assumption) | (with_reducible refine Rd.drew ?_; repeat' (first | assumption | (with_reducible refine Rd.alloc ?_ _))) | (refine (hb1.cell (by first | omega | (simp; done) | (simp; omega))).trans ?_; first | assumption | simp) | (exact below_step hb1 (by first | omega | (simp; done) | (simp; omega)) (by assumption)) | (have hz' := hb1.size; (try simp at hz'); omega) | ((repeat' (first | assumption | (with_reducible exact Below.refl _ _) | (with_reducible refine Below.drew ?_) | (with_reducible refine Below.alloc ?_ ?_ _) | (with_reducible refine Below.setCell ?_ ?_ _) | omega | (simp; done) | (simp; omega))); done) | go_simp | (simp; done) | (simp; omega)))
            refine hold_plain 0 (v := ?_) hHC hH0 (by simp only [List.getElem?_toArray, List.getElem?_cons_succ, List.getElem?_cons_zero]; rfl) rfl (by kernel_rfl) ?_ ?_
            rotate_left 1
            · (intro w hSw; (try dsimp only at hSw); go_simp; try with_reducible rfl)
            try simp only [Act.put, List.setIfInBounds_toArray, List.set_cons_zero, List.set_cons_succ]
            refine hold_call0 1 (by simp only [List.getElem?_toArray, List.getElem?_cons_succ, List.getElem?_cons_zero]; rfl) rfl (by kernel_rfl) (fun K hK => ?_)
            go_simp
            obtain ⟨_, _, _, _, hs2⟩ := id hH0; first | (go_at_call 17; refine (implDom_any _ _ _ _).mono ?_; rintro e w1 ⟨rfl, hb1⟩) | (go_at_call 25; refine (HDs.out _).mono ?_; rintro e w1 ⟨rfl, hb1⟩)
            refine hK.out _ _ ?_ (fun hH1 => ?_)
            · (first | (go_keep; done) | ((try go_split_ands); (repeat' apply And.intro) <;> first | assumption | (with_reducible refine Rd.below ?_ hb1; assumption) | (with_reducible refine Rd.drew ?_; repeat' (first | assumption | (with_reducible refine Rd.alloc ?_ _))) | (refine (hb1.cell (by first | omega | (simp; done) | (simp; omega))).trans ?_; first | assumption | simp) | (exact below_step hb1 (by first | omega | (simp; done) | (simp; omega)) (by assumption)) | (have hz' := hb1.size; (try simp at hz'); omega) | ((repeat' (first | assumption | (with_reducible exact Below.refl _ _) | (with_reducible refine Below.drew ?_) | (with_reducible refine Below.alloc ?_ ?_ _) | (with_reducible refine Below.setCell ?_ ?_ _) | omega | (simp; done) | (simp; omega))); done) | go_simp | (simp; done) | (simp; omega)))
            clear hK K hH0
            try simp only [Act.put, List.setIfInBounds_toArray, List.set_cons_zero, List.set_cons_succ]
            refine hold_plain 2 (v := ?_) hHC hH1 (by simp only [List.getElem?_toArray, List.getElem?_cons_succ, List.getElem?_cons_zero]; rfl) rfl (by kernel_rfl) ?_ ?_
            rotate_left 1
            · (intro w hSw; (try dsimp only at hSw); go_simp; try with_reducible rfl)
            try simp only [Act.put, List.setIfInBounds_toArray, List.set_cons_zero, List.set_cons_succ]
            refine hold_plain 3 (v := ?_) hHC hH1 (by simp only [List.getElem?_toArray, List.getElem?_cons_succ, List.getElem?_cons_zero]; rfl) rfl (by kernel_rfl) ?_ ?_
            rotate_left 1
            · (intro w hSw; (try dsimp only at hSw); go_simp; try with_reducible rfl)
            try simp only [Act.put, List.setIfInBounds_toArray, List.set_cons_zero, List.set_cons_succ]
            refine hold_yes 4 (v := ?_) hHC hH1 (by simp only [List.getElem?_toArray, List.getElem?_cons_succ, List.getElem?_cons_zero]; rfl) rfl (by kernel_rfl) (by kernel_rfl) ?_ ?_
            rotate_left 1
            · (intro w hSw; (try dsimp only at hSw); go_simp; try with_reducible rfl)
            try simp only [Act.put, List.setIfInBounds_toArray, List.set_cons_zero, List.set_cons_succ]
            refine hold_yes 5 (v := ?_) hHC hH1 (by simp only [List.getElem?_toArray, List.getElem?_cons_succ, List.getElem?_cons_zero]; rfl) rfl (by kernel_rfl) (by kernel_rfl) ?_ ?_
            rotate_left 1
            · (intro w hSw; (try dsimp only at hSw); go_simp; try with_reducible rfl)
            try simp only [Act.put, List.setIfInBounds_toArray, List.set_cons_zero, List.set_cons_succ]
            refine hold_yes 8 (v := ?_) hHC hH1 (by simp only [List.getElem?_toArray, List.getElem?_cons_succ, List.getElem?_cons_zero]; rfl) rfl (by kernel_rfl) (by kernel_rfl) ?_ ?_
            rotate_left 1
            · (intro w hSw; (try dsimp only at hSw); go_simp; try with_reducible rfl)
            try simp only [Act.put, List.setIfInBounds_toArray, List.set_cons_zero, List.set_cons_succ]
            refine hold_call1 6 (by simp only [List.getElem?_toArray, List.getElem?_cons_succ, List.getElem?_cons_zero]; rfl) rfl (by kernel_rfl) (by kernel_rfl) (fun K hK => ?_)
            go_simp
            obtain ⟨_, _, _, _, hs2⟩ := id hH1; first | (go_at_call 17; refine (implDom_any _ _ _ _).mono ?_; rintro e w1 ⟨rfl, hb1⟩) | (go_at_call 25; refine (HDs.out _).mono ?_; rintro e w1 ⟨rfl, hb1⟩)
            refine hK.out _ _ ?_ (fun hH2 => ?_)
            · (first | (go_keep; done) | ((try go_split_ands); (repeat' apply And.intro) <;> first | assumption | (with_reducible refine Rd.below ?_ hb1; assumption) | (with_reducible refine Rd.drew ?_; repeat' (first | assumption | (with_reducible refine Rd.alloc ?_ _))) | (refine (hb1.cell (by first | omega | (simp; done) | (simp; omega))).trans ?_; first | assumption | simp) | (exact below_step hb1 (by first | omega | (simp; done) | (simp; omega)) (by assumption)) | (have hz' := hb1.size; (try simp at hz'); omega) | ((repeat' (first | assumption | (with_reducible exact Below.refl _ _) | (with_reducible refine Below.drew ?_) | (with_reducible refine Below.alloc ?_ ?_ _) | (with_reducible refine Below.setCell ?_ ?_ _) | omega | (simp; done) | (simp; omega))); done) | go_simp | (simp; done) | (simp; omega)))
            clear hK K hH1
            try simp only [Act.put, List.setIfInBounds_toArray, List.set_cons_zero, List.set_cons_succ]
            refine hold_yes 7 (v := ?_) hHC hH2 (by simp only [List.getElem?_toArray, List.getElem?_cons_succ, List.getElem?_cons_zero]; rfl) rfl (by kernel_rfl) (by kernel_rfl) ?_ ?_
            rotate_left 1
            · (intro w hSw; (try dsimp only at hSw); go_simp; try with_reducible rfl)
            try simp only [Act.put, List.setIfInBounds_toArray, List.set_cons_zero, List.set_cons_succ]
            refine hold_call1 9 (by simp only [List.getElem?_toArray, List.getElem?_cons_succ, List.getElem?_cons_zero]; rfl) rfl (by kernel_rfl) (by kernel_rfl) (fun K hK => ?_)
            go_simp
            obtain ⟨_, _, _, _, hs2⟩ := id hH2; first | (go_at_call 17; refine (implDom_any _ _ _ _).mono ?_; rintro e w1 ⟨rfl, hb1⟩) | (go_at_call 25; refine (HDs.out _).mono ?_; rintro e w1 ⟨rfl, hb1⟩)
            refine hK.out _ _ ?_ (fun hH3 => ?_)
            · (first | (go_keep; done) | ((try go_split_ands); (repeat' apply And.intro) <;> first | assumption | (with_reducible refine Rd.below ?_ hb1; assumption) | (with_reducible refine Rd.drew ?_; repeat' (first | assumption | (with_reducible refine Rd.alloc ?_ _))) | (refine (hb1.cell (by first | omega | (simp; done) | (simp; omega))).trans ?_; first | assumption | simp) | (exact below_step hb1 (by first | omega | (simp; done) | (simp; omega)) (by assumption)) | (have hz' := hb1.size; (try simp at hz'); omega) | ((repeat' (first | assumption | (with_reducible exact Below.refl _ _) | (with_reducible refine Below.drew ?_) | (with_reducible refine Below.alloc ?_ ?_ _) | (with_reducible refine Below.setCell ?_ ?_ _) | omega | (simp; done) | (simp; omega))); done) | go_simp | (simp; done) | (simp; omega)))
            clear hK K hH2
            try simp only [Act.put, List.setIfInBounds_toArray, List.set_cons_zero, List.set_cons_succ]
            refine hold_yes 10 (v := ?_) hHC hH3 (by simp only [List.getElem?_toArray, List.getElem?_cons_succ, List.getElem?_cons_zero]; rfl) rfl (by kernel_rfl) (by kernel_rfl) ?_ ?_
            rotate_left 1
            · (intro w hSw; (try dsimp only at hSw); go_simp; try with_reducible rfl)
            try simp only [Act.put, List.setIfInBounds_toArray, List.set_cons_zero, List.set_cons_succ]
            refine hold_plain 11 (v := ?_) hHC hH3 (by simp only [List.getElem?_toArray, List.getElem?_cons_succ, List.getElem?_cons_zero]; rfl) rfl (by kernel_rfl) ?_ ?_
            rotate_left 1
            · (intro w hSw; (try dsimp only at hSw); go_simp; try with_reducible rfl)
            try simp only [Act.put, List.setIfInBounds_toArray, List.set_cons_zero, List.set_cons_succ]
            refine hold_plain 12 (v := ?_) hHC hH3 (by simp only [List.getElem?_toArray, List.getElem?_cons_succ, List.getElem?_cons_zero]; rfl) rfl (by kernel_rfl) ?_ ?_
            rotate_left 1
            · (intro w hSw; (try dsimp only at hSw); go_simp; try with_reducible rfl)
            try simp only [Act.put, List.setIfInBounds_toArray, List.set_cons_zero, List.set_cons_succ]
            refine hold_no 13 hHC hH3 (by simp only [List.getElem?_toArray, List.getElem?_cons_succ, List.getElem?_cons_zero]; rfl) rfl (by kernel_rfl) (by kernel_rfl) ?_
            try simp only [Act.put, List.setIfInBounds_toArray, List.set_cons_zero, List.set_cons_succ]
            refine hold_no 14 hHC hH3 (by simp only [List.getElem?_toArray, List.getElem?_cons_succ, List.getElem?_cons_zero]; rfl) rfl (by kernel_rfl) (by kernel_rfl) ?_
            try simp only [Act.put, List.setIfInBounds_toArray, List.set_cons_zero, List.set_cons_succ]
            refine hold_no 15 hHC hH3 (by simp only [List.getElem?_toArray, List.getElem?_cons_succ, List.getElem?_cons_zero]; rfl) rfl (by kernel_rfl) (by kernel_rfl) ?_
            try simp only [Act.put, List.setIfInBounds_toArray, List.set_cons_zero, List.set_cons_succ]
            refine hold_no 16 hHC hH3 (by simp only [List.getElem?_toArray, List.getElem?_cons_succ, List.getElem?_cons_zero]; rfl) rfl (by kernel_rfl) (by kernel_rfl) ?_
            try simp only [Act.put, List.setIfInBounds_toArray, List.set_cons_zero, List.set_cons_succ]
            refine hold_no 17 hHC hH3 (by simp only [List.getElem?_toArray, List.getElem?_cons_succ, List.getElem?_cons_zero]; rfl) rfl (by kernel_rfl) (by kernel_rfl) ?_
            try simp only [Act.put, List.setIfInBounds_toArray, List.set_cons_zero, List.set_cons_succ]
            refine hold_no 18 hHC hH3 (by simp only [List.getElem?_toArray, List.getElem?_cons_succ, List.getElem?_cons_zero]; rfl) rfl (by kernel_rfl) (by kernel_rfl) ?_
            try simp only [Act.put, List.setIfInBounds_toArray, List.set_cons_zero, List.set_cons_succ]
            refine hold_no 19 hHC hH3 (by simp only [List.getElem?_toArray, List.getElem?_cons_succ, List.getElem?_cons_zero]; rfl) rfl (by kernel_rfl) (by kernel_rfl) ?_
            try simp only [Act.put, List.setIfInBounds_toArray, List.set_cons_zero, List.set_cons_succ]
            refine hold_no 20 hHC hH3 (by simp only [List.getElem?_toArray, List.getElem?_cons_succ, List.getElem?_cons_zero]; rfl) rfl (by kernel_rfl) (by kernel_rfl) ?_
            try simp only [Act.put, List.setIfInBounds_toArray, List.set_cons_zero, List.set_cons_succ]
            refine hold_no 21 hHC hH3 (by simp only [List.getElem?_toArray, List.getElem?_cons_succ, List.getElem?_cons_zero]; rfl) rfl (by kernel_rfl) (by kernel_rfl) ?_
            try simp only [Act.put, List.setIfInBounds_toArray, List.set_cons_zero, List.set_cons_succ]
            refine hold_no 22 hHC hH3 (by simp only [List.getElem?_toArray, List.getElem?_cons_succ, List.getElem?_cons_zero]; rfl) rfl (by kernel_rfl) (by kernel_rfl) ?_
            try simp only [Act.put, List.setIfInBounds_toArray, List.set_cons_zero, List.set_cons_succ]
            refine hold_no 23 hHC hH3 (by simp only [List.getElem?_toArray, List.getElem?_cons_succ, List.getElem?_cons_zero]; rfl) rfl (by kernel_rfl) (by kernel_rfl) ?_
            try simp only [Act.put, List.setIfInBounds_toArray, List.set_cons_zero, List.set_cons_succ]
            refine hold_no 24 hHC hH3 (by simp only [List.getElem?_toArray, List.getElem?_cons_succ, List.getElem?_cons_zero]; rfl) rfl (by kernel_rfl) (by kernel_rfl) ?_
            try simp only [Act.put, List.setIfInBounds_toArray, List.set_cons_zero, List.set_cons_succ]
            refine hold_plain 25 (v := ?_) hHC hH3 (by simp only [List.getElem?_toArray, List.getElem?_cons_succ, List.getElem?_cons_zero]; rfl) rfl (by kernel_rfl) ?_ ?_
            rotate_left 1
            · (intro w hSw; (try dsimp only at hSw); go_simp; try with_reducible rfl)
            try simp only [Act.put, List.setIfInBounds_toArray, List.set_cons_zero, List.set_cons_succ]
            refine wpAnyH_done (by kernel_rfl) ?_ _
            (try dsimp only at hH3)
            go_split_ands
            clear hHC
            go_wp2
            go_ret
            exact ⟨ret_b HN.out.symm, by repeat' (first | assumption | (with_reducible exact Below.refl _ _) | (with_reducible refine Below.drew ?_) | (with_reducible refine Below.alloc ?_ ?_ _) | (with_reducible refine Below.setCell ?_ ?_ _) | omega | (simp; done) | (simp; omega))⟩
        · have hd' : domB x y d = false := by simpa using hd
          have HN : Hid (partB zs L = false) := Lib.hid (partB_no hv.out (okAt_no1 hd'))
          clear hj
          go_wp2_with fail
          refine hold_start (S := (fun w' => w'.cell? ⟨wr.heap.size, 0, none⟩ = some (.int .i64 x) ∧ w'.cell? ⟨wr.heap.size, 1, none⟩ = some (.int .i64 y) ∧ w'.cell? ⟨wr.heap.size, 2, none⟩ = some (.bool d) ∧ Below w.heap.size w w' ∧ wr.heap.size + 1 ≤ w'.heap.size)) (by kernel_rfl) (by kernel_rfl) (by intro _ _ d _ _ h; cases d <;> exact h) ?_ (fun hHC hH0 => ?_)
          · (first | (go_keep; done) | ((try go_split_ands); (repeat' apply And.intro) <;> first | assumption | (with_reducible refine Rd.below ?_ hb1; assumption) | (with_reducible refine Rd.drew ?_; repeat' (first | assumption | (with_reducible refine Rd.alloc ?_ _))) | (refine (hb1.cell (by first | omega | (simp; done) | (simp; omega))).trans ?_; first | assumption | simp) | (exact below_step hb1 (by first | omega | (simp; done) | (simp; omega)) (by assumption)) | (have hz' := hb1.size; (try simp at hz'); omega) | ((repeat' (first | assumption | (with_reducible exact Below.refl _ _) | (with_reducible refine Below.drew ?_) | (with_reducible refine Below.alloc ?_ ?_ _) | (with_reducible refine Below.setCell ?_ ?_ _) | omega | (simp; done) | (simp; omega))); done) | go_simp | (simp; done) | (simp; omega)))
          refine hold_plain 0 (v := ?_) hHC hH0 (by simp only [List.getElem?_toArray, List.getElem?_cons_succ, List.getElem?_cons_zero]; rfl) rfl (by kernel_rfl) ?_ ?_
          rotate_left 1
          · (intro w hSw; (try dsimp only at hSw); go_simp; try with_reducible rfl)
          try simp only [Act.put, List.setIfInBounds_toArray, List.set_cons_zero, List.set_cons_succ]
          refine hold_call0 1 (by simp only [List.getElem?_toArray, List.getElem?_cons_succ, List.getElem?_cons_zero]; rfl) rfl (by kernel_rfl) (fun K hK => ?_)
          go_simp
          obtain ⟨_, _, _, _, hs2⟩ := id hH0; first | (go_at_call 17; refine (implDom_any _ _ _ _).mono ?_; rintro e w1 ⟨rfl, hb1⟩)
          refine hK.out _ _ ?_ (fun hH1 => ?_)
          · (first | (go_keep; done) | ((try go_split_ands); (repeat' apply And.intro) <;> first | assumption | (with_reducible refine Rd.below ?_ hb1; assumption) | (with_reducible refine Rd.drew ?_; repeat' (first | assumption | (with_reducible refine Rd.alloc ?_ _))) | (refine (hb1.cell (by first | omega | (simp; done) | (simp; omega))).trans ?_; first | assumption | simp) | (exact below_step hb1 (by first | omega | (simp; done) | (simp; omega)) (by assumption)) | (have hz' := hb1.size; (try simp at hz'); omega) | ((repeat' (first | assumption | (with_reducible exact Below.refl _ _) | (with_reducible refine Below.drew ?_) | (with_reducible refine Below.alloc ?_ ?_ _) | (with_reducible refine Below.setCell ?_ ?_ _) | omega | (simp; done) | (simp; omega))); done) | go_simp | (simp; done) | (simp; omega)))
          clear hK K hH0
          try simp only [Act.put, List.setIfInBounds_toArray, List.set_cons_zero, List.set_cons_succ]
          refine hold_plain 2 (v := ?_) hHC hH1 (by simp only [List.getElem?_toArray, List.getElem?_cons_succ, List.getElem?_cons_zero]; rfl) rfl (by kernel_rfl) ?_ ?_
          rotate_left 1
          · (intro w hSw; (try dsimp only at hSw); go_simp; try with_reducible rfl)
          try simp only [Act.put, List.setIfInBounds_toArray, List.set_cons_zero, List.set_cons_succ]
          refine hold_plain 3 (v := ?_) hHC hH1 (by simp only [List.getElem?_toArray, List.getElem?_cons_succ, List.getElem?_cons_zero]; rfl) rfl (by kernel_rfl) ?_ ?_
          rotate_left 1
          · (intro w hSw; (try dsimp only at hSw); go_simp; try with_reducible rfl)
          try simp only [Act.put, List.setIfInBounds_toArray, List.set_cons_zero, List.set_cons_succ]
          refine hold_no 4 hHC hH1 (by simp only [List.getElem?_toArray, List.getElem?_cons_succ, List.getElem?_cons_zero]; rfl) rfl (by kernel_rfl) (by kernel_rfl) ?_
          try simp only [Act.put, List.setIfInBounds_toArray, List.set_cons_zero, List.set_cons_succ]
          refine hold_no 5 hHC hH1 (by simp only [List.getElem?_toArray, List.getElem?_cons_succ, List.getElem?_cons_zero]; rfl) rfl (by kernel_rfl) (by kernel_rfl) ?_
          try simp only [Act.put, List.setIfInBounds_toArray, List.set_cons_zero, List.set_cons_succ]
          refine hold_no 6 hHC hH1 (by simp only [List.getElem?_toArray, List.getElem?_cons_succ, List.getElem?_cons_zero]; rfl) rfl (by kernel_rfl) (by kernel_rfl) ?_
          try simp only [Act.put, List.setIfInBounds_toArray, List.set_cons_zero, List.set_cons_succ]
          refine hold_no 7 hHC hH1 (by simp only [List.getElem?_toArray, List.getElem?_cons_succ, List.getElem?_cons_zero]; rfl) rfl (by kernel_rfl) (by kernel_rfl) ?_
          try simp only [Act.put, List.setIfInBounds_toArray, List.set_cons_zero, List.set_cons_succ]
          refine hold_no 8 hHC hH1 (by simp only [List.getElem?_toArray, List.getElem?_cons_succ, List.getElem?_cons_zero]; rfl) rfl (by kernel_rfl) (by kernel_rfl) ?_
          try simp only [Act.put, List.setIfInBounds_toArray, List.set_cons_zero, List.set_cons_succ]
          refine hold_no 9 hHC hH1 (by simp only [List.getElem?_toArray, List.getElem?_cons_succ, List.getElem?_cons_zero]; rfl) rfl (by kernel_rfl) (by kernel_rfl) ?_
          try simp only [Act.put, List.setIfInBounds_toArray, List.set_cons_zero, List.set_cons_succ]
          refine hold_no 10 hHC hH1 (by simp only [List.getElem?_toArray, List.getElem?_cons_succ, List.getElem?_cons_zero]; rfl) rfl (by kernel_rfl) (by kernel_rfl) ?_
          try simp only [Act.put, List.setIfInBounds_toArray, List.set_cons_zero, List.set_cons_succ]
          refine hold_plain 11 (v := ?_) hHC hH1 (by simp only [List.getElem?_toArray, List.getElem?_cons_succ, List.getElem?_cons_zero]; rfl) rfl (by kernel_rfl) ?_ ?_
          rotate_left 1
          · (intro w hSw; (try dsimp only at hSw); go_simp; try with_reducible rfl)
          try simp only [Act.put, List.setIfInBounds_toArray, List.set_cons_zero, List.set_cons_succ]
          refine hold_plain 12 (v := ?_) hHC hH1 (by simp only [List.getElem?_toArray, List.getElem?_cons_succ, List.getElem?_cons_zero]; rfl) rfl (by kernel_rfl) ?_ ?_
          rotate_left 1
          · (intro w hSw; (try dsimp only at hSw); go_simp; try with_reducible rfl)
          try simp only [Act.put, List.setIfInBounds_toArray, List.set_cons_zero, List.set_cons_succ]
          refine hold_no 13 hHC hH1 (by simp only [List.getElem?_toArray, List.getElem?_cons_succ, List.getElem?_cons_zero]; rfl) rfl (by kernel_rfl) (by kernel_rfl) ?_
          try simp only [Act.put, List.setIfInBounds_toArray, List.set_cons_zero, List.set_cons_succ]
          refine hold_no 14 hHC hH1 (by simp only [List.getElem?_toArray, List.getElem?_cons_succ, List.getElem?_cons_zero]; rfl) rfl (by kernel_rfl) (by kernel_rfl) ?_
          try simp only [Act.put, List.setIfInBounds_toArray, List.set_cons_zero, List.set_cons_succ]
          refine hold_no 15 hHC hH1 (by simp only [List.getElem?_toArray, List.getElem?_cons_succ, List.getElem?_cons_zero]; rfl) rfl (by kernel_rfl) (by kernel_rfl) ?_
          try simp only [Act.put, List.setIfInBounds_toArray, List.set_cons_zero, List.set_cons_succ]
          refine hold_no 16 hHC hH1 (by simp only [List.getElem?_toArray, List.getElem?_cons_succ, List.getElem?_cons_zero]; rfl) rfl (by kernel_rfl) (by kernel_rfl) ?_
          try simp only [Act.put, List.setIfInBounds_toArray, List.set_cons_zero, List.set_cons_succ]
          refine hold_no 17 hHC hH1 (by simp only [List.getElem?_toArray, List.getElem?_cons_succ, List.getElem?_cons_zero]; rfl) rfl (by kernel_rfl) (by kernel_rfl) ?_
          try simp only [Act.put, List.setIfInBounds_toArray, List.set_cons_zero, List.set_cons_succ]
          refine hold_no 18 hHC hH1 (by simp only [List.getElem?_toArray, List.getElem?_cons_succ, List.getElem?_cons_zero]; rfl) rfl (by kernel_rfl) (by kernel_rfl) ?_
          try simp only [Act.put, List.setIfInBounds_toArray, List.set_cons_zero, List.set_cons_succ]
          refine hold_no 19 hHC hH1 (by simp only [List.getElem?_toArray, List.getElem?_cons_succ, List.getElem?_cons_zero]; rfl) rfl (by kernel_rfl) (by kernel_rfl) ?_
          try simp only [Act.put, List.setIfInBounds_toArray, List.set_cons_zero, List.set_cons_succ]
          refine hold_no 20 hHC hH1 (by simp only [List.getElem?_toArray, List.getElem?_cons_succ, List.getElem?_cons_zero]; rfl) rfl (by kernel_rfl) (by kernel_rfl) ?_
          try simp only [Act.put, List.setIfInBounds_toArray, List.set_cons_zero, List.set_cons_succ]
          refine hold_no 21 hHC hH1 (by simp only [List.getElem?_toArray, List.getElem?_cons_succ, List.getElem?_cons_zero]; rfl) rfl (by kernel_rfl) (by kernel_rfl) ?_
          try simp only [Act.put, List.setIfInBounds_toArray, List.set_cons_zero, List.set_cons_succ]
          refine hold_no 22 hHC hH1 (by simp only [List.getElem?_toArray, List.getElem?_cons_succ, List.getElem?_cons_zero]; rfl) rfl (by kernel_rfl) (by kernel_rfl) ?_
          try simp only [Act.put, List.setIfInBounds_toArray, List.set_cons_zero, List.set_cons_succ]
          refine hold_no 23 hHC hH1 (by simp only [List.getElem?_toArray, List.getElem?_cons_succ, List.getElem?_cons_zero]; rfl) rfl (by kernel_rfl) (by kernel_rfl) ?_
          try simp only [Act.put, List.setIfInBounds_toArray, List.set_cons_zero, List.set_cons_succ]
          refine hold_no 24 hHC hH1 (by simp only [List.getElem?_toArray, List.getElem?_cons_succ, List.getElem?_cons_zero]; rfl) rfl (by kernel_rfl) (by kernel_rfl) ?_
          try simp only [Act.put, List.setIfInBounds_toArray, List.set_cons_zero, List.set_cons_succ]
          refine hold_plain 25 (v := ?_) hHC hH1 (by simp only [List.getElem?_toArray, List.getElem?_cons_succ, List.getElem?_cons_zero]; rfl) rfl (by kernel_rfl) ?_ ?_
          rotate_left 1
          · (intro w hSw; (try dsimp only at hSw); go_simp; try with_reducible rfl)
          try simp only [Act.put, List.setIfInBounds_toArray, List.set_cons_zero, List.set_cons_succ]
          refine wpAnyH_done (by kernel_rfl) ?_ _
          (try dsimp only at hH1)
          go_split_ands
          clear hHC
          go_wp2
          go_ret
          exact ⟨ret_b HN.out.symm, by repeat' (first | assumption | (with_reducible exact Below.refl _ _) | (with_reducible refine Below.drew ?_) | (with_reducible refine Below.alloc ?_ ?_ _) | (with_reducible refine Below.setCell ?_ ?_ _) | omega | (simp; done) | (simp; omega))⟩
      · have hkn : k = m := by omega
        have HN : Hid (partB zs L = true) := Lib.hid (partB_yes h1 (by have := hA.out; rw [hkn] at this; rw [← HS.out, HY.out]; exact this))
        clear hkn hs hr
        go_wp2
        go_ret
        exact ⟨ret_b HN.out.symm, hB⟩
  · have h1' : rokB zs = false := by simpa using h1
    have HN := Lib.hid (partB_no1 (L := L) h1')
    go_enter Tryd.func10, Tryd.ntmps10
    go_wp2_with (go_at_call 19; refine (implRok_any _ _ _ zs _ HZ.out hn (by repeat' (first | assumption | (with_reducible refine Rd.alloc ?_ _) | (with_reducible refine Rd.drew ?_)))).mono ?_; rintro e wa ⟨rfl, hbwa⟩; have hzwa := hbwa.size; (try simp at hzwa); (try have hl0w_wa : w.heap.size < wa.heap.size := by omega); (try have hl1w_wa : w.heap.size + 1 < wa.heap.size := by omega); (try have hl2w_wa : w.heap.size + 1 + 1 < wa.heap.size := by omega); (try have hl3w_wa : w.heap.size + 1 + 1 + 1 < wa.heap.size := by omega); (first | (have hcw_wa : ∀ b o, b ≤ w.heap.size + 6 → wa.cell? ⟨b, o, none⟩ = _ := fun b o h => hbwa.cell (p := ⟨b, o, none⟩) (by first | omega | (simp; omega)); have hfw_wa : ∀ b o, b ≤ w.heap.size + 6 → wa.frozen? ⟨b, o, none⟩ = _ := fun b o h => hbwa.frozen (p := ⟨b, o, none⟩) (by first | omega | (simp; omega))) | (have hcw_wa : ∀ b o, b ≤ w.heap.size + 5 → wa.cell? ⟨b, o, none⟩ = _ := fun b o h => hbwa.cell (p := ⟨b, o, none⟩) (by first | omega | (simp; omega)); have hfw_wa : ∀ b o, b ≤ w.heap.size + 5 → wa.frozen? ⟨b, o, none⟩ = _ := fun b o h => hbwa.frozen (p := ⟨b, o, none⟩) (by first | omega | (simp; omega))) | (have hcw_wa : ∀ b o, b ≤ w.heap.size + 4 → wa.cell? ⟨b, o, none⟩ = _ := fun b o h => hbwa.cell (p := ⟨b, o, none⟩) (by first | omega | (simp; omega)); have hfw_wa : ∀ b o, b ≤ w.heap.size + 4 → wa.frozen? ⟨b, o, none⟩ = _ := fun b o h => hbwa.frozen (p := ⟨b, o, none⟩) (by first | omega | (simp; omega))) | (have hcw_wa : ∀ b o, b ≤ w.heap.size + 3 → wa.cell? ⟨b, o, none⟩ = _ := fun b o h => hbwa.cell (p := ⟨b, o, none⟩) (by first | omega | (simp; omega)); have hfw_wa : ∀ b o, b ≤ w.heap.size + 3 → wa.frozen? ⟨b, o, none⟩ = _ := fun b o h => hbwa.frozen (p := ⟨b, o, none⟩) (by first | omega | (simp; omega))) | (have hcw_wa : ∀ b o, b ≤ w.heap.size + 2 → wa.cell? ⟨b, o, none⟩ = _ := fun b o h => hbwa.cell (p := ⟨b, o, none⟩) (by first | omega | (simp; omega)); have hfw_wa : ∀ b o, b ≤ w.heap.size + 2 → wa.frozen? ⟨b, o, none⟩ = _ := fun b o h => hbwa.frozen (p := ⟨b, o, none⟩) (by first | omega | (simp; omega))) | (have hcw_wa : ∀ b o, b ≤ w.heap.size + 1 → wa.cell? ⟨b, o, none⟩ = _ := fun b o h => hbwa.cell (p := ⟨b, o, none⟩) (by first | omega | (simp; omega)); have hfw_wa : ∀ b o, b ≤ w.heap.size + 1 → wa.frozen? ⟨b, o, none⟩ = _ := fun b o h => hbwa.frozen (p := ⟨b, o, none⟩) (by first | omega | (simp; omega))) | (have hcw_wa : ∀ b o, b ≤ w.heap.size + 0 → wa.cell? ⟨b, o, none⟩ = _ := fun b o h => hbwa.cell (p := ⟨b, o, none⟩) (by first | omega | (simp; omega)); have hfw_wa : ∀ b o, b ≤ w.heap.size + 0 → wa.frozen? ⟨b, o, none⟩ = _ := fun b o h => hbwa.frozen (p := ⟨b, o, none⟩) (by first | omega | (simp; omega))) | skip); have hBwa : Below w.heap.size w wa := below_step hbwa (by first | omega | (simp; done) | (simp; omega)) (by repeat' (first | assumption | (with_reducible exact Below.refl _ _) | (with_reducible refine Below.drew ?_) | (with_reducible refine Below.alloc ?_ ?_ _) | (with_reducible refine Below.setCell ?_ ?_ _) | omega | (simp; done) | (simp; omega))); clear hbwa)
    go_ret
    exact ⟨ret_b HN.out.symm, by repeat' (first | assumption | (with_reducible exact Below.refl _ _) | (with_reducible refine Below.drew ?_) | (with_reducible refine Below.alloc ?_ ?_ _) | (with_reducible refine Below.setCell ?_ ?_ _) | omega | (simp; done) | (simp; omega))⟩
def tilB (zs : List Int) (L : List DomI) : Bool := partB zs L && decide (cov L = setS zs)
theorem tilB_no {zs : List Int} {L : List DomI} (h : partB zs L = false) : tilB zs L = false := by simp [tilB, h]
theorem tilB_yes {zs : List Int} {L : List DomI} (h : partB zs L = true) : tilB zs L = decide (cov L = setS zs) := by simp [tilB, h]
theorem part_rok {zs : List Int} {L : List DomI} (h : partB zs L = true) : rokB zs = true := by
  unfold partB at h
  rw [Bool.and_eq_true] at h
  exact h.1
set_option maxHeartbeats 1600000 in
set_option maxRecDepth 100000 in
theorem implTil_any (a : Option Addr) (n c : Nat) (zs : List Int) (b0 : Option Addr) (m c0 : Nat) (L : List DomI) (w : World) (hz : zs.length = n) (hn : n ≤ 1048576) (hr : RdI w a zs) (hy : L.length = m) (hm : m ≤ 1048576) (hs : RdD w b0 L) :
    Calls Tryd.prog 12 #[.agg #[.slice a n c], .slice b0 m c0] w fun e w' => e = .returned (.bool (tilB zs L)) ∧ Below w.heap.size w w' := by
  have HZ := Lib.hid hz
  have HY := Lib.hid hy
  clear hz hy
  by_cases h1 : partB zs L = true
  · have HR := Lib.hid (part_rok h1)
    have HN := Lib.hid (tilB_yes h1)
    have HP := Lib.hid (fun (W : World) (h : RdI W a zs) (h' : RdD W b0 L) => by have g := implPart_any a n c zs b0 m c0 L W HZ.out hn h HY.out hm h'; rw [h1] at g; exact g)
    obtain ⟨S, hS⟩ : ∃ S, S = setS zs := ⟨_, rfl⟩
    obtain ⟨C, hC⟩ : ∃ C, C = cov L := ⟨_, rfl⟩
    have HSS := Lib.hid (fun (W : World) (h : RdI W a zs) => set_any a n c zs W HZ.out HR.out h)
    have HCC := Lib.hid (fun (W : World) (h : RdD W b0 L) => covered_any b0 m c0 L W HY.out hm h)
    rw [← hS] at HSS HN
    rw [← hC] at HCC HN
    clear hS hC h1
    go_enter Tryd.func12, Tryd.ntmps12
    go_wp2_with fail
    refine hold_start (S := (fun w' => w'.cell? ⟨w.heap.size, 0, none⟩ = some (.slice a n c) ∧ Below w.heap.size w w' ∧ w.heap.size + 1 ≤ w'.heap.size)) (by kernel_rfl) (by kernel_rfl) (by intro _ _ d _ _ h; cases d <;> exact h) ?_ (fun hHC hH0 => ?_)
    · (first | (go_keep; done) | ((try go_split_ands); (repeat' apply And.intro) <;> first | assumption | (with_reducible refine Rd.below ?_ hb1; assumption) | (with_reducible refine Rd.drew ?_; repeat' (first | assumption | (with_reducible refine Rd.alloc ?_ _))) | (refine (hb1.cell (by first | omega | (simp; done) | (simp; omega))).trans ?_; first | assumption | simp) | (exact below_step hb1 (by first | omega | (simp; done) | (simp; omega)) (by assumption)) | (have hz' := hb1.size; (try simp at hz'); omega) | ((repeat' (first | assumption | (with_reducible exact Below.refl _ _) | (with_reducible refine Below.drew ?_) | (with_reducible refine Below.alloc ?_ ?_ _) | (with_reducible refine Below.setCell ?_ ?_ _) | omega | (simp; done) | (simp; omega))); done) | go_simp | (simp; done) | (simp; omega)))
    refine hold_plain 0 (v := ?_) hHC hH0 (by simp only [List.getElem?_toArray, List.getElem?_cons_succ, List.getElem?_cons_zero]; rfl) rfl (by kernel_rfl) ?_ ?_
    rotate_left 1
    · (intro w hSw; (try dsimp only at hSw); go_simp; try with_reducible rfl)
    try simp only [Act.put, List.setIfInBounds_toArray, List.set_cons_zero, List.set_cons_succ]
    refine hold_plain 1 (v := ?_) hHC hH0 (by simp only [List.getElem?_toArray, List.getElem?_cons_succ, List.getElem?_cons_zero]; rfl) rfl (by kernel_rfl) ?_ ?_
    rotate_left 1
    · (intro w hSw; (try dsimp only at hSw); go_simp; try with_reducible rfl)
    try simp only [Act.put, List.setIfInBounds_toArray, List.set_cons_zero, List.set_cons_succ]
    refine hold_call0 2 (by simp only [List.getElem?_toArray, List.getElem?_cons_succ, List.getElem?_cons_zero]; rfl) rfl (by kernel_rfl) (fun K hK => ?_)
    go_simp
    obtain ⟨_, hs1, _⟩ := id hH0; first | (go_at_call 10; refine (HP.out _ (Rd.below hr (by repeat' (first | assumption | (with_reducible exact Below.refl _ _) | (with_reducible refine Below.drew ?_) | (with_reducible refine Below.alloc ?_ ?_ _) | (with_reducible refine Below.setCell ?_ ?_ _) | omega | (simp; done) | (simp; omega)))) (Rd.below hs (by repeat' (first | assumption | (with_reducible exact Below.refl _ _) | (with_reducible refine Below.drew ?_) | (with_reducible refine Below.alloc ?_ ?_ _) | (with_reducible refine Below.setCell ?_ ?_ _) | omega | (simp; done) | (simp; omega))))).mono ?_; rintro e w1 ⟨rfl, hb1⟩) | (go_at_call 21; refine (HCC.out _ (Rd.below hs (by repeat' (first | assumption | (with_reducible exact Below.refl _ _) | (with_reducible refine Below.drew ?_) | (with_reducible refine Below.alloc ?_ ?_ _) | (with_reducible refine Below.setCell ?_ ?_ _) | omega | (simp; done) | (simp; omega))))).mono ?_; rintro e w1 ⟨rfl, hb1⟩) | (go_at_call 20; refine (HSS.out _ (Rd.below hr (by repeat' (first | assumption | (with_reducible exact Below.refl _ _) | (with_reducible refine Below.drew ?_) | (with_reducible refine Below.alloc ?_ ?_ _) | (with_reducible refine Below.setCell ?_ ?_ _) | omega | (simp; done) | (simp; omega))))).mono ?_; rintro e w1 ⟨rfl, hb1⟩)
    refine hK.out _ _ ?_ (fun hH1 => ?_)
    · (first | (go_keep; done) | ((try go_split_ands); (repeat' apply And.intro) <;> first | assumption | (with_reducible refine Rd.below ?_ hb1; assumption) | (with_reducible refine Rd.drew ?_; repeat' (first | assumption | (with_reducible refine Rd.alloc ?_ _))) | (refine (hb1.cell (by first | omega | (simp; done) | (simp; omega))).trans ?_; first | assumption | simp) | (exact below_step hb1 (by first | omega | (simp; done) | (simp; omega)) (by assumption)) | (have hz' := hb1.size; (try simp at hz'); omega) | ((repeat' (first | assumption | (with_reducible exact Below.refl _ _) | (with_reducible refine Below.drew ?_) | (with_reducible refine Below.alloc ?_ ?_ _) | (with_reducible refine Below.setCell ?_ ?_ _) | omega | (simp; done) | (simp; omega))); done) | go_simp | (simp; done) | (simp; omega)))
    clear hK K hH0
    try simp only [Act.put, List.setIfInBounds_toArray, List.set_cons_zero, List.set_cons_succ]
    refine hold_plain 3 (v := ?_) hHC hH1 (by simp only [List.getElem?_toArray, List.getElem?_cons_succ, List.getElem?_cons_zero]; rfl) rfl (by kernel_rfl) ?_ ?_
    rotate_left 1
    · (intro w hSw; (try dsimp only at hSw); go_simp; try with_reducible rfl)
    try simp only [Act.put, List.setIfInBounds_toArray, List.set_cons_zero, List.set_cons_succ]
    refine hold_yes 4 (v := ?_) hHC hH1 (by simp only [List.getElem?_toArray, List.getElem?_cons_succ, List.getElem?_cons_zero]; rfl) rfl (by kernel_rfl) (by kernel_rfl) ?_ ?_
    rotate_left 1
    · (intro w hSw; (try dsimp only at hSw); go_simp; try with_reducible rfl)
    try simp only [Act.put, List.setIfInBounds_toArray, List.set_cons_zero, List.set_cons_succ]
    refine hold_yes 6 (v := ?_) hHC hH1 (by simp only [List.getElem?_toArray, List.getElem?_cons_succ, List.getElem?_cons_zero]; rfl) rfl (by kernel_rfl) (by kernel_rfl) ?_ ?_
    rotate_left 1
    · (intro w hSw; (try dsimp only at hSw); go_simp; try with_reducible rfl)
    try simp only [Act.put, List.setIfInBounds_toArray, List.set_cons_zero, List.set_cons_succ]
    refine hold_call1 5 (by simp only [List.getElem?_toArray, List.getElem?_cons_succ, List.getElem?_cons_zero]; rfl) rfl (by kernel_rfl) (by kernel_rfl) (fun K hK => ?_)
    go_simp
    obtain ⟨_, hs1, _⟩ := id hH1; first | (go_at_call 10; refine (HP.out _ (Rd.below hr (by repeat' (first | assumption | (with_reducible exact Below.refl _ _) | (with_reducible refine Below.drew ?_) | (with_reducible refine Below.alloc ?_ ?_ _) | (with_reducible refine Below.setCell ?_ ?_ _) | omega | (simp; done) | (simp; omega)))) (Rd.below hs (by repeat' (first | assumption | (with_reducible exact Below.refl _ _) | (with_reducible refine Below.drew ?_) | (with_reducible refine Below.alloc ?_ ?_ _) | (with_reducible refine Below.setCell ?_ ?_ _) | omega | (simp; done) | (simp; omega))))).mono ?_; rintro e w1 ⟨rfl, hb1⟩) | (go_at_call 21; refine (HCC.out _ (Rd.below hs (by repeat' (first | assumption | (with_reducible exact Below.refl _ _) | (with_reducible refine Below.drew ?_) | (with_reducible refine Below.alloc ?_ ?_ _) | (with_reducible refine Below.setCell ?_ ?_ _) | omega | (simp; done) | (simp; omega))))).mono ?_; rintro e w1 ⟨rfl, hb1⟩) | (go_at_call 20; refine (HSS.out _ (Rd.below hr (by repeat' (first | assumption | (with_reducible exact Below.refl _ _) | (with_reducible refine Below.drew ?_) | (with_reducible refine Below.alloc ?_ ?_ _) | (with_reducible refine Below.setCell ?_ ?_ _) | omega | (simp; done) | (simp; omega))))).mono ?_; rintro e w1 ⟨rfl, hb1⟩)
    refine hK.out _ _ ?_ (fun hH2 => ?_)
    · (first | (go_keep; done) | ((try go_split_ands); (repeat' apply And.intro) <;> first | assumption | (with_reducible refine Rd.below ?_ hb1; assumption) | (with_reducible refine Rd.drew ?_; repeat' (first | assumption | (with_reducible refine Rd.alloc ?_ _))) | (refine (hb1.cell (by first | omega | (simp; done) | (simp; omega))).trans ?_; first | assumption | simp) | (exact below_step hb1 (by first | omega | (simp; done) | (simp; omega)) (by assumption)) | (have hz' := hb1.size; (try simp at hz'); omega) | ((repeat' (first | assumption | (with_reducible exact Below.refl _ _) | (with_reducible refine Below.drew ?_) | (with_reducible refine Below.alloc ?_ ?_ _) | (with_reducible refine Below.setCell ?_ ?_ _) | omega | (simp; done) | (simp; omega))); done) | go_simp | (simp; done) | (simp; omega)))
    clear hK K hH1
    try simp only [Act.put, List.setIfInBounds_toArray, List.set_cons_zero, List.set_cons_succ]
    refine hold_call1 7 (by simp only [List.getElem?_toArray, List.getElem?_cons_succ, List.getElem?_cons_zero]; rfl) rfl (by kernel_rfl) (by kernel_rfl) (fun K hK => ?_)
    go_simp
    obtain ⟨_, hs1, _⟩ := id hH2; first | (go_at_call 10; refine (HP.out _ (Rd.below hr (by repeat' (first | assumption | (with_reducible exact Below.refl _ _) | (with_reducible refine Below.drew ?_) | (with_reducible refine Below.alloc ?_ ?_ _) | (with_reducible refine Below.setCell ?_ ?_ _) | omega | (simp; done) | (simp; omega)))) (Rd.below hs (by repeat' (first | assumption | (with_reducible exact Below.refl _ _) | (with_reducible refine Below.drew ?_) | (with_reducible refine Below.alloc ?_ ?_ _) | (with_reducible refine Below.setCell ?_ ?_ _) | omega | (simp; done) | (simp; omega))))).mono ?_; rintro e w1 ⟨rfl, hb1⟩) | (go_at_call 21; refine (HCC.out _ (Rd.below hs (by repeat' (first | assumption | (with_reducible exact Below.refl _ _) | (with_reducible refine Below.drew ?_) | (with_reducible refine Below.alloc ?_ ?_ _) | (with_reducible refine Below.setCell ?_ ?_ _) | omega | (simp; done) | (simp; omega))))).mono ?_; rintro e w1 ⟨rfl, hb1⟩) | (go_at_call 20; refine (HSS.out _ (Rd.below hr (by repeat' (first | assumption | (with_reducible exact Below.refl _ _) | (with_reducible refine Below.drew ?_) | (with_reducible refine Below.alloc ?_ ?_ _) | (with_reducible refine Below.setCell ?_ ?_ _) | omega | (simp; done) | (simp; omega))))).mono ?_; rintro e w1 ⟨rfl, hb1⟩)
    refine hK.out _ _ ?_ (fun hH3 => ?_)
    · (first | (go_keep; done) | ((try go_split_ands); (repeat' apply And.intro) <;> first | assumption | (with_reducible refine Rd.below ?_ hb1; assumption) | (with_reducible refine Rd.drew ?_; repeat' (first | assumption | (with_reducible refine Rd.alloc ?_ _))) | (refine (hb1.cell (by first | omega | (simp; done) | (simp; omega))).trans ?_; first | assumption | simp) | (exact below_step hb1 (by first | omega | (simp; done) | (simp; omega)) (by assumption)) | (have hz' := hb1.size; (try simp at hz'); omega) | ((repeat' (first | assumption | (with_reducible exact Below.refl _ _) | (with_reducible refine Below.drew ?_) | (with_reducible refine Below.alloc ?_ ?_ _) | (with_reducible refine Below.setCell ?_ ?_ _) | omega | (simp; done) | (simp; omega))); done) | go_simp | (simp; done) | (simp; omega)))
    clear hK K hH2
    try simp only [Act.put, List.setIfInBounds_toArray, List.set_cons_zero, List.set_cons_succ]
    refine hold_yes 8 (v := ?_) hHC hH3 (by simp only [List.getElem?_toArray, List.getElem?_cons_succ, List.getElem?_cons_zero]; rfl) rfl (by kernel_rfl) (by kernel_rfl) ?_ ?_
    rotate_left 1
    · (intro w hSw; (try dsimp only at hSw); go_simp; try with_reducible rfl)
    try simp only [Act.put, List.setIfInBounds_toArray, List.set_cons_zero, List.set_cons_succ]
    refine hold_plain 9 (v := ?_) hHC hH3 (by simp only [List.getElem?_toArray, List.getElem?_cons_succ, List.getElem?_cons_zero]; rfl) rfl (by kernel_rfl) ?_ ?_
    rotate_left 1
    · (intro w hSw; (try dsimp only at hSw); go_simp; try with_reducible rfl)
    try simp only [Act.put, List.setIfInBounds_toArray, List.set_cons_zero, List.set_cons_succ]
    refine hold_plain 10 (v := ?_) hHC hH3 (by simp only [List.getElem?_toArray, List.getElem?_cons_succ, List.getElem?_cons_zero]; rfl) rfl (by kernel_rfl) ?_ ?_
    rotate_left 1
    · (intro w hSw; (try dsimp only at hSw); go_simp; try with_reducible rfl)
    try simp only [Act.put, List.setIfInBounds_toArray, List.set_cons_zero, List.set_cons_succ]
    refine wpAnyH_done (by kernel_rfl) ?_ _
    (try dsimp only at hH3)
    go_split_ands
    clear hHC
    go_wp2
    go_ret
    exact ⟨ret_b (by rw [HN.out]; exact Bool.eq_iff_iff.2 (by simp only [beq_iff_eq, decide_eq_true_eq]; omega)), by repeat' (first | assumption | (with_reducible exact Below.refl _ _) | (with_reducible refine Below.drew ?_) | (with_reducible refine Below.alloc ?_ ?_ _) | (with_reducible refine Below.setCell ?_ ?_ _) | omega | (simp; done) | (simp; omega))⟩
  · have h1' : partB zs L = false := by simpa using h1
    have HN := Lib.hid (tilB_no h1')
    have HP := Lib.hid (fun (W : World) (h : RdI W a zs) (h' : RdD W b0 L) => by have g := implPart_any a n c zs b0 m c0 L W HZ.out hn h HY.out hm h'; rw [h1'] at g; exact g)
    clear h1 h1'
    go_enter Tryd.func12, Tryd.ntmps12
    go_wp2_with fail
    refine hold_start (S := (fun w' => w'.cell? ⟨w.heap.size, 0, none⟩ = some (.slice a n c) ∧ Below w.heap.size w w' ∧ w.heap.size + 1 ≤ w'.heap.size)) (by kernel_rfl) (by kernel_rfl) (by intro _ _ d _ _ h; cases d <;> exact h) ?_ (fun hHC hH0 => ?_)
    · (first | (go_keep; done) | ((try go_split_ands); (repeat' apply And.intro) <;> first | assumption | (with_reducible refine Rd.below ?_ hb1; assumption) | (with_reducible refine Rd.drew ?_; repeat' (first | assumption | (with_reducible refine Rd.alloc ?_ _))) | (refine (hb1.cell (by first | omega | (simp; done) | (simp; omega))).trans ?_; first | assumption | simp) | (exact below_step hb1 (by first | omega | (simp; done) | (simp; omega)) (by assumption)) | (have hz' := hb1.size; (try simp at hz'); omega) | ((repeat' (first | assumption | (with_reducible exact Below.refl _ _) | (with_reducible refine Below.drew ?_) | (with_reducible refine Below.alloc ?_ ?_ _) | (with_reducible refine Below.setCell ?_ ?_ _) | omega | (simp; done) | (simp; omega))); done) | go_simp | (simp; done) | (simp; omega)))
    refine hold_plain 0 (v := ?_) hHC hH0 (by simp only [List.getElem?_toArray, List.getElem?_cons_succ, List.getElem?_cons_zero]; rfl) rfl (by kernel_rfl) ?_ ?_
    rotate_left 1
    · (intro w hSw; (try dsimp only at hSw); go_simp; try with_reducible rfl)
    try simp only [Act.put, List.setIfInBounds_toArray, List.set_cons_zero, List.set_cons_succ]
    refine hold_plain 1 (v := ?_) hHC hH0 (by simp only [List.getElem?_toArray, List.getElem?_cons_succ, List.getElem?_cons_zero]; rfl) rfl (by kernel_rfl) ?_ ?_
    rotate_left 1
    · (intro w hSw; (try dsimp only at hSw); go_simp; try with_reducible rfl)
    try simp only [Act.put, List.setIfInBounds_toArray, List.set_cons_zero, List.set_cons_succ]
    refine hold_call0 2 (by simp only [List.getElem?_toArray, List.getElem?_cons_succ, List.getElem?_cons_zero]; rfl) rfl (by kernel_rfl) (fun K hK => ?_)
    go_simp
    obtain ⟨_, hs1, _⟩ := id hH0; first | (go_at_call 10; refine (HP.out _ (Rd.below hr (by repeat' (first | assumption | (with_reducible exact Below.refl _ _) | (with_reducible refine Below.drew ?_) | (with_reducible refine Below.alloc ?_ ?_ _) | (with_reducible refine Below.setCell ?_ ?_ _) | omega | (simp; done) | (simp; omega)))) (Rd.below hs (by repeat' (first | assumption | (with_reducible exact Below.refl _ _) | (with_reducible refine Below.drew ?_) | (with_reducible refine Below.alloc ?_ ?_ _) | (with_reducible refine Below.setCell ?_ ?_ _) | omega | (simp; done) | (simp; omega))))).mono ?_; rintro e w1 ⟨rfl, hb1⟩)
    refine hK.out _ _ ?_ (fun hH1 => ?_)
    · (first | (go_keep; done) | ((try go_split_ands); (repeat' apply And.intro) <;> first | assumption | (with_reducible refine Rd.below ?_ hb1; assumption) | (with_reducible refine Rd.drew ?_; repeat' (first | assumption | (with_reducible refine Rd.alloc ?_ _))) | (refine (hb1.cell (by first | omega | (simp; done) | (simp; omega))).trans ?_; first | assumption | simp) | (exact below_step hb1 (by first | omega | (simp; done) | (simp; omega)) (by assumption)) | (have hz' := hb1.size; (try simp at hz'); omega) | ((repeat' (first | assumption | (with_reducible exact Below.refl _ _) | (with_reducible refine Below.drew ?_) | (with_reducible refine Below.alloc ?_ ?_ _) | (with_reducible refine Below.setCell ?_ ?_ _) | omega | (simp; done) | (simp; omega))); done) | go_simp | (simp; done) | (simp; omega)))
    clear hK K hH0
    try simp only [Act.put, List.setIfInBounds_toArray, List.set_cons_zero, List.set_cons_succ]
    refine hold_plain 3 (v := ?_) hHC hH1 (by simp only [List.getElem?_toArray, List.getElem?_cons_succ, List.getElem?_cons_zero]; rfl) rfl (by kernel_rfl) ?_ ?_
    rotate_left 1
    · (intro w hSw; (try dsimp only at hSw); go_simp; try with_reducible rfl)
    try simp only [Act.put, List.setIfInBounds_toArray, List.set_cons_zero, List.set_cons_succ]
    refine hold_no 4 hHC hH1 (by simp only [List.getElem?_toArray, List.getElem?_cons_succ, List.getElem?_cons_zero]; rfl) rfl (by kernel_rfl) (by kernel_rfl) ?_
    try simp only [Act.put, List.setIfInBounds_toArray, List.set_cons_zero, List.set_cons_succ]
    refine hold_no 5 hHC hH1 (by simp only [List.getElem?_toArray, List.getElem?_cons_succ, List.getElem?_cons_zero]; rfl) rfl (by kernel_rfl) (by kernel_rfl) ?_
    try simp only [Act.put, List.setIfInBounds_toArray, List.set_cons_zero, List.set_cons_succ]
    refine hold_no 6 hHC hH1 (by simp only [List.getElem?_toArray, List.getElem?_cons_succ, List.getElem?_cons_zero]; rfl) rfl (by kernel_rfl) (by kernel_rfl) ?_
    try simp only [Act.put, List.setIfInBounds_toArray, List.set_cons_zero, List.set_cons_succ]
    refine hold_no 7 hHC hH1 (by simp only [List.getElem?_toArray, List.getElem?_cons_succ, List.getElem?_cons_zero]; rfl) rfl (by kernel_rfl) (by kernel_rfl) ?_
    try simp only [Act.put, List.setIfInBounds_toArray, List.set_cons_zero, List.set_cons_succ]
    refine hold_no 8 hHC hH1 (by simp only [List.getElem?_toArray, List.getElem?_cons_succ, List.getElem?_cons_zero]; rfl) rfl (by kernel_rfl) (by kernel_rfl) ?_
    try simp only [Act.put, List.setIfInBounds_toArray, List.set_cons_zero, List.set_cons_succ]
    refine hold_plain 9 (v := ?_) hHC hH1 (by simp only [List.getElem?_toArray, List.getElem?_cons_succ, List.getElem?_cons_zero]; rfl) rfl (by kernel_rfl) ?_ ?_
    rotate_left 1
    · (intro w hSw; (try dsimp only at hSw); go_simp; try with_reducible rfl)
    try simp only [Act.put, List.setIfInBounds_toArray, List.set_cons_zero, List.set_cons_succ]
    refine hold_plain 10 (v := ?_) hHC hH1 (by simp only [List.getElem?_toArray, List.getElem?_cons_succ, List.getElem?_cons_zero]; rfl) rfl (by kernel_rfl) ?_ ?_
    rotate_left 1
    · (intro w hSw; (try dsimp only at hSw); go_simp; try with_reducible rfl)
    try simp only [Act.put, List.setIfInBounds_toArray, List.set_cons_zero, List.set_cons_succ]
    refine wpAnyH_done (by kernel_rfl) ?_ _
    (try dsimp only at hH1)
    go_split_ands
    clear hHC
    go_wp2
    go_ret
    exact ⟨ret_b HN.out.symm, by repeat' (first | assumption | (with_reducible exact Below.refl _ _) | (with_reducible refine Below.drew ?_) | (with_reducible refine Below.alloc ?_ ?_ _) | (with_reducible refine Below.setCell ?_ ?_ _) | omega | (simp; done) | (simp; omega))⟩
end Go.Proofs.YtbkoignjagobaaaDoor
