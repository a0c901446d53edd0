/-
  Contracts of 'has a cell'.
-/
import Derived.Test.YtghakmhglneckaaSet
import Derived.Test.YtghakmhglneckaaRegL
namespace Go.Proofs.Ytghakmhglneckaa
open Go.RowKit
set_option linter.unusedVariables false
set_option linter.unusedSimpArgs false

theorem setK_bit {zs : List Int} (h : rokB zs = true) : ∀ k, k ≤ 8 → ∀ y x, x < 8 → (setK zs k).testBit (8 * y + x) = (decide (y < k) && (zs.getD y 0).toNat.testBit x) := by
  intro k
  induction k with
  | zero => intro _ y x _; simp [setK]
  | succ k ih =>
    intro hk y x hx
    have hm : (zs.getD k 0).toNat < 2 ^ 8 := by
      by_cases hl : k < zs.length
      · have := (rok_iff.1 h).2 zs[k] (List.getElem_mem hl)
        rw [List.getD_eq_getElem?_getD, List.getElem?_eq_getElem hl]
        simp; omega
      · rw [List.getD_eq_getElem?_getD, List.getElem?_eq_none (by omega)]; simp
    rw [setK, Nat.testBit_or, ih (by omega) y x hx, Nat.mul_comm, Nat.testBit_two_pow_mul]
    by_cases h1 : y < k
    · have h2 : ¬ 8 * y + x ≥ 8 * k := by omega
      have h3 : y < k + 1 := by omega
      simp [h1, h2, h3]
    · by_cases h2 : y = k
      · subst h2
        simp
      · have h3 : ¬ y < k + 1 := by omega
        have h4 : (zs.getD k 0).toNat.testBit (8 * y + x - 8 * k) = false := Nat.testBit_lt_two_pow (Nat.lt_of_lt_of_le hm (Nat.pow_le_pow_right (by omega) (by omega)))
        rw [h4]
        simp [h1, h3]
theorem hasB_row {zs : List Int} (h : rokB zs = true) {x y : Int} (hxy : okB x y = true) : hasB (setS zs) x y = (decide (y < zs.length) && (zs.getD y.toNat 0).toNat.testBit x.toNat) := by
  obtain ⟨⟨hx0, hx7⟩, hy0, hy7⟩ := okB_iff.1 hxy
  have e : (y * 8 + x).toNat = 8 * y.toNat + x.toNat := by omega
  unfold hasB setS
  rw [hxy, e, setK_bit h zs.length (rok_iff.1 h).1 _ _ (by omega), Bool.true_and]
  congr 1
  exact decide_eq_decide.2 (by omega)

theorem i64_and_one {m : Nat} (h : m < 1000) : bits .and .i64 (m : Int) 1 = ((m % 2 : Nat) : Int) := by
  show IntKind.i64.wrap ((BitVec.ofInt 64 (m : Int) &&& BitVec.ofInt 64 (1 : Int)).toNat : Int) = _
  have e : (BitVec.ofInt 64 (m : Int)).toNat = m := by rw [BitVec.ofInt_natCast, BitVec.toNat_ofNat]; exact Nat.mod_eq_of_lt (by omega)
  have e1 : (BitVec.ofInt 64 (1 : Int)).toNat = 1 := by decide
  rw [BitVec.toNat_and, e, e1, nat_mask1, IntKind.wrap_i64]
  omega
theorem row_bit {m n : Nat} (h : m < 256) : bits .and .i64 ((m : Int) / 2 ^ n) 1 = ((m / 2 ^ n % 2 : Nat) : Int) := by
  have e : ((m : Int) / 2 ^ n) = ((m / 2 ^ n : Nat) : Int) := by simp
  rw [e]
  exact i64_and_one (Nat.lt_of_le_of_lt (Nat.div_le_self _ _) (by omega))

set_option maxRecDepth 100000 in
theorem l03_any (a : Option Addr) (n c : Nat) (zs : List Int) (x y : Int) (w : World) (hz : zs.length = n) (hok : rokB zs = true) (hxy : okB x y = true) (hr : RdI w a zs) :
    Calls Try.prog 48 #[.agg #[.slice a n c], .agg #[.int .i64 x, .int .i64 y]] w fun e w' => e = .returned (.bool (hasB (setS zs) x y)) ∧ Below w.heap.size w w' := by
  obtain ⟨⟨hx0, hx7⟩, hy0, hy7⟩ := okB_iff.1 hxy
  have h8 : n ≤ 8 := by have := (rok_iff.1 hok).1; omega
  have HB := Lib.hid (hasB_row hok hxy)
  by_cases hlt : y < n
  · obtain ⟨Y, rfl⟩ : ∃ Y : Nat, y = Y := ⟨y.toNat, by omega⟩
    obtain ⟨X, rfl⟩ : ∃ X : Nat, x = X := ⟨x.toNat, by omega⟩
    have hY : Y < n := by omega
    obtain ⟨b, off, v, rfl, hb, hcell, hv⟩ := RdI.at_ hr (k := Y) (by omega)
    have hvb := (rok_iff.1 hok).2 v (List.mem_of_getElem? hv.out)
    obtain ⟨m, rfl⟩ : ∃ m : Nat, v = m := ⟨v.toNat, by omega⟩
    have hm : m < 256 := by omega
    have HB2 : Hid (hasB (setS zs) X Y = m.testBit X) := Lib.hid (by
      rw [HB.out, hz]
      simp [hlt, List.getD_eq_getElem?_getD, hv.out])
    have e1 : bits .and .i64 ((m : Int) / 2 ^ X) 1 = ((m / 2 ^ X % 2 : Nat) : Int) := row_bit hm
    clear hr hok hxy hz HB hvb
    go_enter Try.func48, Try.ntmps48
    go_wp2
    go_quiet (fail)
    go_wp2
    go_ret
    exact ⟨ret_b (by rw [HB2.out, testBit_mod]; exact bit_test _ _), below_drewN (by repeat' (first | assumption | (with_reducible exact Below.refl _ _) | (with_reducible refine Below.drew ?_) | (with_reducible refine Below.alloc ?_ ?_ _) | (with_reducible refine Below.setCell ?_ ?_ _) | omega | (simp; done) | (simp; omega))) _⟩
  · have HB2 : Hid (hasB (setS zs) x y = false) := Lib.hid (by rw [HB.out, hz]; simp; omega)
    have hd : decide (y < (n : Int)) = false := by simpa using hlt
    clear hr hok hxy hz HB
    go_enter Try.func48, Try.ntmps48
    go_wp2
    go_quiet (fail)
    go_wp2
    go_ret
    exact ⟨ret_b HB2.out.symm, below_drewN (by repeat' (first | assumption | (with_reducible exact Below.refl _ _) | (with_reducible refine Below.drew ?_) | (with_reducible refine Below.alloc ?_ ?_ _) | (with_reducible refine Below.setCell ?_ ?_ _) | omega | (simp; done) | (simp; omega))) _⟩

/-- A region has a cell. -/
def hcB (zs : List Int) (x y : Int) : Bool := rokB zs && hasB (setS zs) x y
theorem hcB_no {zs : List Int} {x y : Int} (h : rokB zs = false) : hcB zs x y = false := by simp [hcB, h]
theorem hcB_yes {zs : List Int} {x y : Int} (h : rokB zs = true) : hcB zs x y = hasB (setS zs) x y := by simp [hcB, h]
theorem hasB_no {S : Nat} {x y : Int} (h : okB x y = false) : hasB S x y = false := by simp [hasB, h]
set_option maxRecDepth 100000 in
theorem specHas_any (a : Option Addr) (n c : Nat) (zs : List Int) (x y : Int) (w : World) (hz : zs.length = n) (hn : n ≤ 1048576) (hr : RdI w a zs) :
    Calls Try.prog 29 #[.agg #[.slice a n c], .agg #[.int .i64 x, .int .i64 y]] w fun e w' => e = .returned (.bool (hcB zs x y)) ∧ Below w.heap.size w w' := by
  have HZ := Lib.hid hz
  clear hz
  by_cases h1 : rokB zs = true
  · by_cases h2 : okB x y = true
    · have HB := Lib.hid (hcB_yes (x := x) (y := y) h1)
      go_enter Try.func29, Try.ntmps29
      go_wp2_with (first | (go_at_call 26; refine (specRok_any _ _ _ zs _ HZ.out hn (by repeat' (first | assumption | (with_reducible refine Rd.alloc ?_ _) | (with_reducible refine Rd.drew ?_)))).mono ?_; rintro e wa ⟨rfl, hbwa⟩; have hzwa := hbwa.size; (try simp at hzwa); (try have hl0w_wa : w.heap.size < wa.heap.size := by omega); (try have hl1w_wa : w.heap.size + 1 < wa.heap.size := by omega); (try have hl2w_wa : w.heap.size + 1 + 1 < wa.heap.size := by omega); (try have hl3w_wa : w.heap.size + 1 + 1 + 1 < wa.heap.size := by omega); (first | (have hcw_wa : ∀ b o, b ≤ w.heap.size + 6 → wa.cell? ⟨b, o, none⟩ = _ := fun b o h => hbwa.cell (p := ⟨b, o, none⟩) (by first | omega | (simp; omega)); have hfw_wa : ∀ b o, b ≤ w.heap.size + 6 → wa.frozen? ⟨b, o, none⟩ = _ := fun b o h => hbwa.frozen (p := ⟨b, o, none⟩) (by first | omega | (simp; omega))) | (have hcw_wa : ∀ b o, b ≤ w.heap.size + 5 → wa.cell? ⟨b, o, none⟩ = _ := fun b o h => hbwa.cell (p := ⟨b, o, none⟩) (by first | omega | (simp; omega)); have hfw_wa : ∀ b o, b ≤ w.heap.size + 5 → wa.frozen? ⟨b, o, none⟩ = _ := fun b o h => hbwa.frozen (p := ⟨b, o, none⟩) (by first | omega | (simp; omega))) | (have hcw_wa : ∀ b o, b ≤ w.heap.size + 4 → wa.cell? ⟨b, o, none⟩ = _ := fun b o h => hbwa.cell (p := ⟨b, o, none⟩) (by first | omega | (simp; omega)); have hfw_wa : ∀ b o, b ≤ w.heap.size + 4 → wa.frozen? ⟨b, o, none⟩ = _ := fun b o h => hbwa.frozen (p := ⟨b, o, none⟩) (by first | omega | (simp; omega))) | (have hcw_wa : ∀ b o, b ≤ w.heap.size + 3 → wa.cell? ⟨b, o, none⟩ = _ := fun b o h => hbwa.cell (p := ⟨b, o, none⟩) (by first | omega | (simp; omega)); have hfw_wa : ∀ b o, b ≤ w.heap.size + 3 → wa.frozen? ⟨b, o, none⟩ = _ := fun b o h => hbwa.frozen (p := ⟨b, o, none⟩) (by first | omega | (simp; omega))) | (have hcw_wa : ∀ b o, b ≤ w.heap.size + 2 → wa.cell? ⟨b, o, none⟩ = _ := fun b o h => hbwa.cell (p := ⟨b, o, none⟩) (by first | omega | (simp; omega)); have hfw_wa : ∀ b o, b ≤ w.heap.size + 2 → wa.frozen? ⟨b, o, none⟩ = _ := fun b o h => hbwa.frozen (p := ⟨b, o, none⟩) (by first | omega | (simp; omega))) | (have hcw_wa : ∀ b o, b ≤ w.heap.size + 1 → wa.cell? ⟨b, o, none⟩ = _ := fun b o h => hbwa.cell (p := ⟨b, o, none⟩) (by first | omega | (simp; omega)); have hfw_wa : ∀ b o, b ≤ w.heap.size + 1 → wa.frozen? ⟨b, o, none⟩ = _ := fun b o h => hbwa.frozen (p := ⟨b, o, none⟩) (by first | omega | (simp; omega))) | (have hcw_wa : ∀ b o, b ≤ w.heap.size + 0 → wa.cell? ⟨b, o, none⟩ = _ := fun b o h => hbwa.cell (p := ⟨b, o, none⟩) (by first | omega | (simp; omega)); have hfw_wa : ∀ b o, b ≤ w.heap.size + 0 → wa.frozen? ⟨b, o, none⟩ = _ := fun b o h => hbwa.frozen (p := ⟨b, o, none⟩) (by first | omega | (simp; omega))) | skip); have hBwa : Below w.heap.size w wa := below_step hbwa (by first | omega | (simp; done) | (simp; omega)) (by repeat' (first | assumption | (with_reducible exact Below.refl _ _) | (with_reducible refine Below.drew ?_) | (with_reducible refine Below.alloc ?_ ?_ _) | (with_reducible refine Below.setCell ?_ ?_ _) | omega | (simp; done) | (simp; omega))); have hr_wa : RdI wa a zs := Rd.below (by repeat' (first | assumption | (with_reducible refine Rd.alloc ?_ _) | (with_reducible refine Rd.drew ?_))) hbwa; clear hbwa) | (go_at_call 59; refine (specOk_any _ _ _).mono ?_; rintro e wb ⟨rfl, hbwb⟩; have hzwb := hbwb.size; (try simp at hzwb); (try have hl0w_wb : w.heap.size < wb.heap.size := by omega); (try have hl1w_wb : w.heap.size + 1 < wb.heap.size := by omega); (try have hl2w_wb : w.heap.size + 1 + 1 < wb.heap.size := by omega); (try have hl3w_wb : w.heap.size + 1 + 1 + 1 < wb.heap.size := by omega); (first | (have hcw_wb : ∀ b o, b ≤ w.heap.size + 6 → wb.cell? ⟨b, o, none⟩ = _ := fun b o h => hbwb.cell (p := ⟨b, o, none⟩) (by first | omega | (simp; omega)); have hfw_wb : ∀ b o, b ≤ w.heap.size + 6 → wb.frozen? ⟨b, o, none⟩ = _ := fun b o h => hbwb.frozen (p := ⟨b, o, none⟩) (by first | omega | (simp; omega))) | (have hcw_wb : ∀ b o, b ≤ w.heap.size + 5 → wb.cell? ⟨b, o, none⟩ = _ := fun b o h => hbwb.cell (p := ⟨b, o, none⟩) (by first | omega | (simp; omega)); have hfw_wb : ∀ b o, b ≤ w.heap.size + 5 → wb.frozen? ⟨b, o, none⟩ = _ := fun b o h => hbwb.frozen (p := ⟨b, o, none⟩) (by first | omega | (simp; omega))) | (have hcw_wb : ∀ b o, b ≤ w.heap.size + 4 → wb.cell? ⟨b, o, none⟩ = _ := fun b o h => hbwb.cell (p := ⟨b, o, none⟩) (by first | omega | (simp; omega)); have hfw_wb : ∀ b o, b ≤ w.heap.size + 4 → wb.frozen? ⟨b, o, none⟩ = _ := fun b o h => hbwb.frozen (p := ⟨b, o, none⟩) (by first | omega | (simp; omega))) | (have hcw_wb : ∀ b o, b ≤ w.heap.size + 3 → wb.cell? ⟨b, o, none⟩ = _ := fun b o h => hbwb.cell (p := ⟨b, o, none⟩) (by first | omega | (simp; omega)); have hfw_wb : ∀ b o, b ≤ w.heap.size + 3 → wb.frozen? ⟨b, o, none⟩ = _ := fun b o h => hbwb.frozen (p := ⟨b, o, none⟩) (by first | omega | (simp; omega))) | (have hcw_wb : ∀ b o, b ≤ w.heap.size + 2 → wb.cell? ⟨b, o, none⟩ = _ := fun b o h => hbwb.cell (p := ⟨b, o, none⟩) (by first | omega | (simp; omega)); have hfw_wb : ∀ b o, b ≤ w.heap.size + 2 → wb.frozen? ⟨b, o, none⟩ = _ := fun b o h => hbwb.frozen (p := ⟨b, o, none⟩) (by first | omega | (simp; omega))) | (have hcw_wb : ∀ b o, b ≤ w.heap.size + 1 → wb.cell? ⟨b, o, none⟩ = _ := fun b o h => hbwb.cell (p := ⟨b, o, none⟩) (by first | omega | (simp; omega)); have hfw_wb : ∀ b o, b ≤ w.heap.size + 1 → wb.frozen? ⟨b, o, none⟩ = _ := fun b o h => hbwb.frozen (p := ⟨b, o, none⟩) (by first | omega | (simp; omega))) | (have hcw_wb : ∀ b o, b ≤ w.heap.size + 0 → wb.cell? ⟨b, o, none⟩ = _ := fun b o h => hbwb.cell (p := ⟨b, o, none⟩) (by first | omega | (simp; omega)); have hfw_wb : ∀ b o, b ≤ w.heap.size + 0 → wb.frozen? ⟨b, o, none⟩ = _ := fun b o h => hbwb.frozen (p := ⟨b, o, none⟩) (by first | omega | (simp; omega))) | skip); have hBwb : Below w.heap.size w wb := below_step hbwb (by first | omega | (simp; done) | (simp; omega)) (by repeat' (first | assumption | (with_reducible exact Below.refl _ _) | (with_reducible refine Below.drew ?_) | (with_reducible refine Below.alloc ?_ ?_ _) | (with_reducible refine Below.setCell ?_ ?_ _) | omega | (simp; done) | (simp; omega))); have hr_wb : RdI wb a zs := Rd.below (by repeat' (first | assumption | (with_reducible refine Rd.alloc ?_ _) | (with_reducible refine Rd.drew ?_))) hbwb; clear hbwb) | (go_at_call 48; refine (l03_any _ _ _ zs _ _ _ HZ.out h1 h2 (by repeat' (first | assumption | (with_reducible refine Rd.alloc ?_ _) | (with_reducible refine Rd.drew ?_)))).mono ?_; rintro e wc ⟨rfl, hbwc⟩; have hzwc := hbwc.size; (try simp at hzwc); (try have hl0w_wc : w.heap.size < wc.heap.size := by omega); (try have hl1w_wc : w.heap.size + 1 < wc.heap.size := by omega); (try have hl2w_wc : w.heap.size + 1 + 1 < wc.heap.size := by omega); (try have hl3w_wc : w.heap.size + 1 + 1 + 1 < wc.heap.size := by omega); (first | (have hcw_wc : ∀ b o, b ≤ w.heap.size + 6 → wc.cell? ⟨b, o, none⟩ = _ := fun b o h => hbwc.cell (p := ⟨b, o, none⟩) (by first | omega | (simp; omega)); have hfw_wc : ∀ b o, b ≤ w.heap.size + 6 → wc.frozen? ⟨b, o, none⟩ = _ := fun b o h => hbwc.frozen (p := ⟨b, o, none⟩) (by first | omega | (simp; omega))) | (have hcw_wc : ∀ b o, b ≤ w.heap.size + 5 → wc.cell? ⟨b, o, none⟩ = _ := fun b o h => hbwc.cell (p := ⟨b, o, none⟩) (by first | omega | (simp; omega)); have hfw_wc : ∀ b o, b ≤ w.heap.size + 5 → wc.frozen? ⟨b, o, none⟩ = _ := fun b o h => hbwc.frozen (p := ⟨b, o, none⟩) (by first | omega | (simp; omega))) | (have hcw_wc : ∀ b o, b ≤ w.heap.size + 4 → wc.cell? ⟨b, o, none⟩ = _ := fun b o h => hbwc.cell (p := ⟨b, o, none⟩) (by first | omega | (simp; omega)); have hfw_wc : ∀ b o, b ≤ w.heap.size + 4 → wc.frozen? ⟨b, o, none⟩ = _ := fun b o h => hbwc.frozen (p := ⟨b, o, none⟩) (by first | omega | (simp; omega))) | (have hcw_wc : ∀ b o, b ≤ w.heap.size + 3 → wc.cell? ⟨b, o, none⟩ = _ := fun b o h => hbwc.cell (p := ⟨b, o, none⟩) (by first | omega | (simp; omega)); have hfw_wc : ∀ b o, b ≤ w.heap.size + 3 → wc.frozen? ⟨b, o, none⟩ = _ := fun b o h => hbwc.frozen (p := ⟨b, o, none⟩) (by first | omega | (simp; omega))) | (have hcw_wc : ∀ b o, b ≤ w.heap.size + 2 → wc.cell? ⟨b, o, none⟩ = _ := fun b o h => hbwc.cell (p := ⟨b, o, none⟩) (by first | omega | (simp; omega)); have hfw_wc : ∀ b o, b ≤ w.heap.size + 2 → wc.frozen? ⟨b, o, none⟩ = _ := fun b o h => hbwc.frozen (p := ⟨b, o, none⟩) (by first | omega | (simp; omega))) | (have hcw_wc : ∀ b o, b ≤ w.heap.size + 1 → wc.cell? ⟨b, o, none⟩ = _ := fun b o h => hbwc.cell (p := ⟨b, o, none⟩) (by first | omega | (simp; omega)); have hfw_wc : ∀ b o, b ≤ w.heap.size + 1 → wc.frozen? ⟨b, o, none⟩ = _ := fun b o h => hbwc.frozen (p := ⟨b, o, none⟩) (by first | omega | (simp; omega))) | (have hcw_wc : ∀ b o, b ≤ w.heap.size + 0 → wc.cell? ⟨b, o, none⟩ = _ := fun b o h => hbwc.cell (p := ⟨b, o, none⟩) (by first | omega | (simp; omega)); have hfw_wc : ∀ b o, b ≤ w.heap.size + 0 → wc.frozen? ⟨b, o, none⟩ = _ := fun b o h => hbwc.frozen (p := ⟨b, o, none⟩) (by first | omega | (simp; omega))) | skip); have hBwc : Below w.heap.size w wc := below_step hbwc (by first | omega | (simp; done) | (simp; omega)) (by repeat' (first | assumption | (with_reducible exact Below.refl _ _) | (with_reducible refine Below.drew ?_) | (with_reducible refine Below.alloc ?_ ?_ _) | (with_reducible refine Below.setCell ?_ ?_ _) | omega | (simp; done) | (simp; omega))); clear hbwc))
      go_ret
      exact ⟨ret_b HB.out.symm, by repeat' (first | assumption | (with_reducible exact Below.refl _ _) | (with_reducible refine Below.drew ?_) | (with_reducible refine Below.alloc ?_ ?_ _) | (with_reducible refine Below.setCell ?_ ?_ _) | omega | (simp; done) | (simp; omega))⟩
    · have h2' : okB x y = false := by simpa using h2
      have HB : Hid (hcB zs x y = false) := Lib.hid ((hcB_yes h1).trans (hasB_no h2'))
      go_enter Try.func29, Try.ntmps29
      go_wp2_with (first | (go_at_call 26; refine (specRok_any _ _ _ zs _ HZ.out hn (by repeat' (first | assumption | (with_reducible refine Rd.alloc ?_ _) | (with_reducible refine Rd.drew ?_)))).mono ?_; rintro e wa ⟨rfl, hbwa⟩; have hzwa := hbwa.size; (try simp at hzwa); (try have hl0w_wa : w.heap.size < wa.heap.size := by omega); (try have hl1w_wa : w.heap.size + 1 < wa.heap.size := by omega); (try have hl2w_wa : w.heap.size + 1 + 1 < wa.heap.size := by omega); (try have hl3w_wa : w.heap.size + 1 + 1 + 1 < wa.heap.size := by omega); (first | (have hcw_wa : ∀ b o, b ≤ w.heap.size + 6 → wa.cell? ⟨b, o, none⟩ = _ := fun b o h => hbwa.cell (p := ⟨b, o, none⟩) (by first | omega | (simp; omega)); have hfw_wa : ∀ b o, b ≤ w.heap.size + 6 → wa.frozen? ⟨b, o, none⟩ = _ := fun b o h => hbwa.frozen (p := ⟨b, o, none⟩) (by first | omega | (simp; omega))) | (have hcw_wa : ∀ b o, b ≤ w.heap.size + 5 → wa.cell? ⟨b, o, none⟩ = _ := fun b o h => hbwa.cell (p := ⟨b, o, none⟩) (by first | omega | (simp; omega)); have hfw_wa : ∀ b o, b ≤ w.heap.size + 5 → wa.frozen? ⟨b, o, none⟩ = _ := fun b o h => hbwa.frozen (p := ⟨b, o, none⟩) (by first | omega | (simp; omega))) | (have hcw_wa : ∀ b o, b ≤ w.heap.size + 4 → wa.cell? ⟨b, o, none⟩ = _ := fun b o h => hbwa.cell (p := ⟨b, o, none⟩) (by first | omega | (simp; omega)); have hfw_wa : ∀ b o, b ≤ w.heap.size + 4 → wa.frozen? ⟨b, o, none⟩ = _ := fun b o h => hbwa.frozen (p := ⟨b, o, none⟩) (by first | omega | (simp; omega))) | (have hcw_wa : ∀ b o, b ≤ w.heap.size + 3 → wa.cell? ⟨b, o, none⟩ = _ := fun b o h => hbwa.cell (p := ⟨b, o, none⟩) (by first | omega | (simp; omega)); have hfw_wa : ∀ b o, b ≤ w.heap.size + 3 → wa.frozen? ⟨b, o, none⟩ = _ := fun b o h => hbwa.frozen (p := ⟨b, o, none⟩) (by first | omega | (simp; omega))) | (have hcw_wa : ∀ b o, b ≤ w.heap.size + 2 → wa.cell? ⟨b, o, none⟩ = _ := fun b o h => hbwa.cell (p := ⟨b, o, none⟩) (by first | omega | (simp; omega)); have hfw_wa : ∀ b o, b ≤ w.heap.size + 2 → wa.frozen? ⟨b, o, none⟩ = _ := fun b o h => hbwa.frozen (p := ⟨b, o, none⟩) (by first | omega | (simp; omega))) | (have hcw_wa : ∀ b o, b ≤ w.heap.size + 1 → wa.cell? ⟨b, o, none⟩ = _ := fun b o h => hbwa.cell (p := ⟨b, o, none⟩) (by first | omega | (simp; omega)); have hfw_wa : ∀ b o, b ≤ w.heap.size + 1 → wa.frozen? ⟨b, o, none⟩ = _ := fun b o h => hbwa.frozen (p := ⟨b, o, none⟩) (by first | omega | (simp; omega))) | (have hcw_wa : ∀ b o, b ≤ w.heap.size + 0 → wa.cell? ⟨b, o, none⟩ = _ := fun b o h => hbwa.cell (p := ⟨b, o, none⟩) (by first | omega | (simp; omega)); have hfw_wa : ∀ b o, b ≤ w.heap.size + 0 → wa.frozen? ⟨b, o, none⟩ = _ := fun b o h => hbwa.frozen (p := ⟨b, o, none⟩) (by first | omega | (simp; omega))) | skip); have hBwa : Below w.heap.size w wa := below_step hbwa (by first | omega | (simp; done) | (simp; omega)) (by repeat' (first | assumption | (with_reducible exact Below.refl _ _) | (with_reducible refine Below.drew ?_) | (with_reducible refine Below.alloc ?_ ?_ _) | (with_reducible refine Below.setCell ?_ ?_ _) | omega | (simp; done) | (simp; omega))); clear hbwa) | (go_at_call 59; refine (specOk_any _ _ _).mono ?_; rintro e wb ⟨rfl, hbwb⟩; have hzwb := hbwb.size; (try simp at hzwb); (try have hl0w_wb : w.heap.size < wb.heap.size := by omega); (try have hl1w_wb : w.heap.size + 1 < wb.heap.size := by omega); (try have hl2w_wb : w.heap.size + 1 + 1 < wb.heap.size := by omega); (try have hl3w_wb : w.heap.size + 1 + 1 + 1 < wb.heap.size := by omega); (first | (have hcw_wb : ∀ b o, b ≤ w.heap.size + 6 → wb.cell? ⟨b, o, none⟩ = _ := fun b o h => hbwb.cell (p := ⟨b, o, none⟩) (by first | omega | (simp; omega)); have hfw_wb : ∀ b o, b ≤ w.heap.size + 6 → wb.frozen? ⟨b, o, none⟩ = _ := fun b o h => hbwb.frozen (p := ⟨b, o, none⟩) (by first | omega | (simp; omega))) | (have hcw_wb : ∀ b o, b ≤ w.heap.size + 5 → wb.cell? ⟨b, o, none⟩ = _ := fun b o h => hbwb.cell (p := ⟨b, o, none⟩) (by first | omega | (simp; omega)); have hfw_wb : ∀ b o, b ≤ w.heap.size + 5 → wb.frozen? ⟨b, o, none⟩ = _ := fun b o h => hbwb.frozen (p := ⟨b, o, none⟩) (by first | omega | (simp; omega))) | (have hcw_wb : ∀ b o, b ≤ w.heap.size + 4 → wb.cell? ⟨b, o, none⟩ = _ := fun b o h => hbwb.cell (p := ⟨b, o, none⟩) (by first | omega | (simp; omega)); have hfw_wb : ∀ b o, b ≤ w.heap.size + 4 → wb.frozen? ⟨b, o, none⟩ = _ := fun b o h => hbwb.frozen (p := ⟨b, o, none⟩) (by first | omega | (simp; omega))) | (have hcw_wb : ∀ b o, b ≤ w.heap.size + 3 → wb.cell? ⟨b, o, none⟩ = _ := fun b o h => hbwb.cell (p := ⟨b, o, none⟩) (by first | omega | (simp; omega)); have hfw_wb : ∀ b o, b ≤ w.heap.size + 3 → wb.frozen? ⟨b, o, none⟩ = _ := fun b o h => hbwb.frozen (p := ⟨b, o, none⟩) (by first | omega | (simp; omega))) | (have hcw_wb : ∀ b o, b ≤ w.heap.size + 2 → wb.cell? ⟨b, o, none⟩ = _ := fun b o h => hbwb.cell (p := ⟨b, o, none⟩) (by first | omega | (simp; omega)); have hfw_wb : ∀ b o, b ≤ w.heap.size + 2 → wb.frozen? ⟨b, o, none⟩ = _ := fun b o h => hbwb.frozen (p := ⟨b, o, none⟩) (by first | omega | (simp; omega))) | (have hcw_wb : ∀ b o, b ≤ w.heap.size + 1 → wb.cell? ⟨b, o, none⟩ = _ := fun b o h => hbwb.cell (p := ⟨b, o, none⟩) (by first | omega | (simp; omega)); have hfw_wb : ∀ b o, b ≤ w.heap.size + 1 → wb.frozen? ⟨b, o, none⟩ = _ := fun b o h => hbwb.frozen (p := ⟨b, o, none⟩) (by first | omega | (simp; omega))) | (have hcw_wb : ∀ b o, b ≤ w.heap.size + 0 → wb.cell? ⟨b, o, none⟩ = _ := fun b o h => hbwb.cell (p := ⟨b, o, none⟩) (by first | omega | (simp; omega)); have hfw_wb : ∀ b o, b ≤ w.heap.size + 0 → wb.frozen? ⟨b, o, none⟩ = _ := fun b o h => hbwb.frozen (p := ⟨b, o, none⟩) (by first | omega | (simp; omega))) | skip); have hBwb : Below w.heap.size w wb := below_step hbwb (by first | omega | (simp; done) | (simp; omega)) (by repeat' (first | assumption | (with_reducible exact Below.refl _ _) | (with_reducible refine Below.drew ?_) | (with_reducible refine Below.alloc ?_ ?_ _) | (with_reducible refine Below.setCell ?_ ?_ _) | omega | (simp; done) | (simp; omega))); clear hbwb))
      go_ret
      exact ⟨ret_b HB.out.symm, by repeat' (first | assumption | (with_reducible exact Below.refl _ _) | (with_reducible refine Below.drew ?_) | (with_reducible refine Below.alloc ?_ ?_ _) | (with_reducible refine Below.setCell ?_ ?_ _) | omega | (simp; done) | (simp; omega))⟩
  · have h1' : rokB zs = false := by simpa using h1
    have HB := Lib.hid (hcB_no (x := x) (y := y) h1')
    go_enter Try.func29, Try.ntmps29
    go_wp2_with (go_at_call 26; refine (specRok_any _ _ _ zs _ HZ.out hn (by repeat' (first | assumption | (with_reducible refine Rd.alloc ?_ _) | (with_reducible refine Rd.drew ?_)))).mono ?_; rintro e wa ⟨rfl, hbwa⟩; have hzwa := hbwa.size; (try simp at hzwa); (try have hl0w_wa : w.heap.size < wa.heap.size := by omega); (try have hl1w_wa : w.heap.size + 1 < wa.heap.size := by omega); (try have hl2w_wa : w.heap.size + 1 + 1 < wa.heap.size := by omega); (try have hl3w_wa : w.heap.size + 1 + 1 + 1 < wa.heap.size := by omega); (first | (have hcw_wa : ∀ b o, b ≤ w.heap.size + 6 → wa.cell? ⟨b, o, none⟩ = _ := fun b o h => hbwa.cell (p := ⟨b, o, none⟩) (by first | omega | (simp; omega)); have hfw_wa : ∀ b o, b ≤ w.heap.size + 6 → wa.frozen? ⟨b, o, none⟩ = _ := fun b o h => hbwa.frozen (p := ⟨b, o, none⟩) (by first | omega | (simp; omega))) | (have hcw_wa : ∀ b o, b ≤ w.heap.size + 5 → wa.cell? ⟨b, o, none⟩ = _ := fun b o h => hbwa.cell (p := ⟨b, o, none⟩) (by first | omega | (simp; omega)); have hfw_wa : ∀ b o, b ≤ w.heap.size + 5 → wa.frozen? ⟨b, o, none⟩ = _ := fun b o h => hbwa.frozen (p := ⟨b, o, none⟩) (by first | omega | (simp; omega))) | (have hcw_wa : ∀ b o, b ≤ w.heap.size + 4 → wa.cell? ⟨b, o, none⟩ = _ := fun b o h => hbwa.cell (p := ⟨b, o, none⟩) (by first | omega | (simp; omega)); have hfw_wa : ∀ b o, b ≤ w.heap.size + 4 → wa.frozen? ⟨b, o, none⟩ = _ := fun b o h => hbwa.frozen (p := ⟨b, o, none⟩) (by first | omega | (simp; omega))) | (have hcw_wa : ∀ b o, b ≤ w.heap.size + 3 → wa.cell? ⟨b, o, none⟩ = _ := fun b o h => hbwa.cell (p := ⟨b, o, none⟩) (by first | omega | (simp; omega)); have hfw_wa : ∀ b o, b ≤ w.heap.size + 3 → wa.frozen? ⟨b, o, none⟩ = _ := fun b o h => hbwa.frozen (p := ⟨b, o, none⟩) (by first | omega | (simp; omega))) | (have hcw_wa : ∀ b o, b ≤ w.heap.size + 2 → wa.cell? ⟨b, o, none⟩ = _ := fun b o h => hbwa.cell (p := ⟨b, o, none⟩) (by first | omega | (simp; omega)); have hfw_wa : ∀ b o, b ≤ w.heap.size + 2 → wa.frozen? ⟨b, o, none⟩ = _ := fun b o h => hbwa.frozen (p := ⟨b, o, none⟩) (by first | omega | (simp; omega))) | (have hcw_wa : ∀ b o, b ≤ w.heap.size + 1 → wa.cell? ⟨b, o, none⟩ = _ := fun b o h => hbwa.cell (p := ⟨b, o, none⟩) (by first | omega | (simp; omega)); have hfw_wa : ∀ b o, b ≤ w.heap.size + 1 → wa.frozen? ⟨b, o, none⟩ = _ := fun b o h => hbwa.frozen (p := ⟨b, o, none⟩) (by first | omega | (simp; omega))) | (have hcw_wa : ∀ b o, b ≤ w.heap.size + 0 → wa.cell? ⟨b, o, none⟩ = _ := fun b o h => hbwa.cell (p := ⟨b, o, none⟩) (by first | omega | (simp; omega)); have hfw_wa : ∀ b o, b ≤ w.heap.size + 0 → wa.frozen? ⟨b, o, none⟩ = _ := fun b o h => hbwa.frozen (p := ⟨b, o, none⟩) (by first | omega | (simp; omega))) | skip); have hBwa : Below w.heap.size w wa := below_step hbwa (by first | omega | (simp; done) | (simp; omega)) (by repeat' (first | assumption | (with_reducible exact Below.refl _ _) | (with_reducible refine Below.drew ?_) | (with_reducible refine Below.alloc ?_ ?_ _) | (with_reducible refine Below.setCell ?_ ?_ _) | omega | (simp; done) | (simp; omega))); clear hbwa)
    go_ret
    exact ⟨ret_b HB.out.symm, by repeat' (first | assumption | (with_reducible exact Below.refl _ _) | (with_reducible refine Below.drew ?_) | (with_reducible refine Below.alloc ?_ ?_ _) | (with_reducible refine Below.setCell ?_ ?_ _) | omega | (simp; done) | (simp; omega))⟩
set_option maxHeartbeats 800000 in
set_option maxRecDepth 100000 in
theorem implHas_any (a : Option Addr) (n c : Nat) (zs : List Int) (x y : Int) (w : World) (hz : zs.length = n) (hn : n ≤ 1048576) (hr : RdI w a zs) :
    Calls Try.prog 50 #[.agg #[.slice a n c], .agg #[.int .i64 x, .int .i64 y]] w fun e w' => e = .returned (.bool (hcB zs x y)) ∧ Below w.heap.size w w' := by
  have HZ := Lib.hid hz
  clear hz
  by_cases h1 : rokB zs = true
  · have HB := Lib.hid (hcB_yes (x := x) (y := y) h1)
    have HS := Lib.hid (setS_lt h1)
    go_enter Try.func50, Try.ntmps50
    go_wp2_with fail
    refine hold_start (S := (fun w' => w'.cell? ⟨w.heap.size, 0, none⟩ = some (.slice a n c) ∧ w'.cell? ⟨w.heap.size + 1, 0, none⟩ = some (.int .i64 x) ∧ w'.cell? ⟨w.heap.size + 1, 1, none⟩ = some (.int .i64 y) ∧ RdI w' a zs ∧ Below w.heap.size w w' ∧ w.heap.size + 2 ≤ w'.heap.size)) (by kernel_rfl) (by kernel_rfl) (by intro _ _ d _ _ h; cases d <;> exact h) ?_ (fun hHC hH0 => ?_)
    · (first | (go_keep; done) | ((try go_split_ands); (repeat' apply And.intro) <;> first | assumption | (with_reducible refine Rd.below ?_ hb1; assumption) | (with_reducible refine Rd.drew ?_; repeat' (first | assumption | (with_reducible refine Rd.alloc ?_ _))) | (refine (hb1.cell (by first | omega | (simp; done) | (simp; omega))).trans ?_; first | assumption | simp) | (exact below_step hb1 (by first | omega | (simp; done) | (simp; omega)) (by assumption)) | (have hz' := hb1.size; (try simp at hz'); omega) | ((repeat' (first | assumption | (with_reducible exact Below.refl _ _) | (with_reducible refine Below.drew ?_) | (with_reducible refine Below.alloc ?_ ?_ _) | (with_reducible refine Below.setCell ?_ ?_ _) | omega | (simp; done) | (simp; omega))); done) | go_simp | (simp; done) | (simp; omega)))
    refine hold_plain 0 (v := ?_) hHC hH0 (by simp only [List.getElem?_toArray, List.getElem?_cons_succ, List.getElem?_cons_zero]; rfl) rfl (by kernel_rfl) ?_ ?_
    rotate_left 1
    · (intro w hSw; (try dsimp only at hSw); go_simp; try with_reducible rfl)
    try simp only [Act.put, List.setIfInBounds_toArray, List.set_cons_zero, List.set_cons_succ]
    refine hold_call0 1 (by simp only [List.getElem?_toArray, List.getElem?_cons_succ, List.getElem?_cons_zero]; rfl) rfl (by kernel_rfl) (fun K hK => ?_)
    go_simp
    obtain ⟨_, _, _, hs1, _, _⟩ := id hH0; (first | (go_at_call 37; refine (implRok_any _ _ _ zs _ HZ.out hn (by repeat' (first | assumption | (with_reducible refine Rd.alloc ?_ _) | (with_reducible refine Rd.drew ?_)))).mono ?_; rintro e w1 ⟨rfl, hb1⟩) | (go_at_call 38; refine (set_any _ _ _ zs _ HZ.out h1 (by repeat' (first | assumption | (with_reducible refine Rd.alloc ?_ _) | (with_reducible refine Rd.drew ?_)))).mono ?_; rintro e w1 ⟨rfl, hb1⟩) | (go_at_call 41; refine (has_any _ _ _ _ HS).mono ?_; rintro e w1 ⟨rfl, hb1⟩))
    refine hK.out _ _ ?_ (fun hH1 => ?_)
    · (first | (go_keep; done) | ((try go_split_ands); (repeat' apply And.intro) <;> first | assumption | (with_reducible refine Rd.below ?_ hb1; assumption) | (with_reducible refine Rd.drew ?_; repeat' (first | assumption | (with_reducible refine Rd.alloc ?_ _))) | (refine (hb1.cell (by first | omega | (simp; done) | (simp; omega))).trans ?_; first | assumption | simp) | (exact below_step hb1 (by first | omega | (simp; done) | (simp; omega)) (by assumption)) | (have hz' := hb1.size; (try simp at hz'); omega) | ((repeat' (first | assumption | (with_reducible exact Below.refl _ _) | (with_reducible refine Below.drew ?_) | (with_reducible refine Below.alloc ?_ ?_ _) | (with_reducible refine Below.setCell ?_ ?_ _) | omega | (simp; done) | (simp; omega))); done) | go_simp | (simp; done) | (simp; omega)))
    clear hK K hH0
    try simp only [Act.put, List.setIfInBounds_toArray, List.set_cons_zero, List.set_cons_succ]
    refine hold_plain 2 (v := ?_) hHC hH1 (by simp only [List.getElem?_toArray, List.getElem?_cons_succ, List.getElem?_cons_zero]; rfl) rfl (by kernel_rfl) ?_ ?_
    rotate_left 1
    · (intro w hSw; (try dsimp only at hSw); go_simp; try with_reducible rfl)
    try simp only [Act.put, List.setIfInBounds_toArray, List.set_cons_zero, List.set_cons_succ]
    refine hold_yes 3 (v := ?_) hHC hH1 (by simp only [List.getElem?_toArray, List.getElem?_cons_succ, List.getElem?_cons_zero]; rfl) rfl (by kernel_rfl) (by kernel_rfl) ?_ ?_
    rotate_left 1
    · (intro w hSw; (try dsimp only at hSw); go_simp; try with_reducible rfl)
    try simp only [Act.put, List.setIfInBounds_toArray, List.set_cons_zero, List.set_cons_succ]
    refine hold_yes 5 (v := ?_) hHC hH1 (by simp only [List.getElem?_toArray, List.getElem?_cons_succ, List.getElem?_cons_zero]; rfl) rfl (by kernel_rfl) (by kernel_rfl) ?_ ?_
    rotate_left 1
    · (intro w hSw; (try dsimp only at hSw); go_simp; try with_reducible rfl)
    try simp only [Act.put, List.setIfInBounds_toArray, List.set_cons_zero, List.set_cons_succ]
    refine hold_call1 4 (by simp only [List.getElem?_toArray, List.getElem?_cons_succ, List.getElem?_cons_zero]; rfl) rfl (by kernel_rfl) (by kernel_rfl) (fun K hK => ?_)
    go_simp
    obtain ⟨_, _, _, hs1, _, _⟩ := id hH1; (first | (go_at_call 37; refine (implRok_any _ _ _ zs _ HZ.out hn (by repeat' (first | assumption | (with_reducible refine Rd.alloc ?_ _) | (with_reducible refine Rd.drew ?_)))).mono ?_; rintro e w1 ⟨rfl, hb1⟩) | (go_at_call 38; refine (set_any _ _ _ zs _ HZ.out h1 (by repeat' (first | assumption | (with_reducible refine Rd.alloc ?_ _) | (with_reducible refine Rd.drew ?_)))).mono ?_; rintro e w1 ⟨rfl, hb1⟩) | (go_at_call 41; refine (has_any _ _ _ _ HS).mono ?_; rintro e w1 ⟨rfl, hb1⟩))
    refine hK.out _ _ ?_ (fun hH2 => ?_)
    · (first | (go_keep; done) | ((try go_split_ands); (repeat' apply And.intro) <;> first | assumption | (with_reducible refine Rd.below ?_ hb1; assumption) | (with_reducible refine Rd.drew ?_; repeat' (first | assumption | (with_reducible refine Rd.alloc ?_ _))) | (refine (hb1.cell (by first | omega | (simp; done) | (simp; omega))).trans ?_; first | assumption | simp) | (exact below_step hb1 (by first | omega | (simp; done) | (simp; omega)) (by assumption)) | (have hz' := hb1.size; (try simp at hz'); omega) | ((repeat' (first | assumption | (with_reducible exact Below.refl _ _) | (with_reducible refine Below.drew ?_) | (with_reducible refine Below.alloc ?_ ?_ _) | (with_reducible refine Below.setCell ?_ ?_ _) | omega | (simp; done) | (simp; omega))); done) | go_simp | (simp; done) | (simp; omega)))
    clear hK K hH1
    try simp only [Act.put, List.setIfInBounds_toArray, List.set_cons_zero, List.set_cons_succ]
    refine hold_call1 6 (by simp only [List.getElem?_toArray, List.getElem?_cons_succ, List.getElem?_cons_zero]; rfl) rfl (by kernel_rfl) (by kernel_rfl) (fun K hK => ?_)
    go_simp
    obtain ⟨_, _, _, hs1, _, _⟩ := id hH2; (first | (go_at_call 37; refine (implRok_any _ _ _ zs _ HZ.out hn (by repeat' (first | assumption | (with_reducible refine Rd.alloc ?_ _) | (with_reducible refine Rd.drew ?_)))).mono ?_; rintro e w1 ⟨rfl, hb1⟩) | (go_at_call 38; refine (set_any _ _ _ zs _ HZ.out h1 (by repeat' (first | assumption | (with_reducible refine Rd.alloc ?_ _) | (with_reducible refine Rd.drew ?_)))).mono ?_; rintro e w1 ⟨rfl, hb1⟩) | (go_at_call 41; refine (has_any _ _ _ _ HS).mono ?_; rintro e w1 ⟨rfl, hb1⟩))
    refine hK.out _ _ ?_ (fun hH3 => ?_)
    · (first | (go_keep; done) | ((try go_split_ands); (repeat' apply And.intro) <;> first | assumption | (with_reducible refine Rd.below ?_ hb1; assumption) | (with_reducible refine Rd.drew ?_; repeat' (first | assumption | (with_reducible refine Rd.alloc ?_ _))) | (refine (hb1.cell (by first | omega | (simp; done) | (simp; omega))).trans ?_; first | assumption | simp) | (exact below_step hb1 (by first | omega | (simp; done) | (simp; omega)) (by assumption)) | (have hz' := hb1.size; (try simp at hz'); omega) | ((repeat' (first | assumption | (with_reducible exact Below.refl _ _) | (with_reducible refine Below.drew ?_) | (with_reducible refine Below.alloc ?_ ?_ _) | (with_reducible refine Below.setCell ?_ ?_ _) | omega | (simp; done) | (simp; omega))); done) | go_simp | (simp; done) | (simp; omega)))
    clear hK K hH2
    try simp only [Act.put, List.setIfInBounds_toArray, List.set_cons_zero, List.set_cons_succ]
    refine hold_plain 7 (v := ?_) hHC hH3 (by simp only [List.getElem?_toArray, List.getElem?_cons_succ, List.getElem?_cons_zero]; rfl) rfl (by kernel_rfl) ?_ ?_
    rotate_left 1
    · (intro w hSw; (try dsimp only at hSw); go_simp; try with_reducible rfl)
    try simp only [Act.put, List.setIfInBounds_toArray, List.set_cons_zero, List.set_cons_succ]
    refine hold_plain 8 (v := ?_) hHC hH3 (by simp only [List.getElem?_toArray, List.getElem?_cons_succ, List.getElem?_cons_zero]; rfl) rfl (by kernel_rfl) ?_ ?_
    rotate_left 1
    · (intro w hSw; (try dsimp only at hSw); go_simp; try with_reducible rfl)
    try simp only [Act.put, List.setIfInBounds_toArray, List.set_cons_zero, List.set_cons_succ]
    refine wpAnyH_done (by kernel_rfl) ?_ _
    (try dsimp only at hH3)
    go_split_ands
    clear hHC
    go_wp2
    go_ret
    exact ⟨ret_b HB.out.symm, by repeat' (first | assumption | (with_reducible exact Below.refl _ _) | (with_reducible refine Below.drew ?_) | (with_reducible refine Below.alloc ?_ ?_ _) | (with_reducible refine Below.setCell ?_ ?_ _) | omega | (simp; done) | (simp; omega))⟩
  · have h1' : rokB zs = false := by simpa using h1
    have HB := Lib.hid (hcB_no (x := x) (y := y) h1')
    go_enter Try.func50, Try.ntmps50
    go_wp2_with fail
    refine hold_start (S := (fun w' => w'.cell? ⟨w.heap.size, 0, none⟩ = some (.slice a n c) ∧ w'.cell? ⟨w.heap.size + 1, 0, none⟩ = some (.int .i64 x) ∧ w'.cell? ⟨w.heap.size + 1, 1, none⟩ = some (.int .i64 y) ∧ RdI w' a zs ∧ Below w.heap.size w w' ∧ w.heap.size + 2 ≤ w'.heap.size)) (by kernel_rfl) (by kernel_rfl) (by intro _ _ d _ _ h; cases d <;> exact h) ?_ (fun hHC hH0 => ?_)
    · (first | (go_keep; done) | ((try go_split_ands); (repeat' apply And.intro) <;> first | assumption | (with_reducible refine Rd.below ?_ hb1; assumption) | (with_reducible refine Rd.drew ?_; repeat' (first | assumption | (with_reducible refine Rd.alloc ?_ _))) | (refine (hb1.cell (by first | omega | (simp; done) | (simp; omega))).trans ?_; first | assumption | simp) | (exact below_step hb1 (by first | omega | (simp; done) | (simp; omega)) (by assumption)) | (have hz' := hb1.size; (try simp at hz'); omega) | ((repeat' (first | assumption | (with_reducible exact Below.refl _ _) | (with_reducible refine Below.drew ?_) | (with_reducible refine Below.alloc ?_ ?_ _) | (with_reducible refine Below.setCell ?_ ?_ _) | omega | (simp; done) | (simp; omega))); done) | go_simp | (simp; done) | (simp; omega)))
    refine hold_plain 0 (v := ?_) hHC hH0 (by simp only [List.getElem?_toArray, List.getElem?_cons_succ, List.getElem?_cons_zero]; rfl) rfl (by kernel_rfl) ?_ ?_
    rotate_left 1
    · (intro w hSw; (try dsimp only at hSw); go_simp; try with_reducible rfl)
    try simp only [Act.put, List.setIfInBounds_toArray, List.set_cons_zero, List.set_cons_succ]
    refine hold_call0 1 (by simp only [List.getElem?_toArray, List.getElem?_cons_succ, List.getElem?_cons_zero]; rfl) rfl (by kernel_rfl) (fun K hK => ?_)
    go_simp
    obtain ⟨_, _, _, hs1, _, _⟩ := id hH0; (first | (go_at_call 37; refine (implRok_any _ _ _ zs _ HZ.out hn (by repeat' (first | assumption | (with_reducible refine Rd.alloc ?_ _) | (with_reducible refine Rd.drew ?_)))).mono ?_; rintro e w1 ⟨rfl, hb1⟩))
    refine hK.out _ _ ?_ (fun hH1 => ?_)
    · (first | (go_keep; done) | ((try go_split_ands); (repeat' apply And.intro) <;> first | assumption | (with_reducible refine Rd.below ?_ hb1; assumption) | (with_reducible refine Rd.drew ?_; repeat' (first | assumption | (with_reducible refine Rd.alloc ?_ _))) | (refine (hb1.cell (by first | omega | (simp; done) | (simp; omega))).trans ?_; first | assumption | simp) | (exact below_step hb1 (by first | omega | (simp; done) | (simp; omega)) (by assumption)) | (have hz' := hb1.size; (try simp at hz'); omega) | ((repeat' (first | assumption | (with_reducible exact Below.refl _ _) | (with_reducible refine Below.drew ?_) | (with_reducible refine Below.alloc ?_ ?_ _) | (with_reducible refine Below.setCell ?_ ?_ _) | omega | (simp; done) | (simp; omega))); done) | go_simp | (simp; done) | (simp; omega)))
    clear hK K hH0
    try simp only [Act.put, List.setIfInBounds_toArray, List.set_cons_zero, List.set_cons_succ]
    refine hold_plain 2 (v := ?_) hHC hH1 (by simp only [List.getElem?_toArray, List.getElem?_cons_succ, List.getElem?_cons_zero]; rfl) rfl (by kernel_rfl) ?_ ?_
    rotate_left 1
    · (intro w hSw; (try dsimp only at hSw); go_simp; try with_reducible rfl)
    try simp only [Act.put, List.setIfInBounds_toArray, List.set_cons_zero, List.set_cons_succ]
    refine hold_no 3 hHC hH1 (by simp only [List.getElem?_toArray, List.getElem?_cons_succ, List.getElem?_cons_zero]; rfl) rfl (by kernel_rfl) (by kernel_rfl) ?_
    try simp only [Act.put, List.setIfInBounds_toArray, List.set_cons_zero, List.set_cons_succ]
    refine hold_no 4 hHC hH1 (by simp only [List.getElem?_toArray, List.getElem?_cons_succ, List.getElem?_cons_zero]; rfl) rfl (by kernel_rfl) (by kernel_rfl) ?_
    try simp only [Act.put, List.setIfInBounds_toArray, List.set_cons_zero, List.set_cons_succ]
    refine hold_no 5 hHC hH1 (by simp only [List.getElem?_toArray, List.getElem?_cons_succ, List.getElem?_cons_zero]; rfl) rfl (by kernel_rfl) (by kernel_rfl) ?_
    try simp only [Act.put, List.setIfInBounds_toArray, List.set_cons_zero, List.set_cons_succ]
    refine hold_no 6 hHC hH1 (by simp only [List.getElem?_toArray, List.getElem?_cons_succ, List.getElem?_cons_zero]; rfl) rfl (by kernel_rfl) (by kernel_rfl) ?_
    try simp only [Act.put, List.setIfInBounds_toArray, List.set_cons_zero, List.set_cons_succ]
    refine hold_plain 7 (v := ?_) hHC hH1 (by simp only [List.getElem?_toArray, List.getElem?_cons_succ, List.getElem?_cons_zero]; rfl) rfl (by kernel_rfl) ?_ ?_
    rotate_left 1
    · (intro w hSw; (try dsimp only at hSw); go_simp; try with_reducible rfl)
    try simp only [Act.put, List.setIfInBounds_toArray, List.set_cons_zero, List.set_cons_succ]
    refine hold_plain 8 (v := ?_) hHC hH1 (by simp only [List.getElem?_toArray, List.getElem?_cons_succ, List.getElem?_cons_zero]; rfl) rfl (by kernel_rfl) ?_ ?_
    rotate_left 1
    · (intro w hSw; (try dsimp only at hSw); go_simp; try with_reducible rfl)
    try simp only [Act.put, List.setIfInBounds_toArray, List.set_cons_zero, List.set_cons_succ]
    refine wpAnyH_done (by kernel_rfl) ?_ _
    (try dsimp only at hH1)
    go_split_ands
    clear hHC
    go_wp2
    go_ret
    exact ⟨ret_b HB.out.symm, by repeat' (first | assumption | (with_reducible exact Below.refl _ _) | (with_reducible refine Below.drew ?_) | (with_reducible refine Below.alloc ?_ ?_ _) | (with_reducible refine Below.setCell ?_ ?_ _) | omega | (simp; done) | (simp; omega))⟩
end Go.Proofs.Ytghakmhglneckaa
