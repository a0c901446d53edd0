/-
  The program's number of pieces.
-/
import Derived.Test.YtghakmhglneckaaPcs
import Derived.Test.YtghakmhglneckaaCountB
namespace Go.Proofs.Ytghakmhglneckaa
open Go.RowKit Plain
set_option linter.unusedVariables false
set_option linter.unusedSimpArgs false

/-- The one without the other. -/
def remN (a b : Nat) : Nat := a &&& (18446744073709551615 - b)
theorem remN_bit {a b : Nat} (ha : a < 2 ^ 64) (hb : b < 2 ^ 64) (i : Nat) : (remN a b).testBit i = (a.testBit i && !b.testBit i) := by
  unfold remN
  rw [Nat.testBit_and]
  have e : 18446744073709551615 - b = 2 ^ 64 - (b + 1) := by rw [two64] at *; omega
  rw [e, Nat.testBit_two_pow_sub_succ hb]
  by_cases hi : i < 64
  · simp [hi]
  · have : a.testBit i = false := Nat.testBit_lt_two_pow (Nat.lt_of_lt_of_le ha (Nat.pow_le_pow_right (by omega) (by omega)))
    simp [this]
theorem remN_lt {a b : Nat} (ha : a < 2 ^ 64) : remN a b < 2 ^ 64 := Nat.lt_of_le_of_lt Nat.and_le_left ha
theorem u64_rem {a b : Nat} (ha : a < 2 ^ 64) (hb : b < 2 ^ 64) : bits .andNot .u64 (a : Int) (b : Int) = ((remN a b : Nat) : Int) := by
  rw [two64] at ha hb
  exact u64_andNot_nat a b ha hb
theorem implRok_valC (a : Option Addr) (n c : Nat) (zs : List Int) (w : World) (hz : zs.length = n) (hn : n ≤ 1048576) (hr : RdI w a zs) {b : Bool} (h : rokB zs = b) :
    Calls Try.prog 37 #[.agg #[.slice a n c]] w fun e w' => e = .returned (.bool b) ∧ Below w.heap.size w w' := by
  subst h
  exact implRok_any a n c zs w hz hn hr
/-- The number of pieces of a region. -/
def pcB (zs : List Int) : Nat := if rokB zs then pcN (setS zs) else 0
theorem pcN_le (S : Nat) : pcN S ≤ 64 := cnt_le _
theorem pcB_le (zs : List Int) : pcB zs ≤ 64 := by
  unfold pcB
  split
  · exact pcN_le _
  · omega
theorem first_cell {t : Nat} (ht : t < 2 ^ 64) (h : t ≠ 0) : ∃ c, c < 64 ∧ t.testBit c = true ∧ (cellsL t)[0]? = some (cellOf c) := by
  have hne : ((List.range 64).filter fun i => t.testBit i) ≠ [] := by
    intro he
    apply h
    apply Nat.eq_of_testBit_eq
    intro i
    rw [Nat.zero_testBit]
    by_cases hi : i < 64
    · have := List.filter_eq_nil_iff.1 he i (List.mem_range.2 hi)
      simpa using this
    · exact Nat.testBit_lt_two_pow (Nat.lt_of_lt_of_le ht (Nat.pow_le_pow_right (by omega) (by omega : 64 ≤ i)))
  obtain ⟨c, R, hR⟩ : ∃ c R, ((List.range 64).filter fun i => t.testBit i) = c :: R := by
    cases hL : ((List.range 64).filter fun i => t.testBit i) with
    | nil => exact absurd hL hne
    | cons c R => exact ⟨c, R, rfl⟩
  have hm : c ∈ ((List.range 64).filter fun i => t.testBit i) := by rw [hR]; simp
  rw [List.mem_filter, List.mem_range] at hm
  refine ⟨c, hm.1, hm.2, ?_⟩
  unfold cellsL cellsK
  rw [hR]
  rfl
set_option maxHeartbeats 1600000 in
set_option maxRecDepth 100000 in
theorem implPcs_any (a : Option Addr) (n c : Nat) (zs : List Int) (w : World) (hz : zs.length = n) (hn : n ≤ 1048576) (hr : RdI w a zs) :
    Calls Try.prog 14 #[.agg #[.slice a n c]] w fun e w' => e = .returned (.int .i64 (pcB zs : Int)) ∧ Below w.heap.size w w' := by
  have HZ := Lib.hid hz
  clear hz
  by_cases h1 : rokB zs = true
  · have HS := Lib.hid (fun (W : World) (h : RdI W a zs) => set_any a n c zs W HZ.out h1 h)
    have HE : Hid (pcB zs = pcN (setS zs)) := Lib.hid (by unfold pcB; rw [if_pos h1])
    have HOK := Lib.hid (fun (W : World) (h : RdI W a zs) => implRok_valC a n c zs W HZ.out hn h h1)
    have hS64 := Lib.hid (setS_lt h1)
    obtain ⟨S, hS⟩ : ∃ S, S = setS zs := ⟨_, rfl⟩
    rw [← hS] at HS HE hS64
    have hP64 := pcN_le S
    have HP0 := Lib.hid (Part.self S)
    have HL0 := Lib.hid (left_self S)
    obtain ⟨P, hP⟩ : ∃ P, P = pcN S := ⟨_, rfl⟩
    rw [← hP] at HE hP64 HL0
    clear hS hP h1
    go_enter Try.func14, Try.ntmps14
    go_wp2_with (go_at_call 37; fail)
    refine (HOK.out _ (by repeat' (first | assumption | (with_reducible refine Rd.alloc ?_ _) | (with_reducible refine Rd.drew ?_)))).mono ?_
    rintro e w1 ⟨rfl, hb⟩
    have hz1 := hb.size
    simp at hz1
    have hc1 : w1.cell? ⟨w.heap.size, 0, none⟩ = some (.slice a n c) := (hb.cell (p := ⟨w.heap.size, 0, none⟩) (by first | omega | (simp; done) | (simp; omega))).trans (by go_simp)
    have hr1 : RdI w1 a zs := Rd.below (by repeat' (first | assumption | (with_reducible refine Rd.alloc ?_ _) | (with_reducible refine Rd.drew ?_))) hb
    have hB1 : Below w.heap.size w w1 := below_step hb (by first | omega | (simp; done) | (simp; omega)) (by repeat' (first | assumption | (with_reducible exact Below.refl _ _) | (with_reducible refine Below.drew ?_) | (with_reducible refine Below.alloc ?_ ?_ _) | (with_reducible refine Below.setCell ?_ ?_ _) | omega | (simp; done) | (simp; omega)))
    clear hb hr
    go_wp2_with (go_at_call 38; fail)
    refine (HS.out _ hr1).mono ?_
    rintro e w2 ⟨rfl, hb⟩
    have hB2 : Below w.heap.size w w2 := below_step hb (by first | omega | (simp; done) | (simp; omega)) hB1
    clear hb hr1 hB1 hc1
    go_wp2_with fail
    go_loopg [3, 4] (P + 1) (fun g i s wr => ∃ k t : Nat, k ≤ P ∧ g = P + 1 - k ∧ i = .int .i64 k ∧ s = .int .u64 (t : Int) ∧ Hid (t < 2 ^ 64) ∧ Hid (Part S t) ∧ leftN S t + k = P ∧ Below w.heap.size w wr)
    case atStart => exact ⟨0, S, by omega, rfl, rfl, rfl, hS64, HP0, by rw [HL0.out]; rfl, hB2⟩
    case round =>
      obtain ⟨k, t, hk, hg, rfl, rfl, ht, hPt, hl, hB⟩ := hrel
      have hsz := hB.size
      by_cases h0 : t = 0
      · subst h0
        have hkP : k = P := by rw [left_zero] at hl; omega
        subst hkP
        go_wp2_with fail
        go_ret
        exact ⟨ret_i (by rw [HE.out]), hB⟩
      · obtain ⟨cc, hcc, htc, hfc⟩ := first_cell ht.out h0
        have HC := Lib.hid (fun W : World => cells_any t W ht)
        have htI : ¬ (t : Int) = 0 := by omega
        have hhas : hasB t (cellOf cc).1 (cellOf cc).2 = true := by rw [hasB_at hcc]; exact htc
        have HR := Lib.hid (fun W : World => reach_any t (cellOf cc).1 (cellOf cc).2 W ht hhas)
        obtain ⟨F, hF⟩ : ∃ F, F = cellsL t := ⟨_, rfl⟩
        rw [← hF] at HC hfc
        have HF := Lib.hid hfc
        have HTC := Lib.hid htc
        have hFl : 0 < F.length := by have := List.getElem?_eq_some_iff.1 hfc; exact this.1
        obtain ⟨cx, hcx⟩ : ∃ x, x = (cellOf cc).1 := ⟨_, rfl⟩
        obtain ⟨cy, hcy⟩ : ∃ y, y = (cellOf cc).2 := ⟨_, rfl⟩
        have HXY : Hid (cellOf cc = (cx, cy)) := Lib.hid (by rw [hcx, hcy])
        rw [← hcx, ← hcy] at HR
        clear hF hhas hcx hcy hfc htc
        go_wp2_with (go_at_call 45; fail)
        refine (HC.out _).mono ?_
        rintro e w3 ⟨a3, c3, rfl, hO, hb⟩
        have hB3 : Below w.heap.size w w3 := below_step hb (by first | omega | (simp; done) | (simp; omega)) hB
        have hsz3 := hB3.size
        obtain ⟨b9, o9, x9, y9, rfl, hbl9, hx9, hy9, hv9⟩ := RdC_at (Rd.of_own hO) hFl
        obtain ⟨rfl, rfl⟩ : x9 = cx ∧ y9 = cy := by
          have e1 := hv9.out
          rw [HF.out, HXY.out] at e1
          simpa using e1.symm
        clear hb hO hv9
        simp only [Nat.zero_mul, Nat.add_zero] at hx9 hy9
        go_wp2_with (go_at_call 44; fail)
        refine (HR.out _).mono ?_
        rintro e w4 ⟨O, rfl, hSO, hb⟩
        have hB4 : Below w.heap.size w w4 := below_step hb (by first | omega | (simp; done) | (simp; omega)) hB3
        have e1 := u64_rem ht.out hSO.1
        have hO64 := hSO.1
        have hstep := left_step hPt.out ht.out hcc HTC.out (O := O) (by rw [HXY.out]; exact hSO) (remN t O) (fun i _ => remN_bit ht.out hO64 i) (remN_lt ht.out)
        have HST := Lib.hid hstep.1
        have hl2 := hstep.2
        have HTT := Lib.hid (remN_lt (b := O) ht.out)
        obtain ⟨t2, ht2⟩ : ∃ t2, t2 = remN t O := ⟨_, rfl⟩
        rw [← ht2] at e1 HST hl2 HTT
        clear hstep ht2 hO64 hSO hb
        go_wp2_with fail
        go_roundg (P + 1 - (k + 1))
        case measure => omega
        case rel => exact ⟨k + 1, t2, by omega, rfl, by go_num, rfl, HTT, HST, by omega, hB4⟩
  · have h1' : rokB zs = false := by simpa using h1
    have HE : Hid (pcB zs = 0) := Lib.hid (by unfold pcB; rw [if_neg h1])
    have HOK := Lib.hid (fun (W : World) (h : RdI W a zs) => implRok_valC a n c zs W HZ.out hn h h1')
    clear h1 h1'
    go_enter Try.func14, Try.ntmps14
    go_wp2_with (go_at_call 37; fail)
    refine (HOK.out _ (by repeat' (first | assumption | (with_reducible refine Rd.alloc ?_ _) | (with_reducible refine Rd.drew ?_)))).mono ?_
    rintro e w1 ⟨rfl, hb⟩
    have hB1 : Below w.heap.size w w1 := below_step hb (by first | omega | (simp; done) | (simp; omega)) (by repeat' (first | assumption | (with_reducible exact Below.refl _ _) | (with_reducible refine Below.drew ?_) | (with_reducible refine Below.alloc ?_ ?_ _) | (with_reducible refine Below.setCell ?_ ?_ _) | omega | (simp; done) | (simp; omega)))
    clear hb hr
    go_wp2_with fail
    go_ret
    exact ⟨ret_i (by rw [HE.out]; rfl), hB1⟩
end Go.Proofs.Ytghakmhglneckaa
