/-
  The program's count by profiles.
-/
import Derived.Test.YtfjkjnhmlljefaaDpP
namespace Go.Proofs.Ytfjkjnhmlljefaa
open Go.RowKit
set_option linter.unusedVariables false
set_option linter.unusedSimpArgs false

theorem has_val (S : Nat) (x y : Int) (w : World) (hS : Hid (S < 2 ^ 64)) {b : Bool} (hb : hasB S x y = b) :
    Calls Try.prog 59 #[.int .u64 (S : Int), .agg #[.int .i64 x, .int .i64 y]] w fun e w' => e = .returned (.bool b) ∧ Below w.heap.size w w' := by
  subst hb
  exact has_any S x y w hS
theorem hasB_ok {S : Nat} {x y : Int} (h : hasB S x y = true) : (0 ≤ x ∧ x ≤ 7) ∧ 0 ≤ y ∧ y ≤ 7 := by
  unfold hasB at h
  rw [Bool.and_eq_true] at h
  exact okB_iff.1 h.1
theorem cellAt_val (k X Y : Nat) (w : World) (hk : k < 64) (hX : X = k % 8) (hY : Y = k / 8) : Calls Try.prog 70 #[.int .i64 (k : Int)] w fun e w' => e = .returned (.agg #[.int .i64 (X : Int), .int .i64 (Y : Int)]) ∧ Below w.heap.size w w' := by
  have h := cellAt_any (k : Int) w (by omega) (by omega)
  rw [show (k : Int) % 8 = (X : Int) by omega, show (k : Int) / 8 = (Y : Int) by omega] at h
  exact h
theorem withC_val (n : Int) (X Y : Nat) (d : Bool) (w : World) : Calls Try.prog 62 #[.int .i64 n, .agg #[.int .i64 (X : Int), .int .i64 (Y : Int), .bool d]] w fun e w' => e = .returned (.int .i64 n) ∧ Below w.heap.size w w' := by
  have h := withC_any n (X : Int) (Y : Int) d w
  rw [if_neg (by omega)] at h
  exact h
theorem withC_one (n y : Int) (d : Bool) (w : World) : Calls Try.prog 62 #[.int .i64 n, .agg #[.int .i64 (-1), .int .i64 y, .bool d]] w fun e w' => e = .returned (.int .i64 1) ∧ Below w.heap.size w w' := withC_any n (-1) y d w
set_option maxHeartbeats 12800000 in
set_option maxRecDepth 100000 in
theorem profile_any (Sn : Nat) (w : World) (HS64 : Hid (Sn < 2 ^ 64)) :
    Calls Try.prog 60 #[.int .u64 (Sn : Int), .int .i64 0, .func (.func 61) #[] #[], .func (.func 62) #[] #[]] w fun e w' => e = .returned (.int .i64 (dpCount (sxy Sn))) ∧ Below w.heap.size w w' := by
  obtain ⟨i0, hi, hz0, hz1, hz2⟩ := info_parts intInfo
  obtain ⟨S, hS⟩ : ∃ S, S = sxy Sn := ⟨_, rfl⟩
  have HS := Lib.hid hS
  obtain ⟨res, hres⟩ : ∃ res, res = dpCount (sxy Sn) := ⟨_, rfl⟩
  have HFin : Hid (∀ k, k = 64 → (dpAll S k).getD 0 0 = res) := Lib.hid (by intro k hk; rw [hres, hS, hk]; rfl)
  rw [← hres]
  clear hres hS
  go_enter Try.func60, Try.ntmps60
  go_wp2_with (at_make; refine wpList_make_full _ rfl _ _ 24 rfl (w.heap.size) 3 i0 (.int .i64 0) 1 Try.underlying24 hi hz0 hz1 _ _ _ _ 256 rfl rfl rfl rfl (by rw [hz2]; omega) (by unfold maxLen; omega) (by first | omega | (simp; done) | (simp; omega)) ?_; intro w0 hown0 hgrow0; go_must (rw [row_new] at hown0; have hRW : Hid (Row w0 w.heap.size (w.heap.size + 1 + 1) (List.replicate 256 0)) := Lib.hid (by simpa [Row] using hown0); have hG0 : Below (w.heap.size + 1 + 1) _ w0 := (Below.refl _ _).grown hgrow0 (by simp) (fun k h => by cases h); have hc0 : w0.cell? ⟨w.heap.size, 0, none⟩ = some (.int .i64 0) := (hG0.cell (p := ⟨w.heap.size, 0, none⟩) (by first | omega | (simp; done) | (simp; omega))).trans (by go_simp); have hc1 : w0.cell? ⟨w.heap.size + 1, 0, none⟩ = some (.func (.func 61) #[] #[]) := (hG0.cell (p := ⟨w.heap.size + 1, 0, none⟩) (by first | omega | (simp; done) | (simp; omega))).trans (by go_simp); have hB : Below w.heap.size w w0 := (by refine Below.trans ?_ (hG0.mono (by omega)); exact by repeat' (first | assumption | (with_reducible exact Below.refl _ _) | (with_reducible refine Below.drew ?_) | (with_reducible refine Below.alloc ?_ ?_ _) | (with_reducible refine Below.setCell ?_ ?_ _) | omega | (simp; done) | (simp; omega))); have hs0 : w.heap.size + 1 + 1 < w0.heap.size := (Row.lt hRW.out).2); clear hown0 hgrow0 hG0)
  have hmf : ∀ (fn : Fn) (first cap : Array Value) (w : World), (Instr.makeFunc fn first cap).run Try.prog w = .ok (.func fn first cap) w := fun _ _ _ _ => rfl
  go_loopw [22] (fun i wr => ∃ k : Nat, k ≤ 256 ∧ i = .int .i64 k ∧ Hid (Row wr w.heap.size (w.heap.size + 1 + 1) (List.replicate 256 0)) ∧ wr.cell? ⟨w.heap.size, 0, none⟩ = some (.int .i64 0) ∧ wr.cell? ⟨w.heap.size + 1, 0, none⟩ = some (.func (.func 61) #[] #[]) ∧ Below w.heap.size w wr) (fun i _ => 256 - (intOf i).toNat)
  case atStart => exact ⟨0, by omega, rfl, hRW, hc0, hc1, hB⟩
  case round =>
    clear hRW hc0 hc1 hB
    obtain ⟨k, hk, rfl, hRW, hc0, hc1, hB⟩ := hrel
    have hgl := (Row.lt hRW.out).2
    have hgl1 : w.heap.size < wr.heap.size := by omega
    have hgl2 : w.heap.size + 1 < wr.heap.size := by omega
    by_cases hlt : k < 256
    · obtain ⟨hcN, hfN⟩ := Row.at_ hRW.out hlt
      have hkI : (k : Int) < 256 := by omega
      go_wp2
      go_roundw
      case rel => exact ⟨k + 1, by omega, by go_num, Lib.hid (by have := Row.set_ hRW.out k 0; rwa [zero_set] at this), by go_simp, by go_simp, by repeat' (first | assumption | (with_reducible exact Below.refl _ _) | (with_reducible refine Below.drew ?_) | (with_reducible refine Below.alloc ?_ ?_ _) | (with_reducible refine Below.setCell ?_ ?_ _) | omega | (simp; done) | (simp; omega))⟩
      case measure => simp [intOf]; omega
    · go_wp2_with (go_at_call 62; fail)
      refine (withC_one _ _ _ _).mono ?_
      rintro e wb ⟨rfl, hb⟩
      replace hc0 : wb.cell? ⟨w.heap.size, 0, none⟩ = some (.int .i64 0) := (hb.cell (p := ⟨w.heap.size, 0, none⟩) (by first | omega | (simp; done) | (simp; omega))).trans (by first | exact hc0 | go_simp)
      replace hc1 : wb.cell? ⟨w.heap.size + 1, 0, none⟩ = some (.func (.func 61) #[] #[]) := (hb.cell (p := ⟨w.heap.size + 1, 0, none⟩) (by first | omega | (simp; done) | (simp; omega))).trans (by first | exact hc1 | go_simp)
      replace hRW := Lib.hid (Row.below hRW.out hb)
      replace hB : Below w.heap.size w wb := below_step hb (by first | omega | (simp; done) | (simp; omega)) hB
      have hgb0 := (Row.lt hRW.out).2
      clear hb
      obtain ⟨hcN, hfN⟩ := Row.at_ hRW.out (k := 0) (by omega)
      go_wp2_with fail
      have hR1 : Hid (Row (wb.setCell ⟨w.heap.size + 1 + 1, 0, none⟩ (.int .i64 1)) w.heap.size (w.heap.size + 1 + 1) (dpAll S 0)) := Lib.hid (Row.set_ hRW.out 0 1)
      go_loopw [9, 36] (fun nv i wr => ∃ (k g : Nat), k ≤ 64 ∧ i = .int .i64 k ∧ nv = .slice (some ⟨g, 0, none⟩) 256 256 ∧ Hid (Row wr w.heap.size g (dpAll S k)) ∧ wr.cell? ⟨w.heap.size, 0, none⟩ = some (.int .i64 0) ∧ wr.cell? ⟨w.heap.size + 1, 0, none⟩ = some (.func (.func 61) #[] #[]) ∧ Below w.heap.size w wr ∧ w.heap.size + 2 ≤ wr.heap.size) (fun _ i _ => 64 - (intOf i).toNat)
      case atStart => exact ⟨0, _, by omega, rfl, rfl, hR1, by go_simp, by go_simp, Below.setCell hB (by first | omega | (simp; done) | (simp; omega)) _, by simp; omega⟩
      case round =>
        clear hR1 hRW hc0 hc1 hB hcN hfN hgb0 hgl hgl1 hgl2
        obtain ⟨k, g, hk, rfl, rfl, hRW, hc0, hc1, hB, hs⟩ := hrel
        obtain ⟨ways, hways⟩ : ∃ ways, ways = dpAll S k := ⟨_, rfl⟩
        have HWA := Lib.hid hways
        rw [← hways] at hRW
        have hwl : ways.length = 256 := by rw [hways]; exact dpAll_length _ _
        have HFit : Hid (Fits ways) := Lib.hid (by rw [hways]; exact fits_all _ _)
        clear hways
        have hgb := Row.lt hRW.out
        have hgl1 : w.heap.size < wr.heap.size := by omega
        have hgl2 : w.heap.size + 1 < wr.heap.size := by omega
        by_cases hlt : k < 64
        · obtain ⟨X, hX⟩ : ∃ X : Nat, X = k % 8 := ⟨_, rfl⟩
          obtain ⟨Y, hY⟩ : ∃ Y : Nat, Y = k / 8 := ⟨_, rfl⟩
          have hX8 : X < 8 := by omega
          have hY8 : Y < 8 := by omega
          have HAt := Lib.hid (fun W : World => cellAt_val k X Y W hlt hX hY)
          have HXY : Hid (k % 8 = X ∧ k / 8 = Y) := Lib.hid ⟨hX.symm, hY.symm⟩
          obtain ⟨P, hP⟩ : ∃ P : Nat, P = 2 ^ X := ⟨_, rfl⟩
          have HPn := Lib.hid hP
          have hPb : P < 256 := by rw [hP]; exact Nat.lt_of_lt_of_le (Nat.pow_lt_pow_right (by omega) hX8) (by decide)
          have hP0 : 0 < P := by rw [hP]; exact Nat.pos_of_ne_zero (by simp)
          have eP : IntKind.i64.wrap ((2 : Int) ^ X) = (P : Int) := by rw [hP]; exact i64_pow (by omega)
          have HPZ : Hid ((P : Int) = 2 ^ X) := Lib.hid (by rw [hP]; simp)
          clear hX hY hP
          go_wp2_with (go_at_call 70; fail)
          refine (HAt.out _).mono ?_
          rintro e wc ⟨rfl, hb⟩
          replace hc0 : wc.cell? ⟨w.heap.size, 0, none⟩ = some (.int .i64 0) := (hb.cell (p := ⟨w.heap.size, 0, none⟩) (by first | omega | (simp; done) | (simp; omega))).trans (by first | exact hc0 | go_simp)
          replace hc1 : wc.cell? ⟨w.heap.size + 1, 0, none⟩ = some (.func (.func 61) #[] #[]) := (hb.cell (p := ⟨w.heap.size + 1, 0, none⟩) (by first | omega | (simp; done) | (simp; omega))).trans (by first | exact hc1 | go_simp)
          replace hRW := Lib.hid (Row.below hRW.out hb)
          replace hB : Below w.heap.size w wc := below_step hb (by first | omega | (simp; done) | (simp; omega)) hB
          have hzc := hb.size
          have hgc : g < wc.heap.size := by omega
          have hwc1 : w.heap.size < wc.heap.size := by omega
          have hwc2 : w.heap.size + 1 < wc.heap.size := by omega
          clear hb
          go_wp2_with (at_make; refine wpList_make_full _ rfl _ _ 24 rfl (w.heap.size) 3 i0 (.int .i64 0) 1 Try.underlying24 hi hz0 hz1 _ _ _ _ 256 rfl rfl rfl rfl (by rw [hz2]; omega) (by unfold maxLen; omega) (by first | omega | (simp; done) | (simp; omega)) ?_; intro wn hown0 hgrow0)
          rw [row_new] at hown0
          have hRN : Hid (Row wn w.heap.size (wc.heap.size + 1) (List.replicate 256 0)) := Lib.hid (by simpa [Row] using hown0)
          have hb : Below (wc.heap.size + 1) (wc.alloc (.cells #[.int .i64 X, .int .i64 Y] 49)) wn := (Below.refl _ _).grown hgrow0 (by simp) (fun k h => by cases h)
          replace hRW : Hid (Row wn w.heap.size g ways) := Lib.hid (Row.below (Row.alloc hRW.out _) (by simpa using hb))
          have hcx : wn.cell? ⟨wc.heap.size, 0, none⟩ = some (.int .i64 X) := (hb.cell (p := ⟨wc.heap.size, 0, none⟩) (by first | omega | (simp; done) | (simp; omega))).trans (by go_simp)
          have hcy : wn.cell? ⟨wc.heap.size, 1, none⟩ = some (.int .i64 Y) := (hb.cell (p := ⟨wc.heap.size, 1, none⟩) (by first | omega | (simp; done) | (simp; omega))).trans (by go_simp)
          replace hc0 : wn.cell? ⟨w.heap.size, 0, none⟩ = some (.int .i64 0) := (hb.cell (p := ⟨w.heap.size, 0, none⟩) (by first | omega | (simp; done) | (simp; omega))).trans (by go_simp)
          replace hc1 : wn.cell? ⟨w.heap.size + 1, 0, none⟩ = some (.func (.func 61) #[] #[]) := (hb.cell (p := ⟨w.heap.size + 1, 0, none⟩) (by first | omega | (simp; done) | (simp; omega))).trans (by go_simp)
          replace hB : Below w.heap.size w wn := (hB.alloc (by omega) _).trans (hb.mono (by omega))
          have hmn : wc.heap.size + 1 < wn.heap.size := (Row.lt hRN.out).2
          clear hown0 hgrow0 hb hs hgb hgl1 hgl2 hzc
          have hwn1 : w.heap.size < wn.heap.size := by omega
          have hwn2 : w.heap.size + 1 < wn.heap.size := by omega
          have hwn3 : wc.heap.size < wn.heap.size := by omega
          have hne0 : ¬ w.heap.size = wc.heap.size := by omega
          have hne1 : ¬ w.heap.size = wc.heap.size + 1 := by omega
          have hne2 : ¬ w.heap.size = wn.heap.size := by omega
          have hne3 : ¬ w.heap.size + 1 = wc.heap.size := by omega
          have hne4 : ¬ w.heap.size + 1 = wc.heap.size + 1 := by omega
          have hne5 : ¬ w.heap.size + 1 = wn.heap.size := by omega
          have hne6 : ¬ wc.heap.size = w.heap.size := by omega
          have hne7 : ¬ wc.heap.size = w.heap.size + 1 := by omega
          have hne8 : ¬ wc.heap.size = wn.heap.size := by omega
          have hne9 : ¬ wc.heap.size + 1 = w.heap.size := by omega
          have hne10 : ¬ wc.heap.size + 1 = w.heap.size + 1 := by omega
          have hne11 : ¬ wc.heap.size + 1 = wn.heap.size := by omega
          have hne12 : ¬ wn.heap.size = w.heap.size := by omega
          have hne13 : ¬ wn.heap.size = w.heap.size + 1 := by omega
          have hne14 : ¬ wn.heap.size = wc.heap.size := by omega
          have hne15 : ¬ wn.heap.size = wc.heap.size + 1 := by omega
          go_wp2_with fail
          have hcn : (wn.alloc (.cells #[.slice (some ⟨wc.heap.size + 1, 0, none⟩) 256 256] 24)).cell? ⟨wn.heap.size, 0, none⟩ = some (.slice (some ⟨wc.heap.size + 1, 0, none⟩) 256 256) := by go_simp
          go_loopw [44] (fun i wr => ∃ m : Nat, m ≤ 256 ∧ i = .int .i64 m ∧ Hid (Row wr w.heap.size (wc.heap.size + 1) (List.replicate 256 0)) ∧ Hid (Row wr w.heap.size g ways) ∧ wr.cell? ⟨w.heap.size, 0, none⟩ = some (.int .i64 0) ∧ wr.cell? ⟨w.heap.size + 1, 0, none⟩ = some (.func (.func 61) #[] #[]) ∧ wr.cell? ⟨wc.heap.size, 0, none⟩ = some (.int .i64 X) ∧ wr.cell? ⟨wc.heap.size, 1, none⟩ = some (.int .i64 Y) ∧ wr.cell? ⟨wn.heap.size, 0, none⟩ = some (.slice (some ⟨wc.heap.size + 1, 0, none⟩) 256 256) ∧ Below w.heap.size w wr ∧ wn.heap.size + 1 ≤ wr.heap.size) (fun i _ => 256 - (intOf i).toNat)
          case atStart => exact ⟨0, by omega, rfl, Lib.hid (Row.alloc hRN.out _), Lib.hid (Row.alloc hRW.out _), by go_simp, by go_simp, by go_simp, by go_simp, by go_simp, by repeat' (first | assumption | (with_reducible exact Below.refl _ _) | (with_reducible refine Below.drew ?_) | (with_reducible refine Below.alloc ?_ ?_ _) | (with_reducible refine Below.setCell ?_ ?_ _) | omega | (simp; done) | (simp; omega)), by simp⟩
          case round =>
            clear hRN hRW hc0 hc1 hcx hcy hcn hB
            obtain ⟨m, hm, rfl, hRN, hRW, hc0, hc1, hcx, hcy, hcn, hB, hs⟩ := hrel
            by_cases hlt2 : m < 256
            · obtain ⟨hcN, hfN⟩ := Row.at_ hRN.out hlt2
              have hkI : (m : Int) < 256 := by omega
              go_wp2
              go_roundw
              case rel => exact ⟨m + 1, by omega, by go_num, Lib.hid (by have := Row.set_ hRN.out m 0; rwa [zero_set] at this), Lib.hid (Row.far hRW.out (by first | omega | (simp; done) | (simp; omega)) _), by go_simp, by go_simp, by go_simp, by go_simp, by go_simp, by repeat' (first | assumption | (with_reducible exact Below.refl _ _) | (with_reducible refine Below.drew ?_) | (with_reducible refine Below.alloc ?_ ?_ _) | (with_reducible refine Below.setCell ?_ ?_ _) | omega | (simp; done) | (simp; omega)), by simpa using hs⟩
              case measure => simp [intOf]; omega
            · go_wp2_with fail
              go_loopw [58] (fun s wr => ∃ (j : Nat) (l : List Int), j ≤ 256 ∧ s = .int .i64 j ∧ Hid (Row wr w.heap.size (wc.heap.size + 1) l) ∧ Hid (Row wr w.heap.size g ways) ∧ Hid (l = dpTo S X Y ways j) ∧ wr.cell? ⟨w.heap.size, 0, none⟩ = some (.int .i64 0) ∧ wr.cell? ⟨w.heap.size + 1, 0, none⟩ = some (.func (.func 61) #[] #[]) ∧ wr.cell? ⟨wc.heap.size, 0, none⟩ = some (.int .i64 X) ∧ wr.cell? ⟨wc.heap.size, 1, none⟩ = some (.int .i64 Y) ∧ wr.cell? ⟨wn.heap.size, 0, none⟩ = some (.slice (some ⟨wc.heap.size + 1, 0, none⟩) 256 256) ∧ Below w.heap.size w wr ∧ wn.heap.size + 1 ≤ wr.heap.size) (fun s _ => 256 - (intOf s).toNat)
              case atStart => exact ⟨0, _, by omega, rfl, hRN, hRW, Lib.hid (dpTo_zero _ _ _ _).symm, hc0, hc1, hcx, hcy, hcn, hB, hs⟩
              case round =>
                clear hRN hRW hc0 hc1 hcx hcy hcn hB hs
                obtain ⟨j, l, hj0, rfl, hRN, hRW, hL, hc0, hc1, hcx, hcy, hcn, hB, hs⟩ := hrel
                by_cases hj : j < 256
                · obtain ⟨v, hv⟩ : ∃ v, ways.getD j 0 = v := ⟨_, rfl⟩
                  obtain ⟨hcW, -⟩ := Row.at_ hRW.out (k := j) hj
                  rw [hv] at hcW
                  have HV := Lib.hid hv
                  have HF : Hid (-9223372036854775808 ≤ v ∧ v ≤ 9223372036854775807) := Lib.hid (by rw [← hv]; exact fits_at HFit.out (by rw [hwl]; exact hj))
                  clear hv
                  have hj2 : (j : Int) < 256 := by omega
                  by_cases hn0 : v = 0
                  · subst hn0
                    go_wp2
                    go_roundw
                    case rel => exact ⟨j + 1, l, by omega, by go_num, hRN, hRW, Lib.hid (by rw [dpTo_succ, HV.out, ← hL.out, dp_zero]), hc0, hc1, hcx, hcy, hcn, hB, hs⟩
                    case measure => simp [intOf]; omega
                  · have t1 : (v == 0) = false := by rw [beq_eq_false_iff_ne]; exact hn0
                    rcases Bool.eq_false_or_eq_true (hasB Sn (X : Int) (Y : Int)) with hs0 | hs0
                    · have HHas := Lib.hid (fun W : World => has_val Sn (X : Int) (Y : Int) W HS64 hs0)
                      have HSt : Hid (S X Y = true) := Lib.hid (by rw [HS.out]; simpa [sxy] using hs0)
                      clear hs0
                      by_cases hc : j.testBit X = true
                      · have e2 : bits .and .i64 (j : Int) (P : Int) = (P : Int) := by rw [HPn.out, and_pow hj hX8, hc]; rfl
                        have e2b : bits .and .i64 (j : Int) (2 ^ X) = (P : Int) := by rw [← HPZ.out]; exact e2
                        have hPj := small_sub hc
                        obtain ⟨f, hf⟩ : ∃ f, f = j - 2 ^ X := ⟨_, rfl⟩
                        have en : bits .andNot .i64 (j : Int) (P : Int) = (f : Int) := by rw [HPn.out, i64_andnot_small hj hX8, hc, hf]; rfl
                        have enb : bits .andNot .i64 (j : Int) (2 ^ X) = (f : Int) := by rw [← HPZ.out]; exact en
                        have hf256 : f < 256 := by rw [hf]; exact Nat.lt_of_le_of_lt (Nat.sub_le _ _) hj
                        have HFJ := Lib.hid hf
                        clear hf
                        go_wp2_with (go_at_call 59; fail)
                        refine (HHas.out _).mono ?_
                        rintro e wa ⟨rfl, hb⟩
                        replace hc0 : wa.cell? ⟨w.heap.size, 0, none⟩ = some (.int .i64 0) := (hb.cell (p := ⟨w.heap.size, 0, none⟩) (by first | omega | (simp; done) | (simp; omega))).trans (by first | exact hc0 | go_simp)
                        replace hc1 : wa.cell? ⟨w.heap.size + 1, 0, none⟩ = some (.func (.func 61) #[] #[]) := (hb.cell (p := ⟨w.heap.size + 1, 0, none⟩) (by first | omega | (simp; done) | (simp; omega))).trans (by first | exact hc1 | go_simp)
                        replace hcx : wa.cell? ⟨wc.heap.size, 0, none⟩ = some (.int .i64 X) := (hb.cell (p := ⟨wc.heap.size, 0, none⟩) (by first | omega | (simp; done) | (simp; omega))).trans (by first | exact hcx | go_simp)
                        replace hcy : wa.cell? ⟨wc.heap.size, 1, none⟩ = some (.int .i64 Y) := (hb.cell (p := ⟨wc.heap.size, 1, none⟩) (by first | omega | (simp; done) | (simp; omega))).trans (by first | exact hcy | go_simp)
                        replace hcn : wa.cell? ⟨wn.heap.size, 0, none⟩ = some (.slice (some ⟨wc.heap.size + 1, 0, none⟩) 256 256) := (hb.cell (p := ⟨wn.heap.size, 0, none⟩) (by first | omega | (simp; done) | (simp; omega))).trans (by first | exact hcn | go_simp)
                        replace hRN := Lib.hid (Row.below hRN.out hb)
                        replace hRW := Lib.hid (Row.below hRW.out hb)
                        replace hB : Below w.heap.size w wa := below_step hb (by first | omega | (simp; done) | (simp; omega)) hB
                        replace hs : wn.heap.size + 1 ≤ wa.heap.size := by have := hb.size; omega
                        clear hb
                        go_wp2_with (go_at_call 59; fail)
                        refine (HHas.out _).mono ?_
                        rintro e wb ⟨rfl, hb⟩
                        replace hc0 : wb.cell? ⟨w.heap.size, 0, none⟩ = some (.int .i64 0) := (hb.cell (p := ⟨w.heap.size, 0, none⟩) (by first | omega | (simp; done) | (simp; omega))).trans (by first | exact hc0 | go_simp)
                        replace hc1 : wb.cell? ⟨w.heap.size + 1, 0, none⟩ = some (.func (.func 61) #[] #[]) := (hb.cell (p := ⟨w.heap.size + 1, 0, none⟩) (by first | omega | (simp; done) | (simp; omega))).trans (by first | exact hc1 | go_simp)
                        replace hcx : wb.cell? ⟨wc.heap.size, 0, none⟩ = some (.int .i64 X) := (hb.cell (p := ⟨wc.heap.size, 0, none⟩) (by first | omega | (simp; done) | (simp; omega))).trans (by first | exact hcx | go_simp)
                        replace hcy : wb.cell? ⟨wc.heap.size, 1, none⟩ = some (.int .i64 Y) := (hb.cell (p := ⟨wc.heap.size, 1, none⟩) (by first | omega | (simp; done) | (simp; omega))).trans (by first | exact hcy | go_simp)
                        replace hcn : wb.cell? ⟨wn.heap.size, 0, none⟩ = some (.slice (some ⟨wc.heap.size + 1, 0, none⟩) 256 256) := (hb.cell (p := ⟨wn.heap.size, 0, none⟩) (by first | omega | (simp; done) | (simp; omega))).trans (by first | exact hcn | go_simp)
                        replace hRN := Lib.hid (Row.below hRN.out hb)
                        replace hRW := Lib.hid (Row.below hRW.out hb)
                        replace hB : Below w.heap.size w wb := below_step hb (by first | omega | (simp; done) | (simp; omega)) hB
                        replace hs : wn.heap.size + 1 ≤ wb.heap.size := by have := hb.size; omega
                        clear hb
                        go_wp2_with (go_at_call 72; fail)
                        obtain ⟨hcN, hfN⟩ := Row.at_ hRN.out (k := f) (by omega)
                        refine (put_any (wn.heap.size) (w.heap.size) (w.heap.size + 1) (wc.heap.size + 1) f _ v wb (by omega) hcn hc0 hc1 hcN hfN (by omega) (by omega) (by omega) (by omega) (by omega) HF.out).mono ?_
                        rintro e _ ⟨rfl, W1, hb, rfl⟩
                        clear hcN hfN
                        replace hc0 : W1.cell? ⟨w.heap.size, 0, none⟩ = some (.int .i64 0) := (hb.cell (p := ⟨w.heap.size, 0, none⟩) (by first | omega | (simp; done) | (simp; omega))).trans (by first | exact hc0 | go_simp)
                        replace hc1 : W1.cell? ⟨w.heap.size + 1, 0, none⟩ = some (.func (.func 61) #[] #[]) := (hb.cell (p := ⟨w.heap.size + 1, 0, none⟩) (by first | omega | (simp; done) | (simp; omega))).trans (by first | exact hc1 | go_simp)
                        replace hcx : W1.cell? ⟨wc.heap.size, 0, none⟩ = some (.int .i64 X) := (hb.cell (p := ⟨wc.heap.size, 0, none⟩) (by first | omega | (simp; done) | (simp; omega))).trans (by first | exact hcx | go_simp)
                        replace hcy : W1.cell? ⟨wc.heap.size, 1, none⟩ = some (.int .i64 Y) := (hb.cell (p := ⟨wc.heap.size, 1, none⟩) (by first | omega | (simp; done) | (simp; omega))).trans (by first | exact hcy | go_simp)
                        replace hcn : W1.cell? ⟨wn.heap.size, 0, none⟩ = some (.slice (some ⟨wc.heap.size + 1, 0, none⟩) 256 256) := (hb.cell (p := ⟨wn.heap.size, 0, none⟩) (by first | omega | (simp; done) | (simp; omega))).trans (by first | exact hcn | go_simp)
                        replace hRN := Lib.hid (Row.below hRN.out hb)
                        replace hRW := Lib.hid (Row.below hRW.out hb)
                        replace hB : Below w.heap.size w W1 := below_step hb (by first | omega | (simp; done) | (simp; omega)) hB
                        replace hs : wn.heap.size + 1 ≤ W1.heap.size := by have := hb.size; omega
                        clear hb
                        obtain ⟨wz, hW⟩ : ∃ wz, wz = W1.setCell ⟨wc.heap.size + 1, f, none⟩ (.int .i64 (w64 (l.getD f 0 + v))) := ⟨_, rfl⟩
                        rw [← hW]
                        obtain ⟨l2, hl2⟩ : ∃ l2, l2 = putAt l f v := ⟨_, rfl⟩
                        replace hRN : Hid (Row wz w.heap.size (wc.heap.size + 1) l2) := Lib.hid (by rw [hW, hl2]; exact Row.set_ hRN.out f _)
                        replace hRW : Hid (Row wz w.heap.size g ways) := Lib.hid (by rw [hW]; exact Row.far hRW.out (by first | omega | (simp; done) | (simp; omega)) _)
                        replace hc0 : wz.cell? ⟨w.heap.size, 0, none⟩ = some (.int .i64 0) := by rw [hW]; go_simp
                        replace hc1 : wz.cell? ⟨w.heap.size + 1, 0, none⟩ = some (.func (.func 61) #[] #[]) := by rw [hW]; go_simp
                        replace hcx : wz.cell? ⟨wc.heap.size, 0, none⟩ = some (.int .i64 X) := by rw [hW]; go_simp
                        replace hcy : wz.cell? ⟨wc.heap.size, 1, none⟩ = some (.int .i64 Y) := by rw [hW]; go_simp
                        replace hcn : wz.cell? ⟨wn.heap.size, 0, none⟩ = some (.slice (some ⟨wc.heap.size + 1, 0, none⟩) 256 256) := by rw [hW]; go_simp
                        replace hB : Below w.heap.size w wz := by rw [hW]; exact Below.setCell hB (by first | omega | (simp; done) | (simp; omega)) _
                        replace hs : wn.heap.size + 1 ≤ wz.heap.size := by rw [hW]; simpa using hs
                        have HL2l2 := Lib.hid hl2
                        clear hW hl2
                        go_wp2
                        go_roundw
                        case rel => exact ⟨j + 1, l2, by omega, by go_num, hRN, hRW, Lib.hid (by rw [dpTo_succ, HV.out, ← hL.out, dp_cov hn0 HSt.out hc, HL2l2.out, HFJ.out]), hc0, hc1, hcx, hcy, hcn, hB, hs⟩
                        case measure => simp [intOf]; omega
                      · have hc : j.testBit X = false := by simpa using hc
                        have e2 : bits .and .i64 (j : Int) (P : Int) = 0 := by rw [HPn.out, and_pow hj hX8, hc]; rfl
                        have e2b : bits .and .i64 (j : Int) (2 ^ X) = 0 := by rw [← HPZ.out]; exact e2
                        go_wp2_with (go_at_call 59; fail)
                        refine (HHas.out _).mono ?_
                        rintro e wa ⟨rfl, hb⟩
                        replace hc0 : wa.cell? ⟨w.heap.size, 0, none⟩ = some (.int .i64 0) := (hb.cell (p := ⟨w.heap.size, 0, none⟩) (by first | omega | (simp; done) | (simp; omega))).trans (by first | exact hc0 | go_simp)
                        replace hc1 : wa.cell? ⟨w.heap.size + 1, 0, none⟩ = some (.func (.func 61) #[] #[]) := (hb.cell (p := ⟨w.heap.size + 1, 0, none⟩) (by first | omega | (simp; done) | (simp; omega))).trans (by first | exact hc1 | go_simp)
                        replace hcx : wa.cell? ⟨wc.heap.size, 0, none⟩ = some (.int .i64 X) := (hb.cell (p := ⟨wc.heap.size, 0, none⟩) (by first | omega | (simp; done) | (simp; omega))).trans (by first | exact hcx | go_simp)
                        replace hcy : wa.cell? ⟨wc.heap.size, 1, none⟩ = some (.int .i64 Y) := (hb.cell (p := ⟨wc.heap.size, 1, none⟩) (by first | omega | (simp; done) | (simp; omega))).trans (by first | exact hcy | go_simp)
                        replace hcn : wa.cell? ⟨wn.heap.size, 0, none⟩ = some (.slice (some ⟨wc.heap.size + 1, 0, none⟩) 256 256) := (hb.cell (p := ⟨wn.heap.size, 0, none⟩) (by first | omega | (simp; done) | (simp; omega))).trans (by first | exact hcn | go_simp)
                        replace hRN := Lib.hid (Row.below hRN.out hb)
                        replace hRW := Lib.hid (Row.below hRW.out hb)
                        replace hB : Below w.heap.size w wa := below_step hb (by first | omega | (simp; done) | (simp; omega)) hB
                        replace hs : wn.heap.size + 1 ≤ wa.heap.size := by have := hb.size; omega
                        clear hb
                        go_wp2_with (go_at_call 59; fail)
                        refine (HHas.out _).mono ?_
                        rintro e wb ⟨rfl, hb⟩
                        replace hc0 : wb.cell? ⟨w.heap.size, 0, none⟩ = some (.int .i64 0) := (hb.cell (p := ⟨w.heap.size, 0, none⟩) (by first | omega | (simp; done) | (simp; omega))).trans (by first | exact hc0 | go_simp)
                        replace hc1 : wb.cell? ⟨w.heap.size + 1, 0, none⟩ = some (.func (.func 61) #[] #[]) := (hb.cell (p := ⟨w.heap.size + 1, 0, none⟩) (by first | omega | (simp; done) | (simp; omega))).trans (by first | exact hc1 | go_simp)
                        replace hcx : wb.cell? ⟨wc.heap.size, 0, none⟩ = some (.int .i64 X) := (hb.cell (p := ⟨wc.heap.size, 0, none⟩) (by first | omega | (simp; done) | (simp; omega))).trans (by first | exact hcx | go_simp)
                        replace hcy : wb.cell? ⟨wc.heap.size, 1, none⟩ = some (.int .i64 Y) := (hb.cell (p := ⟨wc.heap.size, 1, none⟩) (by first | omega | (simp; done) | (simp; omega))).trans (by first | exact hcy | go_simp)
                        replace hcn : wb.cell? ⟨wn.heap.size, 0, none⟩ = some (.slice (some ⟨wc.heap.size + 1, 0, none⟩) 256 256) := (hb.cell (p := ⟨wn.heap.size, 0, none⟩) (by first | omega | (simp; done) | (simp; omega))).trans (by first | exact hcn | go_simp)
                        replace hRN := Lib.hid (Row.below hRN.out hb)
                        replace hRW := Lib.hid (Row.below hRW.out hb)
                        replace hB : Below w.heap.size w wb := below_step hb (by first | omega | (simp; done) | (simp; omega)) hB
                        replace hs : wn.heap.size + 1 ≤ wb.heap.size := by have := hb.size; omega
                        clear hb
                        go_wp2_with (go_at_call 59; fail)
                        refine (HHas.out _).mono ?_
                        rintro e wd ⟨rfl, hb⟩
                        replace hc0 : wd.cell? ⟨w.heap.size, 0, none⟩ = some (.int .i64 0) := (hb.cell (p := ⟨w.heap.size, 0, none⟩) (by first | omega | (simp; done) | (simp; omega))).trans (by first | exact hc0 | go_simp)
                        replace hc1 : wd.cell? ⟨w.heap.size + 1, 0, none⟩ = some (.func (.func 61) #[] #[]) := (hb.cell (p := ⟨w.heap.size + 1, 0, none⟩) (by first | omega | (simp; done) | (simp; omega))).trans (by first | exact hc1 | go_simp)
                        replace hcx : wd.cell? ⟨wc.heap.size, 0, none⟩ = some (.int .i64 X) := (hb.cell (p := ⟨wc.heap.size, 0, none⟩) (by first | omega | (simp; done) | (simp; omega))).trans (by first | exact hcx | go_simp)
                        replace hcy : wd.cell? ⟨wc.heap.size, 1, none⟩ = some (.int .i64 Y) := (hb.cell (p := ⟨wc.heap.size, 1, none⟩) (by first | omega | (simp; done) | (simp; omega))).trans (by first | exact hcy | go_simp)
                        replace hcn : wd.cell? ⟨wn.heap.size, 0, none⟩ = some (.slice (some ⟨wc.heap.size + 1, 0, none⟩) 256 256) := (hb.cell (p := ⟨wn.heap.size, 0, none⟩) (by first | omega | (simp; done) | (simp; omega))).trans (by first | exact hcn | go_simp)
                        replace hRN := Lib.hid (Row.below hRN.out hb)
                        replace hRW := Lib.hid (Row.below hRW.out hb)
                        replace hB : Below w.heap.size w wd := below_step hb (by first | omega | (simp; done) | (simp; omega)) hB
                        replace hs : wn.heap.size + 1 ≤ wd.heap.size := by have := hb.size; omega
                        clear hb
                        have hqlt := small_or hj hX8
                        obtain ⟨q, hq⟩ : ∃ q, q = j ||| 2 ^ X := ⟨_, rfl⟩
                        rw [← hq] at hqlt
                        have eq1 : bits .or .i64 (j : Int) (P : Int) = (q : Int) := by rw [(i64_bits_small (by omega) (by omega)).1, hq, HPn.out]
                        have eq1b : bits .or .i64 (j : Int) (2 ^ X) = (q : Int) := by rw [← HPZ.out]; exact eq1
                        have HQ := Lib.hid hq
                        clear hq
                        rcases Bool.eq_false_or_eq_true (hasB Sn (X : Int) ((Y : Int) + 1)) with hs1 | hs1
                        all_goals first
                          | (
                              have _t : hasB Sn (X : Int) ((Y : Int) + 1) = false := hs1
                              have HBel := Lib.hid (fun W : World => has_val Sn (X : Int) ((Y : Int) + 1) W HS64 hs1)
                              have hss : Hid (S X (Y + 1) = false) := Lib.hid (by rw [HS.out]; simpa [sxy] using hs1)
                              clear hs1
                              go_wp2_with (go_at_call 59; fail)
                              refine (HBel.out _).mono ?_
                              rintro e wz ⟨rfl, hb⟩
                              replace hc0 : wz.cell? ⟨w.heap.size, 0, none⟩ = some (.int .i64 0) := (hb.cell (p := ⟨w.heap.size, 0, none⟩) (by first | omega | (simp; done) | (simp; omega))).trans (by first | exact hc0 | go_simp)
                              replace hc1 : wz.cell? ⟨w.heap.size + 1, 0, none⟩ = some (.func (.func 61) #[] #[]) := (hb.cell (p := ⟨w.heap.size + 1, 0, none⟩) (by first | omega | (simp; done) | (simp; omega))).trans (by first | exact hc1 | go_simp)
                              replace hcx : wz.cell? ⟨wc.heap.size, 0, none⟩ = some (.int .i64 X) := (hb.cell (p := ⟨wc.heap.size, 0, none⟩) (by first | omega | (simp; done) | (simp; omega))).trans (by first | exact hcx | go_simp)
                              replace hcy : wz.cell? ⟨wc.heap.size, 1, none⟩ = some (.int .i64 Y) := (hb.cell (p := ⟨wc.heap.size, 1, none⟩) (by first | omega | (simp; done) | (simp; omega))).trans (by first | exact hcy | go_simp)
                              replace hcn : wz.cell? ⟨wn.heap.size, 0, none⟩ = some (.slice (some ⟨wc.heap.size + 1, 0, none⟩) 256 256) := (hb.cell (p := ⟨wn.heap.size, 0, none⟩) (by first | omega | (simp; done) | (simp; omega))).trans (by first | exact hcn | go_simp)
                              replace hRN := Lib.hid (Row.below hRN.out hb)
                              replace hRW := Lib.hid (Row.below hRW.out hb)
                              replace hB : Below w.heap.size w wz := below_step hb (by first | omega | (simp; done) | (simp; omega)) hB
                              replace hs : wn.heap.size + 1 ≤ wz.heap.size := by have := hb.size; omega
                              clear hb
                              obtain ⟨l1, hl1⟩ : ∃ l1, l1 = l := ⟨_, rfl⟩
                              have HL1 : Hid (l1 = if S X (Y + 1) then putAt l (j ||| 2 ^ X) v else l) := Lib.hid (by rw [hss.out, hl1]; rfl)
                              rw [← hl1] at hRN
                              clear hl1
                              go_wp2_with (go_at_call 59; fail)
                              )
                          | (
                              have _t : hasB Sn (X : Int) ((Y : Int) + 1) = true := hs1
                              have HBel := Lib.hid (fun W : World => has_val Sn (X : Int) ((Y : Int) + 1) W HS64 hs1)
                              have hss : Hid (S X (Y + 1) = true) := Lib.hid (by rw [HS.out]; simpa [sxy] using hs1)
                              clear hs1
                              go_wp2_with (go_at_call 59; fail)
                              refine (HBel.out _).mono ?_
                              rintro e we ⟨rfl, hb⟩
                              replace hc0 : we.cell? ⟨w.heap.size, 0, none⟩ = some (.int .i64 0) := (hb.cell (p := ⟨w.heap.size, 0, none⟩) (by first | omega | (simp; done) | (simp; omega))).trans (by first | exact hc0 | go_simp)
                              replace hc1 : we.cell? ⟨w.heap.size + 1, 0, none⟩ = some (.func (.func 61) #[] #[]) := (hb.cell (p := ⟨w.heap.size + 1, 0, none⟩) (by first | omega | (simp; done) | (simp; omega))).trans (by first | exact hc1 | go_simp)
                              replace hcx : we.cell? ⟨wc.heap.size, 0, none⟩ = some (.int .i64 X) := (hb.cell (p := ⟨wc.heap.size, 0, none⟩) (by first | omega | (simp; done) | (simp; omega))).trans (by first | exact hcx | go_simp)
                              replace hcy : we.cell? ⟨wc.heap.size, 1, none⟩ = some (.int .i64 Y) := (hb.cell (p := ⟨wc.heap.size, 1, none⟩) (by first | omega | (simp; done) | (simp; omega))).trans (by first | exact hcy | go_simp)
                              replace hcn : we.cell? ⟨wn.heap.size, 0, none⟩ = some (.slice (some ⟨wc.heap.size + 1, 0, none⟩) 256 256) := (hb.cell (p := ⟨wn.heap.size, 0, none⟩) (by first | omega | (simp; done) | (simp; omega))).trans (by first | exact hcn | go_simp)
                              replace hRN := Lib.hid (Row.below hRN.out hb)
                              replace hRW := Lib.hid (Row.below hRW.out hb)
                              replace hB : Below w.heap.size w we := below_step hb (by first | omega | (simp; done) | (simp; omega)) hB
                              replace hs : wn.heap.size + 1 ≤ we.heap.size := by have := hb.size; omega
                              clear hb
                              go_wp2_with (go_at_call 62; fail)
                              refine (withC_val v X Y true _).mono ?_
                              rintro e wf ⟨rfl, hb⟩
                              replace hc0 : wf.cell? ⟨w.heap.size, 0, none⟩ = some (.int .i64 0) := (hb.cell (p := ⟨w.heap.size, 0, none⟩) (by first | omega | (simp; done) | (simp; omega))).trans (by first | exact hc0 | go_simp)
                              replace hc1 : wf.cell? ⟨w.heap.size + 1, 0, none⟩ = some (.func (.func 61) #[] #[]) := (hb.cell (p := ⟨w.heap.size + 1, 0, none⟩) (by first | omega | (simp; done) | (simp; omega))).trans (by first | exact hc1 | go_simp)
                              replace hcx : wf.cell? ⟨wc.heap.size, 0, none⟩ = some (.int .i64 X) := (hb.cell (p := ⟨wc.heap.size, 0, none⟩) (by first | omega | (simp; done) | (simp; omega))).trans (by first | exact hcx | go_simp)
                              replace hcy : wf.cell? ⟨wc.heap.size, 1, none⟩ = some (.int .i64 Y) := (hb.cell (p := ⟨wc.heap.size, 1, none⟩) (by first | omega | (simp; done) | (simp; omega))).trans (by first | exact hcy | go_simp)
                              replace hcn : wf.cell? ⟨wn.heap.size, 0, none⟩ = some (.slice (some ⟨wc.heap.size + 1, 0, none⟩) 256 256) := (hb.cell (p := ⟨wn.heap.size, 0, none⟩) (by first | omega | (simp; done) | (simp; omega))).trans (by first | exact hcn | go_simp)
                              replace hRN := Lib.hid (Row.below hRN.out hb)
                              replace hRW := Lib.hid (Row.below hRW.out hb)
                              replace hB : Below w.heap.size w wf := below_step hb (by first | omega | (simp; done) | (simp; omega)) hB
                              replace hs : wn.heap.size + 1 ≤ wf.heap.size := by have := hb.size; omega
                              clear hb
                              go_wp2_with (go_at_call 72; fail)
                              obtain ⟨hcN, hfN⟩ := Row.at_ hRN.out (k := q) (by omega)
                              refine (put_any (wn.heap.size) (w.heap.size) (w.heap.size + 1) (wc.heap.size + 1) q _ v wf (by omega) hcn hc0 hc1 hcN hfN (by omega) (by omega) (by omega) (by omega) (by omega) HF.out).mono ?_
                              rintro e _ ⟨rfl, W1, hb, rfl⟩
                              clear hcN hfN
                              replace hc0 : W1.cell? ⟨w.heap.size, 0, none⟩ = some (.int .i64 0) := (hb.cell (p := ⟨w.heap.size, 0, none⟩) (by first | omega | (simp; done) | (simp; omega))).trans (by first | exact hc0 | go_simp)
                              replace hc1 : W1.cell? ⟨w.heap.size + 1, 0, none⟩ = some (.func (.func 61) #[] #[]) := (hb.cell (p := ⟨w.heap.size + 1, 0, none⟩) (by first | omega | (simp; done) | (simp; omega))).trans (by first | exact hc1 | go_simp)
                              replace hcx : W1.cell? ⟨wc.heap.size, 0, none⟩ = some (.int .i64 X) := (hb.cell (p := ⟨wc.heap.size, 0, none⟩) (by first | omega | (simp; done) | (simp; omega))).trans (by first | exact hcx | go_simp)
                              replace hcy : W1.cell? ⟨wc.heap.size, 1, none⟩ = some (.int .i64 Y) := (hb.cell (p := ⟨wc.heap.size, 1, none⟩) (by first | omega | (simp; done) | (simp; omega))).trans (by first | exact hcy | go_simp)
                              replace hcn : W1.cell? ⟨wn.heap.size, 0, none⟩ = some (.slice (some ⟨wc.heap.size + 1, 0, none⟩) 256 256) := (hb.cell (p := ⟨wn.heap.size, 0, none⟩) (by first | omega | (simp; done) | (simp; omega))).trans (by first | exact hcn | go_simp)
                              replace hRN := Lib.hid (Row.below hRN.out hb)
                              replace hRW := Lib.hid (Row.below hRW.out hb)
                              replace hB : Below w.heap.size w W1 := below_step hb (by first | omega | (simp; done) | (simp; omega)) hB
                              replace hs : wn.heap.size + 1 ≤ W1.heap.size := by have := hb.size; omega
                              clear hb
                              obtain ⟨wz, hW⟩ : ∃ wz, wz = W1.setCell ⟨wc.heap.size + 1, q, none⟩ (.int .i64 (w64 (l.getD q 0 + v))) := ⟨_, rfl⟩
                              rw [← hW]
                              obtain ⟨l1, hl2⟩ : ∃ l1, l1 = putAt l q v := ⟨_, rfl⟩
                              replace hRN : Hid (Row wz w.heap.size (wc.heap.size + 1) l1) := Lib.hid (by rw [hW, hl2]; exact Row.set_ hRN.out q _)
                              replace hRW : Hid (Row wz w.heap.size g ways) := Lib.hid (by rw [hW]; exact Row.far hRW.out (by first | omega | (simp; done) | (simp; omega)) _)
                              replace hc0 : wz.cell? ⟨w.heap.size, 0, none⟩ = some (.int .i64 0) := by rw [hW]; go_simp
                              replace hc1 : wz.cell? ⟨w.heap.size + 1, 0, none⟩ = some (.func (.func 61) #[] #[]) := by rw [hW]; go_simp
                              replace hcx : wz.cell? ⟨wc.heap.size, 0, none⟩ = some (.int .i64 X) := by rw [hW]; go_simp
                              replace hcy : wz.cell? ⟨wc.heap.size, 1, none⟩ = some (.int .i64 Y) := by rw [hW]; go_simp
                              replace hcn : wz.cell? ⟨wn.heap.size, 0, none⟩ = some (.slice (some ⟨wc.heap.size + 1, 0, none⟩) 256 256) := by rw [hW]; go_simp
                              replace hB : Below w.heap.size w wz := by rw [hW]; exact Below.setCell hB (by first | omega | (simp; done) | (simp; omega)) _
                              replace hs : wn.heap.size + 1 ≤ wz.heap.size := by rw [hW]; simpa using hs
                              have HL2l1 := Lib.hid hl2
                              clear hW hl2
                              have HL1 : Hid (l1 = if S X (Y + 1) then putAt l (j ||| 2 ^ X) v else l) := Lib.hid (by rw [hss.out, if_pos rfl, ← HQ.out]; exact HL2l1.out)
                              go_wp2_with (go_at_call 59; fail)
                              )
                        all_goals (
                          rcases Bool.eq_false_or_eq_true (hasB Sn ((X : Int) + 1) (Y : Int)) with hs2 | hs2
                          · have hss2 : Hid (S (X + 1) Y = true) := Lib.hid (by rw [HS.out]; simpa [sxy] using hs2)
                            have hX7 : X + 1 < 8 := by have := hasB_ok hs2; omega
                            have HRig := Lib.hid (fun W : World => has_val Sn ((X : Int) + 1) (Y : Int) W HS64 hs2)
                            clear hs2
                            go_wp2_with (go_at_call 59; fail)
                            refine (HRig.out _).mono ?_
                            rintro e wh ⟨rfl, hb⟩
                            replace hc0 : wh.cell? ⟨w.heap.size, 0, none⟩ = some (.int .i64 0) := (hb.cell (p := ⟨w.heap.size, 0, none⟩) (by first | omega | (simp; done) | (simp; omega))).trans (by first | exact hc0 | go_simp)
                            replace hc1 : wh.cell? ⟨w.heap.size + 1, 0, none⟩ = some (.func (.func 61) #[] #[]) := (hb.cell (p := ⟨w.heap.size + 1, 0, none⟩) (by first | omega | (simp; done) | (simp; omega))).trans (by first | exact hc1 | go_simp)
                            replace hcx : wh.cell? ⟨wc.heap.size, 0, none⟩ = some (.int .i64 X) := (hb.cell (p := ⟨wc.heap.size, 0, none⟩) (by first | omega | (simp; done) | (simp; omega))).trans (by first | exact hcx | go_simp)
                            replace hcy : wh.cell? ⟨wc.heap.size, 1, none⟩ = some (.int .i64 Y) := (hb.cell (p := ⟨wc.heap.size, 1, none⟩) (by first | omega | (simp; done) | (simp; omega))).trans (by first | exact hcy | go_simp)
                            replace hcn : wh.cell? ⟨wn.heap.size, 0, none⟩ = some (.slice (some ⟨wc.heap.size + 1, 0, none⟩) 256 256) := (hb.cell (p := ⟨wn.heap.size, 0, none⟩) (by first | omega | (simp; done) | (simp; omega))).trans (by first | exact hcn | go_simp)
                            replace hRN := Lib.hid (Row.below hRN.out hb)
                            replace hRW := Lib.hid (Row.below hRW.out hb)
                            replace hB : Below w.heap.size w wh := below_step hb (by first | omega | (simp; done) | (simp; omega)) hB
                            replace hs : wn.heap.size + 1 ≤ wh.heap.size := by have := hb.size; omega
                            clear hb
                            obtain ⟨P2, hP2⟩ : ∃ P2 : Nat, P2 = 2 ^ (X + 1) := ⟨_, rfl⟩
                            have HP2 := Lib.hid hP2
                            have HP22 : Hid (P2 = 2 * P) := Lib.hid (by rw [hP2, HPn.out, Nat.pow_succ]; omega)
                            clear hP2
                            have hP2b : P2 < 1000 := by have := HP22.out; omega
                            clear eP
                            have es4 : (P : Int) * 2 = (P2 : Int) := by have := HP22.out; omega
                            have es3 : wrap64 ((P : Int) * 2) = (P2 : Int) := by rw [es4, wrap64_w64]; exact w64_in (by omega)
                            by_cases hc2 : j.testBit (X + 1) = true
                            · have e3 : bits .and .i64 (j : Int) (P2 : Int) = (P2 : Int) := by rw [HP2.out, and_pow hj hX7, hc2]; rfl
                              have hP20 : ¬ (P2 : Int) = 0 := by have := HP22.out; omega
                              have e3b : ((P2 : Int) == 0) = false := by rw [beq_eq_false_iff_ne]; exact hP20
                              have HC2 := Lib.hid hc2
                              clear hc2
                              go_wp2
                              go_roundw
                              case rel => exact ⟨j + 1, l1, by omega, by go_num, hRN, hRW, Lib.hid (by rw [dpTo_succ, HV.out, ← hL.out, dp_has hn0 HSt.out hc, ← HL1.out, hss2.out, HC2.out]; try simp), hc0, hc1, hcx, hcy, hcn, hB, hs⟩
                              case measure => simp [intOf]; omega
                            · have hc2' : j.testBit (X + 1) = false := by simpa using hc2
                              have e3 : bits .and .i64 (j : Int) (P2 : Int) = 0 := by rw [HP2.out, and_pow hj hX7, hc2']; rfl
                              have HC2 := Lib.hid hc2'
                              clear hc2 hc2'
                              have hqlt2 := small_or hj hX7
                              obtain ⟨q2, hq2⟩ : ∃ q2, q2 = j ||| 2 ^ (X + 1) := ⟨_, rfl⟩
                              rw [← hq2] at hqlt2
                              have eq2 : bits .or .i64 (j : Int) (P2 : Int) = (q2 : Int) := by rw [(i64_bits_small (by omega) hP2b).1, hq2, HP2.out]
                              have HQ2 := Lib.hid hq2
                              clear hq2
                              go_wp2_with (go_at_call 62; fail)
                              refine (withC_val v X Y false _).mono ?_
                              rintro e wi ⟨rfl, hb⟩
                              replace hc0 : wi.cell? ⟨w.heap.size, 0, none⟩ = some (.int .i64 0) := (hb.cell (p := ⟨w.heap.size, 0, none⟩) (by first | omega | (simp; done) | (simp; omega))).trans (by first | exact hc0 | go_simp)
                              replace hc1 : wi.cell? ⟨w.heap.size + 1, 0, none⟩ = some (.func (.func 61) #[] #[]) := (hb.cell (p := ⟨w.heap.size + 1, 0, none⟩) (by first | omega | (simp; done) | (simp; omega))).trans (by first | exact hc1 | go_simp)
                              replace hcx : wi.cell? ⟨wc.heap.size, 0, none⟩ = some (.int .i64 X) := (hb.cell (p := ⟨wc.heap.size, 0, none⟩) (by first | omega | (simp; done) | (simp; omega))).trans (by first | exact hcx | go_simp)
                              replace hcy : wi.cell? ⟨wc.heap.size, 1, none⟩ = some (.int .i64 Y) := (hb.cell (p := ⟨wc.heap.size, 1, none⟩) (by first | omega | (simp; done) | (simp; omega))).trans (by first | exact hcy | go_simp)
                              replace hcn : wi.cell? ⟨wn.heap.size, 0, none⟩ = some (.slice (some ⟨wc.heap.size + 1, 0, none⟩) 256 256) := (hb.cell (p := ⟨wn.heap.size, 0, none⟩) (by first | omega | (simp; done) | (simp; omega))).trans (by first | exact hcn | go_simp)
                              replace hRN := Lib.hid (Row.below hRN.out hb)
                              replace hRW := Lib.hid (Row.below hRW.out hb)
                              replace hB : Below w.heap.size w wi := below_step hb (by first | omega | (simp; done) | (simp; omega)) hB
                              replace hs : wn.heap.size + 1 ≤ wi.heap.size := by have := hb.size; omega
                              clear hb
                              go_wp2_with (go_at_call 72; fail)
                              obtain ⟨hcN, hfN⟩ := Row.at_ hRN.out (k := q2) (by omega)
                              refine (put_any (wn.heap.size) (w.heap.size) (w.heap.size + 1) (wc.heap.size + 1) q2 _ v wi (by omega) hcn hc0 hc1 hcN hfN (by omega) (by omega) (by omega) (by omega) (by omega) HF.out).mono ?_
                              rintro e _ ⟨rfl, W1, hb, rfl⟩
                              clear hcN hfN
                              replace hc0 : W1.cell? ⟨w.heap.size, 0, none⟩ = some (.int .i64 0) := (hb.cell (p := ⟨w.heap.size, 0, none⟩) (by first | omega | (simp; done) | (simp; omega))).trans (by first | exact hc0 | go_simp)
                              replace hc1 : W1.cell? ⟨w.heap.size + 1, 0, none⟩ = some (.func (.func 61) #[] #[]) := (hb.cell (p := ⟨w.heap.size + 1, 0, none⟩) (by first | omega | (simp; done) | (simp; omega))).trans (by first | exact hc1 | go_simp)
                              replace hcx : W1.cell? ⟨wc.heap.size, 0, none⟩ = some (.int .i64 X) := (hb.cell (p := ⟨wc.heap.size, 0, none⟩) (by first | omega | (simp; done) | (simp; omega))).trans (by first | exact hcx | go_simp)
                              replace hcy : W1.cell? ⟨wc.heap.size, 1, none⟩ = some (.int .i64 Y) := (hb.cell (p := ⟨wc.heap.size, 1, none⟩) (by first | omega | (simp; done) | (simp; omega))).trans (by first | exact hcy | go_simp)
                              replace hcn : W1.cell? ⟨wn.heap.size, 0, none⟩ = some (.slice (some ⟨wc.heap.size + 1, 0, none⟩) 256 256) := (hb.cell (p := ⟨wn.heap.size, 0, none⟩) (by first | omega | (simp; done) | (simp; omega))).trans (by first | exact hcn | go_simp)
                              replace hRN := Lib.hid (Row.below hRN.out hb)
                              replace hRW := Lib.hid (Row.below hRW.out hb)
                              replace hB : Below w.heap.size w W1 := below_step hb (by first | omega | (simp; done) | (simp; omega)) hB
                              replace hs : wn.heap.size + 1 ≤ W1.heap.size := by have := hb.size; omega
                              clear hb
                              obtain ⟨wk, hW⟩ : ∃ wk, wk = W1.setCell ⟨wc.heap.size + 1, q2, none⟩ (.int .i64 (w64 (l1.getD q2 0 + v))) := ⟨_, rfl⟩
                              rw [← hW]
                              obtain ⟨l3, hl2⟩ : ∃ l3, l3 = putAt l1 q2 v := ⟨_, rfl⟩
                              replace hRN : Hid (Row wk w.heap.size (wc.heap.size + 1) l3) := Lib.hid (by rw [hW, hl2]; exact Row.set_ hRN.out q2 _)
                              replace hRW : Hid (Row wk w.heap.size g ways) := Lib.hid (by rw [hW]; exact Row.far hRW.out (by first | omega | (simp; done) | (simp; omega)) _)
                              replace hc0 : wk.cell? ⟨w.heap.size, 0, none⟩ = some (.int .i64 0) := by rw [hW]; go_simp
                              replace hc1 : wk.cell? ⟨w.heap.size + 1, 0, none⟩ = some (.func (.func 61) #[] #[]) := by rw [hW]; go_simp
                              replace hcx : wk.cell? ⟨wc.heap.size, 0, none⟩ = some (.int .i64 X) := by rw [hW]; go_simp
                              replace hcy : wk.cell? ⟨wc.heap.size, 1, none⟩ = some (.int .i64 Y) := by rw [hW]; go_simp
                              replace hcn : wk.cell? ⟨wn.heap.size, 0, none⟩ = some (.slice (some ⟨wc.heap.size + 1, 0, none⟩) 256 256) := by rw [hW]; go_simp
                              replace hB : Below w.heap.size w wk := by rw [hW]; exact Below.setCell hB (by first | omega | (simp; done) | (simp; omega)) _
                              replace hs : wn.heap.size + 1 ≤ wk.heap.size := by rw [hW]; simpa using hs
                              have HL2l3 := Lib.hid hl2
                              clear hW hl2
                              go_wp2
                              go_roundw
                              case rel => exact ⟨j + 1, l3, by omega, by go_num, hRN, hRW, Lib.hid (by rw [dpTo_succ, HV.out, ← hL.out, dp_has hn0 HSt.out hc, ← HL1.out, hss2.out, HC2.out]; simp only [Bool.not_false, Bool.and_true, if_true]; rw [← HQ2.out]; exact HL2l3.out), hc0, hc1, hcx, hcy, hcn, hB, hs⟩
                              case measure => simp [intOf]; omega
                          · have hss2 : Hid (S (X + 1) Y = false) := Lib.hid (by rw [HS.out]; simpa [sxy] using hs2)
                            have HRig := Lib.hid (fun W : World => has_val Sn ((X : Int) + 1) (Y : Int) W HS64 hs2)
                            clear hs2
                            go_wp2_with (go_at_call 59; fail)
                            refine (HRig.out _).mono ?_
                            rintro e wh ⟨rfl, hb⟩
                            replace hc0 : wh.cell? ⟨w.heap.size, 0, none⟩ = some (.int .i64 0) := (hb.cell (p := ⟨w.heap.size, 0, none⟩) (by first | omega | (simp; done) | (simp; omega))).trans (by first | exact hc0 | go_simp)
                            replace hc1 : wh.cell? ⟨w.heap.size + 1, 0, none⟩ = some (.func (.func 61) #[] #[]) := (hb.cell (p := ⟨w.heap.size + 1, 0, none⟩) (by first | omega | (simp; done) | (simp; omega))).trans (by first | exact hc1 | go_simp)
                            replace hcx : wh.cell? ⟨wc.heap.size, 0, none⟩ = some (.int .i64 X) := (hb.cell (p := ⟨wc.heap.size, 0, none⟩) (by first | omega | (simp; done) | (simp; omega))).trans (by first | exact hcx | go_simp)
                            replace hcy : wh.cell? ⟨wc.heap.size, 1, none⟩ = some (.int .i64 Y) := (hb.cell (p := ⟨wc.heap.size, 1, none⟩) (by first | omega | (simp; done) | (simp; omega))).trans (by first | exact hcy | go_simp)
                            replace hcn : wh.cell? ⟨wn.heap.size, 0, none⟩ = some (.slice (some ⟨wc.heap.size + 1, 0, none⟩) 256 256) := (hb.cell (p := ⟨wn.heap.size, 0, none⟩) (by first | omega | (simp; done) | (simp; omega))).trans (by first | exact hcn | go_simp)
                            replace hRN := Lib.hid (Row.below hRN.out hb)
                            replace hRW := Lib.hid (Row.below hRW.out hb)
                            replace hB : Below w.heap.size w wh := below_step hb (by first | omega | (simp; done) | (simp; omega)) hB
                            replace hs : wn.heap.size + 1 ≤ wh.heap.size := by have := hb.size; omega
                            clear hb
                            go_wp2
                            go_roundw
                            case rel => exact ⟨j + 1, l1, by omega, by go_num, hRN, hRW, Lib.hid (by rw [dpTo_succ, HV.out, ← hL.out, dp_has hn0 HSt.out hc, ← HL1.out, hss2.out]; try simp), hc0, hc1, hcx, hcy, hcn, hB, hs⟩
                            case measure => simp [intOf]; omega
                          )
                    · have HHas := Lib.hid (fun W : World => has_val Sn (X : Int) (Y : Int) W HS64 hs0)
                      have HSf : Hid (S X Y = false) := Lib.hid (by rw [HS.out]; simpa [sxy] using hs0)
                      clear hs0
                      by_cases hc : j.testBit X = true
                      · have e2 : bits .and .i64 (j : Int) (P : Int) = (P : Int) := by rw [HPn.out, and_pow hj hX8, hc]; rfl
                        have e2b : bits .and .i64 (j : Int) (2 ^ X) = (P : Int) := by rw [← HPZ.out]; exact e2
                        go_wp2_with (go_at_call 59; fail)
                        refine (HHas.out _).mono ?_
                        rintro e wa ⟨rfl, hb⟩
                        replace hc0 : wa.cell? ⟨w.heap.size, 0, none⟩ = some (.int .i64 0) := (hb.cell (p := ⟨w.heap.size, 0, none⟩) (by first | omega | (simp; done) | (simp; omega))).trans (by first | exact hc0 | go_simp)
                        replace hc1 : wa.cell? ⟨w.heap.size + 1, 0, none⟩ = some (.func (.func 61) #[] #[]) := (hb.cell (p := ⟨w.heap.size + 1, 0, none⟩) (by first | omega | (simp; done) | (simp; omega))).trans (by first | exact hc1 | go_simp)
                        replace hcx : wa.cell? ⟨wc.heap.size, 0, none⟩ = some (.int .i64 X) := (hb.cell (p := ⟨wc.heap.size, 0, none⟩) (by first | omega | (simp; done) | (simp; omega))).trans (by first | exact hcx | go_simp)
                        replace hcy : wa.cell? ⟨wc.heap.size, 1, none⟩ = some (.int .i64 Y) := (hb.cell (p := ⟨wc.heap.size, 1, none⟩) (by first | omega | (simp; done) | (simp; omega))).trans (by first | exact hcy | go_simp)
                        replace hcn : wa.cell? ⟨wn.heap.size, 0, none⟩ = some (.slice (some ⟨wc.heap.size + 1, 0, none⟩) 256 256) := (hb.cell (p := ⟨wn.heap.size, 0, none⟩) (by first | omega | (simp; done) | (simp; omega))).trans (by first | exact hcn | go_simp)
                        replace hRN := Lib.hid (Row.below hRN.out hb)
                        replace hRW := Lib.hid (Row.below hRW.out hb)
                        replace hB : Below w.heap.size w wa := below_step hb (by first | omega | (simp; done) | (simp; omega)) hB
                        replace hs : wn.heap.size + 1 ≤ wa.heap.size := by have := hb.size; omega
                        clear hb
                        go_wp2_with (go_at_call 59; fail)
                        refine (HHas.out _).mono ?_
                        rintro e wb ⟨rfl, hb⟩
                        replace hc0 : wb.cell? ⟨w.heap.size, 0, none⟩ = some (.int .i64 0) := (hb.cell (p := ⟨w.heap.size, 0, none⟩) (by first | omega | (simp; done) | (simp; omega))).trans (by first | exact hc0 | go_simp)
                        replace hc1 : wb.cell? ⟨w.heap.size + 1, 0, none⟩ = some (.func (.func 61) #[] #[]) := (hb.cell (p := ⟨w.heap.size + 1, 0, none⟩) (by first | omega | (simp; done) | (simp; omega))).trans (by first | exact hc1 | go_simp)
                        replace hcx : wb.cell? ⟨wc.heap.size, 0, none⟩ = some (.int .i64 X) := (hb.cell (p := ⟨wc.heap.size, 0, none⟩) (by first | omega | (simp; done) | (simp; omega))).trans (by first | exact hcx | go_simp)
                        replace hcy : wb.cell? ⟨wc.heap.size, 1, none⟩ = some (.int .i64 Y) := (hb.cell (p := ⟨wc.heap.size, 1, none⟩) (by first | omega | (simp; done) | (simp; omega))).trans (by first | exact hcy | go_simp)
                        replace hcn : wb.cell? ⟨wn.heap.size, 0, none⟩ = some (.slice (some ⟨wc.heap.size + 1, 0, none⟩) 256 256) := (hb.cell (p := ⟨wn.heap.size, 0, none⟩) (by first | omega | (simp; done) | (simp; omega))).trans (by first | exact hcn | go_simp)
                        replace hRN := Lib.hid (Row.below hRN.out hb)
                        replace hRW := Lib.hid (Row.below hRW.out hb)
                        replace hB : Below w.heap.size w wb := below_step hb (by first | omega | (simp; done) | (simp; omega)) hB
                        replace hs : wn.heap.size + 1 ≤ wb.heap.size := by have := hb.size; omega
                        clear hb
                        go_wp2_with (go_at_call 59; fail)
                        refine (HHas.out _).mono ?_
                        rintro e wd ⟨rfl, hb⟩
                        replace hc0 : wd.cell? ⟨w.heap.size, 0, none⟩ = some (.int .i64 0) := (hb.cell (p := ⟨w.heap.size, 0, none⟩) (by first | omega | (simp; done) | (simp; omega))).trans (by first | exact hc0 | go_simp)
                        replace hc1 : wd.cell? ⟨w.heap.size + 1, 0, none⟩ = some (.func (.func 61) #[] #[]) := (hb.cell (p := ⟨w.heap.size + 1, 0, none⟩) (by first | omega | (simp; done) | (simp; omega))).trans (by first | exact hc1 | go_simp)
                        replace hcx : wd.cell? ⟨wc.heap.size, 0, none⟩ = some (.int .i64 X) := (hb.cell (p := ⟨wc.heap.size, 0, none⟩) (by first | omega | (simp; done) | (simp; omega))).trans (by first | exact hcx | go_simp)
                        replace hcy : wd.cell? ⟨wc.heap.size, 1, none⟩ = some (.int .i64 Y) := (hb.cell (p := ⟨wc.heap.size, 1, none⟩) (by first | omega | (simp; done) | (simp; omega))).trans (by first | exact hcy | go_simp)
                        replace hcn : wd.cell? ⟨wn.heap.size, 0, none⟩ = some (.slice (some ⟨wc.heap.size + 1, 0, none⟩) 256 256) := (hb.cell (p := ⟨wn.heap.size, 0, none⟩) (by first | omega | (simp; done) | (simp; omega))).trans (by first | exact hcn | go_simp)
                        replace hRN := Lib.hid (Row.below hRN.out hb)
                        replace hRW := Lib.hid (Row.below hRW.out hb)
                        replace hB : Below w.heap.size w wd := below_step hb (by first | omega | (simp; done) | (simp; omega)) hB
                        replace hs : wn.heap.size + 1 ≤ wd.heap.size := by have := hb.size; omega
                        clear hb
                        go_wp2
                        go_roundw
                        case rel => exact ⟨j + 1, l, by omega, by go_num, hRN, hRW, Lib.hid (by rw [dpTo_succ, HV.out, ← hL.out, dp_no2 hn0 HSf.out hc]), hc0, hc1, hcx, hcy, hcn, hB, hs⟩
                        case measure => simp [intOf]; omega
                      · have hc : j.testBit X = false := by simpa using hc
                        have e2 : bits .and .i64 (j : Int) (P : Int) = 0 := by rw [HPn.out, and_pow hj hX8, hc]; rfl
                        have e2b : bits .and .i64 (j : Int) (2 ^ X) = 0 := by rw [← HPZ.out]; exact e2
                        go_wp2_with (go_at_call 59; fail)
                        refine (HHas.out _).mono ?_
                        rintro e wa ⟨rfl, hb⟩
                        replace hc0 : wa.cell? ⟨w.heap.size, 0, none⟩ = some (.int .i64 0) := (hb.cell (p := ⟨w.heap.size, 0, none⟩) (by first | omega | (simp; done) | (simp; omega))).trans (by first | exact hc0 | go_simp)
                        replace hc1 : wa.cell? ⟨w.heap.size + 1, 0, none⟩ = some (.func (.func 61) #[] #[]) := (hb.cell (p := ⟨w.heap.size + 1, 0, none⟩) (by first | omega | (simp; done) | (simp; omega))).trans (by first | exact hc1 | go_simp)
                        replace hcx : wa.cell? ⟨wc.heap.size, 0, none⟩ = some (.int .i64 X) := (hb.cell (p := ⟨wc.heap.size, 0, none⟩) (by first | omega | (simp; done) | (simp; omega))).trans (by first | exact hcx | go_simp)
                        replace hcy : wa.cell? ⟨wc.heap.size, 1, none⟩ = some (.int .i64 Y) := (hb.cell (p := ⟨wc.heap.size, 1, none⟩) (by first | omega | (simp; done) | (simp; omega))).trans (by first | exact hcy | go_simp)
                        replace hcn : wa.cell? ⟨wn.heap.size, 0, none⟩ = some (.slice (some ⟨wc.heap.size + 1, 0, none⟩) 256 256) := (hb.cell (p := ⟨wn.heap.size, 0, none⟩) (by first | omega | (simp; done) | (simp; omega))).trans (by first | exact hcn | go_simp)
                        replace hRN := Lib.hid (Row.below hRN.out hb)
                        replace hRW := Lib.hid (Row.below hRW.out hb)
                        replace hB : Below w.heap.size w wa := below_step hb (by first | omega | (simp; done) | (simp; omega)) hB
                        replace hs : wn.heap.size + 1 ≤ wa.heap.size := by have := hb.size; omega
                        clear hb
                        go_wp2_with (go_at_call 72; fail)
                        obtain ⟨hcN, hfN⟩ := Row.at_ hRN.out (k := j) (by omega)
                        refine (put_any (wn.heap.size) (w.heap.size) (w.heap.size + 1) (wc.heap.size + 1) j _ v wa (by omega) hcn hc0 hc1 hcN hfN (by omega) (by omega) (by omega) (by omega) (by omega) HF.out).mono ?_
                        rintro e _ ⟨rfl, W1, hb, rfl⟩
                        clear hcN hfN
                        replace hc0 : W1.cell? ⟨w.heap.size, 0, none⟩ = some (.int .i64 0) := (hb.cell (p := ⟨w.heap.size, 0, none⟩) (by first | omega | (simp; done) | (simp; omega))).trans (by first | exact hc0 | go_simp)
                        replace hc1 : W1.cell? ⟨w.heap.size + 1, 0, none⟩ = some (.func (.func 61) #[] #[]) := (hb.cell (p := ⟨w.heap.size + 1, 0, none⟩) (by first | omega | (simp; done) | (simp; omega))).trans (by first | exact hc1 | go_simp)
                        replace hcx : W1.cell? ⟨wc.heap.size, 0, none⟩ = some (.int .i64 X) := (hb.cell (p := ⟨wc.heap.size, 0, none⟩) (by first | omega | (simp; done) | (simp; omega))).trans (by first | exact hcx | go_simp)
                        replace hcy : W1.cell? ⟨wc.heap.size, 1, none⟩ = some (.int .i64 Y) := (hb.cell (p := ⟨wc.heap.size, 1, none⟩) (by first | omega | (simp; done) | (simp; omega))).trans (by first | exact hcy | go_simp)
                        replace hcn : W1.cell? ⟨wn.heap.size, 0, none⟩ = some (.slice (some ⟨wc.heap.size + 1, 0, none⟩) 256 256) := (hb.cell (p := ⟨wn.heap.size, 0, none⟩) (by first | omega | (simp; done) | (simp; omega))).trans (by first | exact hcn | go_simp)
                        replace hRN := Lib.hid (Row.below hRN.out hb)
                        replace hRW := Lib.hid (Row.below hRW.out hb)
                        replace hB : Below w.heap.size w W1 := below_step hb (by first | omega | (simp; done) | (simp; omega)) hB
                        replace hs : wn.heap.size + 1 ≤ W1.heap.size := by have := hb.size; omega
                        clear hb
                        obtain ⟨wz, hW⟩ : ∃ wz, wz = W1.setCell ⟨wc.heap.size + 1, j, none⟩ (.int .i64 (w64 (l.getD j 0 + v))) := ⟨_, rfl⟩
                        rw [← hW]
                        obtain ⟨l2, hl2⟩ : ∃ l2, l2 = putAt l j v := ⟨_, rfl⟩
                        replace hRN : Hid (Row wz w.heap.size (wc.heap.size + 1) l2) := Lib.hid (by rw [hW, hl2]; exact Row.set_ hRN.out j _)
                        replace hRW : Hid (Row wz w.heap.size g ways) := Lib.hid (by rw [hW]; exact Row.far hRW.out (by first | omega | (simp; done) | (simp; omega)) _)
                        replace hc0 : wz.cell? ⟨w.heap.size, 0, none⟩ = some (.int .i64 0) := by rw [hW]; go_simp
                        replace hc1 : wz.cell? ⟨w.heap.size + 1, 0, none⟩ = some (.func (.func 61) #[] #[]) := by rw [hW]; go_simp
                        replace hcx : wz.cell? ⟨wc.heap.size, 0, none⟩ = some (.int .i64 X) := by rw [hW]; go_simp
                        replace hcy : wz.cell? ⟨wc.heap.size, 1, none⟩ = some (.int .i64 Y) := by rw [hW]; go_simp
                        replace hcn : wz.cell? ⟨wn.heap.size, 0, none⟩ = some (.slice (some ⟨wc.heap.size + 1, 0, none⟩) 256 256) := by rw [hW]; go_simp
                        replace hB : Below w.heap.size w wz := by rw [hW]; exact Below.setCell hB (by first | omega | (simp; done) | (simp; omega)) _
                        replace hs : wn.heap.size + 1 ≤ wz.heap.size := by rw [hW]; simpa using hs
                        have HL2l2 := Lib.hid hl2
                        clear hW hl2
                        go_wp2
                        go_roundw
                        case rel => exact ⟨j + 1, l2, by omega, by go_num, hRN, hRW, Lib.hid (by rw [dpTo_succ, HV.out, ← hL.out, dp_no hn0 HSf.out hc, HL2l2.out]), hc0, hc1, hcx, hcy, hcn, hB, hs⟩
                        case measure => simp [intOf]; omega
                · have hj256 : j = 256 := by omega
                  have HLL : Hid (l = dpAll S (k + 1)) := Lib.hid (by rw [hL.out, hj256]; show _ = dpTo S (k % 8) (k / 8) (dpAll S k) 256; rw [HXY.out.1, HXY.out.2, HWA.out])
                  clear hj256
                  go_wp2
                  go_roundw
                  case rel => exact ⟨k + 1, wc.heap.size + 1, by omega, by go_num, by simp, Lib.hid (by rw [← HLL.out]; exact hRN.out), hc0, hc1, hB, by omega⟩
                  case measure => simp [intOf]; omega
        · have hk64 : k = 64 := by omega
          obtain ⟨h0c, -⟩ := Row.at_ hRW.out (k := 0) (by omega)
          have HFF : Hid (ways.getD 0 0 = res) := Lib.hid (by rw [HWA.out]; exact HFin.out _ hk64)
          obtain ⟨r, hr0⟩ : ∃ r, ways.getD 0 0 = r := ⟨_, rfl⟩
          rw [hr0] at h0c HFF
          clear hk64 hr0
          go_wp2
          go_ret
          exact ⟨ret_i HFF.out, hB⟩
end Go.Proofs.Ytfjkjnhmlljefaa
