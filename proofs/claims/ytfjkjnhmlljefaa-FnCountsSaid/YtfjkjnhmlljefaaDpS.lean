/-
  The reference's count by profiles.
-/
import Derived.Test.YtfjkjnhmlljefaaDpK
namespace Go.Proofs.Ytfjkjnhmlljefaa
open Go.RowKit
set_option linter.unusedVariables false
set_option linter.unusedSimpArgs false

theorem atXY2 {k : Nat} (hk : k < 64) : atX (k : Int) = (k : Int) % 8 ∧ atY (k : Int) = (k : Int) / 8 := by
  have h : inB (k : Int) 0 63 = true := inB_iff.2 (by omega)
  exact ⟨atX_yes h, atY_yes h⟩
theorem l03_val (a : Option Addr) (n c : Nat) (zs : List Int) (x y : Int) (w : World) (hz : zs.length = n) (hok : rokB zs = true) (hxy : okB x y = true) (hr : RdI w a zs) {b : Bool} (hb : hasB (setS zs) x y = b) :
    Calls Try.prog 51 #[.agg #[.slice a n c], .agg #[.int .i64 x, .int .i64 y]] w fun e w' => e = .returned (.bool b) ∧ Below w.heap.size w w' := by
  subst hb
  exact l03_any a n c zs x y w hz hok hxy hr
theorem ok_val (x y : Int) (w : World) {b : Bool} (hb : okB x y = b) : Calls Try.prog 52 #[.agg #[.int .i64 x, .int .i64 y]] w fun e w' => e = .returned (.bool b) ∧ Below w.heap.size w w' := by
  subst hb
  exact specOk_any x y w
set_option maxHeartbeats 12800000 in
set_option maxRecDepth 100000 in
theorem l07_any (a : Option Addr) (n c : Nat) (zs : List Int) (w : World) (hz : zs.length = n) (hok : rokB zs = true) (hr : RdI w a zs) :
    Calls Try.prog 28 #[.agg #[.slice a n c]] w fun e w' => e = .returned (.int .i64 (dpCount (sxy (setS zs)))) ∧ Below w.heap.size w w' := by
  obtain ⟨i0, hi, hz0, hz1, hz2⟩ := info_parts intInfo
  have HZ := Lib.hid hz
  have HOKR := Lib.hid hok
  obtain ⟨S, hS⟩ : ∃ S, S = sxy (setS zs) := ⟨_, rfl⟩
  have HS := Lib.hid hS
  obtain ⟨res, hres⟩ : ∃ res, res = dpCount (sxy (setS zs)) := ⟨_, rfl⟩
  have HFin : Hid (∀ k, k = 64 → (dpAll S k).getD 0 0 = res) := Lib.hid (by intro k hk; rw [hres, hS, hk]; rfl)
  rw [← hres]
  clear hres
  clear hz hok hS
  go_enter Try.func28, Try.ntmps28
  go_wp2_with (at_make; refine wpList_make_full _ rfl _ _ 24 rfl (w.heap.size + 1) 3 i0 (.int .i64 0) 1 Try.underlying24 hi hz0 hz1 _ _ _ _ 256 rfl rfl rfl rfl (by rw [hz2]; omega) (by unfold maxLen; omega) (by simp) ?_; intro w0 hown0 hgrow0; go_must (rw [row_new] at hown0; have hR0 : Hid (Row w0 (w.heap.size + 1) (w.heap.size + 1) (List.replicate 256 0)) := Lib.hid (by simpa [Row] using hown0); have hz0' : w.heap.size + 1 < w0.heap.size := (Row.lt hR0.out).2; obtain ⟨hc0, hf0⟩ := Row.at_ hR0.out (k := 0) (by omega); have hG0 : Below (w.heap.size + 1) _ w0 := (Below.refl _ _).grown hgrow0 (by simp) (fun k h => by cases h); have hcb : w0.cell? ⟨w.heap.size, 0, none⟩ = some (.slice a n c) := (hG0.cell (p := ⟨w.heap.size, 0, none⟩) (by simp)).trans (by go_simp); have hB0 : Below w.heap.size w w0 := ((Below.refl _ _).alloc (Nat.le_refl _) _).trans (hG0.mono (by simp))); clear hown0 hgrow0 hG0)
  have hR1 : Hid (Row (w0.setCell ⟨w.heap.size + 1, 0, none⟩ (.int .i64 1)) (w.heap.size + 1) (w.heap.size + 1) (dpAll S 0)) := Lib.hid (Row.set_ hR0.out 0 1)
  go_loopw [5, 4] (fun i v wr => ∃ (k g : Nat), k ≤ 64 ∧ i = .int .i64 k ∧ v = .slice (some ⟨g, 0, none⟩) 256 256 ∧ Hid (Row wr (w.heap.size + 1) g (dpAll S k)) ∧ wr.cell? ⟨w.heap.size, 0, none⟩ = some (.slice a n c) ∧ Below w.heap.size w wr) (fun i _ _ => 64 - (intOf i).toNat)
  case atStart => exact ⟨0, _, by omega, rfl, by simp, hR1, by go_simp, Below.setCell hB0 (by simp) _⟩
  case round =>
    clear hcb hR1 hR0 hB0 hc0 hf0
    obtain ⟨k, g, hk, rfl, rfl, hRW, hcb, hB⟩ := hrel
    obtain ⟨ways, hways⟩ : ∃ ways, ways = dpAll S k := ⟨_, rfl⟩
    have HWA := Lib.hid hways
    rw [← hways] at hRW
    have hwl : ways.length = 256 := by rw [hways]; exact dpAll_length _ _
    clear hways
    have hgb := Row.lt hRW.out
    have hwsz : w.heap.size < wr.heap.size := by omega
    by_cases hlt : k < 64
    · obtain ⟨X, hX⟩ : ∃ X : Nat, X = k % 8 := ⟨_, rfl⟩
      obtain ⟨Y, hY⟩ : ∃ Y : Nat, Y = k / 8 := ⟨_, rfl⟩
      have hX8 : X < 8 := by omega
      have hY8 : Y < 8 := by omega
      have eX : (k : Int) % 8 = (X : Int) := by omega
      have hXY : okB (X : Int) (Y : Int) = true := by rw [okB_iff]; omega
      have HAt := Lib.hid (fun W : World => by have g := specAt_any (k : Int) W; rw [(atXY2 hlt).1, (atXY2 hlt).2, eX, show (k : Int) / 8 = (Y : Int) by omega, inB_iff.2 (by omega)] at g; exact g)
      have HXY : Hid (k % 8 = X ∧ k / 8 = Y) := Lib.hid ⟨hX.symm, hY.symm⟩
      obtain ⟨P, hP⟩ : ∃ P : Nat, P = 2 ^ X := ⟨_, rfl⟩
      have hPb : P < 256 := by rw [hP]; exact Nat.lt_of_lt_of_le (Nat.pow_lt_pow_right (by omega) hX8) (by decide)
      have eP : IntKind.i64.wrap ((2 : Int) ^ X) = (P : Int) := by rw [hP]; exact i64_pow (by omega)
      have HPX := Lib.hid hP
      have tokA : True := trivial
      clear hX hY
      go_wp2_with (go_at_call 50; fail)
      refine (HAt.out _).mono ?_
      rintro e wc ⟨rfl, hb⟩
      have hzc := hb.size
      have hcb' := (hb.cell (p := ⟨w.heap.size, 0, none⟩) hwsz).trans hcb
      have hBc : Below w.heap.size w wc := hB.trans (hb.mono (by omega))
      have hRWc := Lib.hid (Row.below hRW.out hb)
      have hgc : g < wc.heap.size := by omega
      have hwc : w.heap.size < wc.heap.size := by omega
      clear hb hcb hRW
      go_wp2_with (at_make; refine wpList_make_full _ rfl _ _ 24 rfl (w.heap.size + 1) 3 i0 (.int .i64 0) 1 Try.underlying24 hi hz0 hz1 _ _ _ _ 256 rfl rfl rfl rfl (by rw [hz2]; omega) (by unfold maxLen; omega) (by simp; omega) ?_; intro wn hown0 hgrow0)
      rw [row_new] at hown0
      have hRN : Hid (Row wn (w.heap.size + 1) (wc.heap.size + 1) (List.replicate 256 0)) := Lib.hid (by simpa [Row] using hown0)
      have hGn : Below (wc.heap.size + 1) (wc.alloc (.cells #[.int .i64 X, .int .i64 Y] 49)) wn := (Below.refl _ _).grown hgrow0 (by simp) (fun k h => by cases h)
      have hRW : Hid (Row wn (w.heap.size + 1) g ways) := Lib.hid (Row.below (Row.alloc hRWc.out _) (by simpa using hGn))
      have hcx : wn.cell? ⟨wc.heap.size, 0, none⟩ = some (.int .i64 X) := (hGn.cell (p := ⟨wc.heap.size, 0, none⟩) (by simp)).trans (by go_simp)
      have hcy : wn.cell? ⟨wc.heap.size, 1, none⟩ = some (.int .i64 Y) := (hGn.cell (p := ⟨wc.heap.size, 1, none⟩) (by simp)).trans (by go_simp)
      have hcb : wn.cell? ⟨w.heap.size, 0, none⟩ = some (.slice a n c) := (hGn.cell (p := ⟨w.heap.size, 0, none⟩) (by simp; omega)).trans (by go_simp)
      have hBn : Below w.heap.size w wn := (hBc.alloc (by omega) _).trans (hGn.mono (by omega))
      have hmn : wc.heap.size + 1 < wn.heap.size := (Row.lt hRN.out).2
      clear hown0 hgrow0 hGn hcb' hRWc
      have hne1 : ¬ w.heap.size = wc.heap.size := by omega
      have hne2 : ¬ wc.heap.size = w.heap.size := by omega
      have hne3 : ¬ w.heap.size = wc.heap.size + 1 := by omega
      have hne4 : ¬ wc.heap.size + 1 = w.heap.size := by omega
      go_loopw [10] (fun s wq => ∃ (j : Nat) (l : List Int), j ≤ 256 ∧ s = .int .i64 j ∧ Hid (Row wq (w.heap.size + 1) (wc.heap.size + 1) l) ∧ Hid (Row wq (w.heap.size + 1) g ways) ∧ Hid (l = dpTo S X Y ways j) ∧ wq.cell? ⟨w.heap.size, 0, none⟩ = some (.slice a n c) ∧ wq.cell? ⟨wc.heap.size, 0, none⟩ = some (.int .i64 X) ∧ wq.cell? ⟨wc.heap.size, 1, none⟩ = some (.int .i64 Y) ∧ Below w.heap.size w wq ∧ wn.heap.size ≤ wq.heap.size) (fun s _ => 256 - (intOf s).toNat)
      case atStart => exact ⟨0, _, by omega, rfl, hRN, hRW, Lib.hid (dpTo_zero _ _ _ _).symm, hcb, hcx, hcy, hBn, Nat.le_refl _⟩
      case round =>
        clear hRN hRW hcb hcx hcy hBn
        obtain ⟨j, l, hj0, rfl, hRN, hRW, hL, hcb, hcx, hcy, hBq, hlq⟩ := hrel
        have hmq : wc.heap.size + 1 < wr.heap.size := by omega
        by_cases hj : j < 256
        · obtain ⟨v, hv⟩ : ∃ v, ways.getD j 0 = v := ⟨_, rfl⟩
          obtain ⟨hcW, -⟩ := Row.at_ hRW.out (k := j) hj
          rw [hv] at hcW
          have HV := Lib.hid hv
          clear hv
          have hj2 : (j : Int) < 256 := by omega
          have hgl := (Row.lt hRW.out).2
          by_cases hn0 : v = 0
          · subst hn0
            go_wp2
            go_roundw
            case rel => exact ⟨j + 1, l, by omega, by go_num, hRN, hRW, Lib.hid (by rw [dpTo_succ, HV.out, ← hL.out, dp_zero]), by go_simp, by go_simp, by go_simp, by repeat' (first | assumption | (with_reducible exact Below.refl _ _) | (with_reducible refine Below.drew ?_) | (with_reducible refine Below.alloc ?_ ?_ _) | (with_reducible refine Below.setCell ?_ ?_ _) | omega | (simp; done) | (simp; omega)), by first | omega | (simp; omega)⟩
            case measure => simp [intOf]; omega
          · have t1 : (v == 0) = false := by rw [beq_eq_false_iff_ne]; exact hn0
            by_cases hs : hasB (setS zs) X Y = true
            · have HSt : Hid (S X Y = true) := Lib.hid (by rw [HS.out]; simpa [sxy] using hs)
              have HHas := Lib.hid (fun (W : World) (h : RdI W a zs) => l03_val a n c zs X Y W HZ.out HOKR.out hXY h hs)
              clear hs
              by_cases hc : j.testBit X = true
              · have e2 : bits .and .i64 ((j : Int) / 2 ^ X) 1 = 1 := by rw [shr_one hj, hc]; rfl
                have hPZ : (P : Int) = 2 ^ X := by rw [hP]; simp
                have hPj := small_sub hc
                obtain ⟨f, hf⟩ : ∃ f, f = j - 2 ^ X := ⟨_, rfl⟩
                rw [← hP] at hPj hf
                have ef : (j : Int) - (P : Int) = (f : Int) := by omega
                have ef2 : IntKind.i64.wrap ((j : Int) - (P : Int)) = (f : Int) := by rw [IntKind.wrap_i64]; omega
                have hf256 : f < 256 := by omega
                have hPji : (P : Int) ≤ (j : Int) := by omega
                have eD : (j : Int) - 2 ^ X = (f : Int) := by rw [← hPZ]; omega
                have HFJ : Hid (j - 2 ^ X = f) := Lib.hid (by rw [← hP]; exact hf.symm)
                have ef3 : wrap64 ((j : Int) - 2 ^ X) = (f : Int) := by rw [wrap64_w64, ← hPZ]; unfold w64; omega
                clear hf
                go_wp2_with (go_at_call 51; fail)
                refine (HHas.out _ (Rd.below hr (by repeat' (first | assumption | (with_reducible exact Below.refl _ _) | (with_reducible refine Below.drew ?_) | (with_reducible refine Below.alloc ?_ ?_ _) | (with_reducible refine Below.setCell ?_ ?_ _) | omega | (simp; done) | (simp; omega))))).mono ?_
                rintro e wl ⟨rfl, hb⟩
                have hzwl := hb.size
                (try simp at hzwl)
                have hcb : wl.cell? ⟨w.heap.size, 0, none⟩ = some (.slice a n c) := (hb.cell (p := ⟨w.heap.size, 0, none⟩) (by first | omega | (simp; done) | (simp; omega))).trans (by go_simp)
                have hcx : wl.cell? ⟨wc.heap.size, 0, none⟩ = some (.int .i64 X) := (hb.cell (p := ⟨wc.heap.size, 0, none⟩) (by first | omega | (simp; done) | (simp; omega))).trans (by go_simp)
                have hcy : wl.cell? ⟨wc.heap.size, 1, none⟩ = some (.int .i64 Y) := (hb.cell (p := ⟨wc.heap.size, 1, none⟩) (by first | omega | (simp; done) | (simp; omega))).trans (by go_simp)
                have hBwl : Below w.heap.size w wl := below_step hb (by first | omega | (simp; done) | (simp; omega)) (by repeat' (first | assumption | (with_reducible exact Below.refl _ _) | (with_reducible refine Below.drew ?_) | (with_reducible refine Below.alloc ?_ ?_ _) | (with_reducible refine Below.setCell ?_ ?_ _) | omega | (simp; done) | (simp; omega)))
                have hRN := Lib.hid (Row.below (hRN.out) hb)
                have hRW := Lib.hid (Row.below (hRW.out) hb)
                have hlwl : wn.heap.size ≤ wl.heap.size := by omega
                have hmwl : wc.heap.size + 1 < wl.heap.size := by omega
                have hxwl : w.heap.size < wl.heap.size := by omega
                have hywl : wc.heap.size < wl.heap.size := by omega
                have hn0wl : ¬ wl.heap.size = w.heap.size := by omega
                have hn1wl : ¬ w.heap.size = wl.heap.size := by omega
                have hn2wl : ¬ wl.heap.size = wc.heap.size := by omega
                have hn3wl : ¬ wc.heap.size = wl.heap.size := by omega
                have hn4wl : ¬ wl.heap.size = wc.heap.size + 1 := by omega
                have hn5wl : ¬ wc.heap.size + 1 = wl.heap.size := by omega
                clear hb
                obtain ⟨hcN, hfN⟩ := Row.at_ hRN.out (k := f) (by omega)
                obtain ⟨lv, hlv⟩ : ∃ lv, l.getD f 0 = lv := ⟨_, rfl⟩
                rw [hlv] at hcN
                obtain ⟨u, hu⟩ : ∃ u, u = w64 (lv + v) := ⟨_, rfl⟩
                have eS : wrap64 (lv + v) = u := by rw [hu]; exact wrap64_w64 _
                have eS2 : IntKind.i64.wrap (lv + v) = u := by rw [hu]; exact wrap_w64 _
                have HPU : Hid (putAt l f v = l.set f u) := Lib.hid (by rw [putAt_eq hlv, hu])
                clear hu hlv
                go_wp2
                go_roundw
                case rel => exact ⟨j + 1, l.set f u, by omega, by go_num, Lib.hid (Row.set_ hRN.out f u), Lib.hid (Row.far hRW.out (by simp; omega) _), Lib.hid (by rw [dpTo_succ, HV.out, ← hL.out, dp_cov hn0 HSt.out hc, HFJ.out, HPU.out]), by go_simp, by go_simp, by go_simp, by repeat' (first | assumption | (with_reducible exact Below.refl _ _) | (with_reducible refine Below.drew ?_) | (with_reducible refine Below.alloc ?_ ?_ _) | (with_reducible refine Below.setCell ?_ ?_ _) | omega | (simp; done) | (simp; omega)), by first | omega | (simp; omega)⟩
                case measure => simp [intOf]; omega
              · have hc : j.testBit X = false := by simpa using hc
                have e2 : bits .and .i64 ((j : Int) / 2 ^ X) 1 = 0 := by rw [shr_one hj, hc]; rfl
                go_wp2_with (go_at_call 51; fail)
                refine (HHas.out _ (Rd.below hr (by repeat' (first | assumption | (with_reducible exact Below.refl _ _) | (with_reducible refine Below.drew ?_) | (with_reducible refine Below.alloc ?_ ?_ _) | (with_reducible refine Below.setCell ?_ ?_ _) | omega | (simp; done) | (simp; omega))))).mono ?_
                rintro e wl ⟨rfl, hb⟩
                have hzwl := hb.size
                (try simp at hzwl)
                have hcb : wl.cell? ⟨w.heap.size, 0, none⟩ = some (.slice a n c) := (hb.cell (p := ⟨w.heap.size, 0, none⟩) (by first | omega | (simp; done) | (simp; omega))).trans (by go_simp)
                have hcx : wl.cell? ⟨wc.heap.size, 0, none⟩ = some (.int .i64 X) := (hb.cell (p := ⟨wc.heap.size, 0, none⟩) (by first | omega | (simp; done) | (simp; omega))).trans (by go_simp)
                have hcy : wl.cell? ⟨wc.heap.size, 1, none⟩ = some (.int .i64 Y) := (hb.cell (p := ⟨wc.heap.size, 1, none⟩) (by first | omega | (simp; done) | (simp; omega))).trans (by go_simp)
                have hBwl : Below w.heap.size w wl := below_step hb (by first | omega | (simp; done) | (simp; omega)) (by repeat' (first | assumption | (with_reducible exact Below.refl _ _) | (with_reducible refine Below.drew ?_) | (with_reducible refine Below.alloc ?_ ?_ _) | (with_reducible refine Below.setCell ?_ ?_ _) | omega | (simp; done) | (simp; omega)))
                have hRN := Lib.hid (Row.below (hRN.out) hb)
                have hRW := Lib.hid (Row.below (hRW.out) hb)
                have hlwl : wn.heap.size ≤ wl.heap.size := by omega
                have hmwl : wc.heap.size + 1 < wl.heap.size := by omega
                have hxwl : w.heap.size < wl.heap.size := by omega
                have hywl : wc.heap.size < wl.heap.size := by omega
                have hn0wl : ¬ wl.heap.size = w.heap.size := by omega
                have hn1wl : ¬ w.heap.size = wl.heap.size := by omega
                have hn2wl : ¬ wl.heap.size = wc.heap.size := by omega
                have hn3wl : ¬ wc.heap.size = wl.heap.size := by omega
                have hn4wl : ¬ wl.heap.size = wc.heap.size + 1 := by omega
                have hn5wl : ¬ wc.heap.size + 1 = wl.heap.size := by omega
                clear hb
                have hqlt := small_or hj hX8
                obtain ⟨q, hq⟩ : ∃ q, q = j ||| 2 ^ X := ⟨_, rfl⟩
                rw [← hq] at hqlt
                have eq1 : bits .or .i64 (j : Int) (P : Int) = (q : Int) := by rw [(i64_bits_small (by omega) (by omega)).1, hq, hP]
                have hPZ : (P : Int) = 2 ^ X := by rw [hP]; simp
                have eq1b : bits .or .i64 (j : Int) (2 ^ X) = (q : Int) := by rw [← hPZ]; exact eq1
                have hqI : (q : Int) < 256 := by omega
                have HQ := Lib.hid hq
                clear hq
                have hbel : (okB (X : Int) ((Y : Int) + 1) = false ∨ (okB (X : Int) ((Y : Int) + 1) = true ∧ hasB (setS zs) (X : Int) ((Y : Int) + 1) = false)) ∨ (okB (X : Int) ((Y : Int) + 1) = true ∧ hasB (setS zs) (X : Int) ((Y : Int) + 1) = true) := by
                  cases okB (X : Int) ((Y : Int) + 1) <;> cases hasB (setS zs) (X : Int) ((Y : Int) + 1) <;> simp
                rcases hbel with (hok2 | ⟨hok2, hs2⟩) | ⟨hok2, hs2⟩
                all_goals first
                  | (
                      have _t : okB (X : Int) ((Y : Int) + 1) = false := hok2
                      have hss : Hid (S X (Y + 1) = false) := Lib.hid (by rw [HS.out]; simp [sxy, hasB, hok2])
                      have HO := Lib.hid (fun W : World => ok_val (X : Int) ((Y : Int) + 1) W hok2)
                      clear hok2
                      go_wp2_with (go_at_call 52; fail)
                      refine (HO.out _).mono ?_
                      rintro e wz ⟨rfl, hb⟩
                      have hzwz := hb.size
                      (try simp at hzwz)
                      have hcb : wz.cell? ⟨w.heap.size, 0, none⟩ = some (.slice a n c) := (hb.cell (p := ⟨w.heap.size, 0, none⟩) (by first | omega | (simp; done) | (simp; omega))).trans (by go_simp)
                      have hcx : wz.cell? ⟨wc.heap.size, 0, none⟩ = some (.int .i64 X) := (hb.cell (p := ⟨wc.heap.size, 0, none⟩) (by first | omega | (simp; done) | (simp; omega))).trans (by go_simp)
                      have hcy : wz.cell? ⟨wc.heap.size, 1, none⟩ = some (.int .i64 Y) := (hb.cell (p := ⟨wc.heap.size, 1, none⟩) (by first | omega | (simp; done) | (simp; omega))).trans (by go_simp)
                      have hBwz : Below w.heap.size w wz := below_step hb (by first | omega | (simp; done) | (simp; omega)) (by repeat' (first | assumption | (with_reducible exact Below.refl _ _) | (with_reducible refine Below.drew ?_) | (with_reducible refine Below.alloc ?_ ?_ _) | (with_reducible refine Below.setCell ?_ ?_ _) | omega | (simp; done) | (simp; omega)))
                      have hRN := Lib.hid (Row.below (Row.alloc hRN.out _) hb)
                      have hRW := Lib.hid (Row.below (Row.alloc hRW.out _) hb)
                      have hlwz : wn.heap.size ≤ wz.heap.size := by omega
                      have hmwz : wc.heap.size + 1 < wz.heap.size := by omega
                      have hxwz : w.heap.size < wz.heap.size := by omega
                      have hywz : wc.heap.size < wz.heap.size := by omega
                      have hn0wz : ¬ wz.heap.size = w.heap.size := by omega
                      have hn1wz : ¬ w.heap.size = wz.heap.size := by omega
                      have hn2wz : ¬ wz.heap.size = wc.heap.size := by omega
                      have hn3wz : ¬ wc.heap.size = wz.heap.size := by omega
                      have hn4wz : ¬ wz.heap.size = wc.heap.size + 1 := by omega
                      have hn5wz : ¬ wc.heap.size + 1 = wz.heap.size := by omega
                      clear hb
                      obtain ⟨l1, hl1⟩ : ∃ l1, l1 = l := ⟨_, rfl⟩
                      have HL1 : Hid (l1 = if S X (Y + 1) then putAt l (j ||| 2 ^ X) v else l) := Lib.hid (by rw [hss.out, hl1]; rfl)
                      rw [← hl1] at hRN
                      clear hl1
                      go_wp2_with (go_at_call 52; fail)
                      )
                  | (
                      have _t : hasB (setS zs) (X : Int) ((Y : Int) + 1) = false := hs2
                      have hss : Hid (S X (Y + 1) = false) := Lib.hid (by rw [HS.out]; simp [sxy, hs2])
                      have HO := Lib.hid (fun W : World => ok_val (X : Int) ((Y : Int) + 1) W hok2)
                      have HH2 := Lib.hid (fun (W : World) (h : RdI W a zs) => l03_val a n c zs (X : Int) ((Y : Int) + 1) W HZ.out HOKR.out hok2 h hs2)
                      clear hok2 hs2
                      go_wp2_with (go_at_call 52; fail)
                      refine (HO.out _).mono ?_
                      rintro e wk ⟨rfl, hb⟩
                      have hzwk := hb.size
                      (try simp at hzwk)
                      have hcb : wk.cell? ⟨w.heap.size, 0, none⟩ = some (.slice a n c) := (hb.cell (p := ⟨w.heap.size, 0, none⟩) (by first | omega | (simp; done) | (simp; omega))).trans (by go_simp)
                      have hcx : wk.cell? ⟨wc.heap.size, 0, none⟩ = some (.int .i64 X) := (hb.cell (p := ⟨wc.heap.size, 0, none⟩) (by first | omega | (simp; done) | (simp; omega))).trans (by go_simp)
                      have hcy : wk.cell? ⟨wc.heap.size, 1, none⟩ = some (.int .i64 Y) := (hb.cell (p := ⟨wc.heap.size, 1, none⟩) (by first | omega | (simp; done) | (simp; omega))).trans (by go_simp)
                      have hbx : wk.cell? ⟨wl.heap.size, 0, none⟩ = some (.int .i64 X) := (hb.cell (p := ⟨wl.heap.size, 0, none⟩) (by first | omega | (simp; done) | (simp; omega))).trans (by go_simp)
                      have hby : wk.cell? ⟨wl.heap.size, 1, none⟩ = some (.int .i64 ((Y : Int) + 1)) := (hb.cell (p := ⟨wl.heap.size, 1, none⟩) (by first | omega | (simp; done) | (simp; omega))).trans (by go_simp)
                      have hblwk : wl.heap.size < wk.heap.size := by omega
                      have hBwk : Below w.heap.size w wk := below_step hb (by first | omega | (simp; done) | (simp; omega)) (by repeat' (first | assumption | (with_reducible exact Below.refl _ _) | (with_reducible refine Below.drew ?_) | (with_reducible refine Below.alloc ?_ ?_ _) | (with_reducible refine Below.setCell ?_ ?_ _) | omega | (simp; done) | (simp; omega)))
                      have hRN := Lib.hid (Row.below (Row.alloc hRN.out _) hb)
                      have hRW := Lib.hid (Row.below (Row.alloc hRW.out _) hb)
                      have hlwk : wn.heap.size ≤ wk.heap.size := by omega
                      have hmwk : wc.heap.size + 1 < wk.heap.size := by omega
                      have hxwk : w.heap.size < wk.heap.size := by omega
                      have hywk : wc.heap.size < wk.heap.size := by omega
                      have hn0wk : ¬ wk.heap.size = w.heap.size := by omega
                      have hn1wk : ¬ w.heap.size = wk.heap.size := by omega
                      have hn2wk : ¬ wk.heap.size = wc.heap.size := by omega
                      have hn3wk : ¬ wc.heap.size = wk.heap.size := by omega
                      have hn4wk : ¬ wk.heap.size = wc.heap.size + 1 := by omega
                      have hn5wk : ¬ wc.heap.size + 1 = wk.heap.size := by omega
                      clear hb
                      go_wp2_with (go_at_call 51; fail)
                      refine (HH2.out _ (Rd.below hr (by repeat' (first | assumption | (with_reducible exact Below.refl _ _) | (with_reducible refine Below.drew ?_) | (with_reducible refine Below.alloc ?_ ?_ _) | (with_reducible refine Below.setCell ?_ ?_ _) | omega | (simp; done) | (simp; omega))))).mono ?_
                      rintro e wz ⟨rfl, hb⟩
                      have hzwz := hb.size
                      (try simp at hzwz)
                      have hcb : wz.cell? ⟨w.heap.size, 0, none⟩ = some (.slice a n c) := (hb.cell (p := ⟨w.heap.size, 0, none⟩) (by first | omega | (simp; done) | (simp; omega))).trans (by go_simp)
                      have hcx : wz.cell? ⟨wc.heap.size, 0, none⟩ = some (.int .i64 X) := (hb.cell (p := ⟨wc.heap.size, 0, none⟩) (by first | omega | (simp; done) | (simp; omega))).trans (by go_simp)
                      have hcy : wz.cell? ⟨wc.heap.size, 1, none⟩ = some (.int .i64 Y) := (hb.cell (p := ⟨wc.heap.size, 1, none⟩) (by first | omega | (simp; done) | (simp; omega))).trans (by go_simp)
                      have hBwz : Below w.heap.size w wz := below_step hb (by first | omega | (simp; done) | (simp; omega)) (by repeat' (first | assumption | (with_reducible exact Below.refl _ _) | (with_reducible refine Below.drew ?_) | (with_reducible refine Below.alloc ?_ ?_ _) | (with_reducible refine Below.setCell ?_ ?_ _) | omega | (simp; done) | (simp; omega)))
                      have hRN := Lib.hid (Row.below (hRN.out) hb)
                      have hRW := Lib.hid (Row.below (hRW.out) hb)
                      have hlwz : wn.heap.size ≤ wz.heap.size := by omega
                      have hmwz : wc.heap.size + 1 < wz.heap.size := by omega
                      have hxwz : w.heap.size < wz.heap.size := by omega
                      have hywz : wc.heap.size < wz.heap.size := by omega
                      have hn0wz : ¬ wz.heap.size = w.heap.size := by omega
                      have hn1wz : ¬ w.heap.size = wz.heap.size := by omega
                      have hn2wz : ¬ wz.heap.size = wc.heap.size := by omega
                      have hn3wz : ¬ wc.heap.size = wz.heap.size := by omega
                      have hn4wz : ¬ wz.heap.size = wc.heap.size + 1 := by omega
                      have hn5wz : ¬ wc.heap.size + 1 = wz.heap.size := by omega
                      clear hb
                      obtain ⟨l1, hl1⟩ : ∃ l1, l1 = l := ⟨_, rfl⟩
                      have HL1 : Hid (l1 = if S X (Y + 1) then putAt l (j ||| 2 ^ X) v else l) := Lib.hid (by rw [hss.out, hl1]; rfl)
                      rw [← hl1] at hRN
                      clear hl1
                      go_wp2_with (go_at_call 52; fail)
                      )
                  | (
                      have _t : hasB (setS zs) (X : Int) ((Y : Int) + 1) = true := hs2
                      have hss : Hid (S X (Y + 1) = true) := Lib.hid (by rw [HS.out]; simp [sxy, hs2])
                      have HO := Lib.hid (fun W : World => ok_val (X : Int) ((Y : Int) + 1) W hok2)
                      have HH2 := Lib.hid (fun (W : World) (h : RdI W a zs) => l03_val a n c zs (X : Int) ((Y : Int) + 1) W HZ.out HOKR.out hok2 h hs2)
                      clear hok2 hs2
                      go_wp2_with (go_at_call 52; fail)
                      refine (HO.out _).mono ?_
                      rintro e wk ⟨rfl, hb⟩
                      have hzwk := hb.size
                      (try simp at hzwk)
                      have hcb : wk.cell? ⟨w.heap.size, 0, none⟩ = some (.slice a n c) := (hb.cell (p := ⟨w.heap.size, 0, none⟩) (by first | omega | (simp; done) | (simp; omega))).trans (by go_simp)
                      have hcx : wk.cell? ⟨wc.heap.size, 0, none⟩ = some (.int .i64 X) := (hb.cell (p := ⟨wc.heap.size, 0, none⟩) (by first | omega | (simp; done) | (simp; omega))).trans (by go_simp)
                      have hcy : wk.cell? ⟨wc.heap.size, 1, none⟩ = some (.int .i64 Y) := (hb.cell (p := ⟨wc.heap.size, 1, none⟩) (by first | omega | (simp; done) | (simp; omega))).trans (by go_simp)
                      have hbx : wk.cell? ⟨wl.heap.size, 0, none⟩ = some (.int .i64 X) := (hb.cell (p := ⟨wl.heap.size, 0, none⟩) (by first | omega | (simp; done) | (simp; omega))).trans (by go_simp)
                      have hby : wk.cell? ⟨wl.heap.size, 1, none⟩ = some (.int .i64 ((Y : Int) + 1)) := (hb.cell (p := ⟨wl.heap.size, 1, none⟩) (by first | omega | (simp; done) | (simp; omega))).trans (by go_simp)
                      have hblwk : wl.heap.size < wk.heap.size := by omega
                      have hBwk : Below w.heap.size w wk := below_step hb (by first | omega | (simp; done) | (simp; omega)) (by repeat' (first | assumption | (with_reducible exact Below.refl _ _) | (with_reducible refine Below.drew ?_) | (with_reducible refine Below.alloc ?_ ?_ _) | (with_reducible refine Below.setCell ?_ ?_ _) | omega | (simp; done) | (simp; omega)))
                      have hRN := Lib.hid (Row.below (Row.alloc hRN.out _) hb)
                      have hRW := Lib.hid (Row.below (Row.alloc hRW.out _) hb)
                      have hlwk : wn.heap.size ≤ wk.heap.size := by omega
                      have hmwk : wc.heap.size + 1 < wk.heap.size := by omega
                      have hxwk : w.heap.size < wk.heap.size := by omega
                      have hywk : wc.heap.size < wk.heap.size := by omega
                      have hn0wk : ¬ wk.heap.size = w.heap.size := by omega
                      have hn1wk : ¬ w.heap.size = wk.heap.size := by omega
                      have hn2wk : ¬ wk.heap.size = wc.heap.size := by omega
                      have hn3wk : ¬ wc.heap.size = wk.heap.size := by omega
                      have hn4wk : ¬ wk.heap.size = wc.heap.size + 1 := by omega
                      have hn5wk : ¬ wc.heap.size + 1 = wk.heap.size := by omega
                      clear hb
                      go_wp2_with (go_at_call 51; fail)
                      refine (HH2.out _ (Rd.below hr (by repeat' (first | assumption | (with_reducible exact Below.refl _ _) | (with_reducible refine Below.drew ?_) | (with_reducible refine Below.alloc ?_ ?_ _) | (with_reducible refine Below.setCell ?_ ?_ _) | omega | (simp; done) | (simp; omega))))).mono ?_
                      rintro e wm ⟨rfl, hb⟩
                      have hzwm := hb.size
                      (try simp at hzwm)
                      have hcb : wm.cell? ⟨w.heap.size, 0, none⟩ = some (.slice a n c) := (hb.cell (p := ⟨w.heap.size, 0, none⟩) (by first | omega | (simp; done) | (simp; omega))).trans (by go_simp)
                      have hcx : wm.cell? ⟨wc.heap.size, 0, none⟩ = some (.int .i64 X) := (hb.cell (p := ⟨wc.heap.size, 0, none⟩) (by first | omega | (simp; done) | (simp; omega))).trans (by go_simp)
                      have hcy : wm.cell? ⟨wc.heap.size, 1, none⟩ = some (.int .i64 Y) := (hb.cell (p := ⟨wc.heap.size, 1, none⟩) (by first | omega | (simp; done) | (simp; omega))).trans (by go_simp)
                      have hBwm : Below w.heap.size w wm := below_step hb (by first | omega | (simp; done) | (simp; omega)) (by repeat' (first | assumption | (with_reducible exact Below.refl _ _) | (with_reducible refine Below.drew ?_) | (with_reducible refine Below.alloc ?_ ?_ _) | (with_reducible refine Below.setCell ?_ ?_ _) | omega | (simp; done) | (simp; omega)))
                      have hRN := Lib.hid (Row.below (hRN.out) hb)
                      have hRW := Lib.hid (Row.below (hRW.out) hb)
                      have hlwm : wn.heap.size ≤ wm.heap.size := by omega
                      have hmwm : wc.heap.size + 1 < wm.heap.size := by omega
                      have hxwm : w.heap.size < wm.heap.size := by omega
                      have hywm : wc.heap.size < wm.heap.size := by omega
                      have hn0wm : ¬ wm.heap.size = w.heap.size := by omega
                      have hn1wm : ¬ w.heap.size = wm.heap.size := by omega
                      have hn2wm : ¬ wm.heap.size = wc.heap.size := by omega
                      have hn3wm : ¬ wc.heap.size = wm.heap.size := by omega
                      have hn4wm : ¬ wm.heap.size = wc.heap.size + 1 := by omega
                      have hn5wm : ¬ wc.heap.size + 1 = wm.heap.size := by omega
                      clear hb
                      obtain ⟨hcN, hfN⟩ := Row.at_ hRN.out (k := q) (by omega)
                      obtain ⟨lv, hlv⟩ : ∃ lv, l.getD q 0 = lv := ⟨_, rfl⟩
                      rw [hlv] at hcN
                      obtain ⟨u, hu⟩ : ∃ u, u = w64 (lv + v) := ⟨_, rfl⟩
                      have eS : wrap64 (lv + v) = u := by rw [hu]; exact wrap64_w64 _
                      have eS2 : IntKind.i64.wrap (lv + v) = u := by rw [hu]; exact wrap_w64 _
                      have HPU : Hid (putAt l q v = l.set q u) := Lib.hid (by rw [putAt_eq hlv, hu])
                      clear hu hlv
                      go_wp2_with fail
                      refine hold_start (S := (fun w' => Below w.heap.size w w' ∧ wm.heap.size ≤ w'.heap.size)) (by kernel_rfl) (by kernel_rfl) (by intro _ _ d _ _ h; cases d <;> exact h) ?_ (fun hHC hH0 => ?_)
                      · (first | (go_keep; done) | ((try go_split_ands); (repeat' apply And.intro) <;> first | assumption | (with_reducible refine Rd.below ?_ hb1; assumption) | (with_reducible refine Rd.drew ?_; repeat' (first | assumption | (with_reducible refine Rd.alloc ?_ _))) | (refine (hb1.cell (by first | omega | (simp; done) | (simp; omega))).trans ?_; first | assumption | simp) | (exact below_step hb1 (by first | omega | (simp; done) | (simp; omega)) (by assumption)) | (have hz' := hb1.size; (try simp at hz'); omega) | ((repeat' (first | assumption | (with_reducible exact Below.refl _ _) | (with_reducible refine Below.drew ?_) | (with_reducible refine Below.alloc ?_ ?_ _) | (with_reducible refine Below.setCell ?_ ?_ _) | omega | (simp; done) | (simp; omega))); done) | go_simp | (simp; done) | (simp; omega)))
                      refine hold_plain 0 (v := ?_) hHC hH0 (by simp only [List.getElem?_toArray, List.getElem?_cons_succ, List.getElem?_cons_zero]; rfl) rfl (by kernel_rfl) ?_ ?_
                      rotate_left 1
                      · (intro w hSw; (try dsimp only at hSw); go_simp; try with_reducible rfl)
                      try simp only [Act.put, List.setIfInBounds_toArray, List.set_cons_zero, List.set_cons_succ]
                      refine hold_plain 1 (v := ?_) hHC hH0 (by simp only [List.getElem?_toArray, List.getElem?_cons_succ, List.getElem?_cons_zero]; rfl) rfl (by kernel_rfl) ?_ ?_
                      rotate_left 1
                      · (intro w hSw; (try dsimp only at hSw); go_simp; try with_reducible rfl)
                      try simp only [Act.put, List.setIfInBounds_toArray, List.set_cons_zero, List.set_cons_succ]
                      refine hold_plain 2 (v := ?_) hHC hH0 (by simp only [List.getElem?_toArray, List.getElem?_cons_succ, List.getElem?_cons_zero]; rfl) rfl (by kernel_rfl) ?_ ?_
                      rotate_left 1
                      · (intro w hSw; (try dsimp only at hSw); go_simp; try with_reducible rfl)
                      try simp only [Act.put, List.setIfInBounds_toArray, List.set_cons_zero, List.set_cons_succ]
                      refine hold_plain 3 (v := ?_) hHC hH0 (by simp only [List.getElem?_toArray, List.getElem?_cons_succ, List.getElem?_cons_zero]; rfl) rfl (by kernel_rfl) ?_ ?_
                      rotate_left 1
                      · (intro w hSw; (try dsimp only at hSw); go_simp; try with_reducible rfl)
                      try simp only [Act.put, List.setIfInBounds_toArray, List.set_cons_zero, List.set_cons_succ]
                      refine hold_plain 4 (v := ?_) hHC hH0 (by simp only [List.getElem?_toArray, List.getElem?_cons_succ, List.getElem?_cons_zero]; rfl) rfl (by kernel_rfl) ?_ ?_
                      rotate_left 1
                      · (intro w hSw; (try dsimp only at hSw); go_simp; try with_reducible rfl)
                      try simp only [Act.put, List.setIfInBounds_toArray, List.set_cons_zero, List.set_cons_succ]
                      refine hold_plain 5 (v := ?_) hHC hH0 (by simp only [List.getElem?_toArray, List.getElem?_cons_succ, List.getElem?_cons_zero]; rfl) rfl (by kernel_rfl) ?_ ?_
                      rotate_left 1
                      · (intro w hSw; (try dsimp only at hSw); go_simp; try with_reducible rfl)
                      try simp only [Act.put, List.setIfInBounds_toArray, List.set_cons_zero, List.set_cons_succ]
                      refine hold_plain 6 (v := ?_) hHC hH0 (by simp only [List.getElem?_toArray, List.getElem?_cons_succ, List.getElem?_cons_zero]; rfl) rfl (by kernel_rfl) ?_ ?_
                      rotate_left 1
                      · (intro w hSw; (try dsimp only at hSw); go_simp; try with_reducible rfl)
                      try simp only [Act.put, List.setIfInBounds_toArray, List.set_cons_zero, List.set_cons_succ]
                      refine hold_plain 7 (v := ?_) hHC hH0 (by simp only [List.getElem?_toArray, List.getElem?_cons_succ, List.getElem?_cons_zero]; rfl) rfl (by kernel_rfl) ?_ ?_
                      rotate_left 1
                      · (intro w hSw; (try dsimp only at hSw); go_simp; try with_reducible rfl)
                      try simp only [Act.put, List.setIfInBounds_toArray, List.set_cons_zero, List.set_cons_succ]
                      refine hold_plain 8 (v := ?_) hHC hH0 (by simp only [List.getElem?_toArray, List.getElem?_cons_succ, List.getElem?_cons_zero]; rfl) rfl (by kernel_rfl) ?_ ?_
                      rotate_left 1
                      · (intro w hSw; (try dsimp only at hSw); go_simp; try with_reducible rfl)
                      try simp only [Act.put, List.setIfInBounds_toArray, List.set_cons_zero, List.set_cons_succ]
                      refine hold_plain 9 (v := ?_) hHC hH0 (by simp only [List.getElem?_toArray, List.getElem?_cons_succ, List.getElem?_cons_zero]; rfl) rfl (by kernel_rfl) ?_ ?_
                      rotate_left 1
                      · (intro w hSw; (try dsimp only at hSw); go_simp; try with_reducible rfl)
                      try simp only [Act.put, List.setIfInBounds_toArray, List.set_cons_zero, List.set_cons_succ]
                      refine hold_plain 10 (v := ?_) hHC hH0 (by simp only [List.getElem?_toArray, List.getElem?_cons_succ, List.getElem?_cons_zero]; rfl) rfl (by kernel_rfl) ?_ ?_
                      rotate_left 1
                      · (intro w hSw; (try dsimp only at hSw); go_simp; try with_reducible rfl)
                      try simp only [Act.put, List.setIfInBounds_toArray, List.set_cons_zero, List.set_cons_succ]
                      refine hold_plain 12 (v := ?_) hHC hH0 (by simp only [List.getElem?_toArray, List.getElem?_cons_succ, List.getElem?_cons_zero]; rfl) rfl (by kernel_rfl) ?_ ?_
                      rotate_left 1
                      · (intro w hSw; (try dsimp only at hSw); go_simp; try with_reducible rfl)
                      try simp only [Act.put, List.setIfInBounds_toArray, List.set_cons_zero, List.set_cons_succ]
                      refine hold_call0 11 (by simp only [List.getElem?_toArray, List.getElem?_cons_succ, List.getElem?_cons_zero]; rfl) rfl (by kernel_rfl) (fun K hK => ?_)
                      go_simp
                      refine hK.out _ _ ?_ (fun hH1 => ?_)
                      · (first | (go_keep; done) | ((try go_split_ands); (repeat' apply And.intro) <;> first | assumption | (with_reducible refine Rd.below ?_ hb1; assumption) | (with_reducible refine Rd.drew ?_; repeat' (first | assumption | (with_reducible refine Rd.alloc ?_ _))) | (refine (hb1.cell (by first | omega | (simp; done) | (simp; omega))).trans ?_; first | assumption | simp) | (exact below_step hb1 (by first | omega | (simp; done) | (simp; omega)) (by assumption)) | (have hz' := hb1.size; (try simp at hz'); omega) | ((repeat' (first | assumption | (with_reducible exact Below.refl _ _) | (with_reducible refine Below.drew ?_) | (with_reducible refine Below.alloc ?_ ?_ _) | (with_reducible refine Below.setCell ?_ ?_ _) | omega | (simp; done) | (simp; omega))); done) | go_simp | (simp; done) | (simp; omega)))
                      clear hK K hH0
                      try simp only [Act.put, List.setIfInBounds_toArray, List.set_cons_zero, List.set_cons_succ]
                      refine hold_plain 13 (v := ?_) hHC hH1 (by simp only [List.getElem?_toArray, List.getElem?_cons_succ, List.getElem?_cons_zero]; rfl) rfl (by kernel_rfl) ?_ ?_
                      rotate_left 1
                      · (intro w hSw; (try dsimp only at hSw); go_simp; try with_reducible rfl)
                      try simp only [Act.put, List.setIfInBounds_toArray, List.set_cons_zero, List.set_cons_succ]
                      refine hold_plain 14 (v := ?_) hHC hH1 (by simp only [List.getElem?_toArray, List.getElem?_cons_succ, List.getElem?_cons_zero]; rfl) rfl (by kernel_rfl) ?_ ?_
                      rotate_left 1
                      · (intro w hSw; (try dsimp only at hSw); go_simp; try with_reducible rfl)
                      try simp only [Act.put, List.setIfInBounds_toArray, List.set_cons_zero, List.set_cons_succ]
                      refine hold_call0 15 (by simp only [List.getElem?_toArray, List.getElem?_cons_succ, List.getElem?_cons_zero]; rfl) rfl (by kernel_rfl) (fun K hK => ?_)
                      go_simp
                      refine hK.out _ _ ?_ (fun hH2 => ?_)
                      · (first | (go_keep; done) | ((try go_split_ands); (repeat' apply And.intro) <;> first | assumption | (with_reducible refine Rd.below ?_ hb1; assumption) | (with_reducible refine Rd.drew ?_; repeat' (first | assumption | (with_reducible refine Rd.alloc ?_ _))) | (refine (hb1.cell (by first | omega | (simp; done) | (simp; omega))).trans ?_; first | assumption | simp) | (exact below_step hb1 (by first | omega | (simp; done) | (simp; omega)) (by assumption)) | (have hz' := hb1.size; (try simp at hz'); omega) | ((repeat' (first | assumption | (with_reducible exact Below.refl _ _) | (with_reducible refine Below.drew ?_) | (with_reducible refine Below.alloc ?_ ?_ _) | (with_reducible refine Below.setCell ?_ ?_ _) | omega | (simp; done) | (simp; omega))); done) | go_simp | (simp; done) | (simp; omega)))
                      clear hK K hH1
                      try simp only [Act.put, List.setIfInBounds_toArray, List.set_cons_zero, List.set_cons_succ]
                      refine wpAnyH_done (by kernel_rfl) ?_ _
                      (try dsimp only at hH2)
                      go_split_ands
                      clear hHC
                      obtain ⟨wz, hwz⟩ : ∃ wz, wz = (wm.setCell ⟨wc.heap.size + 1, q, none⟩ (.int .i64 u)).drew := ⟨_, rfl⟩
                      rw [← hwz]
                      obtain ⟨l1, hl1⟩ : ∃ l1, l1 = l.set q u := ⟨_, rfl⟩
                      have HL1 : Hid (l1 = if S X (Y + 1) then putAt l (j ||| 2 ^ X) v else l) := Lib.hid (by rw [hss.out, if_pos rfl, ← HQ.out, HPU.out]; exact hl1)
                      have hRNz : Hid (Row wz (w.heap.size + 1) (wc.heap.size + 1) l1) := Lib.hid (by rw [hwz, hl1]; exact Row.set_ hRN.out q u)
                      have hRWz : Hid (Row wz (w.heap.size + 1) g ways) := Lib.hid (by rw [hwz]; exact Row.far hRW.out (by simp; omega) _)
                      have hRN := hRNz
                      have hRW := hRWz
                      have hcb : wz.cell? ⟨w.heap.size, 0, none⟩ = some (.slice a n c) := by rw [hwz]; go_simp
                      have hcx : wz.cell? ⟨wc.heap.size, 0, none⟩ = some (.int .i64 X) := by rw [hwz]; go_simp
                      have hcy : wz.cell? ⟨wc.heap.size, 1, none⟩ = some (.int .i64 Y) := by rw [hwz]; go_simp
                      have hBz : Below w.heap.size w wz := by rw [hwz]; exact (Below.setCell hBwm (by simp; omega) _).drew
                      have hzz : wz.heap.size = wm.heap.size := by rw [hwz]; simp
                      have hlwz : wn.heap.size ≤ wz.heap.size := by omega
                      have hmwz : wc.heap.size + 1 < wz.heap.size := by omega
                      have hxwz : w.heap.size < wz.heap.size := by omega
                      have hywz : wc.heap.size < wz.heap.size := by omega
                      clear hwz hl1 hRNz hRWz hzz
                      go_wp2_with (go_at_call 52; fail)
                      )
                all_goals (
                  have hrig : (okB ((X : Int) + 1) (Y : Int) = false ∨ (okB ((X : Int) + 1) (Y : Int) = true ∧ hasB (setS zs) ((X : Int) + 1) (Y : Int) = false)) ∨ (okB ((X : Int) + 1) (Y : Int) = true ∧ hasB (setS zs) ((X : Int) + 1) (Y : Int) = true) := by
                    cases okB ((X : Int) + 1) (Y : Int) <;> cases hasB (setS zs) ((X : Int) + 1) (Y : Int) <;> simp
                  rcases hrig with (hok2 | ⟨hok2, hs2⟩) | ⟨hok2, hs2⟩
                  · have hss : Hid (S (X + 1) Y = false) := Lib.hid (by rw [HS.out]; simp [sxy, hasB, hok2])
                    have HO := Lib.hid (fun W : World => ok_val ((X : Int) + 1) (Y : Int) W hok2)
                    clear hok2
                    go_wp2_with (go_at_call 52; fail)
                    refine (HO.out _).mono ?_
                    rintro e wp ⟨rfl, hb⟩
                    have hzwp := hb.size
                    (try simp at hzwp)
                    have hcb : wp.cell? ⟨w.heap.size, 0, none⟩ = some (.slice a n c) := (hb.cell (p := ⟨w.heap.size, 0, none⟩) (by first | omega | (simp; done) | (simp; omega))).trans (by go_simp)
                    have hcx : wp.cell? ⟨wc.heap.size, 0, none⟩ = some (.int .i64 X) := (hb.cell (p := ⟨wc.heap.size, 0, none⟩) (by first | omega | (simp; done) | (simp; omega))).trans (by go_simp)
                    have hcy : wp.cell? ⟨wc.heap.size, 1, none⟩ = some (.int .i64 Y) := (hb.cell (p := ⟨wc.heap.size, 1, none⟩) (by first | omega | (simp; done) | (simp; omega))).trans (by go_simp)
                    have hBwp : Below w.heap.size w wp := below_step hb (by first | omega | (simp; done) | (simp; omega)) (by repeat' (first | assumption | (with_reducible exact Below.refl _ _) | (with_reducible refine Below.drew ?_) | (with_reducible refine Below.alloc ?_ ?_ _) | (with_reducible refine Below.setCell ?_ ?_ _) | omega | (simp; done) | (simp; omega)))
                    have hRN := Lib.hid (Row.below (Row.alloc hRN.out _) hb)
                    have hRW := Lib.hid (Row.below (Row.alloc hRW.out _) hb)
                    have hlwp : wn.heap.size ≤ wp.heap.size := by omega
                    have hmwp : wc.heap.size + 1 < wp.heap.size := by omega
                    have hxwp : w.heap.size < wp.heap.size := by omega
                    have hywp : wc.heap.size < wp.heap.size := by omega
                    have hn0wp : ¬ wp.heap.size = w.heap.size := by omega
                    have hn1wp : ¬ w.heap.size = wp.heap.size := by omega
                    have hn2wp : ¬ wp.heap.size = wc.heap.size := by omega
                    have hn3wp : ¬ wc.heap.size = wp.heap.size := by omega
                    have hn4wp : ¬ wp.heap.size = wc.heap.size + 1 := by omega
                    have hn5wp : ¬ wc.heap.size + 1 = wp.heap.size := by omega
                    clear hb
                    go_wp2
                    go_roundw
                    case rel => exact ⟨j + 1, l1, by omega, by go_num, hRN, hRW, Lib.hid (by rw [dpTo_succ, HV.out, ← hL.out, dp_has hn0 HSt.out hc, ← HL1.out, hss.out]; simp), by go_simp, by go_simp, by go_simp, by repeat' (first | assumption | (with_reducible exact Below.refl _ _) | (with_reducible refine Below.drew ?_) | (with_reducible refine Below.alloc ?_ ?_ _) | (with_reducible refine Below.setCell ?_ ?_ _) | omega | (simp; done) | (simp; omega)), by first | omega | (simp; omega)⟩
                    case measure => simp [intOf]; omega
                  · have hss : Hid (S (X + 1) Y = false) := Lib.hid (by rw [HS.out]; simp [sxy, hs2])
                    have HO := Lib.hid (fun W : World => ok_val ((X : Int) + 1) (Y : Int) W hok2)
                    have HH2 := Lib.hid (fun (W : World) (h : RdI W a zs) => l03_val a n c zs ((X : Int) + 1) (Y : Int) W HZ.out HOKR.out hok2 h hs2)
                    clear hok2 hs2
                    go_wp2_with (go_at_call 52; fail)
                    refine (HO.out _).mono ?_
                    rintro e wp ⟨rfl, hb⟩
                    have hzwp := hb.size
                    (try simp at hzwp)
                    have hcb : wp.cell? ⟨w.heap.size, 0, none⟩ = some (.slice a n c) := (hb.cell (p := ⟨w.heap.size, 0, none⟩) (by first | omega | (simp; done) | (simp; omega))).trans (by go_simp)
                    have hcx : wp.cell? ⟨wc.heap.size, 0, none⟩ = some (.int .i64 X) := (hb.cell (p := ⟨wc.heap.size, 0, none⟩) (by first | omega | (simp; done) | (simp; omega))).trans (by go_simp)
                    have hcy : wp.cell? ⟨wc.heap.size, 1, none⟩ = some (.int .i64 Y) := (hb.cell (p := ⟨wc.heap.size, 1, none⟩) (by first | omega | (simp; done) | (simp; omega))).trans (by go_simp)
                    have hbx : wp.cell? ⟨wz.heap.size, 0, none⟩ = some (.int .i64 ((X : Int) + 1)) := (hb.cell (p := ⟨wz.heap.size, 0, none⟩) (by first | omega | (simp; done) | (simp; omega))).trans (by go_simp)
                    have hby : wp.cell? ⟨wz.heap.size, 1, none⟩ = some (.int .i64 Y) := (hb.cell (p := ⟨wz.heap.size, 1, none⟩) (by first | omega | (simp; done) | (simp; omega))).trans (by go_simp)
                    have hblwp : wz.heap.size < wp.heap.size := by omega
                    have hBwp : Below w.heap.size w wp := below_step hb (by first | omega | (simp; done) | (simp; omega)) (by repeat' (first | assumption | (with_reducible exact Below.refl _ _) | (with_reducible refine Below.drew ?_) | (with_reducible refine Below.alloc ?_ ?_ _) | (with_reducible refine Below.setCell ?_ ?_ _) | omega | (simp; done) | (simp; omega)))
                    have hRN := Lib.hid (Row.below (Row.alloc hRN.out _) hb)
                    have hRW := Lib.hid (Row.below (Row.alloc hRW.out _) hb)
                    have hlwp : wn.heap.size ≤ wp.heap.size := by omega
                    have hmwp : wc.heap.size + 1 < wp.heap.size := by omega
                    have hxwp : w.heap.size < wp.heap.size := by omega
                    have hywp : wc.heap.size < wp.heap.size := by omega
                    have hn0wp : ¬ wp.heap.size = w.heap.size := by omega
                    have hn1wp : ¬ w.heap.size = wp.heap.size := by omega
                    have hn2wp : ¬ wp.heap.size = wc.heap.size := by omega
                    have hn3wp : ¬ wc.heap.size = wp.heap.size := by omega
                    have hn4wp : ¬ wp.heap.size = wc.heap.size + 1 := by omega
                    have hn5wp : ¬ wc.heap.size + 1 = wp.heap.size := by omega
                    clear hb
                    go_wp2_with (go_at_call 51; fail)
                    refine (HH2.out _ (Rd.below hr (by repeat' (first | assumption | (with_reducible exact Below.refl _ _) | (with_reducible refine Below.drew ?_) | (with_reducible refine Below.alloc ?_ ?_ _) | (with_reducible refine Below.setCell ?_ ?_ _) | omega | (simp; done) | (simp; omega))))).mono ?_
                    rintro e wr2 ⟨rfl, hb⟩
                    have hzwr2 := hb.size
                    (try simp at hzwr2)
                    have hcb : wr2.cell? ⟨w.heap.size, 0, none⟩ = some (.slice a n c) := (hb.cell (p := ⟨w.heap.size, 0, none⟩) (by first | omega | (simp; done) | (simp; omega))).trans (by go_simp)
                    have hcx : wr2.cell? ⟨wc.heap.size, 0, none⟩ = some (.int .i64 X) := (hb.cell (p := ⟨wc.heap.size, 0, none⟩) (by first | omega | (simp; done) | (simp; omega))).trans (by go_simp)
                    have hcy : wr2.cell? ⟨wc.heap.size, 1, none⟩ = some (.int .i64 Y) := (hb.cell (p := ⟨wc.heap.size, 1, none⟩) (by first | omega | (simp; done) | (simp; omega))).trans (by go_simp)
                    have hBwr2 : Below w.heap.size w wr2 := below_step hb (by first | omega | (simp; done) | (simp; omega)) (by repeat' (first | assumption | (with_reducible exact Below.refl _ _) | (with_reducible refine Below.drew ?_) | (with_reducible refine Below.alloc ?_ ?_ _) | (with_reducible refine Below.setCell ?_ ?_ _) | omega | (simp; done) | (simp; omega)))
                    have hRN := Lib.hid (Row.below (hRN.out) hb)
                    have hRW := Lib.hid (Row.below (hRW.out) hb)
                    have hlwr2 : wn.heap.size ≤ wr2.heap.size := by omega
                    have hmwr2 : wc.heap.size + 1 < wr2.heap.size := by omega
                    have hxwr2 : w.heap.size < wr2.heap.size := by omega
                    have hywr2 : wc.heap.size < wr2.heap.size := by omega
                    have hn0wr2 : ¬ wr2.heap.size = w.heap.size := by omega
                    have hn1wr2 : ¬ w.heap.size = wr2.heap.size := by omega
                    have hn2wr2 : ¬ wr2.heap.size = wc.heap.size := by omega
                    have hn3wr2 : ¬ wc.heap.size = wr2.heap.size := by omega
                    have hn4wr2 : ¬ wr2.heap.size = wc.heap.size + 1 := by omega
                    have hn5wr2 : ¬ wc.heap.size + 1 = wr2.heap.size := by omega
                    clear hb
                    go_wp2
                    go_roundw
                    case rel => exact ⟨j + 1, l1, by omega, by go_num, hRN, hRW, Lib.hid (by rw [dpTo_succ, HV.out, ← hL.out, dp_has hn0 HSt.out hc, ← HL1.out, hss.out]; simp), by go_simp, by go_simp, by go_simp, by repeat' (first | assumption | (with_reducible exact Below.refl _ _) | (with_reducible refine Below.drew ?_) | (with_reducible refine Below.alloc ?_ ?_ _) | (with_reducible refine Below.setCell ?_ ?_ _) | omega | (simp; done) | (simp; omega)), by first | omega | (simp; omega)⟩
                    case measure => simp [intOf]; omega
                  · have hss : Hid (S (X + 1) Y = true) := Lib.hid (by rw [HS.out]; simp [sxy, hs2])
                    have hX7 : X + 1 < 8 := by have := (okB_iff.1 hok2).1; omega
                    have HO := Lib.hid (fun W : World => ok_val ((X : Int) + 1) (Y : Int) W hok2)
                    have HH2 := Lib.hid (fun (W : World) (h : RdI W a zs) => l03_val a n c zs ((X : Int) + 1) (Y : Int) W HZ.out HOKR.out hok2 h hs2)
                    clear hok2 hs2
                    go_wp2_with (go_at_call 52; fail)
                    refine (HO.out _).mono ?_
                    rintro e wp ⟨rfl, hb⟩
                    have hzwp := hb.size
                    (try simp at hzwp)
                    have hcb : wp.cell? ⟨w.heap.size, 0, none⟩ = some (.slice a n c) := (hb.cell (p := ⟨w.heap.size, 0, none⟩) (by first | omega | (simp; done) | (simp; omega))).trans (by go_simp)
                    have hcx : wp.cell? ⟨wc.heap.size, 0, none⟩ = some (.int .i64 X) := (hb.cell (p := ⟨wc.heap.size, 0, none⟩) (by first | omega | (simp; done) | (simp; omega))).trans (by go_simp)
                    have hcy : wp.cell? ⟨wc.heap.size, 1, none⟩ = some (.int .i64 Y) := (hb.cell (p := ⟨wc.heap.size, 1, none⟩) (by first | omega | (simp; done) | (simp; omega))).trans (by go_simp)
                    have hbx : wp.cell? ⟨wz.heap.size, 0, none⟩ = some (.int .i64 ((X : Int) + 1)) := (hb.cell (p := ⟨wz.heap.size, 0, none⟩) (by first | omega | (simp; done) | (simp; omega))).trans (by go_simp)
                    have hby : wp.cell? ⟨wz.heap.size, 1, none⟩ = some (.int .i64 Y) := (hb.cell (p := ⟨wz.heap.size, 1, none⟩) (by first | omega | (simp; done) | (simp; omega))).trans (by go_simp)
                    have hblwp : wz.heap.size < wp.heap.size := by omega
                    have hBwp : Below w.heap.size w wp := below_step hb (by first | omega | (simp; done) | (simp; omega)) (by repeat' (first | assumption | (with_reducible exact Below.refl _ _) | (with_reducible refine Below.drew ?_) | (with_reducible refine Below.alloc ?_ ?_ _) | (with_reducible refine Below.setCell ?_ ?_ _) | omega | (simp; done) | (simp; omega)))
                    have hRN := Lib.hid (Row.below (Row.alloc hRN.out _) hb)
                    have hRW := Lib.hid (Row.below (Row.alloc hRW.out _) hb)
                    have hlwp : wn.heap.size ≤ wp.heap.size := by omega
                    have hmwp : wc.heap.size + 1 < wp.heap.size := by omega
                    have hxwp : w.heap.size < wp.heap.size := by omega
                    have hywp : wc.heap.size < wp.heap.size := by omega
                    have hn0wp : ¬ wp.heap.size = w.heap.size := by omega
                    have hn1wp : ¬ w.heap.size = wp.heap.size := by omega
                    have hn2wp : ¬ wp.heap.size = wc.heap.size := by omega
                    have hn3wp : ¬ wc.heap.size = wp.heap.size := by omega
                    have hn4wp : ¬ wp.heap.size = wc.heap.size + 1 := by omega
                    have hn5wp : ¬ wc.heap.size + 1 = wp.heap.size := by omega
                    clear hb
                    go_wp2_with (go_at_call 51; fail)
                    refine (HH2.out _ (Rd.below hr (by repeat' (first | assumption | (with_reducible exact Below.refl _ _) | (with_reducible refine Below.drew ?_) | (with_reducible refine Below.alloc ?_ ?_ _) | (with_reducible refine Below.setCell ?_ ?_ _) | omega | (simp; done) | (simp; omega))))).mono ?_
                    rintro e wr2 ⟨rfl, hb⟩
                    have hzwr2 := hb.size
                    (try simp at hzwr2)
                    have hcb : wr2.cell? ⟨w.heap.size, 0, none⟩ = some (.slice a n c) := (hb.cell (p := ⟨w.heap.size, 0, none⟩) (by first | omega | (simp; done) | (simp; omega))).trans (by go_simp)
                    have hcx : wr2.cell? ⟨wc.heap.size, 0, none⟩ = some (.int .i64 X) := (hb.cell (p := ⟨wc.heap.size, 0, none⟩) (by first | omega | (simp; done) | (simp; omega))).trans (by go_simp)
                    have hcy : wr2.cell? ⟨wc.heap.size, 1, none⟩ = some (.int .i64 Y) := (hb.cell (p := ⟨wc.heap.size, 1, none⟩) (by first | omega | (simp; done) | (simp; omega))).trans (by go_simp)
                    have hBwr2 : Below w.heap.size w wr2 := below_step hb (by first | omega | (simp; done) | (simp; omega)) (by repeat' (first | assumption | (with_reducible exact Below.refl _ _) | (with_reducible refine Below.drew ?_) | (with_reducible refine Below.alloc ?_ ?_ _) | (with_reducible refine Below.setCell ?_ ?_ _) | omega | (simp; done) | (simp; omega)))
                    have hRN := Lib.hid (Row.below (hRN.out) hb)
                    have hRW := Lib.hid (Row.below (hRW.out) hb)
                    have hlwr2 : wn.heap.size ≤ wr2.heap.size := by omega
                    have hmwr2 : wc.heap.size + 1 < wr2.heap.size := by omega
                    have hxwr2 : w.heap.size < wr2.heap.size := by omega
                    have hywr2 : wc.heap.size < wr2.heap.size := by omega
                    have hn0wr2 : ¬ wr2.heap.size = w.heap.size := by omega
                    have hn1wr2 : ¬ w.heap.size = wr2.heap.size := by omega
                    have hn2wr2 : ¬ wr2.heap.size = wc.heap.size := by omega
                    have hn3wr2 : ¬ wc.heap.size = wr2.heap.size := by omega
                    have hn4wr2 : ¬ wr2.heap.size = wc.heap.size + 1 := by omega
                    have hn5wr2 : ¬ wc.heap.size + 1 = wr2.heap.size := by omega
                    clear hb
                    by_cases hc2 : j.testBit (X + 1) = true
                    · have e3 : bits .and .i64 ((j : Int) / 2 ^ (X + 1)) 1 = 1 := by rw [shr_one hj, hc2]; rfl
                      have HC2 := Lib.hid hc2
                      clear hc2
                      go_wp2
                      go_roundw
                      case rel => exact ⟨j + 1, l1, by omega, by go_num, hRN, hRW, Lib.hid (by rw [dpTo_succ, HV.out, ← hL.out, dp_has hn0 HSt.out hc, ← HL1.out, hss.out, HC2.out]; simp), by go_simp, by go_simp, by go_simp, by repeat' (first | assumption | (with_reducible exact Below.refl _ _) | (with_reducible refine Below.drew ?_) | (with_reducible refine Below.alloc ?_ ?_ _) | (with_reducible refine Below.setCell ?_ ?_ _) | omega | (simp; done) | (simp; omega)), by first | omega | (simp; omega)⟩
                      case measure => simp [intOf]; omega
                    · have hc2' : j.testBit (X + 1) = false := by simpa using hc2
                      have e3 : bits .and .i64 ((j : Int) / 2 ^ (X + 1)) 1 = 0 := by rw [shr_one hj, hc2']; rfl
                      have HC2 := Lib.hid hc2'
                      clear hc2 hc2'
                      have hqlt2 := small_or hj hX7
                      obtain ⟨P2, hP2⟩ : ∃ P2 : Nat, P2 = 2 ^ (X + 1) := ⟨_, rfl⟩
                      obtain ⟨q2, hq2⟩ : ∃ q2, q2 = j ||| 2 ^ (X + 1) := ⟨_, rfl⟩
                      rw [← hq2] at hqlt2
                      have hP2b : P2 < 1000 := by rw [hP2]; exact Nat.lt_of_lt_of_le (Nat.pow_lt_pow_right (by omega) hX7) (by decide)
                      have eP2 : IntKind.i64.wrap ((2 : Int) ^ (X + 1)) = (P2 : Int) := by rw [hP2]; exact i64_pow (by omega)
                      have eq2 : bits .or .i64 (j : Int) (P2 : Int) = (q2 : Int) := by rw [(i64_bits_small (by omega) hP2b).1, hq2, hP2]
                      have wX1 : IntKind.i64.wrap ((X : Int) + 1) = (X : Int) + 1 := by rw [IntKind.wrap_i64]; omega
                      have hPZ2 : (P2 : Int) = 2 ^ (X + 1) := by rw [hP2]; simp
                      have eq2b : bits .or .i64 (j : Int) (2 ^ (X + 1)) = (q2 : Int) := by rw [← hPZ2]; exact eq2
                      have hqI2 : (q2 : Int) < 256 := by omega
                      have HQ2 := Lib.hid hq2
                      clear hq2 hP2
                      obtain ⟨hcN, hfN⟩ := Row.at_ hRN.out (k := q2) (by omega)
                      obtain ⟨lv, hlv⟩ : ∃ lv, l1.getD q2 0 = lv := ⟨_, rfl⟩
                      rw [hlv] at hcN
                      obtain ⟨u, hu⟩ : ∃ u, u = w64 (lv + v) := ⟨_, rfl⟩
                      have eS : wrap64 (lv + v) = u := by rw [hu]; exact wrap64_w64 _
                      have eS2 : IntKind.i64.wrap (lv + v) = u := by rw [hu]; exact wrap_w64 _
                      have HPU : Hid (putAt l1 q2 v = l1.set q2 u) := Lib.hid (by rw [putAt_eq hlv, hu])
                      clear hu hlv
                      go_wp2_with fail
                      refine hold_start (S := (fun w' => Below w.heap.size w w' ∧ wr2.heap.size ≤ w'.heap.size)) (by kernel_rfl) (by kernel_rfl) (by intro _ _ d _ _ h; cases d <;> exact h) ?_ (fun hHC hH0 => ?_)
                      · (first | (go_keep; done) | ((try go_split_ands); (repeat' apply And.intro) <;> first | assumption | (with_reducible refine Rd.below ?_ hb1; assumption) | (with_reducible refine Rd.drew ?_; repeat' (first | assumption | (with_reducible refine Rd.alloc ?_ _))) | (refine (hb1.cell (by first | omega | (simp; done) | (simp; omega))).trans ?_; first | assumption | simp) | (exact below_step hb1 (by first | omega | (simp; done) | (simp; omega)) (by assumption)) | (have hz' := hb1.size; (try simp at hz'); omega) | ((repeat' (first | assumption | (with_reducible exact Below.refl _ _) | (with_reducible refine Below.drew ?_) | (with_reducible refine Below.alloc ?_ ?_ _) | (with_reducible refine Below.setCell ?_ ?_ _) | omega | (simp; done) | (simp; omega))); done) | go_simp | (simp; done) | (simp; omega)))
                      refine hold_plain 0 (v := ?_) hHC hH0 (by simp only [List.getElem?_toArray, List.getElem?_cons_succ, List.getElem?_cons_zero]; rfl) rfl (by kernel_rfl) ?_ ?_
                      rotate_left 1
                      · (intro w hSw; (try dsimp only at hSw); go_simp; try with_reducible rfl)
                      try simp only [Act.put, List.setIfInBounds_toArray, List.set_cons_zero, List.set_cons_succ]
                      refine hold_plain 1 (v := ?_) hHC hH0 (by simp only [List.getElem?_toArray, List.getElem?_cons_succ, List.getElem?_cons_zero]; rfl) rfl (by kernel_rfl) ?_ ?_
                      rotate_left 1
                      · (intro w hSw; (try dsimp only at hSw); go_simp; try with_reducible rfl)
                      try simp only [Act.put, List.setIfInBounds_toArray, List.set_cons_zero, List.set_cons_succ]
                      refine hold_plain 2 (v := ?_) hHC hH0 (by simp only [List.getElem?_toArray, List.getElem?_cons_succ, List.getElem?_cons_zero]; rfl) rfl (by kernel_rfl) ?_ ?_
                      rotate_left 1
                      · (intro w hSw; (try dsimp only at hSw); go_simp; try with_reducible rfl)
                      try simp only [Act.put, List.setIfInBounds_toArray, List.set_cons_zero, List.set_cons_succ]
                      refine hold_plain 3 (v := ?_) hHC hH0 (by simp only [List.getElem?_toArray, List.getElem?_cons_succ, List.getElem?_cons_zero]; rfl) rfl (by kernel_rfl) ?_ ?_
                      rotate_left 1
                      · (intro w hSw; (try dsimp only at hSw); go_simp; try with_reducible rfl)
                      try simp only [Act.put, List.setIfInBounds_toArray, List.set_cons_zero, List.set_cons_succ]
                      refine hold_plain 4 (v := ?_) hHC hH0 (by simp only [List.getElem?_toArray, List.getElem?_cons_succ, List.getElem?_cons_zero]; rfl) rfl (by kernel_rfl) ?_ ?_
                      rotate_left 1
                      · (intro w hSw; (try dsimp only at hSw); go_simp; try with_reducible rfl)
                      try simp only [Act.put, List.setIfInBounds_toArray, List.set_cons_zero, List.set_cons_succ]
                      refine hold_plain 5 (v := ?_) hHC hH0 (by simp only [List.getElem?_toArray, List.getElem?_cons_succ, List.getElem?_cons_zero]; rfl) rfl (by kernel_rfl) ?_ ?_
                      rotate_left 1
                      · (intro w hSw; (try dsimp only at hSw); go_simp; try with_reducible rfl)
                      try simp only [Act.put, List.setIfInBounds_toArray, List.set_cons_zero, List.set_cons_succ]
                      refine hold_plain 6 (v := ?_) hHC hH0 (by simp only [List.getElem?_toArray, List.getElem?_cons_succ, List.getElem?_cons_zero]; rfl) rfl (by kernel_rfl) ?_ ?_
                      rotate_left 1
                      · (intro w hSw; (try dsimp only at hSw); go_simp; try with_reducible rfl)
                      try simp only [Act.put, List.setIfInBounds_toArray, List.set_cons_zero, List.set_cons_succ]
                      refine hold_plain 7 (v := ?_) hHC hH0 (by simp only [List.getElem?_toArray, List.getElem?_cons_succ, List.getElem?_cons_zero]; rfl) rfl (by kernel_rfl) ?_ ?_
                      rotate_left 1
                      · (intro w hSw; (try dsimp only at hSw); go_simp; try with_reducible rfl)
                      try simp only [Act.put, List.setIfInBounds_toArray, List.set_cons_zero, List.set_cons_succ]
                      refine hold_plain 8 (v := ?_) hHC hH0 (by simp only [List.getElem?_toArray, List.getElem?_cons_succ, List.getElem?_cons_zero]; rfl) rfl (by kernel_rfl) ?_ ?_
                      rotate_left 1
                      · (intro w hSw; (try dsimp only at hSw); go_simp; try with_reducible rfl)
                      try simp only [Act.put, List.setIfInBounds_toArray, List.set_cons_zero, List.set_cons_succ]
                      refine hold_plain 9 (v := ?_) hHC hH0 (by simp only [List.getElem?_toArray, List.getElem?_cons_succ, List.getElem?_cons_zero]; rfl) rfl (by kernel_rfl) ?_ ?_
                      rotate_left 1
                      · (intro w hSw; (try dsimp only at hSw); go_simp; try with_reducible rfl)
                      try simp only [Act.put, List.setIfInBounds_toArray, List.set_cons_zero, List.set_cons_succ]
                      refine hold_plain 10 (v := ?_) hHC hH0 (by simp only [List.getElem?_toArray, List.getElem?_cons_succ, List.getElem?_cons_zero]; rfl) rfl (by kernel_rfl) ?_ ?_
                      rotate_left 1
                      · (intro w hSw; (try dsimp only at hSw); go_simp; try with_reducible rfl)
                      try simp only [Act.put, List.setIfInBounds_toArray, List.set_cons_zero, List.set_cons_succ]
                      refine hold_plain 11 (v := ?_) hHC hH0 (by simp only [List.getElem?_toArray, List.getElem?_cons_succ, List.getElem?_cons_zero]; rfl) rfl (by kernel_rfl) ?_ ?_
                      rotate_left 1
                      · (intro w hSw; (try dsimp only at hSw); go_simp; try with_reducible rfl)
                      try simp only [Act.put, List.setIfInBounds_toArray, List.set_cons_zero, List.set_cons_succ]
                      refine hold_plain 12 (v := ?_) hHC hH0 (by simp only [List.getElem?_toArray, List.getElem?_cons_succ, List.getElem?_cons_zero]; rfl) rfl (by kernel_rfl) ?_ ?_
                      rotate_left 1
                      · (intro w hSw; (try dsimp only at hSw); go_simp; try with_reducible rfl)
                      try simp only [Act.put, List.setIfInBounds_toArray, List.set_cons_zero, List.set_cons_succ]
                      refine hold_plain 14 (v := ?_) hHC hH0 (by simp only [List.getElem?_toArray, List.getElem?_cons_succ, List.getElem?_cons_zero]; rfl) rfl (by kernel_rfl) ?_ ?_
                      rotate_left 1
                      · (intro w hSw; (try dsimp only at hSw); go_simp; try with_reducible rfl)
                      try simp only [Act.put, List.setIfInBounds_toArray, List.set_cons_zero, List.set_cons_succ]
                      refine hold_call0 13 (by simp only [List.getElem?_toArray, List.getElem?_cons_succ, List.getElem?_cons_zero]; rfl) rfl (by kernel_rfl) (fun K hK => ?_)
                      go_simp
                      refine hK.out _ _ ?_ (fun hH1 => ?_)
                      · (first | (go_keep; done) | ((try go_split_ands); (repeat' apply And.intro) <;> first | assumption | (with_reducible refine Rd.below ?_ hb1; assumption) | (with_reducible refine Rd.drew ?_; repeat' (first | assumption | (with_reducible refine Rd.alloc ?_ _))) | (refine (hb1.cell (by first | omega | (simp; done) | (simp; omega))).trans ?_; first | assumption | simp) | (exact below_step hb1 (by first | omega | (simp; done) | (simp; omega)) (by assumption)) | (have hz' := hb1.size; (try simp at hz'); omega) | ((repeat' (first | assumption | (with_reducible exact Below.refl _ _) | (with_reducible refine Below.drew ?_) | (with_reducible refine Below.alloc ?_ ?_ _) | (with_reducible refine Below.setCell ?_ ?_ _) | omega | (simp; done) | (simp; omega))); done) | go_simp | (simp; done) | (simp; omega)))
                      clear hK K hH0
                      try simp only [Act.put, List.setIfInBounds_toArray, List.set_cons_zero, List.set_cons_succ]
                      refine hold_plain 15 (v := ?_) hHC hH1 (by simp only [List.getElem?_toArray, List.getElem?_cons_succ, List.getElem?_cons_zero]; rfl) rfl (by kernel_rfl) ?_ ?_
                      rotate_left 1
                      · (intro w hSw; (try dsimp only at hSw); go_simp; try with_reducible rfl)
                      try simp only [Act.put, List.setIfInBounds_toArray, List.set_cons_zero, List.set_cons_succ]
                      refine hold_plain 16 (v := ?_) hHC hH1 (by simp only [List.getElem?_toArray, List.getElem?_cons_succ, List.getElem?_cons_zero]; rfl) rfl (by kernel_rfl) ?_ ?_
                      rotate_left 1
                      · (intro w hSw; (try dsimp only at hSw); go_simp; try with_reducible rfl)
                      try simp only [Act.put, List.setIfInBounds_toArray, List.set_cons_zero, List.set_cons_succ]
                      refine hold_call0 17 (by simp only [List.getElem?_toArray, List.getElem?_cons_succ, List.getElem?_cons_zero]; rfl) rfl (by kernel_rfl) (fun K hK => ?_)
                      go_simp
                      refine hK.out _ _ ?_ (fun hH2 => ?_)
                      · (first | (go_keep; done) | ((try go_split_ands); (repeat' apply And.intro) <;> first | assumption | (with_reducible refine Rd.below ?_ hb1; assumption) | (with_reducible refine Rd.drew ?_; repeat' (first | assumption | (with_reducible refine Rd.alloc ?_ _))) | (refine (hb1.cell (by first | omega | (simp; done) | (simp; omega))).trans ?_; first | assumption | simp) | (exact below_step hb1 (by first | omega | (simp; done) | (simp; omega)) (by assumption)) | (have hz' := hb1.size; (try simp at hz'); omega) | ((repeat' (first | assumption | (with_reducible exact Below.refl _ _) | (with_reducible refine Below.drew ?_) | (with_reducible refine Below.alloc ?_ ?_ _) | (with_reducible refine Below.setCell ?_ ?_ _) | omega | (simp; done) | (simp; omega))); done) | go_simp | (simp; done) | (simp; omega)))
                      clear hK K hH1
                      try simp only [Act.put, List.setIfInBounds_toArray, List.set_cons_zero, List.set_cons_succ]
                      refine wpAnyH_done (by kernel_rfl) ?_ _
                      (try dsimp only at hH2)
                      go_split_ands
                      clear hHC
                      go_wp2
                      go_roundw
                      case rel => exact ⟨j + 1, l1.set q2 u, by omega, by go_num, Lib.hid (Row.set_ hRN.out q2 u), Lib.hid (Row.far hRW.out (by simp; omega) _), Lib.hid (by rw [dpTo_succ, HV.out, ← hL.out, dp_has hn0 HSt.out hc, ← HL1.out, hss.out, HC2.out]; simp only [Bool.not_false, Bool.and_true, if_true]; rw [← HQ2.out, HPU.out]), by go_simp, by go_simp, by go_simp, by repeat' (first | assumption | (with_reducible exact Below.refl _ _) | (with_reducible refine Below.drew ?_) | (with_reducible refine Below.alloc ?_ ?_ _) | (with_reducible refine Below.setCell ?_ ?_ _) | omega | (simp; done) | (simp; omega)), by first | omega | (simp; omega)⟩
                      case measure => simp [intOf]; omega
                  )
            · have hs : hasB (setS zs) X Y = false := by simpa using hs
              have HSf : Hid (S X Y = false) := Lib.hid (by rw [HS.out]; simpa [sxy] using hs)
              have HHas := Lib.hid (fun (W : World) (h : RdI W a zs) => l03_val a n c zs X Y W HZ.out HOKR.out hXY h hs)
              clear hs
              by_cases hc : j.testBit X = true
              · have e2 : bits .and .i64 ((j : Int) / 2 ^ X) 1 = 1 := by rw [shr_one hj, hc]; rfl
                have hPZ : (P : Int) = 2 ^ X := by rw [hP]; simp
                have hPj := small_sub hc
                obtain ⟨f, hf⟩ : ∃ f, f = j - 2 ^ X := ⟨_, rfl⟩
                rw [← hP] at hPj hf
                have ef : (j : Int) - (P : Int) = (f : Int) := by omega
                have ef2 : IntKind.i64.wrap ((j : Int) - (P : Int)) = (f : Int) := by rw [IntKind.wrap_i64]; omega
                have hf256 : f < 256 := by omega
                have hPji : (P : Int) ≤ (j : Int) := by omega
                have eD : (j : Int) - 2 ^ X = (f : Int) := by rw [← hPZ]; omega
                have HFJ : Hid (j - 2 ^ X = f) := Lib.hid (by rw [← hP]; exact hf.symm)
                have ef3 : wrap64 ((j : Int) - 2 ^ X) = (f : Int) := by rw [wrap64_w64, ← hPZ]; unfold w64; omega
                clear hf
                go_wp2_with (go_at_call 51; fail)
                refine (HHas.out _ (Rd.below hr (by repeat' (first | assumption | (with_reducible exact Below.refl _ _) | (with_reducible refine Below.drew ?_) | (with_reducible refine Below.alloc ?_ ?_ _) | (with_reducible refine Below.setCell ?_ ?_ _) | omega | (simp; done) | (simp; omega))))).mono ?_
                rintro e wl ⟨rfl, hb⟩
                have hzwl := hb.size
                (try simp at hzwl)
                have hcb : wl.cell? ⟨w.heap.size, 0, none⟩ = some (.slice a n c) := (hb.cell (p := ⟨w.heap.size, 0, none⟩) (by first | omega | (simp; done) | (simp; omega))).trans (by go_simp)
                have hcx : wl.cell? ⟨wc.heap.size, 0, none⟩ = some (.int .i64 X) := (hb.cell (p := ⟨wc.heap.size, 0, none⟩) (by first | omega | (simp; done) | (simp; omega))).trans (by go_simp)
                have hcy : wl.cell? ⟨wc.heap.size, 1, none⟩ = some (.int .i64 Y) := (hb.cell (p := ⟨wc.heap.size, 1, none⟩) (by first | omega | (simp; done) | (simp; omega))).trans (by go_simp)
                have hBwl : Below w.heap.size w wl := below_step hb (by first | omega | (simp; done) | (simp; omega)) (by repeat' (first | assumption | (with_reducible exact Below.refl _ _) | (with_reducible refine Below.drew ?_) | (with_reducible refine Below.alloc ?_ ?_ _) | (with_reducible refine Below.setCell ?_ ?_ _) | omega | (simp; done) | (simp; omega)))
                have hRN := Lib.hid (Row.below (hRN.out) hb)
                have hRW := Lib.hid (Row.below (hRW.out) hb)
                have hlwl : wn.heap.size ≤ wl.heap.size := by omega
                have hmwl : wc.heap.size + 1 < wl.heap.size := by omega
                have hxwl : w.heap.size < wl.heap.size := by omega
                have hywl : wc.heap.size < wl.heap.size := by omega
                have hn0wl : ¬ wl.heap.size = w.heap.size := by omega
                have hn1wl : ¬ w.heap.size = wl.heap.size := by omega
                have hn2wl : ¬ wl.heap.size = wc.heap.size := by omega
                have hn3wl : ¬ wc.heap.size = wl.heap.size := by omega
                have hn4wl : ¬ wl.heap.size = wc.heap.size + 1 := by omega
                have hn5wl : ¬ wc.heap.size + 1 = wl.heap.size := by omega
                clear hb
                go_wp2
                go_roundw
                case rel => exact ⟨j + 1, l, by omega, by go_num, hRN, hRW, Lib.hid (by rw [dpTo_succ, HV.out, ← hL.out, dp_no2 hn0 HSf.out hc]), by go_simp, by go_simp, by go_simp, by repeat' (first | assumption | (with_reducible exact Below.refl _ _) | (with_reducible refine Below.drew ?_) | (with_reducible refine Below.alloc ?_ ?_ _) | (with_reducible refine Below.setCell ?_ ?_ _) | omega | (simp; done) | (simp; omega)), by first | omega | (simp; omega)⟩
                case measure => simp [intOf]; omega
              · have hc : j.testBit X = false := by simpa using hc
                have e2 : bits .and .i64 ((j : Int) / 2 ^ X) 1 = 0 := by rw [shr_one hj, hc]; rfl
                go_wp2_with (go_at_call 51; fail)
                refine (HHas.out _ (Rd.below hr (by repeat' (first | assumption | (with_reducible exact Below.refl _ _) | (with_reducible refine Below.drew ?_) | (with_reducible refine Below.alloc ?_ ?_ _) | (with_reducible refine Below.setCell ?_ ?_ _) | omega | (simp; done) | (simp; omega))))).mono ?_
                rintro e wl ⟨rfl, hb⟩
                have hzwl := hb.size
                (try simp at hzwl)
                have hcb : wl.cell? ⟨w.heap.size, 0, none⟩ = some (.slice a n c) := (hb.cell (p := ⟨w.heap.size, 0, none⟩) (by first | omega | (simp; done) | (simp; omega))).trans (by go_simp)
                have hcx : wl.cell? ⟨wc.heap.size, 0, none⟩ = some (.int .i64 X) := (hb.cell (p := ⟨wc.heap.size, 0, none⟩) (by first | omega | (simp; done) | (simp; omega))).trans (by go_simp)
                have hcy : wl.cell? ⟨wc.heap.size, 1, none⟩ = some (.int .i64 Y) := (hb.cell (p := ⟨wc.heap.size, 1, none⟩) (by first | omega | (simp; done) | (simp; omega))).trans (by go_simp)
                have hBwl : Below w.heap.size w wl := below_step hb (by first | omega | (simp; done) | (simp; omega)) (by repeat' (first | assumption | (with_reducible exact Below.refl _ _) | (with_reducible refine Below.drew ?_) | (with_reducible refine Below.alloc ?_ ?_ _) | (with_reducible refine Below.setCell ?_ ?_ _) | omega | (simp; done) | (simp; omega)))
                have hRN := Lib.hid (Row.below (hRN.out) hb)
                have hRW := Lib.hid (Row.below (hRW.out) hb)
                have hlwl : wn.heap.size ≤ wl.heap.size := by omega
                have hmwl : wc.heap.size + 1 < wl.heap.size := by omega
                have hxwl : w.heap.size < wl.heap.size := by omega
                have hywl : wc.heap.size < wl.heap.size := by omega
                have hn0wl : ¬ wl.heap.size = w.heap.size := by omega
                have hn1wl : ¬ w.heap.size = wl.heap.size := by omega
                have hn2wl : ¬ wl.heap.size = wc.heap.size := by omega
                have hn3wl : ¬ wc.heap.size = wl.heap.size := by omega
                have hn4wl : ¬ wl.heap.size = wc.heap.size + 1 := by omega
                have hn5wl : ¬ wc.heap.size + 1 = wl.heap.size := by omega
                clear hb
                obtain ⟨hcN, hfN⟩ := Row.at_ hRN.out (k := j) (by omega)
                obtain ⟨lv, hlv⟩ : ∃ lv, l.getD j 0 = lv := ⟨_, rfl⟩
                rw [hlv] at hcN
                obtain ⟨u, hu⟩ : ∃ u, u = w64 (lv + v) := ⟨_, rfl⟩
                have eS : wrap64 (lv + v) = u := by rw [hu]; exact wrap64_w64 _
                have eS2 : IntKind.i64.wrap (lv + v) = u := by rw [hu]; exact wrap_w64 _
                have HPU : Hid (putAt l j v = l.set j u) := Lib.hid (by rw [putAt_eq hlv, hu])
                clear hu hlv
                go_wp2
                go_roundw
                case rel => exact ⟨j + 1, l.set j u, by omega, by go_num, Lib.hid (Row.set_ hRN.out j u), Lib.hid (Row.far hRW.out (by simp; omega) _), Lib.hid (by rw [dpTo_succ, HV.out, ← hL.out, dp_no hn0 HSf.out hc, HPU.out]), by go_simp, by go_simp, by go_simp, by repeat' (first | assumption | (with_reducible exact Below.refl _ _) | (with_reducible refine Below.drew ?_) | (with_reducible refine Below.alloc ?_ ?_ _) | (with_reducible refine Below.setCell ?_ ?_ _) | omega | (simp; done) | (simp; omega)), by first | omega | (simp; omega)⟩
                case measure => simp [intOf]; omega
        · have hj256 : j = 256 := by omega
          have HLL : Hid (l = dpAll S (k + 1)) := Lib.hid (by rw [hL.out, hj256]; show _ = dpTo S (k % 8) (k / 8) (dpAll S k) 256; rw [HXY.out.1, HXY.out.2, HWA.out])
          clear hj256
          go_wp2
          go_roundw
          case rel => exact ⟨k + 1, wc.heap.size + 1, by omega, by go_num, by simp, Lib.hid (by rw [← HLL.out]; exact hRN.out), hcb, hBq⟩
          case measure => simp [intOf]; omega
    · have hk64 : k = 64 := by omega
      obtain ⟨h0c, -⟩ := Row.at_ hRW.out (k := 0) (by omega)
      have HFF : Hid (ways.getD 0 0 = res) := Lib.hid (by rw [HWA.out]; exact HFin.out _ hk64)
      obtain ⟨r, hr0⟩ : ∃ r, ways.getD 0 0 = r := ⟨_, rfl⟩
      rw [hr0] at h0c HFF
      clear hk64 hr0
      go_wp2
      go_ret
      exact ⟨ret_i HFF.out, hB⟩
end Go.Proofs.Ytfjkjnhmlljefaa
