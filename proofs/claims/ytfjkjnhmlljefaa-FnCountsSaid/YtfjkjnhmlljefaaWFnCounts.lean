/-
  The walk of the law FnCounts (draft).
-/
import Derived.Test.YtfjkjnhmlljefaaCntD
import Derived.Test.YtfjkjnhmlljefaaCW
import Derived.Test.YtfjkjnhmlljefaaTilN
import Derived.Deep.LoopGhost
import Derived.Deep.DeepCutAuto
namespace Go.Proofs.Ytfjkjnhmlljefaa.fnCounts
open Go.RowKit
set_option linter.unusedVariables false
set_option linter.unusedSimpArgs false

/-- What the law keeps on its way. -/
structure Kp (w W : World) (q : Nat) (a0 : Option Addr) (n0 : Nat) (cs : List Int) (ad : Option Addr) (m d : Nat) (zs : List Int) (a1 : Option Addr) (L : List (Int × Int)) : Prop where
  box : W.cell? ⟨q, 0, none⟩ = some (.slice ad m d)
  lt : q < W.heap.size
  rd : RdI W ad zs
  ls : Rd W a1 (flatC L)
  co : CodeOk W a0 n0 cs
  be : Below w.heap.size w W
theorem Kp.below {w W W' : World} {q : Nat} {a0 : Option Addr} {n0 : Nat} {cs : List Int} {ad : Option Addr} {m d : Nat} {zs : List Int} {a1 : Option Addr} {L : List (Int × Int)} (h : Kp w W q a0 n0 cs ad m d zs a1 L) (hb : Below W.heap.size W W') : Kp w W' q a0 n0 cs ad m d zs a1 L :=
  ⟨(hb.cell (p := ⟨q, 0, none⟩) h.lt).trans h.box, Nat.lt_of_lt_of_le h.lt hb.size, Rd.below h.rd hb, Rd.below h.ls hb, h.co.below hb, h.be.trans (hb.mono h.be.size)⟩
theorem cell_in {zs : List Int} {L : List (Int × Int)} (hok : rokB zs = true) (hL : L = coL zs) {i : Nat} {x y : Int} (h : L[i]? = some (x, y)) : ∃ X Y : Nat, x = X ∧ y = Y ∧ X < 8 ∧ Y < 8 ∧ (setS zs).testBit (8 * Y + X) = true := by
  rw [hL, coL_yes hok] at h
  have hm := List.mem_of_getElem? h
  unfold cellsL cellsK at hm
  rw [List.mem_map] at hm
  obtain ⟨j, hj, he⟩ := hm
  rw [List.mem_filter, List.mem_range] at hj
  unfold cellOf at he
  injection he with e1 e2
  refine ⟨j % 8, j / 8, e1.symm, e2.symm, by omega, by omega, ?_⟩
  rw [show 8 * (j / 8) + j % 8 = j by omega]
  exact hj.2
theorem half_eq {n k : Nat} (h : n = 2 * k) : Int.tdiv (n : Int) 2 = (k : Int) := by
  rw [Int.tdiv_eq_ediv_of_nonneg (by omega)]; omega
theorem wrap_half {n k : Nat} (h : n = 2 * k) (hn : n ≤ 64) : wrap64 (k : Int) = (k : Int) := by unfold wrap64; omega
/-- The four dominoes that cover a cell. -/
theorem four {zs : List Int} {L : List (Int × Int)} (hok : rokB zs = true) (hL : L = coL zs) {i : Nat} {x y t : Int} (h : L[i]? = some (x, y)) (ht : t = tilN zs) : ∃ X Y : Nat, x = X ∧ y = Y ∧ X < 8 ∧ Y < 8 ∧ ∃ A B C D : Int, A = cwN zs X Y false ∧ B = cwN zs X Y true ∧ C = cwN zs ((X : Int) - 1) Y false ∧ D = cwN zs X ((Y : Int) - 1) true ∧ A + B + C + D = t ∧ (0 ≤ A ∧ A ≤ 4294967296) ∧ (0 ≤ B ∧ B ≤ 4294967296) ∧ (0 ≤ C ∧ C ≤ 4294967296) ∧ 0 ≤ D ∧ D ≤ 4294967296 := by
  obtain ⟨X, Y, rfl, rfl, hX, hY, hb⟩ := cell_in hok hL h
  exact ⟨X, Y, rfl, rfl, hX, hY, _, _, _, _, rfl, rfl, rfl, rfl, (cover_sum hok hX hY hb).trans ht.symm, cw_bd _ _ _ _, cw_bd _ _ _ _, cw_bd _ _ _ _, cw_bd _ _ _ _⟩
set_option maxHeartbeats 6400000 in
set_option maxRecDepth 100000 in
theorem walk (a0 : Option Addr) (len0 cap0 : Nat) (z0 : List Int) (w : World) (w0 : IsRow .u8 w a0 len0 cap0 z0) :
    Calls Try.prog 8 #[.slice a0 len0 cap0] w fun e w' => e = .returned (.bool true) ∧ Below w.heap.size w w' := by
  have HB := Lib.hid (big_any a0 len0 cap0 w w0.max_)
  by_cases hbig : 1048576 < len0
  · clear w0
    go_enter Try.func8, Try.ntmps8
    go_wp2_with (go_at_call 23; refine (HB.out).mono ?_; rintro e w1 ⟨rfl, hb⟩; simp only [hbig, decide_true])
    go_ret
    exact ⟨rfl, hb⟩
  · have HK := Lib.hid (w0.code hbig)
    clear w0
    go_enter Try.func8, Try.ntmps8
    go_wp2_with (first | (go_at_call 23; refine (HB.out).mono ?_; rintro e w1 ⟨rfl, hb⟩; simp only [hbig, decide_false]) | (go_at_call 24; fail))
    refine (drawTil_any a0 len0 cap0 _ w1 (HK.out.below hb)).mono ?_
    rintro e w2 ⟨ad, m, d, zs, rfl, hlen, hok, htl, hrd, hb2⟩
    have hB2 : Below w.heap.size w w2 := below_step hb2 hb.size hb
    have HCO2 := Lib.hid (HK.out.below hB2)
    have hs2 := hB2.size
    have hm8 : m ≤ 8 := by rw [← hlen]; exact (rok_iff.1 hok).1
    have HR2 := Lib.hid hrd
    have HZ := Lib.hid hlen
    have HOK := Lib.hid hok
    have HTL := Lib.hid htl
    have HTN := Lib.hid (fun (W : World) (h : RdI W ad zs) => implTilN_any ad m d zs W HZ.out (by omega) h)
    have HTI := Lib.hid (fun (W : World) (h : RdI W ad zs) => implTl_any ad m d zs W HZ.out (by omega) h)
    have HCL := Lib.hid (fun (W : World) (h : RdI W ad zs) => specCellsOf_any ad m d zs W HZ.out (by omega) h)
    have HCW := Lib.hid (fun (W : World) (x y : Int) (b : Bool) (h : RdI W ad zs) => implCW_any ad m d zs x y b W HZ.out (by omega) h)
    have HCP := Lib.hid (fun (W : World) (k : Int) (h : RdI W ad zs) => implCP_any ad m d zs k W HZ.out (by omega) h)
    obtain ⟨hn0, hn1⟩ := til_bd hok
    have HZERO := Lib.hid (fun h => til_none hok h)
    have HEVEN := Lib.hid (til_even hok htl)
    obtain ⟨L, hL⟩ : ∃ L, L = coL zs := ⟨_, rfl⟩
    have hL64 : L.length ≤ 64 := by rw [hL]; exact coL_len zs
    rw [← hL] at HCL HZERO HEVEN
    obtain ⟨t, ht⟩ : ∃ t, t = tilN zs := ⟨_, rfl⟩
    have ht1 : 1 ≤ t := by rw [ht]; exact htl
    rw [← ht] at HTN HTI HZERO hn0 hn1
    have HT := Lib.hid ht
    have HLL := Lib.hid hL
    clear hb hb2 HB HK hlen hok htl hrd hL ht
    go_wp2_with (go_at_call 17; fail)
    refine (HTN.out _ (Rd.alloc HR2.out _)).mono ?_
    rintro e w3 ⟨rfl, hb3⟩
    have hbox3 : w3.cell? ⟨w2.heap.size, 0, none⟩ = some (.slice ad m d) := (hb3.cell (p := ⟨w2.heap.size, 0, none⟩) (by first | omega | (simp; done) | (simp; omega))).trans (by go_simp)
    have hlt3 : w2.heap.size < w3.heap.size := Nat.lt_of_lt_of_le (by simp) hb3.size
    have HR3 := Lib.hid (Rd.below (Rd.alloc HR2.out _) hb3)
    have e3 : Below w2.heap.size w2 w3 := Below.trans (Below.alloc (Below.refl _ _) (Nat.le_refl _) _) (hb3.mono (by simp))
    have HB3 : Hid (Below w.heap.size w w3) := Lib.hid (below_step e3 hs2 hB2)
    have HCO3 := Lib.hid (HCO2.out.below e3)
    clear hb3 e3 HR2 HCO2 hB2
    go_wp2_with (go_at_call 25; fail)
    refine (HCL.out _ HR3.out).mono ?_
    rintro e w4 ⟨a1, c1, rfl, hO4, hb4⟩
    have HK4 : Hid (Kp w w4 w2.heap.size a0 len0 _ ad m d zs a1 L) := Lib.hid ⟨(hb4.cell (p := ⟨w2.heap.size, 0, none⟩) hlt3).trans hbox3, Nat.lt_of_lt_of_le hlt3 hb4.size, Rd.below HR3.out hb4, Rd.of_own hO4, HCO3.out.below hb4, HB3.out.trans (hb4.mono HB3.out.size)⟩
    obtain ⟨q, hq⟩ : ∃ q, q = w2.heap.size := ⟨_, rfl⟩
    rw [← hq] at HK4 ⊢
    clear hq hbox3 hlt3 hb4 hO4 HR3 HB3 HCO3 HCL hs2
    go_wp2_with (go_at_call 26; fail)
    refine (at_any a0 len0 cap0 0 _ w4 HK4.out.co (by omega)).mono ?_
    rintro e w5 ⟨v, rfl, hv0, hv1, hb5⟩
    have K5 := Lib.hid (HK4.out.below hb5)
    have ev := Int.tmod_eq_emod_of_nonneg hv0 (b := 5)
    clear hb5 HK4
    go_wp2_with (go_at_call 26; fail)
    refine (at_any a0 len0 cap0 1 _ w5 K5.out.co (by omega)).mono ?_
    rintro e w6 ⟨u, rfl, hu0, hu1, hb6⟩
    have K6 := Lib.hid (K5.out.below hb6)
    have eu := Int.tmod_eq_emod_of_nonneg hu0 (b := 5)
    clear hb6 K5
    obtain ⟨y1, y2, -, -, -, -⟩ := K6.out
    have HTI1 := Lib.hid (fun (W : World) (h : RdI W ad zs) => (by have g := HTI.out W h; rw [decide_eq_true (show 0 < t by omega)] at g; exact g : Calls Try.prog 19 #[.agg #[.slice ad m d]] W (fun e w' => e = .returned (.bool true) ∧ Below W.heap.size W w')))
    have hT1 : ¬ t < 1 := by omega
    go_wp2_with (go_at_call 19; fail)
    refine (HTI1.out _ K6.out.rd).mono ?_
    rintro e w7 ⟨rfl, hb7⟩
    have K7 := Lib.hid (K6.out.below hb7)
    clear hb7 K6 y1 y2 HTI HTI1
    obtain ⟨X, hX⟩ : ∃ X : Nat, 1 + v % 5 = X := ⟨(1 + v % 5).toNat, by omega⟩
    obtain ⟨Y, hY⟩ : ∃ Y : Nat, 1 + u % 5 = Y := ⟨(1 + u % 5).toNat, by omega⟩
    have HSY := Lib.hid (rectN_sym (W := X) (H := Y) (by omega) (by omega) (by omega) (by omega))
    obtain ⟨r, hr⟩ : ∃ r, r = rectN (X : Int) (Y : Int) := ⟨_, rfl⟩
    have HR1 := Lib.hid (fun (W : World) => (by have g := implRN_any (X : Int) (Y : Int) W; rw [← hr] at g; exact g : Calls Try.prog 10 #[.int .i64 (X : Int), .int .i64 (Y : Int)] W (fun e w' => e = .returned (.int .i64 r) ∧ Below W.heap.size W w')))
    have HR2 := Lib.hid (fun (W : World) => (by have g := implRN_any (Y : Int) (X : Int) W; rw [← HSY.out, ← hr] at g; exact g : Calls Try.prog 10 #[.int .i64 (Y : Int), .int .i64 (X : Int)] W (fun e w' => e = .returned (.int .i64 r) ∧ Below W.heap.size W w')))
    have HR3 := Lib.hid (fun (W : World) => (by have g := implRN_any 2 5 W; rw [rectN_25] at g; exact g : Calls Try.prog 10 #[.int .i64 2, .int .i64 5] W (fun e w' => e = .returned (.int .i64 8) ∧ Below W.heap.size W w')))
    clear hr HSY
    go_wp2_with (go_at_call 10; fail)
    refine (HR1.out w7).mono ?_
    rintro e w8 ⟨rfl, hb8⟩
    have K8 := Lib.hid (K7.out.below hb8)
    clear hb8 K7
    go_wp2_with (go_at_call 10; fail)
    refine (HR2.out w8).mono ?_
    rintro e w9 ⟨rfl, hb9⟩
    have K9 := Lib.hid (K8.out.below hb9)
    clear hb9 K8
    have hrr : (r == r) = true := by simp
    go_wp2_with (go_at_call 10; fail)
    refine (HR3.out w9).mono ?_
    rintro e w10 ⟨rfl, hb10⟩
    have K10 := Lib.hid (K9.out.below hb10)
    clear hb10 K9 HR1 HR2 HR3
    by_cases hL0 : L.length = 0
    · have ht : t = 1 := HZERO.out hL0
      have hLI : (L.length : Int) = 0 := by omega
      subst ht
      have B10 := K10.out.be
      go_wp2_with fail
      go_ret
      exact ⟨rfl, B10⟩
    · have hLI : ¬ (L.length : Int) = 0 := by omega
      have hLB : ((L.length : Int) == 0) = false := by rw [beq_eq_false_iff_ne]; exact hLI
      go_wp2_with (go_at_call 26; fail)
      refine (at_any a0 len0 cap0 2 _ w10 K10.out.co (by omega)).mono ?_
      rintro e w11 ⟨s, rfl, hs0, hs1, hb11⟩
      have K11 := Lib.hid (K10.out.below hb11)
      clear hb11 K10
      have hl0 : 0 < L.length := by omega
      obtain ⟨i, hi⟩ : ∃ i : Nat, s % (L.length : Int) = i := ⟨(s % (L.length : Int)).toNat, by have := Int.emod_nonneg s (show (L.length : Int) ≠ 0 by omega); omega⟩
      have hil : i < L.length := by have := Int.emod_lt_of_pos s (show (0 : Int) < (L.length : Int) by omega); omega
      have es : Int.tmod s (L.length : Int) = (i : Int) := by rw [Int.tmod_eq_emod_of_nonneg hs0]; exact hi
      obtain ⟨b, off, x, y, rfl, hbl, hcx, hcy, hv⟩ := RdC_at K11.out.ls hil
      have HV := Lib.hid hv.out
      obtain ⟨X', Y', rfl, rfl, hX8, hY8, A, B, C, D, hA, hB, hC, hD, hsum, hbA, hbB, hbC, hbD⟩ := four HOK.out HLL.out hv.out HT.out
      clear hi hv
      have HA1 := Lib.hid (fun (W : World) (h : RdI W ad zs) => (by have g := HCW.out W (X' : Int) (Y' : Int) false h; rw [← hA] at g; exact g : Calls Try.prog 22 #[.agg #[.slice ad m d], .agg #[.int .i64 (X' : Int), .int .i64 (Y' : Int), .bool false]] W (fun e w' => e = .returned (.int .i64 A) ∧ Below W.heap.size W w')))
      have HB1 := Lib.hid (fun (W : World) (h : RdI W ad zs) => (by have g := HCW.out W (X' : Int) (Y' : Int) true h; rw [← hB] at g; exact g : Calls Try.prog 22 #[.agg #[.slice ad m d], .agg #[.int .i64 (X' : Int), .int .i64 (Y' : Int), .bool true]] W (fun e w' => e = .returned (.int .i64 B) ∧ Below W.heap.size W w')))
      have HC1 := Lib.hid (fun (W : World) (h : RdI W ad zs) => (by have g := HCW.out W ((X' : Int) - 1) (Y' : Int) false h; rw [← hC] at g; exact g : Calls Try.prog 22 #[.agg #[.slice ad m d], .agg #[.int .i64 ((X' : Int) - 1), .int .i64 (Y' : Int), .bool false]] W (fun e w' => e = .returned (.int .i64 C) ∧ Below W.heap.size W w')))
      have HD1 := Lib.hid (fun (W : World) (h : RdI W ad zs) => (by have g := HCW.out W (X' : Int) ((Y' : Int) - 1) true h; rw [← hD] at g; exact g : Calls Try.prog 22 #[.agg #[.slice ad m d], .agg #[.int .i64 (X' : Int), .int .i64 ((Y' : Int) - 1), .bool true]] W (fun e w' => e = .returned (.int .i64 D) ∧ Below W.heap.size W w')))
      have wx : IntKind.i64.wrap ((X' : Int) - 1) = (X' : Int) - 1 := by rw [IntKind.wrap_i64]; omega
      have wy : IntKind.i64.wrap ((Y' : Int) - 1) = (Y' : Int) - 1 := by rw [IntKind.wrap_i64]; omega
      have s1 : IntKind.i64.wrap (A + B) = A + B := by rw [IntKind.wrap_i64]; omega
      have s2 : IntKind.i64.wrap (A + B + C) = A + B + C := by rw [IntKind.wrap_i64]; omega
      have s3 : IntKind.i64.wrap (A + B + C + D) = t := by rw [IntKind.wrap_i64]; omega
      clear hA hB hC hD hbA hbB hbC hbD HCW
      obtain ⟨y1, y2, y3, y4, y5, y6⟩ := K11.out
      have hs11 := y6.size
      have HSUM := Lib.hid hsum
      clear hsum
      go_wp2_with fail
      obtain ⟨p, hp⟩ : ∃ p, p = w11.heap.size := ⟨_, rfl⟩
      have K12 : Hid (Kp w (w11.alloc (.cells #[.int .i64 (X' : Int), .int .i64 (Y' : Int)] 49)) q a0 len0 _ ad m d zs (some ⟨b, off, none⟩) L) := Lib.hid (K11.out.below (Below.alloc (Below.refl _ _) (Nat.le_refl _) _))
      have c1 : (w11.alloc (.cells #[.int .i64 (X' : Int), .int .i64 (Y' : Int)] 49)).cell? ⟨p, 0, none⟩ = some (.int .i64 (X' : Int)) := by rw [hp]; simp
      have c2 : (w11.alloc (.cells #[.int .i64 (X' : Int), .int .i64 (Y' : Int)] 49)).cell? ⟨p, 1, none⟩ = some (.int .i64 (Y' : Int)) := by rw [hp]; simp
      have hpl : p < (w11.alloc (.cells #[.int .i64 (X' : Int), .int .i64 (Y' : Int)] 49)).heap.size := by rw [hp]; simp
      rw [← hp]
      obtain ⟨wc, hwc⟩ : ∃ wc, wc = w11.alloc (.cells #[.int .i64 (X' : Int), .int .i64 (Y' : Int)] 49) := ⟨_, rfl⟩
      rw [← hwc] at K12 c1 c2 hpl ⊢
      clear hwc hp K11 y1 y2 y3 y4 y5 y6 hs11 hcx hcy hbl
      obtain ⟨y1, y2, y3, y4, y5, y6⟩ := K12.out
      have hsc := y6.size
      clear y4 y5
      refine hold_start (S := (fun w' => w'.cell? ⟨q, 0, none⟩ = some (.slice ad m d) ∧ w'.cell? ⟨p, 0, none⟩ = some (.int .i64 (X' : Int)) ∧ w'.cell? ⟨p, 1, none⟩ = some (.int .i64 (Y' : Int)) ∧ RdI w' ad zs ∧ Below w.heap.size w w' ∧ wc.heap.size ≤ w'.heap.size)) (by kernel_rfl) (by kernel_rfl) (by intro _ _ d _ _ h; cases d <;> exact h) ?_ (fun hHC hH0 => ?_)
      · (first | (go_keep; done) | ((try go_split_ands); (repeat' apply And.intro) <;> first | assumption | (with_reducible refine Rd.below ?_ hb1; assumption) | (with_reducible refine Rd.drew ?_; repeat' (first | assumption | (with_reducible refine Rd.alloc ?_ _))) | (refine (hb1.cell (by first | omega | (simp; done) | (simp; omega))).trans ?_; first | assumption | simp) | (exact below_step hb1 (by first | omega | (simp; done) | (simp; omega)) (by assumption)) | (have hz' := hb1.size; (try simp at hz'); omega) | ((repeat' (first | assumption | (with_reducible exact Below.refl _ _) | (with_reducible refine Below.drew ?_) | (with_reducible refine Below.alloc ?_ ?_ _) | (with_reducible refine Below.setCell ?_ ?_ _) | omega | (simp; done) | (simp; omega))); done) | go_simp | (simp; done) | (simp; omega)))
      refine hold_plain 0 (v := ?_) hHC hH0 (by simp only [List.getElem?_toArray, List.getElem?_cons_succ, List.getElem?_cons_zero]; rfl) rfl (by kernel_rfl) ?_ ?_
      rotate_left 1
      · (intro w hSw; (try dsimp only at hSw); go_simp; try with_reducible rfl)
      try simp only [Act.put, List.setIfInBounds_toArray, List.set_cons_zero, List.set_cons_succ]
      refine hold_plain 1 (v := ?_) hHC hH0 (by simp only [List.getElem?_toArray, List.getElem?_cons_succ, List.getElem?_cons_zero]; rfl) rfl (by kernel_rfl) ?_ ?_
      rotate_left 1
      · (intro w hSw; (try dsimp only at hSw); go_simp; try with_reducible rfl)
      try simp only [Act.put, List.setIfInBounds_toArray, List.set_cons_zero, List.set_cons_succ]
      refine hold_plain 2 (v := ?_) hHC hH0 (by simp only [List.getElem?_toArray, List.getElem?_cons_succ, List.getElem?_cons_zero]; rfl) rfl (by kernel_rfl) ?_ ?_
      rotate_left 1
      · (intro w hSw; (try dsimp only at hSw); go_simp; try with_reducible rfl)
      try simp only [Act.put, List.setIfInBounds_toArray, List.set_cons_zero, List.set_cons_succ]
      refine hold_plain 3 (v := ?_) hHC hH0 (by simp only [List.getElem?_toArray, List.getElem?_cons_succ, List.getElem?_cons_zero]; rfl) rfl (by kernel_rfl) ?_ ?_
      rotate_left 1
      · (intro w hSw; (try dsimp only at hSw); go_simp; try with_reducible rfl)
      try simp only [Act.put, List.setIfInBounds_toArray, List.set_cons_zero, List.set_cons_succ]
      refine hold_plain 4 (v := ?_) hHC hH0 (by simp only [List.getElem?_toArray, List.getElem?_cons_succ, List.getElem?_cons_zero]; rfl) rfl (by kernel_rfl) ?_ ?_
      rotate_left 1
      · (intro w hSw; (try dsimp only at hSw); go_simp; try with_reducible rfl)
      try simp only [Act.put, List.setIfInBounds_toArray, List.set_cons_zero, List.set_cons_succ]
      refine hold_plain 5 (v := ?_) hHC hH0 (by simp only [List.getElem?_toArray, List.getElem?_cons_succ, List.getElem?_cons_zero]; rfl) rfl (by kernel_rfl) ?_ ?_
      rotate_left 1
      · (intro w hSw; (try dsimp only at hSw); go_simp; try with_reducible rfl)
      try simp only [Act.put, List.setIfInBounds_toArray, List.set_cons_zero, List.set_cons_succ]
      refine hold_plain 7 (v := ?_) hHC hH0 (by simp only [List.getElem?_toArray, List.getElem?_cons_succ, List.getElem?_cons_zero]; rfl) rfl (by kernel_rfl) ?_ ?_
      rotate_left 1
      · (intro w hSw; (try dsimp only at hSw); go_simp; try with_reducible rfl)
      try simp only [Act.put, List.setIfInBounds_toArray, List.set_cons_zero, List.set_cons_succ]
      refine hold_plain 8 (v := ?_) hHC hH0 (by simp only [List.getElem?_toArray, List.getElem?_cons_succ, List.getElem?_cons_zero]; rfl) rfl (by kernel_rfl) ?_ ?_
      rotate_left 1
      · (intro w hSw; (try dsimp only at hSw); go_simp; try with_reducible rfl)
      try simp only [Act.put, List.setIfInBounds_toArray, List.set_cons_zero, List.set_cons_succ]
      refine hold_plain 9 (v := ?_) hHC hH0 (by simp only [List.getElem?_toArray, List.getElem?_cons_succ, List.getElem?_cons_zero]; rfl) rfl (by kernel_rfl) ?_ ?_
      rotate_left 1
      · (intro w hSw; (try dsimp only at hSw); go_simp; try with_reducible rfl)
      try simp only [Act.put, List.setIfInBounds_toArray, List.set_cons_zero, List.set_cons_succ]
      refine hold_plain 10 (v := ?_) hHC hH0 (by simp only [List.getElem?_toArray, List.getElem?_cons_succ, List.getElem?_cons_zero]; rfl) rfl (by kernel_rfl) ?_ ?_
      rotate_left 1
      · (intro w hSw; (try dsimp only at hSw); go_simp; try with_reducible rfl)
      try simp only [Act.put, List.setIfInBounds_toArray, List.set_cons_zero, List.set_cons_succ]
      refine hold_plain 11 (v := ?_) hHC hH0 (by simp only [List.getElem?_toArray, List.getElem?_cons_succ, List.getElem?_cons_zero]; rfl) rfl (by kernel_rfl) ?_ ?_
      rotate_left 1
      · (intro w hSw; (try dsimp only at hSw); go_simp; try with_reducible rfl)
      try simp only [Act.put, List.setIfInBounds_toArray, List.set_cons_zero, List.set_cons_succ]
      refine hold_plain 12 (v := ?_) hHC hH0 (by simp only [List.getElem?_toArray, List.getElem?_cons_succ, List.getElem?_cons_zero]; rfl) rfl (by kernel_rfl) ?_ ?_
      rotate_left 1
      · (intro w hSw; (try dsimp only at hSw); go_simp; try with_reducible rfl)
      try simp only [Act.put, List.setIfInBounds_toArray, List.set_cons_zero, List.set_cons_succ]
      refine hold_plain 15 (v := ?_) hHC hH0 (by simp only [List.getElem?_toArray, List.getElem?_cons_succ, List.getElem?_cons_zero]; rfl) rfl (by kernel_rfl) ?_ ?_
      rotate_left 1
      · (intro w hSw; (try dsimp only at hSw); go_simp; try with_reducible rfl)
      try simp only [Act.put, List.setIfInBounds_toArray, List.set_cons_zero, List.set_cons_succ]
      refine hold_plain 16 (v := ?_) hHC hH0 (by simp only [List.getElem?_toArray, List.getElem?_cons_succ, List.getElem?_cons_zero]; rfl) rfl (by kernel_rfl) ?_ ?_
      rotate_left 1
      · (intro w hSw; (try dsimp only at hSw); go_simp; try with_reducible rfl)
      try simp only [Act.put, List.setIfInBounds_toArray, List.set_cons_zero, List.set_cons_succ]
      refine hold_plain 17 (v := ?_) hHC hH0 (by simp only [List.getElem?_toArray, List.getElem?_cons_succ, List.getElem?_cons_zero]; rfl) rfl (by kernel_rfl) ?_ ?_
      rotate_left 1
      · (intro w hSw; (try dsimp only at hSw); go_simp; try with_reducible rfl)
      try simp only [Act.put, List.setIfInBounds_toArray, List.set_cons_zero, List.set_cons_succ]
      refine hold_plain 18 (v := ?_) hHC hH0 (by simp only [List.getElem?_toArray, List.getElem?_cons_succ, List.getElem?_cons_zero]; rfl) rfl (by kernel_rfl) ?_ ?_
      rotate_left 1
      · (intro w hSw; (try dsimp only at hSw); go_simp; try with_reducible rfl)
      try simp only [Act.put, List.setIfInBounds_toArray, List.set_cons_zero, List.set_cons_succ]
      refine hold_plain 19 (v := ?_) hHC hH0 (by simp only [List.getElem?_toArray, List.getElem?_cons_succ, List.getElem?_cons_zero]; rfl) rfl (by kernel_rfl) ?_ ?_
      rotate_left 1
      · (intro w hSw; (try dsimp only at hSw); go_simp; try with_reducible rfl)
      try simp only [Act.put, List.setIfInBounds_toArray, List.set_cons_zero, List.set_cons_succ]
      refine hold_plain 20 (v := ?_) hHC hH0 (by simp only [List.getElem?_toArray, List.getElem?_cons_succ, List.getElem?_cons_zero]; rfl) rfl (by kernel_rfl) ?_ ?_
      rotate_left 1
      · (intro w hSw; (try dsimp only at hSw); go_simp; try with_reducible rfl)
      try simp only [Act.put, List.setIfInBounds_toArray, List.set_cons_zero, List.set_cons_succ]
      refine hold_plain 21 (v := ?_) hHC hH0 (by simp only [List.getElem?_toArray, List.getElem?_cons_succ, List.getElem?_cons_zero]; rfl) rfl (by kernel_rfl) ?_ ?_
      rotate_left 1
      · (intro w hSw; (try dsimp only at hSw); go_simp; try with_reducible rfl)
      try simp only [Act.put, List.setIfInBounds_toArray, List.set_cons_zero, List.set_cons_succ]
      refine hold_plain 24 (v := ?_) hHC hH0 (by simp only [List.getElem?_toArray, List.getElem?_cons_succ, List.getElem?_cons_zero]; rfl) rfl (by kernel_rfl) ?_ ?_
      rotate_left 1
      · (intro w hSw; (try dsimp only at hSw); go_simp; try with_reducible rfl)
      try simp only [Act.put, List.setIfInBounds_toArray, List.set_cons_zero, List.set_cons_succ]
      refine hold_plain 25 (v := ?_) hHC hH0 (by simp only [List.getElem?_toArray, List.getElem?_cons_succ, List.getElem?_cons_zero]; rfl) rfl (by kernel_rfl) ?_ ?_
      rotate_left 1
      · (intro w hSw; (try dsimp only at hSw); go_simp; try with_reducible rfl)
      try simp only [Act.put, List.setIfInBounds_toArray, List.set_cons_zero, List.set_cons_succ]
      refine hold_plain 26 (v := ?_) hHC hH0 (by simp only [List.getElem?_toArray, List.getElem?_cons_succ, List.getElem?_cons_zero]; rfl) rfl (by kernel_rfl) ?_ ?_
      rotate_left 1
      · (intro w hSw; (try dsimp only at hSw); go_simp; try with_reducible rfl)
      try simp only [Act.put, List.setIfInBounds_toArray, List.set_cons_zero, List.set_cons_succ]
      refine hold_plain 27 (v := ?_) hHC hH0 (by simp only [List.getElem?_toArray, List.getElem?_cons_succ, List.getElem?_cons_zero]; rfl) rfl (by kernel_rfl) ?_ ?_
      rotate_left 1
      · (intro w hSw; (try dsimp only at hSw); go_simp; try with_reducible rfl)
      try simp only [Act.put, List.setIfInBounds_toArray, List.set_cons_zero, List.set_cons_succ]
      refine hold_plain 28 (v := ?_) hHC hH0 (by simp only [List.getElem?_toArray, List.getElem?_cons_succ, List.getElem?_cons_zero]; rfl) rfl (by kernel_rfl) ?_ ?_
      rotate_left 1
      · (intro w hSw; (try dsimp only at hSw); go_simp; try with_reducible rfl)
      try simp only [Act.put, List.setIfInBounds_toArray, List.set_cons_zero, List.set_cons_succ]
      refine hold_plain 29 (v := ?_) hHC hH0 (by simp only [List.getElem?_toArray, List.getElem?_cons_succ, List.getElem?_cons_zero]; rfl) rfl (by kernel_rfl) ?_ ?_
      rotate_left 1
      · (intro w hSw; (try dsimp only at hSw); go_simp; try with_reducible rfl)
      try simp only [Act.put, List.setIfInBounds_toArray, List.set_cons_zero, List.set_cons_succ]
      refine hold_plain 30 (v := ?_) hHC hH0 (by simp only [List.getElem?_toArray, List.getElem?_cons_succ, List.getElem?_cons_zero]; rfl) rfl (by kernel_rfl) ?_ ?_
      rotate_left 1
      · (intro w hSw; (try dsimp only at hSw); go_simp; try with_reducible rfl)
      try simp only [Act.put, List.setIfInBounds_toArray, List.set_cons_zero, List.set_cons_succ]
      refine hold_call0 6 (by simp only [List.getElem?_toArray, List.getElem?_cons_succ, List.getElem?_cons_zero]; rfl) rfl (by kernel_rfl) (fun K hK => ?_)
      go_simp
      (obtain ⟨_, _, _, hr1, _, _⟩ := id hH0; (go_at_call 22; first | (with_reducible refine (HA1.out _ hr1).mono ?_; rintro e w1 ⟨rfl, hb1⟩) | (with_reducible refine (HB1.out _ hr1).mono ?_; rintro e w1 ⟨rfl, hb1⟩) | (with_reducible refine (HC1.out _ hr1).mono ?_; rintro e w1 ⟨rfl, hb1⟩) | (with_reducible refine (HD1.out _ hr1).mono ?_; rintro e w1 ⟨rfl, hb1⟩)))
      refine hK.out _ _ ?_ (fun hH1 => ?_)
      · (first | (go_keep; done) | ((try go_split_ands); (repeat' apply And.intro) <;> first | assumption | (with_reducible refine Rd.below ?_ hb1; assumption) | (with_reducible refine Rd.drew ?_; repeat' (first | assumption | (with_reducible refine Rd.alloc ?_ _))) | (refine (hb1.cell (by first | omega | (simp; done) | (simp; omega))).trans ?_; first | assumption | simp) | (exact below_step hb1 (by first | omega | (simp; done) | (simp; omega)) (by assumption)) | (have hz' := hb1.size; (try simp at hz'); omega) | ((repeat' (first | assumption | (with_reducible exact Below.refl _ _) | (with_reducible refine Below.drew ?_) | (with_reducible refine Below.alloc ?_ ?_ _) | (with_reducible refine Below.setCell ?_ ?_ _) | omega | (simp; done) | (simp; omega))); done) | go_simp | (simp; done) | (simp; omega)))
      clear hK K hH0
      try simp only [Act.put, List.setIfInBounds_toArray, List.set_cons_zero, List.set_cons_succ]
      refine hold_call0 13 (by simp only [List.getElem?_toArray, List.getElem?_cons_succ, List.getElem?_cons_zero]; rfl) rfl (by kernel_rfl) (fun K hK => ?_)
      go_simp
      (obtain ⟨_, _, _, hr1, _, _⟩ := id hH1; (go_at_call 22; first | (with_reducible refine (HA1.out _ hr1).mono ?_; rintro e w1 ⟨rfl, hb1⟩) | (with_reducible refine (HB1.out _ hr1).mono ?_; rintro e w1 ⟨rfl, hb1⟩) | (with_reducible refine (HC1.out _ hr1).mono ?_; rintro e w1 ⟨rfl, hb1⟩) | (with_reducible refine (HD1.out _ hr1).mono ?_; rintro e w1 ⟨rfl, hb1⟩)))
      refine hK.out _ _ ?_ (fun hH2 => ?_)
      · (first | (go_keep; done) | ((try go_split_ands); (repeat' apply And.intro) <;> first | assumption | (with_reducible refine Rd.below ?_ hb1; assumption) | (with_reducible refine Rd.drew ?_; repeat' (first | assumption | (with_reducible refine Rd.alloc ?_ _))) | (refine (hb1.cell (by first | omega | (simp; done) | (simp; omega))).trans ?_; first | assumption | simp) | (exact below_step hb1 (by first | omega | (simp; done) | (simp; omega)) (by assumption)) | (have hz' := hb1.size; (try simp at hz'); omega) | ((repeat' (first | assumption | (with_reducible exact Below.refl _ _) | (with_reducible refine Below.drew ?_) | (with_reducible refine Below.alloc ?_ ?_ _) | (with_reducible refine Below.setCell ?_ ?_ _) | omega | (simp; done) | (simp; omega))); done) | go_simp | (simp; done) | (simp; omega)))
      clear hK K hH1
      try simp only [Act.put, List.setIfInBounds_toArray, List.set_cons_zero, List.set_cons_succ]
      refine hold_plain 14 (v := ?_) hHC hH2 (by simp only [List.getElem?_toArray, List.getElem?_cons_succ, List.getElem?_cons_zero]; rfl) rfl (by kernel_rfl) ?_ ?_
      rotate_left 1
      · (intro w hSw; (try dsimp only at hSw); go_simp; try with_reducible rfl)
      try simp only [Act.put, List.setIfInBounds_toArray, List.set_cons_zero, List.set_cons_succ]
      refine hold_call0 22 (by simp only [List.getElem?_toArray, List.getElem?_cons_succ, List.getElem?_cons_zero]; rfl) rfl (by kernel_rfl) (fun K hK => ?_)
      go_simp
      (obtain ⟨_, _, _, hr1, _, _⟩ := id hH2; (go_at_call 22; first | (with_reducible refine (HA1.out _ hr1).mono ?_; rintro e w1 ⟨rfl, hb1⟩) | (with_reducible refine (HB1.out _ hr1).mono ?_; rintro e w1 ⟨rfl, hb1⟩) | (with_reducible refine (HC1.out _ hr1).mono ?_; rintro e w1 ⟨rfl, hb1⟩) | (with_reducible refine (HD1.out _ hr1).mono ?_; rintro e w1 ⟨rfl, hb1⟩)))
      refine hK.out _ _ ?_ (fun hH3 => ?_)
      · (first | (go_keep; done) | ((try go_split_ands); (repeat' apply And.intro) <;> first | assumption | (with_reducible refine Rd.below ?_ hb1; assumption) | (with_reducible refine Rd.drew ?_; repeat' (first | assumption | (with_reducible refine Rd.alloc ?_ _))) | (refine (hb1.cell (by first | omega | (simp; done) | (simp; omega))).trans ?_; first | assumption | simp) | (exact below_step hb1 (by first | omega | (simp; done) | (simp; omega)) (by assumption)) | (have hz' := hb1.size; (try simp at hz'); omega) | ((repeat' (first | assumption | (with_reducible exact Below.refl _ _) | (with_reducible refine Below.drew ?_) | (with_reducible refine Below.alloc ?_ ?_ _) | (with_reducible refine Below.setCell ?_ ?_ _) | omega | (simp; done) | (simp; omega))); done) | go_simp | (simp; done) | (simp; omega)))
      clear hK K hH2
      try simp only [Act.put, List.setIfInBounds_toArray, List.set_cons_zero, List.set_cons_succ]
      refine hold_plain 23 (v := ?_) hHC hH3 (by simp only [List.getElem?_toArray, List.getElem?_cons_succ, List.getElem?_cons_zero]; rfl) rfl (by kernel_rfl) ?_ ?_
      rotate_left 1
      · (intro w hSw; (try dsimp only at hSw); go_simp; try with_reducible rfl)
      try simp only [Act.put, List.setIfInBounds_toArray, List.set_cons_zero, List.set_cons_succ]
      refine hold_call0 31 (by simp only [List.getElem?_toArray, List.getElem?_cons_succ, List.getElem?_cons_zero]; rfl) rfl (by kernel_rfl) (fun K hK => ?_)
      go_simp
      (obtain ⟨_, _, _, hr1, _, _⟩ := id hH3; (go_at_call 22; first | (with_reducible refine (HA1.out _ hr1).mono ?_; rintro e w1 ⟨rfl, hb1⟩) | (with_reducible refine (HB1.out _ hr1).mono ?_; rintro e w1 ⟨rfl, hb1⟩) | (with_reducible refine (HC1.out _ hr1).mono ?_; rintro e w1 ⟨rfl, hb1⟩) | (with_reducible refine (HD1.out _ hr1).mono ?_; rintro e w1 ⟨rfl, hb1⟩)))
      refine hK.out _ _ ?_ (fun hH4 => ?_)
      · (first | (go_keep; done) | ((try go_split_ands); (repeat' apply And.intro) <;> first | assumption | (with_reducible refine Rd.below ?_ hb1; assumption) | (with_reducible refine Rd.drew ?_; repeat' (first | assumption | (with_reducible refine Rd.alloc ?_ _))) | (refine (hb1.cell (by first | omega | (simp; done) | (simp; omega))).trans ?_; first | assumption | simp) | (exact below_step hb1 (by first | omega | (simp; done) | (simp; omega)) (by assumption)) | (have hz' := hb1.size; (try simp at hz'); omega) | ((repeat' (first | assumption | (with_reducible exact Below.refl _ _) | (with_reducible refine Below.drew ?_) | (with_reducible refine Below.alloc ?_ ?_ _) | (with_reducible refine Below.setCell ?_ ?_ _) | omega | (simp; done) | (simp; omega))); done) | go_simp | (simp; done) | (simp; omega)))
      clear hK K hH3
      try simp only [Act.put, List.setIfInBounds_toArray, List.set_cons_zero, List.set_cons_succ]
      refine hold_plain 32 (v := ?_) hHC hH4 (by simp only [List.getElem?_toArray, List.getElem?_cons_succ, List.getElem?_cons_zero]; rfl) rfl (by kernel_rfl) ?_ ?_
      rotate_left 1
      · (intro w hSw; (try dsimp only at hSw); go_simp; try with_reducible rfl)
      try simp only [Act.put, List.setIfInBounds_toArray, List.set_cons_zero, List.set_cons_succ]
      refine hold_plain 33 (v := ?_) hHC hH4 (by simp only [List.getElem?_toArray, List.getElem?_cons_succ, List.getElem?_cons_zero]; rfl) rfl (by kernel_rfl) ?_ ?_
      rotate_left 1
      · (intro w hSw; (try dsimp only at hSw); go_simp; try with_reducible rfl)
      try simp only [Act.put, List.setIfInBounds_toArray, List.set_cons_zero, List.set_cons_succ]
      refine wpAnyH_done (by kernel_rfl) ?_ _
      (try dsimp only at hH4)
      go_split_ands
      clear hHC
      clear s1 s2 s3 wx wy HSUM HA1 HB1 HC1 HD1 ev eu es hv0 hv1 hu0 hu1 hs0 hs1 HTN HZERO hT1 hrr
      have hq12 : q < w1.heap.size := by omega
      have hw12 : w.heap.size ≤ w1.heap.size := by omega
      have r12 : RdI w1 ad zs := by with_reducible assumption
      by_cases h16 : 16 < L.length
      · have h16I : (16 : Int) < (L.length : Int) := by omega
        go_wp2_with fail
        go_ret
        exact ⟨rfl, by assumption⟩
      · have h16I : ¬ (16 : Int) < (L.length : Int) := by omega
        obtain ⟨nh, hnh⟩ := HEVEN.out
        have hle16 : L.length ≤ 16 := Nat.not_lt.1 h16
        have eq1 : Int.tdiv (L.length : Int) 2 = (nh : Int) := half_eq hnh
        have ewn : wrap64 (nh : Int) = (nh : Int) := wrap_half hnh hL64
        have HP1 : Hid (∀ W : World, RdI W ad zs → Calls Try.prog 14 #[.agg #[.slice ad m d], .int .i64 (nh : Int)] W (fun e w' => e = .returned (.int .i64 t) ∧ Below W.heap.size W w')) := Lib.hid (fun W h => by
          have g := HCP.out W (nh : Int) h
          rw [cp_half HOK.out HTL.out (by rw [← HLL.out]; exact hle16) (n := nh) (by rw [← HLL.out]; exact hnh), ← HT.out] at g
          exact g)
        have HP0 : Hid (∀ W : World, RdI W ad zs → Calls Try.prog 14 #[.agg #[.slice ad m d], .int .i64 0] W (fun e w' => e = .returned (.int .i64 1) ∧ Below W.heap.size W w')) := Lib.hid (fun W h => by
          have g := HCP.out W 0 h
          rw [cp_zero HOK.out (by rw [← HLL.out]; exact hle16)] at g
          exact g)
        clear HCP HEVEN hnh
        go_wp2_with (go_at_call 14; fail)
        refine (HP1.out _ r12).mono ?_
        rintro e w13 ⟨rfl, hb13⟩
        have r13 : RdI w13 ad zs := Rd.below r12 hb13
        have q13 : w13.cell? ⟨q, 0, none⟩ = some (.slice ad m d) := (hb13.cell (p := ⟨q, 0, none⟩) hq12).trans (by with_reducible assumption)
        have B13 : Below w.heap.size w w13 := below_step hb13 hw12 (by with_reducible assumption)
        have hs13 := B13.size
        clear hb13 HP1
        go_wp2_with (go_at_call 14; fail)
        refine (HP0.out _ r13).mono ?_
        rintro e w14 ⟨rfl, hb14⟩
        have B14 : Below w.heap.size w w14 := below_step hb14 hs13 B13
        go_wp2_with fail
        go_ret
        exact ⟨rfl, B14⟩
end Go.Proofs.Ytfjkjnhmlljefaa.fnCounts
