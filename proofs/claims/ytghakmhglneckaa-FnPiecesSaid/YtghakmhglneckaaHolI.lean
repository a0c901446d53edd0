/-
  The program's number of holes.
-/
import Derived.Test.YtghakmhglneckaaHolP
import Derived.Deep.WholeRow
namespace Go.Proofs.Ytghakmhglneckaa
open Go.RowKit Plain
set_option linter.unusedVariables false
set_option linter.unusedSimpArgs false

theorem zc_eq : Try.zeroCells57 = (List.replicate 100 (Value.bool false)).toArray := by kernel_rfl
theorem zc_size : Try.zeroCells57.size = 100 := by rw [zc_eq]; simp
theorem zc_info : (Try.prog.info? 57).map (·.size) = some Try.zeroCells57.size := by rw [zc_size]; kernel_rfl
theorem zc_one : Try.zeroCells57.all (·.oneCell') = true := by rw [zc_eq]; simp [Value.oneCell']
theorem seen_new (w : World) : SeenB (w.alloc (.cells Try.zeroCells57 57)) w.heap.size (fun _ => false) := by
  refine ⟨_, _, heap_alloc_last w _, zc_size, fun i hi => ?_⟩
  rw [zc_eq, List.getElem?_toArray, List.getElem?_replicate, if_pos hi]
theorem store_zc (w : World) : (storeCells ⟨w.heap.size, 0, none⟩ Try.zeroCells57.toList 0).run Try.prog (w.alloc (.cells Try.zeroCells57 57)) = .ok () (w.alloc (.cells Try.zeroCells57 57)) :=
  run_storeCells_new (P := Try.prog) w _ _ _ zc_info rfl zc_one
theorem store_fn (w : World) (x : Value) (fn : Fn) (p q : Array Value) (t : TypeId) : (store ⟨w.heap.size, 0, none⟩ (.func fn p q)).run Try.prog (w.alloc (.cells #[x] t)) = .ok () (w.alloc (.cells #[.func fn p q] t)) := by
  rw [run_store Try.prog _ _ _ _ rfl, World.setCell_alloc_new]
  simp only [World.cell?, World.frozen?, heap_alloc_last]
  simp
set_option maxHeartbeats 1600000 in
set_option maxRecDepth 100000 in
theorem implHol_any (a : Option Addr) (n c : Nat) (zs : List Int) (w : World) (hz : zs.length = n) (hn : n ≤ 1048576) (hr : RdI w a zs) :
    Calls Try.prog 11 #[.agg #[.slice a n c]] w fun e w' => e = .returned (.int .i64 (hlB zs)) ∧ Below w.heap.size w w' := by
  have HZ := Lib.hid hz
  clear hz
  by_cases h1 : rokB zs = true
  · have HS := Lib.hid (fun (W : World) (h : RdI W a zs) => set_any a n c zs W HZ.out h1 h)
    have HOK := Lib.hid (fun (W : World) (h : RdI W a zs) => implRok_valC a n c zs W HZ.out hn h h1)
    have HS64 := Lib.hid (setS_lt h1)
    have HT : Hid (hlB zs = (blanks (setS zs).testBit : Int) - 1) := Lib.hid (by unfold hlB; rw [if_pos h1])
    obtain ⟨S, hS⟩ : ∃ S, S = setS zs := ⟨_, rfl⟩
    rw [← hS] at HS HS64 HT
    clear hS h1
    go_enter Try.func11, Try.ntmps11
    go_wp2_with (go_at_call 37; fail)
    refine (HOK.out _ (by repeat' (first | assumption | (with_reducible refine Rd.alloc ?_ _) | (with_reducible refine Rd.drew ?_)))).mono ?_
    rintro e w1 ⟨rfl, hb⟩
    have hz1 := hb.size
    simp at hz1
    have hc1 : w1.cell? ⟨w.heap.size, 0, none⟩ = some (.slice a n c) := (hb.cell (p := ⟨w.heap.size, 0, none⟩) (by first | omega | (simp; done) | (simp; omega))).trans (by go_simp)
    have hr1 : RdI w1 a zs := Rd.below (by repeat' (first | assumption | (with_reducible refine Rd.alloc ?_ _) | (with_reducible refine Rd.drew ?_))) hb
    have hB1 : Below w.heap.size w w1 := below_step hb (by first | omega | (simp; done) | (simp; omega)) (by repeat' (first | assumption | (with_reducible exact Below.refl _ _) | (with_reducible refine Below.drew ?_) | (with_reducible refine Below.alloc ?_ ?_ _) | (with_reducible refine Below.setCell ?_ ?_ _) | omega | (simp; done) | (simp; omega)))
    clear hb hr
    go_wp2_with (go_at_call 38; fail)
    refine (HS.out _ hr1).mono ?_
    rintro e w2 ⟨rfl, hb⟩
    have hB2 : Below w.heap.size w w2 := below_step hb (by first | omega | (simp; done) | (simp; omega)) hB1
    have hz2 := hb.size
    clear hb hr1 hB1 hc1
    have hst := store_zc (w2.alloc (.cells #[.int .u64 S] 55))
    rw [show (w2.alloc (.cells #[.int .u64 S] 55)).heap.size = w2.heap.size + 1 by simp] at hst
    have HU0 := Lib.hid (seen_new (w2.alloc (.cells #[.int .u64 S] 55)))
    rw [show (w2.alloc (.cells #[.int .u64 S] 55)).heap.size = w2.heap.size + 1 by simp] at HU0
    go_upto_region 4 with fail
    obtain ⟨G, hG⟩ : ∃ G, G = w2.heap.size + 1 := ⟨_, rfl⟩
    obtain ⟨w3, hw3⟩ : ∃ w3, w3 = (w2.alloc (.cells #[.int .u64 S] 55)).alloc (.cells Try.zeroCells57 57) := ⟨_, rfl⟩
    have hB3 : Below w.heap.size w w3 := by rw [hw3]; exact (hB2.alloc (by omega) _).alloc (by simp; omega) _
    have hs3 : w2.heap.size < w3.heap.size := by rw [hw3]; simp; omega
    have hs4 : w2.heap.size + 1 < w3.heap.size := by rw [hw3]; simp
    have hcs : w3.cell? ⟨w2.heap.size, 0, none⟩ = some (.int .u64 (S : Int)) := by rw [hw3]; go_simp
    rw [← hw3] at HU0 ⊢
    clear hst hw3
    have hmf : ∀ (fn : Fn) (first cap : Array Value) (w : World), (Instr.makeFunc fn first cap).run Try.prog w = .ok (.func fn first cap) w := fun _ _ _ _ => rfl
    have hsf := store_fn w3 .nilFunc (.func 39) #[] #[.pointer (some ⟨w2.heap.size + 1, 0, none⟩), .pointer (some ⟨w2.heap.size, 0, none⟩)] 59
    go_upto_region 5 with fail
    obtain ⟨w4, hw4⟩ : ∃ w4, w4 = w3.alloc (.cells #[.func (.func 39) #[] #[.pointer (some ⟨w2.heap.size + 1, 0, none⟩), .pointer (some ⟨w2.heap.size, 0, none⟩)]] 59) := ⟨_, rfl⟩
    have hB4 : Below w.heap.size w w4 := by rw [hw4]; exact hB3.alloc (by have := hB3.size; omega) _
    have hs5 : w3.heap.size < w4.heap.size := by rw [hw4]; simp
    have hcf : w4.cell? ⟨w3.heap.size, 0, none⟩ = some (.func (.func 39) #[] #[.pointer (some ⟨w2.heap.size + 1, 0, none⟩), .pointer (some ⟨w2.heap.size, 0, none⟩)]) := by rw [hw4]; go_simp
    have hcs4 : w4.cell? ⟨w2.heap.size, 0, none⟩ = some (.int .u64 (S : Int)) := by rw [hw4]; go_simp
    replace HU0 := Lib.hid (HU0.out.next (w' := w4) (by rw [hw4]; exact (Below.refl _ _).alloc (Nat.le_refl _) _))
    rw [← hw4]
    clear hw4 hsf hcs
    have hsf := store_fn w4 .nilFunc (.func 42) #[] #[.pointer (some ⟨w2.heap.size + 1, 0, none⟩), .pointer (some ⟨w3.heap.size, 0, none⟩), .pointer (some ⟨w4.heap.size, 0, none⟩)] 60
    go_upto_region 7 with fail
    obtain ⟨w5, hw5⟩ : ∃ w5, w5 = w4.alloc (.cells #[.func (.func 42) #[] #[.pointer (some ⟨w2.heap.size + 1, 0, none⟩), .pointer (some ⟨w3.heap.size, 0, none⟩), .pointer (some ⟨w4.heap.size, 0, none⟩)]] 60) := ⟨_, rfl⟩
    have hB5 : Below w.heap.size w w5 := by rw [hw5]; exact hB4.alloc (by have := hB4.size; omega) _
    have hs7 : w2.heap.size < w4.heap.size := by omega
    have hs6 : w4.heap.size < w5.heap.size := by rw [hw5]; simp
    have hcm : w5.cell? ⟨w4.heap.size, 0, none⟩ = some (.func (.func 42) #[] #[.pointer (some ⟨w2.heap.size + 1, 0, none⟩), .pointer (some ⟨w3.heap.size, 0, none⟩), .pointer (some ⟨w4.heap.size, 0, none⟩)]) := by rw [hw5]; go_simp
    have hcf5 : w5.cell? ⟨w3.heap.size, 0, none⟩ = some (.func (.func 39) #[] #[.pointer (some ⟨w2.heap.size + 1, 0, none⟩), .pointer (some ⟨w2.heap.size, 0, none⟩)]) := by rw [hw5]; go_simp
    have hcs5 : w5.cell? ⟨w2.heap.size, 0, none⟩ = some (.int .u64 (S : Int)) := by rw [hw5]; go_simp
    replace HU0 := Lib.hid (HU0.out.next (w' := w5) (by rw [hw5]; exact (Below.refl _ _).alloc (Nat.le_refl _) _))
    rw [← hw5]
    clear hw5 hsf hcs4 hcf
    obtain ⟨sb, hsb⟩ : ∃ sb, sb = w2.heap.size := ⟨_, rfl⟩
    obtain ⟨fb, hfb⟩ : ∃ fb, fb = w3.heap.size := ⟨_, rfl⟩
    obtain ⟨mb, hmb⟩ : ∃ mb, mb = w4.heap.size := ⟨_, rfl⟩
    rw [← hG, ← hsb, ← hfb] at hcf5
    rw [← hsb] at hcs5
    rw [← hG, ← hfb, ← hmb] at hcm
    rw [← hG] at HU0
    rw [← hG, ← hsb, ← hfb, ← hmb]
    have hgl : G < w5.heap.size := HU0.out.lt
    have hsl : sb < w5.heap.size := by omega
    have hfl : fb < w5.heap.size := by omega
    have hml : mb < w5.heap.size := by omega
    have hg1 : ¬ sb = G := by omega
    have hg2 : ¬ fb = G := by omega
    have hg3 : ¬ mb = G := by omega
    have hBG : w.heap.size ≤ G := by omega
    have hB50 := hB5.size
    clear hsb hfb hmb hG hs3 hs4 hs5 hs6 hs7 hB2 hB3 hB4 hz1 hz2
    go_wp2_with fail
    go_loopw [5, 18] (fun nv i wr => ∃ (y : Nat) (nn : Int) (U : Nat → Bool), y ≤ 10 ∧ i = .int .i64 (y : Int) ∧ nv = .int .i64 nn ∧ Hid (nn = (hcN S (y * 10) : Int) - 1) ∧ Hid (Upto S (y * 10) U) ∧ Hid (SeenB wr G U) ∧ Hid (KeptBut G w5 wr)) (fun _ i _ => 10 - (intOf i).toNat)
    case atStart => exact ⟨0, -1, _, by omega, rfl, rfl, Lib.hid (by rw [hcN_zero]; rfl), Lib.hid (upto_start S), HU0, Lib.hid (KeptBut.refl _ _)⟩
    case round =>
      clear HU0
      obtain ⟨y, nn, U, hy, rfl, rfl, HN, HU, HSe, HK⟩ := hrel
      by_cases hlt : y < 10
      · have hyI : (y : Int) < 10 := by omega
        go_wp2_with fail
        go_loopw [5, 21] (fun nv i wr => ∃ (x : Nat) (nn : Int) (U : Nat → Bool), x ≤ 10 ∧ i = .int .i64 (x : Int) ∧ nv = .int .i64 nn ∧ Hid (nn = (hcN S (y * 10 + x) : Int) - 1) ∧ Hid (Upto S (y * 10 + x) U) ∧ Hid (SeenB wr G U) ∧ Hid (KeptBut G w5 wr)) (fun _ i _ => 10 - (intOf i).toNat)
        case atStart => exact ⟨0, nn, U, by omega, rfl, rfl, HN, HU, HSe, HK⟩
        case round =>
          clear HN HU HSe HK
          obtain ⟨x, n2, U2, hx, rfl, rfl, HN, HU, HSe, HK⟩ := hrel
          have hn2 : -1 ≤ n2 ∧ n2 ≤ 100 := by have := HN.out; have := hcN_le S (y * 10 + x); omega
          obtain ⟨hn20, hn21⟩ := hn2
          have hcs6 := (HK.out.cell (p := ⟨sb, 0, none⟩) hsl hg1).trans hcs5
          have hcf6 := (HK.out.cell (p := ⟨fb, 0, none⟩) hfl hg2).trans hcf5
          have hcm6 := (HK.out.cell (p := ⟨mb, 0, none⟩) hml hg3).trans hcm
          have hsz := HK.out.size
          by_cases hlt2 : x < 10
          · have hxI : (x : Int) < 10 := by omega
            rcases Bool.eq_false_or_eq_true (frB S U2 (x : Int) (y : Int)) with hr | hr
            · have HFR := Lib.hid (fun W (h1 : Hid (SeenB W G U2)) (h2 : W.cell? ⟨sb, 0, none⟩ = some (.int .u64 (S : Int))) => freeC_any S HS64 U2 G sb (x : Int) (y : Int) W (by omega) (by omega) h1 h2 hr)
              have hfr : U2 (y * 10 + x) = false ∧ free S.testBit (y * 10 + x) = true := by have := hr; rw [fr_in hlt2 hlt rfl] at this; simpa using this
              have HMK := Lib.hid (fun W (h1 : SeenB W G U2) (h2 : W.cell? ⟨sb, 0, none⟩ = some (.int .u64 (S : Int))) h3 h4 => markC_any S G sb fb mb HS64 hg1 hg2 hg3 _ U2 x y (y * 10 + x) W (Nat.le_refl _) hlt2 hlt rfl hfr.2 hfr.1 h1 h2 h3 h4)
              have HNX := Lib.hid (fun U' => upto_fill (by omega) HU.out hfr.2 hfr.1 (U' := U'))
              clear hr hfr
              go_wp2_with (go_at_call 39; fail)
              refine (HFR.out _ HSe (by assumption)).mono ?_
              rintro e w6 ⟨rfl, hb⟩
              have hcs7 := (hb.cell (p := ⟨sb, 0, none⟩) (by simp; omega)).trans hcs6
              have hcf7 := (hb.cell (p := ⟨fb, 0, none⟩) (by simp; omega)).trans hcf6
              have hcm7 := (hb.cell (p := ⟨mb, 0, none⟩) (by simp; omega)).trans hcm6
              have HS7 := Lib.hid (HSe.out.next hb)
              have HK7 := Lib.hid (HK.out.next hb)
              clear hb hcs6 hcf6 hcm6
              go_wp2_with (go_at_call 42; fail)
              refine (HMK.out _ HS7.out hcs7 hcf7 hcm7).mono ?_
              rintro e w7 ⟨rfl, U', hFl, hU3, hK3⟩
              have HNN : Hid (n2 + 1 = (hcN S (y * 10 + (x + 1)) : Int) - 1) := Lib.hid (by have h1 := hcN_yes (HNX.out U' hFl).2; have h2 := HN.out; rw [show y * 10 + (x + 1) = y * 10 + x + 1 by omega, h1]; omega)
              have HU3 := Lib.hid (HNX.out U' hFl).1
              have HS3 := Lib.hid hU3
              have HK3 := Lib.hid (HK7.out.trans hK3)
              clear hFl hU3 hK3
              go_wp2_with fail
              go_roundw
              case rel => exact ⟨x + 1, n2 + 1, U', by omega, by go_num, rfl, HNN, HU3, HS3, HK3⟩
              case measure => simp [intOf]; omega
            · have HFR := Lib.hid (fun W (h1 : Hid (SeenB W G U2)) (h2 : W.cell? ⟨sb, 0, none⟩ = some (.int .u64 (S : Int))) => freeC_any S HS64 U2 G sb (x : Int) (y : Int) W (by omega) (by omega) h1 h2 hr)
              have hfr : free S.testBit (y * 10 + x) = false ∨ U2 (y * 10 + x) = true := by
                have := hr
                rw [fr_in hlt2 hlt rfl] at this
                cases h1 : U2 (y * 10 + x) with
                | true => exact Or.inr rfl
                | false => rw [h1] at this; exact Or.inl (by simpa using this)
              have hnx := upto_skip (by omega) HU.out hfr
              have HNN : Hid (n2 = (hcN S (y * 10 + (x + 1)) : Int) - 1) := Lib.hid (by have h1 := hcN_no hnx.2; have h2 := HN.out; rw [show y * 10 + (x + 1) = y * 10 + x + 1 by omega, h1]; omega)
              have HU3 := Lib.hid hnx.1
              clear hr hfr hnx
              go_wp2_with (go_at_call 39; fail)
              refine (HFR.out _ HSe (by assumption)).mono ?_
              rintro e w6 ⟨rfl, hb⟩
              have HS7 := Lib.hid (HSe.out.next hb)
              have HK7 := Lib.hid (HK.out.next hb)
              clear hb hcs6 hcf6 hcm6
              go_wp2_with fail
              go_roundw
              case rel => exact ⟨x + 1, n2, U2, by omega, by go_num, rfl, HNN, HU3, HS7, HK7⟩
              case measure => simp [intOf]; omega
          · have hx10 : x = 10 := by omega
            have hxI : ¬ (x : Int) < 10 := by omega
            have HN3 : Hid (n2 = (hcN S ((y + 1) * 10) : Int) - 1) := Lib.hid (by have := HN.out; rw [show (y + 1) * 10 = y * 10 + x by omega]; exact this)
            have HU3 : Hid (Upto S ((y + 1) * 10) U2) := Lib.hid (by have := HU.out; rw [show (y + 1) * 10 = y * 10 + x by omega]; exact this)
            clear hx10
            go_wp2_with fail
            go_roundw
            case rel => exact ⟨y + 1, n2, U2, by omega, by go_num, rfl, HN3, HU3, HSe, HK⟩
            case measure => simp [intOf]; omega
      · have hyI : ¬ (y : Int) < 10 := by omega
        have HN3 : Hid (nn = hlB zs) := Lib.hid (by have := HN.out; rw [HT.out, ← hcN_all, show 100 = y * 10 by omega]; exact this)
        have HBE := Lib.hid (HK.out.below hB5 hBG hB50)
        go_wp2_with fail
        go_ret
        exact ⟨ret_i HN3.out, HBE.out⟩
  · have h1' : rokB zs = false := by simpa using h1
    have HOK := Lib.hid (fun (W : World) (h : RdI W a zs) => implRok_valC a n c zs W HZ.out hn h h1')
    have HT : Hid (hlB zs = 0) := Lib.hid (by unfold hlB; rw [if_neg h1])
    clear h1 h1'
    go_enter Try.func11, Try.ntmps11
    go_wp2_with (go_at_call 37; refine (HOK.out _ (Rd.below hr (by repeat' (first | assumption | (with_reducible exact Below.refl _ _) | (with_reducible refine Below.drew ?_) | (with_reducible refine Below.alloc ?_ ?_ _) | (with_reducible refine Below.setCell ?_ ?_ _) | omega | (simp; done) | (simp; omega))))).mono ?_; rintro e w1 ⟨rfl, hbw1⟩; have hzw1 := hbw1.size; (try simp at hzw1); (try have hl0w_w1 : w.heap.size < w1.heap.size := by omega); (try have hl1w_w1 : w.heap.size + 1 < w1.heap.size := by omega); (try have hl2w_w1 : w.heap.size + 1 + 1 < w1.heap.size := by omega); (try have hl3w_w1 : w.heap.size + 1 + 1 + 1 < w1.heap.size := by omega); (first | (have hcw_w1 : ∀ b o, b ≤ w.heap.size + 6 → w1.cell? ⟨b, o, none⟩ = _ := fun b o h => hbw1.cell (p := ⟨b, o, none⟩) (by first | omega | (simp; omega)); have hfw_w1 : ∀ b o, b ≤ w.heap.size + 6 → w1.frozen? ⟨b, o, none⟩ = _ := fun b o h => hbw1.frozen (p := ⟨b, o, none⟩) (by first | omega | (simp; omega))) | (have hcw_w1 : ∀ b o, b ≤ w.heap.size + 5 → w1.cell? ⟨b, o, none⟩ = _ := fun b o h => hbw1.cell (p := ⟨b, o, none⟩) (by first | omega | (simp; omega)); have hfw_w1 : ∀ b o, b ≤ w.heap.size + 5 → w1.frozen? ⟨b, o, none⟩ = _ := fun b o h => hbw1.frozen (p := ⟨b, o, none⟩) (by first | omega | (simp; omega))) | (have hcw_w1 : ∀ b o, b ≤ w.heap.size + 4 → w1.cell? ⟨b, o, none⟩ = _ := fun b o h => hbw1.cell (p := ⟨b, o, none⟩) (by first | omega | (simp; omega)); have hfw_w1 : ∀ b o, b ≤ w.heap.size + 4 → w1.frozen? ⟨b, o, none⟩ = _ := fun b o h => hbw1.frozen (p := ⟨b, o, none⟩) (by first | omega | (simp; omega))) | (have hcw_w1 : ∀ b o, b ≤ w.heap.size + 3 → w1.cell? ⟨b, o, none⟩ = _ := fun b o h => hbw1.cell (p := ⟨b, o, none⟩) (by first | omega | (simp; omega)); have hfw_w1 : ∀ b o, b ≤ w.heap.size + 3 → w1.frozen? ⟨b, o, none⟩ = _ := fun b o h => hbw1.frozen (p := ⟨b, o, none⟩) (by first | omega | (simp; omega))) | (have hcw_w1 : ∀ b o, b ≤ w.heap.size + 2 → w1.cell? ⟨b, o, none⟩ = _ := fun b o h => hbw1.cell (p := ⟨b, o, none⟩) (by first | omega | (simp; omega)); have hfw_w1 : ∀ b o, b ≤ w.heap.size + 2 → w1.frozen? ⟨b, o, none⟩ = _ := fun b o h => hbw1.frozen (p := ⟨b, o, none⟩) (by first | omega | (simp; omega))) | (have hcw_w1 : ∀ b o, b ≤ w.heap.size + 1 → w1.cell? ⟨b, o, none⟩ = _ := fun b o h => hbw1.cell (p := ⟨b, o, none⟩) (by first | omega | (simp; omega)); have hfw_w1 : ∀ b o, b ≤ w.heap.size + 1 → w1.frozen? ⟨b, o, none⟩ = _ := fun b o h => hbw1.frozen (p := ⟨b, o, none⟩) (by first | omega | (simp; omega))) | (have hcw_w1 : ∀ b o, b ≤ w.heap.size + 0 → w1.cell? ⟨b, o, none⟩ = _ := fun b o h => hbw1.cell (p := ⟨b, o, none⟩) (by first | omega | (simp; omega)); have hfw_w1 : ∀ b o, b ≤ w.heap.size + 0 → w1.frozen? ⟨b, o, none⟩ = _ := fun b o h => hbw1.frozen (p := ⟨b, o, none⟩) (by first | omega | (simp; omega))) | skip); have hBw1 : Below w.heap.size w w1 := below_step hbw1 (by first | omega | (simp; done) | (simp; omega)) (by repeat' (first | assumption | (with_reducible exact Below.refl _ _) | (with_reducible refine Below.drew ?_) | (with_reducible refine Below.alloc ?_ ?_ _) | (with_reducible refine Below.setCell ?_ ?_ _) | omega | (simp; done) | (simp; omega))); clear hbw1)
    go_ret
    exact ⟨ret_i HT.out.symm, by repeat' (first | assumption | (with_reducible exact Below.refl _ _) | (with_reducible refine Below.drew ?_) | (with_reducible refine Below.alloc ?_ ?_ _) | (with_reducible refine Below.setCell ?_ ?_ _) | omega | (simp; done) | (simp; omega))⟩
end Go.Proofs.Ytghakmhglneckaa
