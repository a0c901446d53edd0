/-
  Simple regions: both sides.
-/
import Derived.Test.YtghakmhglneckaaHolL
namespace Go.Proofs.Ytghakmhglneckaa
open Go.RowKit Plain
set_option linter.unusedVariables false
set_option linter.unusedSimpArgs false

/-- A region touches itself at the corner behind the cell (x, y). -/
def tch (S : Nat) (x y : Int) : Bool := (hasB S x y == hasB S (x + 1) (y + 1)) && ((hasB S (x + 1) y == hasB S x (y + 1)) && (hasB S x y != hasB S (x + 1) y))
def tchK (S k : Nat) : Bool := tch S ((k % 7 : Nat) : Int) ((k / 7 : Nat) : Int)
def touchB (S : Nat) : Bool := (List.range 49).any (tchK S)
theorem tch_at {S x y : Nat} (hx : x < 7) : tchK S (y * 7 + x) = tch S x y := by
  unfold tchK
  rw [show (y * 7 + x) % 7 = x by omega, show (y * 7 + x) / 7 = y by omega]
theorem touch_yes {S k : Nat} (hk : k < 49) (h : tchK S k = true) : touchB S = true := List.any_eq_true.2 ⟨k, List.mem_range.2 hk, h⟩
theorem touch_no {S : Nat} (h : ∀ j, j < 49 → tchK S j = false) : touchB S = false := by
  unfold touchB
  rw [List.any_eq_false]
  intro k hk
  rw [h k (List.mem_range.1 hk)]
  simp
theorem upto_one {S k : Nat} (h : ∀ j, j < k → tchK S j = false) (hk : tchK S k = false) : ∀ j, j < k + 1 → tchK S j = false := by
  intro j hj
  by_cases e : j = k
  · rw [e]; exact hk
  · exact h j (by omega)
theorem tch_val {S : Nat} {x y : Int} {p q r s : Bool} (ha : hasB S x y = p) (hb : hasB S (x + 1) y = q) (hc : hasB S x (y + 1) = r) (hd : hasB S (x + 1) (y + 1) = s) : tch S x y = ((p == s) && ((q == r) && (p != q))) := by
  unfold tch
  rw [ha, hb, hc, hd]
theorem ok7 {x y : Int} (hx : 0 ≤ x ∧ x ≤ 7) (hy : 0 ≤ y ∧ y ≤ 7) : okB x y = true := okB_iff.2 ⟨hx, hy⟩
set_option maxHeartbeats 6400000 in
set_option maxRecDepth 100000 in
theorem touches_any (a : Option Addr) (n c : Nat) (zs : List Int) (w : World) (hz : zs.length = n) (hok : rokB zs = true) (hr : RdI w a zs) :
    Calls Try.prog 53 #[.agg #[.slice a n c]] w fun e w' => e = .returned (.bool (touchB (setS zs))) ∧ Below w.heap.size w w' := by
  have HZ := Lib.hid hz
  have HL3 := Lib.hid (fun (W : World) (u v : Int) (h1 : okB u v = true) (b : Bool) (h2 : hasB (setS zs) u v = b) (h : RdI W a zs) => l03_valP a n c zs u v W HZ.out hok h1 h h2)
  obtain ⟨S, hS⟩ : ∃ S, S = setS zs := ⟨_, rfl⟩
  rw [← hS] at HL3 ⊢
  obtain ⟨res, hres⟩ : ∃ res, res = touchB S := ⟨_, rfl⟩
  rw [← hres]
  have HRES := Lib.hid hres
  have HR := Lib.hid hr
  clear hz hok hS hres
  go_enter Try.func53, Try.ntmps53
  go_wp2_with fail
  have hc0 : (w.alloc (.cells #[.slice a n c] 27)).cell? ⟨w.heap.size, 0, none⟩ = some (.slice a n c) := by go_simp
  go_loopw [3] (fun i wr => ∃ y : Nat, y ≤ 7 ∧ i = .int .i64 (y : Int) ∧ Hid (∀ j, j < y * 7 → tchK S j = false) ∧ wr.cell? ⟨w.heap.size, 0, none⟩ = some (.slice a n c) ∧ Below w.heap.size w wr ∧ w.heap.size + 1 ≤ wr.heap.size) (fun i _ => 7 - (intOf i).toNat)
  case atStart => exact ⟨0, by omega, rfl, Lib.hid (by intro j hj; omega), by go_simp, by repeat' (first | assumption | (with_reducible exact Below.refl _ _) | (with_reducible refine Below.drew ?_) | (with_reducible refine Below.alloc ?_ ?_ _) | (with_reducible refine Below.setCell ?_ ?_ _) | omega | (simp; done) | (simp; omega)), by simp⟩
  case round =>
    clear hc0 hr
    obtain ⟨y, hy, rfl, HN, hcr, hB, hs⟩ := hrel
    by_cases hlt : y < 7
    · have hyI : (y : Int) + 1 < 8 := by omega
      go_wp2_with fail
      go_loopw [4] (fun i wr => ∃ x : Nat, x ≤ 7 ∧ i = .int .i64 (x : Int) ∧ Hid (∀ j, j < y * 7 + x → tchK S j = false) ∧ wr.cell? ⟨w.heap.size, 0, none⟩ = some (.slice a n c) ∧ Below w.heap.size w wr ∧ w.heap.size + 1 ≤ wr.heap.size) (fun i _ => 7 - (intOf i).toNat)
      case atStart => exact ⟨0, by omega, rfl, HN, hcr, hB, hs⟩
      case round =>
        clear HN hcr hB hs
        obtain ⟨x, hx, rfl, HN, hcr, hB, hs⟩ := hrel
        by_cases hlt2 : x < 7
        · have hxI : (x : Int) + 1 < 8 := by omega
          obtain ⟨p, hp⟩ : ∃ p, hasB S (x : Int) (y : Int) = p := ⟨_, rfl⟩
          obtain ⟨q, hq⟩ : ∃ q, hasB S ((x : Int) + 1) (y : Int) = q := ⟨_, rfl⟩
          obtain ⟨r, hr⟩ : ∃ r, hasB S (x : Int) ((y : Int) + 1) = r := ⟨_, rfl⟩
          obtain ⟨s, hs'⟩ : ∃ s, hasB S ((x : Int) + 1) ((y : Int) + 1) = s := ⟨_, rfl⟩
          have HV : Hid (tchK S (y * 7 + x) = ((p == s) && ((q == r) && (p != q)))) := Lib.hid (by rw [tch_at hlt2]; exact tch_val hp hq hr hs')
          have H1 := Lib.hid (fun (W : World) (h : RdI W a zs) => HL3.out W (x : Int) (y : Int) (ok7 (by omega) (by omega)) p hp h)
          have H2 := Lib.hid (fun (W : World) (h : RdI W a zs) => HL3.out W ((x : Int) + 1) (y : Int) (ok7 (by omega) (by omega)) q hq h)
          have H3 := Lib.hid (fun (W : World) (h : RdI W a zs) => HL3.out W (x : Int) ((y : Int) + 1) (ok7 (by omega) (by omega)) r hr h)
          have H4 := Lib.hid (fun (W : World) (h : RdI W a zs) => HL3.out W ((x : Int) + 1) ((y : Int) + 1) (ok7 (by omega) (by omega)) s hs' h)
          clear hp hq hr hs'
          go_wp2_with (go_at_call 48; fail)
          refine (H1.out _ (Rd.below HR.out hB)).mono ?_
          rintro e w1 ⟨rfl, hb⟩
          have hcr1 := (hb.cell (p := ⟨w.heap.size, 0, none⟩) (by first | omega | (simp; done) | (simp; omega))).trans hcr
          have hB1 := below_step hb (by first | omega | (simp; done) | (simp; omega)) hB
          have hz1 := hb.size
          clear hb hcr
          go_wp2_with (go_at_call 48; fail)
          refine (H2.out _ (Rd.below HR.out hB1)).mono ?_
          rintro e w2 ⟨rfl, hb⟩
          have hcr2 := (hb.cell (p := ⟨w.heap.size, 0, none⟩) (by first | omega | (simp; done) | (simp; omega))).trans hcr1
          have hB2 := below_step hb (by first | omega | (simp; done) | (simp; omega)) hB1
          have hz2 := hb.size
          clear hb hcr1
          go_wp2_with (go_at_call 48; fail)
          refine (H3.out _ (Rd.below HR.out hB2)).mono ?_
          rintro e w3 ⟨rfl, hb⟩
          have hcr3 := (hb.cell (p := ⟨w.heap.size, 0, none⟩) (by first | omega | (simp; done) | (simp; omega))).trans hcr2
          have hB3 := below_step hb (by first | omega | (simp; done) | (simp; omega)) hB2
          have hz3 := hb.size
          clear hb hcr2
          go_wp2_with (go_at_call 48; fail)
          refine (H4.out _ (Rd.below HR.out hB3)).mono ?_
          rintro e w4 ⟨rfl, hb⟩
          have hcr4 := (hb.cell (p := ⟨w.heap.size, 0, none⟩) (by first | omega | (simp; done) | (simp; omega))).trans hcr3
          have hB4 := below_step hb (by first | omega | (simp; done) | (simp; omega)) hB3
          have hz4 := hb.size
          clear hb hcr3
          cases p <;> cases q <;> cases r <;> cases s <;> first
            | (have HN5 : Hid (∀ j, j < y * 7 + (x + 1) → tchK S j = false) := Lib.hid (upto_one HN.out (HV.out.trans rfl))
               go_wp2_with fail
               go_roundw
               case rel => exact ⟨x + 1, by omega, by go_num, HN5, hcr4, hB4, by omega⟩
               case measure => simp [intOf]; omega)
            | (have HT5 : Hid (res = true) := Lib.hid (by rw [HRES.out]; exact touch_yes (k := y * 7 + x) (by omega) (HV.out.trans rfl))
               go_wp2_with fail
               go_ret
               exact ⟨by first | exact congrArg Ending.returned (congrArg Value.bool HT5.out.symm) | (rw [HT5.out]; rfl), hB4⟩)
        · have hxI : ¬ (x : Int) + 1 < 8 := by omega
          have HN5 : Hid (∀ j, j < (y + 1) * 7 → tchK S j = false) := Lib.hid (by have := HN.out; rw [show (y + 1) * 7 = y * 7 + x by omega]; exact this)
          go_wp2_with fail
          go_roundw
          case rel => exact ⟨y + 1, by omega, by go_num, HN5, hcr, hB, hs⟩
          case measure => simp [intOf]; omega
    · have hyI : ¬ (y : Int) + 1 < 8 := by omega
      have HT5 : Hid (res = false) := Lib.hid (by rw [HRES.out]; exact touch_no (by have := HN.out; rw [show 49 = y * 7 by omega]; exact this))
      go_wp2_with fail
      go_ret
      exact ⟨by first | exact congrArg Ending.returned (congrArg Value.bool HT5.out.symm) | (rw [HT5.out]; rfl), hB⟩
end Go.Proofs.Ytghakmhglneckaa
