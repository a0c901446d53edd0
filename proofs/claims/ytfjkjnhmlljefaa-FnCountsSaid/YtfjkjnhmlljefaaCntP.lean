/-
  Each cell of a tiling is covered by one domino; squares and rectangles of up to five: plain.
-/
import Derived.Test.YtfjkjnhmlljefaaTile
import Derived.Test.YtfjkjnhmlljefaaTilN
import Derived.Test.YtfjkjnhmlljefaaCW
namespace Go.Proofs.Ytfjkjnhmlljefaa
set_option linter.unusedVariables false
set_option linter.unusedSimpArgs false

theorem dpCell_eq (S : Nat → Nat → Bool) (x y : Nat) (l : List Int) (k : Nat) (n : Int) : dpCell S x y l k n = Tl.dpCell S x y l k n := rfl
theorem dpTo_eq (S : Nat → Nat → Bool) (x y : Nat) (ways : List Int) : ∀ m, dpTo S x y ways m = Tl.dpTo S x y ways m := by
  intro m
  induction m with
  | zero => rw [dpTo_zero, Tl.dpTo_zero]
  | succ m ih => rw [dpTo_succ, Tl.dpTo_succ, ih, dpCell_eq]
theorem dpAll_eq (S : Nat → Nat → Bool) : ∀ i, dpAll S i = Tl.dpAll S i := by
  intro i
  induction i with
  | zero => rw [dpAll, Tl.dpAll]
  | succ i ih => rw [dpAll, Tl.dpAll, ih, dpTo_eq]
theorem dp_link (S : Nat → Nat → Bool) : dpCount S = Tl.dpCount S := by
  unfold dpCount Tl.dpCount
  rw [dpAll_eq]
theorem sxy8 (S : Nat) : ∀ x y, sxy S x y = true → x < 8 ∧ y < 8 := by
  intro x y h
  unfold sxy hasB at h
  rw [Bool.and_eq_true] at h
  have := okB_iff.1 h.1
  omega
theorem dp_tiles (S : Nat) : dpCount (sxy S) = (Tl.tiles (sxy S) : Int) := by rw [dp_link, Tl.dpCount_tiles (sxy8 S)]
theorem til_tiles {zs : List Int} (h : rokB zs = true) : tilN zs = (Tl.tiles (sxy (setS zs)) : Int) := by
  unfold tilN
  rw [if_pos h, dp_tiles]
theorem at_sxy (S j : Nat) : Tl.at8 (sxy S) j = (decide (j < 64) && S.testBit j) := by
  unfold Tl.at8 sxy
  by_cases h : j < 64
  · unfold hasB
    rw [okB_iff.2 (by omega), Bool.true_and]
    congr 2
    omega
  · simp [h]
theorem at_dif {S : Nat} (hS : S < 2 ^ 64) {x y : Int} {d : Bool} (hd : domB x y d = true) : Tl.at8 (sxy (dif S (domS x y d))) = Tl.out2 (Tl.at8 (sxy S)) (y * 8 + x).toNat (secY y d * 8 + secX x d).toNat := by
  funext j
  rw [at_sxy]
  unfold Tl.out2
  rw [at_sxy]
  by_cases h : j < 64
  · rw [dif_bit hS (domS_lt hd), domS_bit hd]
    simp only [h, decide_true, Bool.true_and]
    cases S.testBit j <;> by_cases c1 : j = (y * 8 + x).toNat <;> by_cases c2 : j = (secY y d * 8 + secX x d).toNat <;> simp [c1, c2]
  · simp [h]
/-- What one domino leaves. -/
def lft (S i g : Nat) : Int := if S.testBit g then (Tl.tl 64 (Tl.out2 (Tl.at8 (sxy S)) i g) : Int) else 0
theorem cw_yes {zs : List Int} (h : rokB zs = true) {x y : Int} {d : Bool} (hd : domB x y d = true) {i g : Nat} (hi : (y * 8 + x).toNat = i) (hg : (secY y d * 8 + secX x d).toNat = g) : cwN zs x y d = if (setS zs).testBit i && (setS zs).testBit g then (Tl.tl 64 (Tl.out2 (Tl.at8 (sxy (setS zs))) i g) : Int) else 0 := by
  obtain ⟨k1, k2⟩ := domB_ok hd
  have e1 : hasB (setS zs) x y = (setS zs).testBit i := by unfold hasB; rw [k1, Bool.true_and, hi]
  have e2 : hasB (setS zs) (secX x d) (secY y d) = (setS zs).testBit g := by unfold hasB; rw [k2, Bool.true_and, hg]
  unfold cwN
  rw [h, hd, e1, e2, Bool.true_and, Bool.true_and]
  split
  · rw [dp_tiles]
    unfold Tl.tiles
    rw [at_dif (setS_lt h) hd, hi, hg]
  · rfl
theorem cw_no {zs : List Int} {x y : Int} {d : Bool} (hd : domB x y d = false) : cwN zs x y d = 0 := by
  unfold cwN
  rw [hd]
  simp
theorem cw_right {zs : List Int} (h : rokB zs = true) {X Y : Nat} (hX : X < 8) (hY : Y < 8) (hs : (setS zs).testBit (8 * Y + X) = true) : cwN zs X Y false = if X < 7 then lft (setS zs) (8 * Y + X) (8 * Y + X + 1) else 0 := by
  by_cases h7 : X < 7
  · have hd : domB (X : Int) (Y : Int) false = true := domB_iff.2 ⟨by omega, by simp; omega⟩
    have e1 := domB_secX hd
    have e2 := domB_secY hd
    simp at e1 e2
    rw [cw_yes h hd (i := 8 * Y + X) (g := 8 * Y + X + 1) (by omega) (by rw [e1, e2]; omega), hs, if_pos h7]
    rfl
  · rw [if_neg h7]
    apply cw_no
    rw [Bool.eq_false_iff]
    intro e
    have := (domB_iff.1 e).2
    simp at this
    omega
theorem cw_down {zs : List Int} (h : rokB zs = true) {X Y : Nat} (hX : X < 8) (hY : Y < 8) (hs : (setS zs).testBit (8 * Y + X) = true) : cwN zs X Y true = if Y < 7 then lft (setS zs) (8 * Y + X) (8 * Y + X + 8) else 0 := by
  by_cases h7 : Y < 7
  · have hd : domB (X : Int) (Y : Int) true = true := domB_iff.2 ⟨by omega, by simp; omega⟩
    have e1 := domB_secX hd
    have e2 := domB_secY hd
    simp at e1 e2
    rw [cw_yes h hd (i := 8 * Y + X) (g := 8 * Y + X + 8) (by omega) (by rw [e1, e2]; omega), hs, if_pos h7]
    rfl
  · rw [if_neg h7]
    apply cw_no
    rw [Bool.eq_false_iff]
    intro e
    have := (domB_iff.1 e).2
    simp at this
    omega
theorem cw_left {zs : List Int} (h : rokB zs = true) {X Y : Nat} (hX : X < 8) (hY : Y < 8) (hs : (setS zs).testBit (8 * Y + X) = true) : cwN zs ((X : Int) - 1) Y false = if 0 < X then lft (setS zs) (8 * Y + X) (8 * Y + X - 1) else 0 := by
  by_cases h7 : 0 < X
  · have hd : domB ((X : Int) - 1) (Y : Int) false = true := domB_iff.2 ⟨by omega, by simp; omega⟩
    have e1 := domB_secX hd
    have e2 := domB_secY hd
    simp at e1 e2
    rw [cw_yes h hd (i := 8 * Y + X - 1) (g := 8 * Y + X) (by omega) (by rw [e1, e2]; omega), hs, if_pos h7, Bool.and_true, Tl.out2_swap]
    rfl
  · rw [if_neg h7]
    apply cw_no
    rw [Bool.eq_false_iff]
    intro e
    have := (domB_iff.1 e).1
    omega
theorem cw_up {zs : List Int} (h : rokB zs = true) {X Y : Nat} (hX : X < 8) (hY : Y < 8) (hs : (setS zs).testBit (8 * Y + X) = true) : cwN zs X ((Y : Int) - 1) true = if 0 < Y then lft (setS zs) (8 * Y + X) (8 * Y + X - 8) else 0 := by
  by_cases h7 : 0 < Y
  · have hd : domB (X : Int) ((Y : Int) - 1) true = true := domB_iff.2 ⟨by omega, by simp; omega⟩
    have e1 := domB_secX hd
    have e2 := domB_secY hd
    simp at e1 e2
    rw [cw_yes h hd (i := 8 * Y + X - 8) (g := 8 * Y + X) (by omega) (by rw [e1, e2]; omega), hs, if_pos h7, Bool.and_true, Tl.out2_swap]
    rfl
  · rw [if_neg h7]
    apply cw_no
    rw [Bool.eq_false_iff]
    intro e
    have := (domB_iff.1 e).1
    omega
/-- EACH CELL IS COVERED BY EXACTLY ONE DOMINO OF EACH TILING. -/
theorem cover_sum {zs : List Int} (h : rokB zs = true) {X Y : Nat} (hX : X < 8) (hY : Y < 8) (hs : (setS zs).testBit (8 * Y + X) = true) :
    cwN zs X Y false + cwN zs X Y true + cwN zs ((X : Int) - 1) Y false + cwN zs X ((Y : Int) - 1) true = tilN zs := by
  rw [cw_right h hX hY hs, cw_down h hX hY hs, cw_left h hX hY hs, cw_up h hX hY hs, til_tiles h]
  have hc : Tl.at8 (sxy (setS zs)) (8 * Y + X) = true := by rw [at_sxy, hs]; simp; omega
  have ht := Tl.tl_any 64 (Nat.le_refl _) (Tl.at8 (sxy (setS zs))) (8 * Y + X) (fun j hj => by
    rw [at_sxy] at hj
    simp at hj
    omega) hc
  unfold Tl.tiles
  rw [ht]
  have hf : ∀ g, g < 64 → ((if Tl.at8 (sxy (setS zs)) g = true then Tl.tl 64 (Tl.out2 (Tl.at8 (sxy (setS zs))) (8 * Y + X) g) else 0 : Nat) : Int) = lft (setS zs) (8 * Y + X) g := by
    intro g hg
    have : Tl.at8 (sxy (setS zs)) g = (setS zs).testBit g := by rw [at_sxy]; simp [hg]
    rw [this]
    unfold lft
    split <;> rfl
  have e1 : (8 * Y + X) % 8 = X := by omega
  have k1 : ((8 * Y + X) % 8 == 0) = decide (X = 0) := by rw [e1]; rfl
  have k2 : ((8 * Y + X) % 8 == 7) = decide (X = 7) := by rw [e1]; rfl
  unfold Tl.nbs Tl.prv Tl.nxt
  rw [k1, k2]
  rw [Tl.tot_append, Tl.tot_append, Tl.tot_append]
  push_cast
  have t1 : ((Tl.tot (if 8 * Y + X < 8 then [] else [8 * Y + X - 8]) fun d => if Tl.at8 (sxy (setS zs)) d = true then Tl.tl 64 (Tl.out2 (Tl.at8 (sxy (setS zs))) (8 * Y + X) d) else 0 : Nat) : Int) = if 0 < Y then lft (setS zs) (8 * Y + X) (8 * Y + X - 8) else 0 := by
    by_cases c : 0 < Y
    · rw [if_neg (by omega), if_pos c, Tl.tot_cons, Tl.tot_nil, Nat.add_zero, hf _ (by omega)]
    · rw [if_pos (by omega), if_neg c, Tl.tot_nil]
      rfl
  have t2 : ((Tl.tot (if decide (X = 0) = true then [] else [8 * Y + X - 1]) fun d => if Tl.at8 (sxy (setS zs)) d = true then Tl.tl 64 (Tl.out2 (Tl.at8 (sxy (setS zs))) (8 * Y + X) d) else 0 : Nat) : Int) = if 0 < X then lft (setS zs) (8 * Y + X) (8 * Y + X - 1) else 0 := by
    by_cases c : 0 < X
    · rw [if_neg (by simp; omega), if_pos c, Tl.tot_cons, Tl.tot_nil, Nat.add_zero, hf _ (by omega)]
    · rw [if_pos (by simp; omega), if_neg c, Tl.tot_nil]
      rfl
  have t3 : ((Tl.tot (if decide (X = 7) = true then [] else [8 * Y + X + 1]) fun d => if Tl.at8 (sxy (setS zs)) d = true then Tl.tl 64 (Tl.out2 (Tl.at8 (sxy (setS zs))) (8 * Y + X) d) else 0 : Nat) : Int) = if X < 7 then lft (setS zs) (8 * Y + X) (8 * Y + X + 1) else 0 := by
    by_cases c : X < 7
    · rw [if_neg (by simp; omega), if_pos c, Tl.tot_cons, Tl.tot_nil, Nat.add_zero, hf _ (by omega)]
    · rw [if_pos (by simp; omega), if_neg c, Tl.tot_nil]
      rfl
  have t4 : ((Tl.tot (if 8 * Y + X < 56 then [8 * Y + X + 8] else []) fun d => if Tl.at8 (sxy (setS zs)) d = true then Tl.tl 64 (Tl.out2 (Tl.at8 (sxy (setS zs))) (8 * Y + X) d) else 0 : Nat) : Int) = if Y < 7 then lft (setS zs) (8 * Y + X) (8 * Y + X + 8) else 0 := by
    by_cases c : Y < 7
    · rw [if_pos (by omega), if_pos c, Tl.tot_cons, Tl.tot_nil, Nat.add_zero, hf _ (by omega)]
    · rw [if_neg (by omega), if_neg c, Tl.tot_nil]
      rfl
  rw [t1, t2, t3, t4]
  omega
theorem cw_bd (zs : List Int) (x y : Int) (d : Bool) : 0 ≤ cwN zs x y d ∧ cwN zs x y d ≤ 4294967296 := by
  unfold cwN
  split
  · rw [dp_tiles]
    have := Tl.tiles_le (sxy (dif (setS zs) (domS x y d)))
    omega
  · omega
end Go.Proofs.Ytfjkjnhmlljefaa
