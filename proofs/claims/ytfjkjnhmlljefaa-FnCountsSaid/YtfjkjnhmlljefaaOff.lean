/-
  A region without two cells: plain facts.
-/
import Derived.Test.YtfjkjnhmlljefaaWith
import Derived.Test.YtfjkjnhmlljefaaPart
import Derived.Test.YtfjkjnhmlljefaaDomE
namespace Go.Proofs.Ytfjkjnhmlljefaa
open Go.RowKit
set_option linter.unusedVariables false
set_option linter.unusedSimpArgs false

theorem pad8_len {zs : List Int} (h : zs.length ≤ 8) : (pad8 zs).length = 8 := by simp [pad8]; omega
theorem pad8_mem {zs : List Int} (h : rokB zs = true) : ∀ v ∈ pad8 zs, 0 ≤ v ∧ v ≤ 255 := by
  intro v hv
  rcases List.mem_append.1 hv with hv | hv
  · exact (rok_iff.1 h).2 v hv
  · have := List.eq_of_mem_replicate hv; omega
theorem pad8_at {zs : List Int} {Y : Nat} : (pad8 zs).getD Y 0 = zs.getD Y 0 := by
  unfold pad8
  rw [List.getD_eq_getElem?_getD, List.getD_eq_getElem?_getD]
  by_cases h : Y < zs.length
  · rw [List.getElem?_append_left h]
  · rw [List.getElem?_append_right (by omega), List.getElem?_eq_none (l := zs) (by omega), List.getElem?_replicate]
    split <;> rfl
theorem row_small {zs : List Int} (h : rokB zs = true) (Y : Nat) : 0 ≤ zs.getD Y 0 ∧ zs.getD Y 0 ≤ 255 := by
  rw [List.getD_eq_getElem?_getD]
  by_cases hl : Y < zs.length
  · rw [List.getElem?_eq_getElem hl]
    exact (rok_iff.1 h).2 _ (List.getElem_mem hl)
  · rw [List.getElem?_eq_none (by omega)]; simp
theorem has_row {zs : List Int} (h : rokB zs = true) {X Y : Nat} (hX : X < 8) (hY : Y < 8) : hasB (setS zs) (X : Int) (Y : Int) = (zs.getD Y 0).toNat.testBit X := by
  rw [hasB_row h (okB_iff.2 (by omega))]
  by_cases hl : Y < zs.length
  · have : ((Y : Int) < (zs.length : Int)) := by omega
    simp [this]
  · have : ¬ ((Y : Int) < (zs.length : Int)) := by omega
    have e : zs.getD Y 0 = 0 := by rw [List.getD_eq_getElem?_getD, List.getElem?_eq_none (by omega)]; rfl
    rw [e]
    simp [this]
theorem sub_bit {m x X : Nat} (hm : m < 256) (hx : x < 8) (hX : X < 8) (hb : m.testBit x = true) : (m - 2 ^ x).testBit X = (m.testBit X && !decide (X = x)) := by
  have h : ∀ (m : Fin 256) (x X : Fin 8), m.val.testBit x.val = true → (m.val - 2 ^ x.val).testBit X.val = (m.val.testBit X.val && !decide (X.val = x.val)) := by decide +kernel
  exact h ⟨m, hm⟩ ⟨x, hx⟩ ⟨X, hX⟩ hb
theorem off_at {zs : List Int} (h : rokB zs = true) {x y : Nat} (hy : y < 8) (Y : Nat) : (offL zs x y).getD Y 0 = if Y = y then zs.getD y 0 - 2 ^ x else zs.getD Y 0 := by
  unfold offL
  rw [pad8_at, List.getD_eq_getElem?_getD, List.getElem?_set]
  have hl := pad8_len (rok_iff.1 h).1
  by_cases e : y = Y
  · subst e
    simp [hl, hy]
  · have e' : ¬ Y = y := fun k => e k.symm
    rw [if_neg e, if_neg e', ← List.getD_eq_getElem?_getD, pad8_at]
theorem off_ok {zs : List Int} (h : rokB zs = true) {x y : Nat} (hx : x < 8) (hy : y < 8) (hb : hasB (setS zs) (x : Int) (y : Int) = true) : rokB (offL zs x y) = true := by
  rw [rok_iff]
  refine ⟨by unfold offL; rw [List.length_set, pad8_len (rok_iff.1 h).1]; exact Nat.le_refl _, fun v hv => ?_⟩
  rcases List.mem_or_eq_of_mem_set hv with hv | rfl
  · exact pad8_mem h v hv
  · rw [pad8_at]
    rw [has_row h hx hy] at hb
    have h1 := row_small h y
    have h2 := (small_bits (m := (zs.getD y 0).toNat) (by omega) hx hb).2
    have h3 : ((2 ^ x : Nat) : Int) = 2 ^ x := by simp
    have h4 : (0 : Int) ≤ 2 ^ x := by rw [← h3]; exact Int.natCast_nonneg _
    obtain ⟨q, hq⟩ : ∃ q : Nat, q = 2 ^ x := ⟨_, rfl⟩
    rw [← hq] at h2 h3
    omega
theorem off_has {zs : List Int} (h : rokB zs = true) {x y X Y : Nat} (hx : x < 8) (hy : y < 8) (hb : hasB (setS zs) (x : Int) (y : Int) = true) (hX : X < 8) (hY : Y < 8) :
    hasB (setS (offL zs x y)) (X : Int) (Y : Int) = (hasB (setS zs) (X : Int) (Y : Int) && !decide (X = x ∧ Y = y)) := by
  rw [has_row (off_ok h hx hy hb) hX hY, has_row h hX hY, off_at h hy]
  rw [has_row h hx hy] at hb
  by_cases e : Y = y
  · subst e
    have h1 := row_small h Y
    obtain ⟨m, hm⟩ : ∃ m : Nat, zs.getD Y 0 = (m : Int) := ⟨(zs.getD Y 0).toNat, by omega⟩
    rw [if_pos rfl, hm]
    rw [hm] at hb h1
    simp only [Int.toNat_natCast] at hb ⊢
    have h2 := small_bits (m := m) (by omega) hx hb
    have h3 : ((m : Int) - 2 ^ x).toNat = m - 2 ^ x := by
      have h4 : ((2 ^ x : Nat) : Int) = 2 ^ x := by simp
      obtain ⟨q, hq⟩ : ∃ q : Nat, q = 2 ^ x := ⟨_, rfl⟩
      have h5 := h2.2
      rw [← hq] at h4 h5 ⊢
      rw [← h4]
      omega
    rw [h3, sub_bit (by omega) hx hX hb]
    simp
  · rw [if_neg e]
    simp [e]
theorem sxy_ext {S T : Nat} (h : ∀ X Y : Nat, X < 8 → Y < 8 → hasB S (X : Int) (Y : Int) = hasB T (X : Int) (Y : Int)) : sxy S = sxy T := by
  funext x y
  unfold sxy
  by_cases hk : okB (x : Int) (y : Int) = true
  · have := okB_iff.1 hk
    exact h x y (by omega) (by omega)
  · have hk' : okB (x : Int) (y : Int) = false := by simpa using hk
    rw [hasB_no hk', hasB_no hk']
theorem bitOf_at {x y X Y : Int} (h : okB x y = true) (h' : okB X Y = true) : (bitOf x y).testBit (Y * 8 + X).toNat = decide (X = x ∧ Y = y) := by
  unfold bitOf
  rw [Nat.testBit_two_pow]
  refine decide_eq_decide.2 ?_
  rw [bit_eq h h']
  exact ⟨fun ⟨a, b⟩ => ⟨a.symm, b.symm⟩, fun ⟨a, b⟩ => ⟨a.symm, b.symm⟩⟩
/-- The rows without the cells of a domino. -/
def offD (zs : List Int) (x y : Int) (d : Bool) : List Int := offL (offL zs x.toNat y.toNat) (secX x d).toNat (secY y d).toNat
theorem offD_eq {zs : List Int} {x y : Int} {d : Bool} (h : rokB zs = true) (hd : domB x y d = true) (h1 : hasB (setS zs) x y = true) (h2 : hasB (setS zs) (secX x d) (secY y d) = true) :
    rokB (offL zs x.toNat y.toNat) = true ∧ hasB (setS (offL zs x.toNat y.toNat)) (secX x d) (secY y d) = true ∧ rokB (offD zs x y d) = true ∧ sxy (setS (offD zs x y d)) = sxy (dif (setS zs) (domS x y d)) := by
  obtain ⟨k1, k2⟩ := domB_ok hd
  have hne : ¬ (secX x d = x ∧ secY y d = y) := by
    have o := okB_iff.1 k1
    have ex : wrap64 (x + 1) = x + 1 := by rw [wrap64_w64]; exact w64_in (by omega)
    have ey : wrap64 (y + 1) = y + 1 := by rw [wrap64_w64]; exact w64_in (by omega)
    unfold secX secY
    cases d
    · simp [ex]
      try omega
    · simp [ey]
      try omega
  have hS64 := setS_lt h
  have hD64 := domS_lt hd
  have hds : domS x y d = bitOf x y ||| bitOf (secX x d) (secY y d) := rfl
  unfold offD
  obtain ⟨a, ha⟩ : ∃ a, a = secX x d := ⟨_, rfl⟩
  obtain ⟨b, hb⟩ : ∃ b, b = secY y d := ⟨_, rfl⟩
  rw [← ha, ← hb] at k2 h2 hne hds ⊢
  clear ha hb
  have o1 := okB_iff.1 k1
  have o2 := okB_iff.1 k2
  obtain ⟨x, rfl⟩ : ∃ n : Nat, x = n := ⟨x.toNat, by omega⟩
  obtain ⟨y, rfl⟩ : ∃ n : Nat, y = n := ⟨y.toNat, by omega⟩
  obtain ⟨a, rfl⟩ : ∃ n : Nat, a = n := ⟨a.toNat, by omega⟩
  obtain ⟨b, rfl⟩ : ∃ n : Nat, b = n := ⟨b.toNat, by omega⟩
  simp only [Int.toNat_natCast]
  have r1 := off_ok h (by omega) (by omega) h1
  have r2 : hasB (setS (offL zs x y)) (a : Int) (b : Int) = true := by
    rw [off_has h (by omega) (by omega) h1 (by omega) (by omega), h2]
    have : ¬ (a = x ∧ b = y) := by intro e; exact hne ⟨by omega, by omega⟩
    simp [this]
  refine ⟨r1, r2, off_ok r1 (by omega) (by omega) r2, sxy_ext fun X Y hX hY => ?_⟩
  have k3 : okB (X : Int) (Y : Int) = true := okB_iff.2 (by omega)
  rw [off_has r1 (by omega) (by omega) r2 hX hY, off_has h (by omega) (by omega) h1 hX hY]
  unfold hasB
  rw [k3, Bool.true_and, Bool.true_and, dif_bit hS64 hD64, hds, Nat.testBit_or, bitOf_at k1 k3, bitOf_at k2 k3]
  cases (setS zs).testBit ((Y : Int) * 8 + (X : Int)).toNat
  · rfl
  · simp only [Bool.true_and, Bool.not_or]
    congr 1
    · congr 1; exact decide_eq_decide.2 (by omega)
    · congr 1; exact decide_eq_decide.2 (by omega)
theorem sub_iff {zs : List Int} {x y : Int} {d : Bool} (h : rokB zs = true) (hd : domB x y d = true) : decide (setS zs &&& domS x y d = domS x y d) = (hasB (setS zs) x y && hasB (setS zs) (secX x d) (secY y d)) := by
  obtain ⟨k1, k2⟩ := domB_ok hd
  have e1 : hasB (setS zs) x y = (setS zs).testBit (y * 8 + x).toNat := by simp [hasB, k1]
  have e2 : hasB (setS zs) (secX x d) (secY y d) = (setS zs).testBit (secY y d * 8 + secX x d).toNat := by simp [hasB, k2]
  rw [e1, e2, Bool.eq_iff_iff, decide_eq_true_eq, Bool.and_eq_true]
  have hT : ∀ i, (domS x y d).testBit i = (decide ((y * 8 + x).toNat = i) || decide ((secY y d * 8 + secX x d).toNat = i)) := by
    intro i
    show (bitOf x y ||| bitOf (secX x d) (secY y d)).testBit i = _
    rw [Nat.testBit_or]
    unfold bitOf
    rw [Nat.testBit_two_pow, Nat.testBit_two_pow]
  constructor
  · intro e
    have t1 := congrArg (fun n => n.testBit (y * 8 + x).toNat) e
    have t2 := congrArg (fun n => n.testBit (secY y d * 8 + secX x d).toNat) e
    simp only [Nat.testBit_and, hT] at t1 t2
    simp at t1 t2
    exact ⟨t1, t2⟩
  · rintro ⟨t1, t2⟩
    apply Nat.eq_of_testBit_eq
    intro i
    rw [Nat.testBit_and, hT]
    by_cases h1 : (y * 8 + x).toNat = i
    · subst h1; simp [t1]
    · by_cases h2 : (secY y d * 8 + secX x d).toNat = i
      · subst h2; simp [t2]
      · simp [h1, h2]
end Go.Proofs.Ytfjkjnhmlljefaa
