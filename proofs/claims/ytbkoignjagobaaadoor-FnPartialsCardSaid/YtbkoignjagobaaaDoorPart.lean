/-
  Dominoes that cover a part of a region: plain facts.
-/
import Derived.Test.YtbkoignjagobaaaDoorCov
import Derived.Test.YtbkoignjagobaaaDoorCount
namespace Go.Proofs.YtbkoignjagobaaaDoor
open Go.RowKit
set_option linter.unusedVariables false
set_option linter.unusedSimpArgs false

theorem same_bits64 {S T : Nat} (hS : S < 2 ^ 64) (hT : T < 2 ^ 64) (h : ∀ i, i < 64 → S.testBit i = T.testBit i) : S = T := by
  apply Nat.eq_of_testBit_eq
  intro i
  by_cases hi : i < 64
  · exact h i hi
  · rw [Nat.testBit_lt_two_pow (Nat.lt_of_lt_of_le hS (Nat.pow_le_pow_right (by omega) (by omega))), Nat.testBit_lt_two_pow (Nat.lt_of_lt_of_le hT (Nat.pow_le_pow_right (by omega) (by omega)))]

/-- A set without another one. -/
def dif (a b : Nat) : Nat := a &&& (18446744073709551615 - b)
theorem dif_bit {a b : Nat} (ha : a < 2 ^ 64) (hb : b < 2 ^ 64) (i : Nat) : (dif a b).testBit i = (a.testBit i && !b.testBit i) := by
  unfold dif
  rw [Nat.testBit_and]
  have e : 18446744073709551615 - b = 2 ^ 64 - (b + 1) := by rw [two64] at *; omega
  rw [e, Nat.testBit_two_pow_sub_succ hb]
  by_cases hi : i < 64
  · simp [hi]
  · have : a.testBit i = false := Nat.testBit_lt_two_pow (Nat.lt_of_lt_of_le ha (Nat.pow_le_pow_right (by omega) (by omega)))
    simp [this]
theorem dif_lt {a b : Nat} (ha : a < 2 ^ 64) : dif a b < 2 ^ 64 := by
  unfold dif
  exact Nat.lt_of_le_of_lt Nat.and_le_left ha
theorem u64_dif {a b : Nat} (ha : a < 2 ^ 64) (hb : b < 2 ^ 64) : bits .andNot .u64 (a : Int) (b : Int) = ((dif a b : Nat) : Int) := by
  rw [two64] at ha hb
  exact u64_andNot_nat a b ha hb

def cntB (n : Nat) (p : Nat → Bool) : Nat := ((List.range n).filter p).length
theorem cntB_succ (n : Nat) (p : Nat → Bool) : cntB (n + 1) p = cntB n p + if p n then 1 else 0 := by
  unfold cntB
  rw [List.range_succ, List.filter_append, List.length_append]
  cases h : p n <;> simp [h]
theorem cntB_congr {n : Nat} {p q : Nat → Bool} (h : ∀ i, i < n → p i = q i) : cntB n p = cntB n q := by
  induction n with
  | zero => rfl
  | succ n ih => rw [cntB_succ, cntB_succ, ih (fun i hi => h i (by omega)), h n (by omega)]
theorem cntB_one {n : Nat} {p : Nat → Bool} {a : Nat} (ha : a < n) (hp : p a = false) : cntB n (fun i => p i || decide (i = a)) = cntB n p + 1 := by
  induction n with
  | zero => omega
  | succ n ih =>
    rw [cntB_succ, cntB_succ]
    by_cases h : a = n
    · subst h
      have : cntB a (fun i => p i || decide (i = a)) = cntB a p := cntB_congr fun i hi => by simp; omega
      rw [this]
      simp [hp]
    · rw [ih (by omega)]
      have : ¬ n = a := fun e => h e.symm
      simp [this]
      omega
theorem cntB_mono {n : Nat} {p q : Nat → Bool} (h : ∀ i, i < n → p i = true → q i = true) : cntB n p ≤ cntB n q := by
  induction n with
  | zero => exact Nat.le_refl _
  | succ n ih =>
    rw [cntB_succ, cntB_succ]
    have h1 := ih (fun i hi => h i (by omega))
    have h2 := h n (by omega)
    cases hp : p n
    · simp; omega
    · simp [h2 hp]; omega
theorem cntB_same {n : Nat} {p q : Nat → Bool} (h : ∀ i, i < n → p i = true → q i = true) (he : cntB n p = cntB n q) : ∀ i, i < n → p i = q i := by
  induction n with
  | zero => intro i hi; omega
  | succ n ih =>
    rw [cntB_succ, cntB_succ] at he
    have hm := cntB_mono (n := n) (p := p) (q := q) (fun i hi => h i (by omega))
    have h2 := h n (by omega)
    have hn : p n = q n ∧ cntB n p = cntB n q := by
      cases hp : p n
      · cases hq : q n
        · rw [hp, hq] at he; exact ⟨rfl, by simpa using he⟩
        · rw [hp, hq] at he; simp at he; omega
      · rw [h2 hp, hp] at he; exact ⟨by rw [h2 hp], by simpa using he⟩
    intro i hi
    by_cases h3 : i = n
    · subst h3; exact hn.1
    · exact ih (fun i hi => h i (by omega)) hn.2 i (by omega)

/-- Comes behind the one before it. -/
def befPrev (L : List DomI) (k : Nat) (p : DomI) : Bool := match k with
  | 0 => true
  | j + 1 => match L[j]? with
    | some q => befB q.1 q.2.1 q.2.2 p.1 p.2.1 p.2.2
    | none => false
/-- Both cells belong and are not covered yet. -/
def freeB (S C : Nat) (p : DomI) : Bool :=
  (S.testBit (p.2.1 * 8 + p.1).toNat && !C.testBit (p.2.1 * 8 + p.1).toNat) && (S.testBit (secY p.2.1 p.2.2 * 8 + secX p.1 p.2.2).toNat && !C.testBit (secY p.2.1 p.2.2 * 8 + secX p.1 p.2.2).toNat)
def okAt (S : Nat) (L : List DomI) (k : Nat) (p : DomI) : Bool := domB p.1 p.2.1 p.2.2 && (befPrev L k p && freeB S (cov (L.take k)) p)
def accTo (S : Nat) (L : List DomI) (n : Nat) : Bool := (List.range n).all fun k => match L[k]? with | some p => okAt S L k p | none => true
theorem accTo_zero (S : Nat) (L : List DomI) : accTo S L 0 = true := rfl
theorem accTo_yes {S : Nat} {L : List DomI} {k : Nat} {p : DomI} (h : accTo S L k = true) (hp : L[k]? = some p) (ho : okAt S L k p = true) : accTo S L (k + 1) = true := by
  unfold accTo at *
  rw [List.range_succ, List.all_append, h]
  simp [hp, ho]
theorem accTo_no {S : Nat} {L : List DomI} {k : Nat} {p : DomI} (hp : L[k]? = some p) (ho : okAt S L k p = false) : accTo S L L.length = false := by
  unfold accTo
  rw [List.all_eq_false]
  exact ⟨k, List.mem_range.2 (lt_of_at hp), by simp [hp, ho]⟩
theorem accTo_at {S : Nat} {L : List DomI} {n k : Nat} {p : DomI} (h : accTo S L n = true) (hk : k < n) (hp : L[k]? = some p) : okAt S L k p = true := by
  unfold accTo at h
  have := List.all_eq_true.1 h k (List.mem_range.2 hk)
  simpa [hp] using this
/-- The dominoes cover a part of the region. -/
def partB (zs : List Int) (L : List DomI) : Bool := rokB zs && accTo (setS zs) L L.length
theorem partB_no1 {zs : List Int} {L : List DomI} (h : rokB zs = false) : partB zs L = false := by simp [partB, h]
theorem partB_no {zs : List Int} {L : List DomI} {k : Nat} {p : DomI} (hp : L[k]? = some p) (ho : okAt (setS zs) L k p = false) : partB zs L = false := by simp [partB, accTo_no hp ho]
theorem partB_yes {zs : List Int} {L : List DomI} (h : rokB zs = true) (ha : accTo (setS zs) L L.length = true) : partB zs L = true := by simp [partB, h, ha]
theorem okAt_no1 {S : Nat} {L : List DomI} {k : Nat} {x y : Int} {d : Bool} (h : domB x y d = false) : okAt S L k (x, y, d) = false := by simp [okAt, h]
theorem okAt_no2 {S : Nat} {L : List DomI} {k : Nat} {p : DomI} (h : befPrev L k p = false) : okAt S L k p = false := by simp [okAt, h]
theorem okAt_no3 {S : Nat} {L : List DomI} {k : Nat} {p : DomI} (h : freeB S (cov (L.take k)) p = false) : okAt S L k p = false := by simp [okAt, h]
theorem okAt_yes {S : Nat} {L : List DomI} {k : Nat} {p : DomI} (h1 : domB p.1 p.2.1 p.2.2 = true) (h2 : befPrev L k p = true) (h3 : freeB S (cov (L.take k)) p = true) : okAt S L k p = true := by simp [okAt, h1, h2, h3]
theorem befPrev_succ {L : List DomI} {j : Nat} {q p : DomI} (h : L[j]? = some q) : befPrev L (j + 1) p = befB q.1 q.2.1 q.2.2 p.1 p.2.1 p.2.2 := by simp [befPrev, h]
theorem cells_ne {x y : Int} {d : Bool} (h : domB x y d = true) : (y * 8 + x).toNat ≠ (secY y d * 8 + secX x d).toNat ∧ (y * 8 + x).toNat < 64 ∧ (secY y d * 8 + secX x d).toNat < 64 := by
  obtain ⟨k1, k2⟩ := domB_ok h
  have a := okB_iff.1 k1
  have b := okB_iff.1 k2
  have e1 := domB_secX h
  have e2 := domB_secY h
  refine ⟨fun e => ?_, by omega, by omega⟩
  obtain ⟨e3, e4⟩ := (bit_eq k1 k2).1 e
  cases d
  · simp at e1; omega
  · simp at e2; omega
/-- What 'left & d == d' tells. -/
theorem left_and {Lf S C : Nat} {x y : Int} {d : Bool} (h : domB x y d = true) (hl : ∀ i, i < 64 → Lf.testBit i = (S.testBit i && !C.testBit i)) : decide (Lf &&& domS x y d = domS x y d) = freeB S C (x, y, d) := by
  obtain ⟨hne, h1, h2⟩ := cells_ne h
  rw [Bool.eq_iff_iff, decide_eq_true_eq]
  unfold freeB
  simp only
  rw [← hl _ h1, ← hl _ h2, Bool.and_eq_true]
  constructor
  · intro e
    have t : ∀ i, (Lf &&& domS x y d).testBit i = (domS x y d).testBit i := fun i => by rw [e]
    simp only [Nat.testBit_and, domS_bit h] at t
    have a := t (y * 8 + x).toNat
    have b := t (secY y d * 8 + secX x d).toNat
    simp at a b
    exact ⟨a, b⟩
  · rintro ⟨a, b⟩
    apply Nat.eq_of_testBit_eq
    intro i
    rw [Nat.testBit_and, domS_bit h]
    by_cases c1 : i = (y * 8 + x).toNat
    · rw [c1, a]; simp
    · by_cases c2 : i = (secY y d * 8 + secX x d).toNat
      · rw [c2, b]; simp
      · simp [c1, c2]
theorem cov_bound {S : Nat} {L : List DomI} {n : Nat} (hn : n ≤ L.length) (h : accTo S L n = true) : cntB 64 (fun i => (cov (L.take n)).testBit i) = 2 * n ∧ ∀ i, (cov (L.take n)).testBit i = true → S.testBit i = true := by
  induction n with
  | zero => simp [cov_nil, cntB]
  | succ n ih =>
    have hp : L[n]? = some L[n] := List.getElem?_eq_getElem (by omega)
    have ho := accTo_at h (by omega : n < n + 1) hp
    have h' : accTo S L n = true := by
      unfold accTo at h ⊢
      rw [List.range_succ, List.all_append, Bool.and_eq_true] at h
      exact h.1
    obtain ⟨i1, i2⟩ := ih (by omega) h'
    obtain ⟨x, y, d, hxyd⟩ : ∃ x y d, L[n] = (x, y, d) := ⟨_, _, _, rfl⟩
    rw [hxyd] at ho hp
    unfold okAt at ho
    simp only [Bool.and_eq_true] at ho
    obtain ⟨hd, -, hf⟩ := ho
    unfold freeB at hf
    simp only [Bool.and_eq_true, Bool.not_eq_true'] at hf
    obtain ⟨⟨f1, f2⟩, f3, f4⟩ := hf
    obtain ⟨hne, b1, b2⟩ := cells_ne hd
    have hbit : ∀ i, (cov (L.take (n + 1))).testBit i = (((cov (L.take n)).testBit i || decide (i = (y * 8 + x).toNat)) || decide (i = (secY y d * 8 + secX x d).toNat)) := fun i => by
      rw [cov_take hp, Nat.testBit_or, dS_yes hd, domS_bit hd, Bool.or_assoc]
    refine ⟨?_, fun i hi => ?_⟩
    · rw [cntB_congr (fun i _ => hbit i), cntB_one (p := fun i => (cov (L.take n)).testBit i || decide (i = (y * 8 + x).toNat)) b2 (by simp [f4]; exact fun e => hne e.symm), cntB_one (p := fun i => (cov (L.take n)).testBit i) b1 f2, i1]
      omega
    · rw [hbit i] at hi
      simp only [Bool.or_eq_true, decide_eq_true_eq] at hi
      rcases hi with (hi | rfl) | rfl
      · exact i2 i hi
      · exact f1
      · exact f3
theorem cellsL_len (S : Nat) : (cellsL S).length = cntB 64 (fun i => S.testBit i) := by simp [cellsL, cellsK, cntB]
/-- Covered as a whole: twice as many cells as dominoes. -/
theorem whole_iff {zs : List Int} {L : List DomI} (h : partB zs L = true) : decide (cov L = setS zs) = decide (2 * L.length = (coL zs).length) := by
  unfold partB at h
  rw [Bool.and_eq_true] at h
  obtain ⟨hr, ha⟩ := h
  obtain ⟨c1, c2⟩ := cov_bound (Nat.le_refl _) ha
  rw [List.take_length] at c1 c2
  rw [coL_yes hr, cellsL_len]
  apply decide_eq_decide.2
  constructor
  · intro e; rw [← e, c1]
  · intro e
    have hs := cntB_same (fun i _ hi => c2 i hi) (c1.trans e)
    exact same_bits64 (cov_lt L) (setS_lt hr) hs
end Go.Proofs.YtbkoignjagobaaaDoor
