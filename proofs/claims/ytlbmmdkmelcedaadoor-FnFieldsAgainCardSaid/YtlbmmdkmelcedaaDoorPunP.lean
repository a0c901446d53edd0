/-
  Decimal numbers that are read back: plain facts, no program in sight.
-/
import Derived.Test.YtlbmmdkmelcedaaDoorDec
import Derived.Lib.AtoiAll
namespace Go.Proofs.YtlbmmdkmelcedaaDoor
set_option linter.unusedVariables false
set_option linter.unusedSimpArgs false

def digB (c : UInt8) : Bool := decide (48 ≤ c.toNat) && decide (c.toNat ≤ 57)
def dv (acc : Nat) (l : List UInt8) : Nat := l.foldl (fun a c => a * 10 + (c.toNat - 48)) acc
theorem dv_snoc (a : Nat) (l : List UInt8) (c : UInt8) : dv a (l ++ [c]) = dv a l * 10 + (c.toNat - 48) := by simp [dv]
theorem dv_lt {l : List UInt8} (h : ∀ c ∈ l, digB c = true) : ∀ a, dv a l < (a + 1) * 10 ^ l.length := by
  induction l with
  | nil => intro a; simp [dv]
  | cons c l ih =>
    intro a
    have hc := h c (by simp)
    simp only [digB, Bool.and_eq_true, decide_eq_true_eq] at hc
    have h1 := ih (fun d hd => h d (by simp [hd])) (a * 10 + (c.toNat - 48))
    have e : dv a (c :: l) = dv (a * 10 + (c.toNat - 48)) l := rfl
    rw [e, List.length_cons]
    refine Nat.lt_of_lt_of_le h1 ?_
    rw [Nat.pow_succ, Nat.mul_comm (10 ^ l.length) 10, ← Nat.mul_assoc]
    exact Nat.mul_le_mul_right _ (by omega)
theorem parse_dv {l : List UInt8} (h : ∀ c ∈ l, digB c = true) : ∀ a, (a + 1) * 10 ^ l.length ≤ 100000000000 → Lib.parseUint10 a l = .ok (dv a l) := by
  induction l with
  | nil => intro a _; simp [dv, Lib.parseUint10]
  | cons c l ih =>
    intro a ha
    have hc := h c (by simp)
    simp only [digB, Bool.and_eq_true, decide_eq_true_eq] at hc
    have e : dv a (c :: l) = dv (a * 10 + (c.toNat - 48)) l := rfl
    have hp : 1 ≤ 10 ^ l.length := Nat.pow_pos (by omega)
    rw [List.length_cons, Nat.pow_succ, Nat.mul_comm (10 ^ l.length) 10, ← Nat.mul_assoc] at ha
    have h2 : (a * 10 + (c.toNat - 48) + 1) * 10 ^ l.length ≤ 100000000000 := Nat.le_trans (Nat.mul_le_mul_right _ (by omega)) ha
    have h3 : (a + 1) * 10 ≤ (a + 1) * 10 * 10 ^ l.length := Nat.le_mul_of_pos_right _ hp
    rw [Lib.parseUint10, if_pos (by omega), if_neg (by omega), if_neg (by omega), ih (fun d hd => h d (by simp [hd])) _ h2, e]
theorem atoi_dv {l : List UInt8} (h : ∀ c ∈ l, digB c = true) (h0 : l ≠ []) (h1 : l.length ≤ 10) : Lib.atoiAll l = .ok (dv 0 l : Int) := by
  have hp : Lib.parseUint10 0 l = .ok (dv 0 l) := parse_dv h 0 (by
    have : 10 ^ l.length ≤ 10 ^ 10 := Nat.pow_le_pow_right (by omega) h1
    omega)
  have hb : dv 0 l < 10 ^ 10 := by
    have h2 := dv_lt h 0
    have : 10 ^ l.length ≤ 10 ^ 10 := Nat.pow_le_pow_right (by omega) h1
    omega
  cases l with
  | nil => exact absurd rfl h0
  | cons c r =>
    have hc := h c (by simp)
    simp only [digB, Bool.and_eq_true, decide_eq_true_eq] at hc
    have hm : Lib.parseMag (c :: r) = .ok (dv 0 (c :: r)) := by
      unfold Lib.parseMag
      rw [if_neg (by simp), hp]
    unfold Lib.atoiAll
    simp only
    rw [if_neg (by omega), hm]
    simp only
    rw [if_neg (by omega), if_neg (by omega), if_neg (by omega)]
theorem dec_dig (n : Nat) : (∀ c ∈ Lib.decDigits n, digB c = true) ∧ Lib.decDigits n ≠ [] ∧ dv 0 (Lib.decDigits n) = n := by
  induction n using Nat.strongRecOn with
  | _ n ih =>
    have hd : ∀ d, d < 10 → digB (UInt8.ofNat (48 + d)) = true ∧ (UInt8.ofNat (48 + d)).toNat = 48 + d := by
      intro d hd
      have : ∀ m : Fin 10, digB (UInt8.ofNat (48 + m.val)) = true ∧ (UInt8.ofNat (48 + m.val)).toNat = 48 + m.val := by decide
      exact this ⟨d, hd⟩
    rw [Lib.decDigits]
    split
    · rename_i h
      have := hd n h
      refine ⟨?_, by simp, ?_⟩
      · intro c hc
        rw [List.mem_singleton] at hc
        rw [hc]
        exact this.1
      · simp only [dv, List.foldl_cons, List.foldl_nil]
        rw [this.2]
        omega
    · rename_i h
      obtain ⟨i1, i2, i3⟩ := ih (n / 10) (by omega)
      have := hd (n % 10) (by omega)
      refine ⟨?_, by simp, ?_⟩
      · intro c hc
        rw [List.mem_append] at hc
        rcases hc with hc | hc
        · exact i1 c hc
        · rw [List.mem_singleton] at hc
          rw [hc]
          exact this.1
      · rw [dv_snoc, i3, this.2]
        omega
theorem dec_short : ∀ (k n : Nat), n < 10 ^ (k + 1) → (Lib.decDigits n).length ≤ k + 1 := by
  intro k
  induction k with
  | zero => intro n h; rw [Lib.decDigits_one (by omega)]; simp
  | succ k ih =>
    intro n h
    rw [Lib.decDigits]
    split
    · simp
    · have := ih (n / 10) (by rw [Nat.pow_succ] at h; omega)
      simp
      exact this
/-- Whether a text is the decimal text of a number from 0 to MaxUint. -/
def pokB (s : ByteArray) : Bool := decide (s.size ≤ 10) && s.data.toList.all digB && decide (dv 0 s.data.toList ≤ 1000000000) && decide (Lib.decDigits (dv 0 s.data.toList) = s.data.toList)
def puV (s : ByteArray) : Int := if pokB s then (dv 0 s.data.toList : Int) else 0
theorem pok_iff {s : ByteArray} : pokB s = true ↔ s.size ≤ 10 ∧ (∀ c ∈ s.data.toList, digB c = true) ∧ dv 0 s.data.toList ≤ 1000000000 ∧ Lib.decDigits (dv 0 s.data.toList) = s.data.toList := by
  simp only [pokB, Bool.and_eq_true, decide_eq_true_eq, List.all_eq_true]
  constructor
  · rintro ⟨⟨⟨a, b⟩, c⟩, d⟩; exact ⟨a, b, c, d⟩
  · rintro ⟨a, b, c, d⟩; exact ⟨⟨⟨a, b⟩, c⟩, d⟩
theorem puV_no {s : ByteArray} (h : pokB s = false) : puV s = 0 := by simp [puV, h]
theorem pok_of {s : ByteArray} {n : Nat} (hn : n ≤ 1000000000) (h : s.data.toList = Lib.decDigits n) : pokB s = true ∧ puV s = n := by
  obtain ⟨d1, d2, d3⟩ := dec_dig n
  have hs : s.size = (Lib.decDigits n).length := by rw [← h]; rfl
  have hp : pokB s = true := pok_iff.2 ⟨by rw [hs]; exact dec_short 9 n (by omega), by rw [h]; exact d1, by rw [h, d3]; exact hn, by rw [h, d3]⟩
  exact ⟨hp, by unfold puV; rw [if_pos hp, h, d3]⟩
theorem pok_inv {s : ByteArray} (h : pokB s = true) : ∃ n : Nat, n ≤ 1000000000 ∧ s.data.toList = Lib.decDigits n ∧ puV s = n ∧ Lib.atoiAll s.data.toList = .ok (n : Int) := by
  obtain ⟨h1, h2, h3, h4⟩ := pok_iff.1 h
  refine ⟨dv 0 s.data.toList, h3, h4.symm, by unfold puV; rw [if_pos h], atoi_dv h2 ?_ h1⟩
  rw [← h4]
  exact (dec_dig _).2.1
theorem itoa_nat (n : Nat) : Lib.itoa (n : Int) = Lib.decDigits n := by
  unfold Lib.itoa
  rw [if_neg (by omega)]
  rfl
theorem strD_eq {s : ByteArray} {L : List UInt8} (h : strD L = s) : s.data.toList = L := by
  rw [← h]
  rfl
theorem strD_back {s : ByteArray} {L : List UInt8} (h : s.data.toList = L) : strD L = s := by
  subst h
  apply ByteArray.ext
  simp [strD]
/-- What is no decimal text of a number from 0 to MaxUint. -/
theorem pok_atoi_no {s : ByteArray} (h : ∀ n : Nat, n ≤ 1000000000 → Lib.atoiAll s.data.toList = .ok (n : Int) → s.data.toList = Lib.decDigits n → False) : pokB s = false := by
  rw [Bool.eq_false_iff]
  intro hp
  obtain ⟨n, h1, h2, -, h4⟩ := pok_inv hp
  exact h n h1 h4 h2
theorem pok_itoa (n : Int) : pokB (strD (Lib.itoa n)) = (decide (0 ≤ n) && decide (n ≤ 1000000000)) ∧ (0 ≤ n → n ≤ 1000000000 → puV (strD (Lib.itoa n)) = n) := by
  by_cases h0 : 0 ≤ n
  · obtain ⟨m, rfl⟩ : ∃ m : Nat, n = m := ⟨n.toNat, by omega⟩
    by_cases h1 : m ≤ 1000000000
    · obtain ⟨a, b⟩ := pok_of (s := strD (Lib.itoa (m : Int))) h1 (by rw [itoa_nat]; rfl)
      rw [a]
      exact ⟨by simp; omega, fun _ _ => b⟩
    · refine ⟨?_, fun _ h => by omega⟩
      have : pokB (strD (Lib.itoa (m : Int))) = false := by
        rw [Bool.eq_false_iff]
        intro hp
        obtain ⟨k, k1, k2, -, -⟩ := pok_inv hp
        rw [itoa_nat] at k2
        have e : Lib.decDigits m = Lib.decDigits k := k2
        have e2 := congrArg (dv 0) e
        rw [(dec_dig m).2.2, (dec_dig k).2.2] at e2
        omega
      rw [this]
      simp
      omega
  · refine ⟨?_, fun h => by omega⟩
    have : pokB (strD (Lib.itoa n)) = false := by
      rw [Bool.eq_false_iff]
      intro hp
      have h2 := (pok_iff.1 hp).2.1 45 (by
        show (45 : UInt8) ∈ Lib.itoa n
        unfold Lib.itoa
        rw [if_pos (by omega)]
        exact List.mem_cons_self ..)
      exact absurd h2 (by decide)
    rw [this]
    simp [h0]
theorem txt_ne {x y : ByteArray} (h : x ≠ y) : (x.toList == y.toList) = false := by
  rw [beq_eq_false_iff_ne, ByteArray.toList_eq, ByteArray.toList_eq]
  intro e
  exact h (ByteArray.ext (Array.toList_inj.1 e))
theorem itoa_ne (n : Int) : strD (Lib.itoa n) ≠ ⟨#[]⟩ := by
  intro h
  have : Lib.itoa n = [] := by
    have := strD_eq h
    simpa using this.symm
  unfold Lib.itoa at this
  split at this
  · simp at this
  · exact (dec_dig _).2.1 this
end Go.Proofs.YtlbmmdkmelcedaaDoor
