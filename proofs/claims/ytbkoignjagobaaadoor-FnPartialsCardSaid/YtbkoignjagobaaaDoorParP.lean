/-
  Dominoes that are laid one behind the other in a region: plain facts on such a list.
-/
import Derived.Test.YtbkoignjagobaaaDoorPartW
import Derived.Test.YtbkoignjagobaaaDoorUnc
import Derived.Test.YtbkoignjagobaaaDoorSort
namespace Go.Proofs.YtbkoignjagobaaaDoor
open Go.RowKit
set_option linter.unusedVariables false
set_option linter.unusedSimpArgs false

theorem acc_at {S : Nat} {G : List DomI} (h : accTo S G G.length = true) {k : Nat} {p : DomI} (hp : G[k]? = some p) : okAt S G k p = true := accTo_at h (lt_of_at hp) hp
theorem acc_okd {S : Nat} {G : List DomI} (h : accTo S G G.length = true) : Okd G := by
  intro p hp
  obtain ⟨k, hk, rfl⟩ := List.getElem_of_mem hp
  have := acc_at h (List.getElem?_eq_getElem hk)
  unfold okAt at this
  rw [Bool.and_eq_true] at this
  exact this.1
theorem acc_step {S : Nat} {G : List DomI} (h : accTo S G G.length = true) {k : Nat} {p q : DomI} (hp : G[k]? = some p) (hq : G[k + 1]? = some q) : ordP p < ordP q := by
  have := acc_at h hq
  unfold okAt at this
  simp only [Bool.and_eq_true] at this
  have h2 := this.2.1
  rw [befPrev_succ hp] at h2
  unfold befB at h2
  simp only [Bool.and_eq_true, decide_eq_true_eq] at h2
  exact h2.2.2
theorem acc_srt {S : Nat} {G : List DomI} (h : accTo S G G.length = true) : Srt G := by
  have key : ∀ d i p q, G[i]? = some p → G[i + d + 1]? = some q → ordP p < ordP q := by
    intro d
    induction d with
    | zero => intro i p q hp hq; exact acc_step h hp hq
    | succ d ih =>
      intro i p q hp hq
      have hl := lt_of_at hq
      have hr : G[i + d + 1]? = some G[i + d + 1] := List.getElem?_eq_getElem (by omega)
      have h1 := ih i p _ hp hr
      have h2 := acc_step h hr (by rw [show i + d + 1 + 1 = i + (d + 1) + 1 by omega]; exact hq)
      omega
  unfold Srt
  rw [List.pairwise_iff_getElem]
  intro i j hi hj hij
  exact key (j - i - 1) i _ _ (List.getElem?_eq_getElem hi) (by rw [show i + (j - i - 1) + 1 = j by omega]; exact List.getElem?_eq_getElem hj)
theorem srtL_snoc {L : List DomI} {p : DomI} (h : domB p.1 p.2.1 p.2.2 = true) : srtL (L ++ [p]) = insD (srtL L) p := by
  simp [srtL, List.foldl_append, h]
theorem srt_self {G : List DomI} (ho : Okd G) (hs : Srt G) : srtL G = G := by
  have key : ∀ k, k ≤ G.length → srtL (G.take k) = G.take k := by
    intro k
    induction k with
    | zero => intro _; simp [srtL]
    | succ k ih =>
      intro hk
      have hp : G[k]? = some G[k] := List.getElem?_eq_getElem (by omega)
      rw [take_one hp, srtL_snoc (ho _ (List.getElem_mem _)), ih (by omega)]
      have := ins_at (L := G.take k) (p := G[k]) (k := k) (by
        intro q hq
        rw [List.take_take, Nat.min_self] at hq
        obtain ⟨i, hi, rfl⟩ := List.getElem_of_mem hq
        rw [List.getElem_take]
        rw [List.length_take] at hi
        exact srt_at hs (i := i) (j := k) (by omega) (List.getElem?_eq_getElem (by omega)) hp) (by
        intro q hq
        rw [List.drop_eq_nil_of_le (by rw [List.length_take]; omega)] at hq
        cases hq)
      rw [this, List.take_take, Nat.min_self, List.drop_eq_nil_of_le (by rw [List.length_take]; omega)]
  have := key G.length (Nat.le_refl _)
  rwa [List.take_length] at this
theorem srt_rev : ∀ {G : List DomI}, Okd G → Srt G → srtL G.reverse = G := by
  intro G
  induction G with
  | nil => intro _ _; rfl
  | cons p G ih =>
    intro ho hs
    rw [List.reverse_cons, srtL_snoc (ho p (by simp)), ih (fun q hq => ho q (by simp [hq])) (List.Pairwise.of_cons hs)]
    have := ins_at (L := G) (p := p) (k := 0) (by intro q hq; simp at hq) (by
      intro q hq
      rw [List.drop_zero] at hq
      exact List.rel_of_pairwise_cons hs hq)
    rw [this]
    rfl
theorem not_cov {C : List DomI} {i : Nat} (hi : i < 64) (h : (cov C).testBit i = false) : C.all (fun p => !ovB p.1 p.2.1 p.2.2 ((i : Int) % 8) ((i : Int) / 8)) = true := by
  rw [cov_bit, List.any_eq_false] at h
  rw [List.all_eq_true]
  intro p hp
  have := h p hp
  rw [dS_has p hi] at this
  simpa using this
theorem dat_self {S : Nat} {G : List DomI} (h : accTo S G G.length = true) {k : Nat} {x y : Int} {d : Bool} (hp : G[k]? = some (x, y, d)) : dat G x y = k ∧ dat G (secX x d) (secY y d) = k := by
  have ho := acc_at h hp
  unfold okAt at ho
  simp only [Bool.and_eq_true] at ho
  obtain ⟨hd, -, hf⟩ := ho
  unfold freeB at hf
  simp only [Bool.and_eq_true, Bool.not_eq_true'] at hf
  obtain ⟨⟨f1, f2⟩, f3, f4⟩ := hf
  obtain ⟨hne, b1, b2⟩ := cells_ne hd
  obtain ⟨k1, k2⟩ := domB_ok hd
  obtain ⟨⟨x0, x7⟩, y0, y7⟩ := okB_iff.1 k1
  obtain ⟨⟨u0, u7⟩, v0, v7⟩ := okB_iff.1 k2
  have g1 := not_cov b1 f2
  have g2 := not_cov b2 f4
  rw [show (((y * 8 + x).toNat : Nat) : Int) % 8 = x by omega, show (((y * 8 + x).toNat : Nat) : Int) / 8 = y by omega] at g1
  rw [show (((secY y d * 8 + secX x d).toNat : Nat) : Int) % 8 = secX x d by omega, show (((secY y d * 8 + secX x d).toNat : Nat) : Int) / 8 = secY y d by omega] at g2
  exact ⟨dat_at hp g1 (by simp [ovB, hd]), dat_at hp g2 (by simp [ovB, hd])⟩
theorem cntB_split (p q : Nat → Bool) : ∀ n, cntB n p = cntB n (fun i => p i && q i) + cntB n (fun i => p i && !q i) := by
  intro n
  induction n with
  | zero => simp [cntB]
  | succ n ih =>
    rw [cntB_succ, cntB_succ, cntB_succ, ih]
    cases p n <;> cases q n <;> simp <;> omega
theorem unc_sum {zs : List Int} {G : List DomI} (hr : rokB zs = true) (h : accTo (setS zs) G G.length = true) : (uncL zs G).length + 2 * G.length = (coL zs).length := by
  obtain ⟨c1, c2⟩ := cov_bound (Nat.le_refl _) h
  rw [List.take_length] at c1 c2
  rw [uncL_yes hr, coL_yes hr, cellsL_len, cellsL_len, cntB_split (fun i => (setS zs).testBit i) (fun i => (cov G).testBit i) 64]
  have e1 : cntB 64 (fun i => (setS zs).testBit i && (cov G).testBit i) = 2 * G.length := by
    rw [← c1]
    apply cntB_congr
    intro i _
    cases hc : (cov G).testBit i with
    | false => simp
    | true => simp [c2 i hc]
  have e2 : cntB 64 (fun i => (dif (setS zs) (cov G)).testBit i) = cntB 64 (fun i => (setS zs).testBit i && !(cov G).testBit i) := cntB_congr (fun i _ => dif_bit (setS_lt hr) (cov_lt G) i)
  rw [e1, e2]
  omega
theorem til_unc {zs : List Int} {G : List DomI} (hr : rokB zs = true) (h : accTo (setS zs) G G.length = true) : tilB zs G = decide ((uncL zs G).length = 0) := by
  have hp := partB_yes hr h
  unfold tilB
  rw [hp, Bool.true_and, whole_iff hp]
  have := unc_sum hr h
  exact decide_eq_decide.2 (by omega)
/-- A domino more, behind all others. -/
theorem acc_snoc {S k : Nat} {G : List DomI} {x y : Int} {d : Bool} (h : accTo S G G.length = true) (hk : ∀ q ∈ G, (q.2.1 * 8 + q.1).toNat < k) (hp : (y * 8 + x).toNat = k) (hd : domB x y d = true) (hf : freeB S (cov G) (x, y, d) = true) :
    accTo S (G ++ [(x, y, d)]) (G ++ [(x, y, d)]).length = true ∧ ∀ q ∈ G ++ [(x, y, d)], (q.2.1 * 8 + q.1).toNat < k + 1 := by
  refine ⟨?_, ?_⟩
  · unfold accTo
    rw [List.all_eq_true]
    intro j hj
    rw [List.mem_range, List.length_append, List.length_singleton] at hj
    by_cases hlt : j < G.length
    · have e1 : (G ++ [(x, y, d)])[j]? = G[j]? := List.getElem?_append_left hlt
      rw [e1, List.getElem?_eq_getElem hlt]
      have ho := acc_at h (List.getElem?_eq_getElem hlt)
      show okAt S (G ++ [(x, y, d)]) j G[j] = true
      unfold okAt at ho ⊢
      rw [List.take_append_of_le_length (by omega)]
      have eb : befPrev (G ++ [(x, y, d)]) j G[j] = befPrev G j G[j] := by
        cases j with
        | zero => rfl
        | succ j =>
          unfold befPrev
          simp only
          rw [List.getElem?_append_left (by omega)]
      rw [eb]
      exact ho
    · have hj2 : j = G.length := by omega
      subst hj2
      have e1 : (G ++ [(x, y, d)])[G.length]? = some (x, y, d) := by simp
      rw [e1]
      show okAt S (G ++ [(x, y, d)]) G.length (x, y, d) = true
      refine okAt_yes hd ?_ (by rw [List.take_append_of_le_length (Nat.le_refl _), List.take_length]; exact hf)
      cases hG : G.length with
      | zero => rfl
      | succ j =>
        have hq : G[j]? = some G[j] := List.getElem?_eq_getElem (by omega)
        have hq2 : (G ++ [(x, y, d)])[j]? = some G[j] := by rw [List.getElem?_append_left (by omega)]; exact hq
        rw [befPrev_succ hq2]
        have hm := List.getElem_mem (l := G) (n := j) (by omega)
        have hdq := acc_okd h _ hm
        have hlq := hk _ hm
        rw [befB_yes hdq hd, decide_eq_true_eq]
        obtain ⟨o1, o2⟩ := domB_ok hdq
        obtain ⟨⟨a0, a7⟩, b0, b7⟩ := okB_iff.1 o1
        obtain ⟨p1, p2⟩ := domB_ok hd
        obtain ⟨⟨c0, c7⟩, d0, d7⟩ := okB_iff.1 p1
        unfold ordI b2i
        split <;> split <;> omega
  · intro q hq
    rw [List.mem_append] at hq
    rcases hq with hq | hq
    · have := hk q hq
      omega
    · rw [List.mem_singleton] at hq
      subst hq
      show (y * 8 + x).toNat < k + 1
      omega
end Go.Proofs.YtbkoignjagobaaaDoor
