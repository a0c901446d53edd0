/-
  The reference's count of ways to lay dominoes.
-/
import Derived.Test.YtfjkjnhmlljefaaPn
import Derived.Test.YtfjkjnhmlljefaaCountB
namespace Go.Proofs.Ytfjkjnhmlljefaa
open Go.RowKit
set_option linter.unusedVariables false
set_option linter.unusedSimpArgs false

def at0 (L : List (Int × Int)) (i : Nat) : Int × Int := L.getD i (0, 0)
def upd (U : Nat → Bool) (k : Nat) : Nat → Bool := fun i => if i = k then true else U i
/-- The cells that are left, from an index on. -/
def remL (L : List (Int × Int)) (U : Nat → Bool) (fr : Nat) : List (Int × Int) := ((List.range' fr (L.length - fr)).filter fun i => !U i).map (at0 L)
theorem rem_end (L : List (Int × Int)) (U : Nat → Bool) : remL L U L.length = [] := by simp [remL]
theorem rem_used {L : List (Int × Int)} {U : Nat → Bool} {fr : Nat} (h : fr < L.length) (hu : U fr = true) : remL L U fr = remL L U (fr + 1) := by
  unfold remL
  rw [show L.length - fr = (L.length - (fr + 1)) + 1 by omega, List.range'_succ]
  simp [hu]
theorem rem_free {L : List (Int × Int)} {U : Nat → Bool} {fr : Nat} (h : fr < L.length) (hu : U fr = false) : remL L U fr = at0 L fr :: remL L U (fr + 1) := by
  unfold remL
  rw [show L.length - fr = (L.length - (fr + 1)) + 1 by omega, List.range'_succ]
  simp [hu]
theorem at0_inj {L : List (Int × Int)} (hn : L.Nodup) {i j : Nat} (hi : i < L.length) (hj : j < L.length) (h : at0 L i = at0 L j) : i = j := by
  unfold at0 at h
  rw [List.getD_eq_getElem?_getD, List.getD_eq_getElem?_getD, List.getElem?_eq_getElem hi, List.getElem?_eq_getElem hj] at h
  simp only [Option.getD_some] at h
  rcases Nat.lt_trichotomy i j with hl | hl | hl
  · exact absurd h (List.pairwise_iff_getElem.1 hn i j hi hj hl)
  · exact hl
  · exact absurd h.symm (List.pairwise_iff_getElem.1 hn j i hj hi hl)
theorem rem_upd {L : List (Int × Int)} {U : Nat → Bool} {fr k : Nat} (hn : L.Nodup) (hk : k < L.length) : remL L (upd U k) fr = (remL L U fr).filter fun q => !(q == at0 L k) := by
  unfold remL
  rw [List.filter_map, List.filter_filter]
  congr 1
  refine List.filter_congr fun i hi => ?_
  have hi := List.mem_range'_1.1 hi
  simp only [Function.comp, upd]
  by_cases e : i = k
  · subst e; simp
  · have : ¬ at0 L i = at0 L k := fun h => e (at0_inj hn (by omega) hk h)
    simp [e, this]
/-- The neighbors behind an index, up to another one. -/
def nbrK (L : List (Int × Int)) (U : Nat → Bool) (fr k : Nat) : List (Int × Int) := ((List.range' (fr + 1) (k - (fr + 1))).filter fun i => !U i && nb2 (at0 L fr) (at0 L i)).map (at0 L)
theorem nbrK_zero (L : List (Int × Int)) (U : Nat → Bool) (fr : Nat) : nbrK L U fr (fr + 1) = [] := by simp [nbrK]
theorem nbrK_yes {L : List (Int × Int)} {U : Nat → Bool} {fr k : Nat} (h : fr + 1 ≤ k) (hu : U k = false) (hb : nb2 (at0 L fr) (at0 L k) = true) : nbrK L U fr (k + 1) = nbrK L U fr k ++ [at0 L k] := by
  unfold nbrK
  rw [show k + 1 - (fr + 1) = (k - (fr + 1)) + 1 by omega, List.range'_1_concat, List.filter_append, List.map_append, show fr + 1 + (k - (fr + 1)) = k by omega]
  simp [hu, hb]
theorem nbrK_no {L : List (Int × Int)} {U : Nat → Bool} {fr k : Nat} (h : fr + 1 ≤ k) (hb : (!U k && nb2 (at0 L fr) (at0 L k)) = false) : nbrK L U fr (k + 1) = nbrK L U fr k := by
  unfold nbrK
  rw [show k + 1 - (fr + 1) = (k - (fr + 1)) + 1 by omega, List.range'_1_concat, List.filter_append, List.map_append, show fr + 1 + (k - (fr + 1)) = k by omega]
  simp only [List.filter_cons, hb]
  simp
theorem nbrK_all (L : List (Int × Int)) (U : Nat → Bool) (fr : Nat) : nbrK L U fr L.length = (remL L U (fr + 1)).filter (nb2 (at0 L fr)) := by
  unfold nbrK remL
  rw [List.filter_map, List.filter_filter]
  congr 1
  refine List.filter_congr fun i _ => ?_
  simp only [Function.comp]
  rw [Bool.and_comm]

/-- A row of truth values in memory. -/
def RowB (w : World) (g n : Nat) (U : Nat → Bool) : Prop := ∃ cur, w.heap[g]? = some (.cells cur 4 (0, 0)) ∧ cur.size = n ∧ ∀ i, i < n → cur[i]? = some (.bool (U i))
theorem RowB.lt {w : World} {g n : Nat} {U : Nat → Bool} (h : RowB w g n U) : g < w.heap.size := by obtain ⟨cur, h1, -⟩ := h; exact (Array.getElem?_eq_some_iff.1 h1).1
theorem RowB.cell {w : World} {g n : Nat} {U : Nat → Bool} (h : RowB w g n U) {i : Nat} (hi : i < n) : w.cell? ⟨g, i, none⟩ = some (.bool (U i)) := by
  obtain ⟨cur, h1, h2, h3⟩ := h
  simp only [World.cell?, h1]
  exact h3 i hi
theorem RowB.frozen {w : World} {g n : Nat} {U : Nat → Bool} (h : RowB w g n U) (i : Nat) : w.frozen? ⟨g, i, none⟩ = false := by
  obtain ⟨cur, h1, h2, h3⟩ := h
  simp [World.frozen?, h1]
theorem RowB.below {w w' : World} {g n B : Nat} {U : Nat → Bool} (h : RowB w g n U) (hb : Below B w w') (hg : g < B) : RowB w' g n U := by
  obtain ⟨cur, h1, h2, h3⟩ := h
  exact ⟨cur, (hb.block g hg).trans h1, h2, h3⟩
theorem RowB.set_ {w : World} {g n k : Nat} {U : Nat → Bool} (h : RowB w g n U) (hk : k < n) : RowB (w.setCell ⟨g, k, none⟩ (.bool true)) g n (upd U k) := by
  obtain ⟨cur, h1, h2, h3⟩ := h
  refine ⟨cur.setIfInBounds k (.bool true), heap_setCell_same w g k cur _ _ h1, by simpa using h2, fun i hi => ?_⟩
  unfold upd
  rw [Array.getElem?_setIfInBounds]
  by_cases e : k = i
  · subst e; simp [h2, hk]
  · have : ¬ i = k := fun h => e h.symm
    simp [e, this, h3 i hi]
theorem below_restore {B : Nat} {w wr W2 : World} {g n k : Nat} {U : Nat → Bool} (h1 : Below B w wr) (hR : RowB w g n U) (hg : g < B) (hk : k < n) (hu : U k = false)
    (h2 : Below B (wr.setCell ⟨g, k, none⟩ (.bool true)) W2) : Below B w (W2.setCell ⟨g, k, none⟩ (.bool false)) := by
  obtain ⟨cur, r1, r2, r3⟩ := hR
  have q1 : wr.heap[g]? = some (.cells cur 4 (0, 0)) := (h1.block g hg).trans r1
  have q2 := heap_setCell_same wr g k cur _ (.bool true) q1
  have q3 := (h2.block g hg).trans q2
  have q4 := heap_setCell_same W2 g k _ _ (.bool false) q3
  refine ⟨h2.os.trans h1.os, h2.tape.trans h1.tape, h2.output.trans h1.output, ?_, fun i hi => ?_⟩
  · have := h1.size; have := h2.size; simp at *; omega
  · by_cases e : i = g
    · subst e
      rw [q4, r1]
      congr 2
      apply Array.ext_getElem?
      intro j
      rw [Array.getElem?_setIfInBounds, Array.getElem?_setIfInBounds]
      by_cases ej : k = j
      · subst ej
        have := r3 k hk
        rw [hu] at this
        rw [this]
        simp [r2, hk]
      · simp [ej]
    · rw [Below.heap_setCell W2 ⟨g, k, none⟩ (.bool false) i e, h2.block i hi, Below.heap_setCell wr ⟨g, k, none⟩ (.bool true) i e]
      exact h1.block i hi
theorem Rd.set_far {w : World} {b off g k : Nat} {xs : List Value} {u : Value} (h : Rd w (some ⟨b, off, none⟩) xs) (hne : ¬ b = g) : Rd (w.setCell ⟨g, k, none⟩ u) (some ⟨b, off, none⟩) xs := by
  rcases h with h | ⟨b', o', he, hl, hc⟩
  · exact .inl h
  · injection he with he
    injection he with h1 h2
    subst h1 h2
    refine .inr ⟨b, off, rfl, by simpa using hl, fun j hj => ?_⟩
    rw [← hc j hj]
    exact World.cell?_of_block (Below.heap_setCell w ⟨g, k, none⟩ u b hne)
theorem rowB_far {w : World} {g n b i : Nat} {U : Nat → Bool} {z : Int} (h : RowB w g n U) (hc : w.cell? ⟨b, i, none⟩ = some (.int .i64 z)) : ¬ b = g := by
  intro e
  subst e
  obtain ⟨cur, r1, r2, r3⟩ := h
  simp only [World.cell?, r1] at hc
  have hi := (Array.getElem?_eq_some_iff.1 hc).1
  have h3 := r3 i (by omega)
  rw [h3] at hc
  cases hc
theorem at0_of {L : List (Int × Int)} {i : Nat} {p : Int × Int} (h : L[i]? = some p) : at0 L i = p := by
  unfold at0
  rw [List.getD_eq_getElem?_getD, h]
  rfl
theorem specNb_val (x y x' y' : Int) (w : World) {b : Bool} (hb : nbB x y x' y' = b) : Calls Try.prog 53 #[.agg #[.int .i64 x, .int .i64 y], .agg #[.int .i64 x', .int .i64 y']] w fun e w' => e = .returned (.bool b) ∧ Below w.heap.size w w' := by
  subst hb
  exact specNb_any x y x' y' w
set_option maxHeartbeats 6400000 in
set_option maxRecDepth 100000 in
theorem l07P_any (a : Option Addr) (c : Nat) (L : List (Int × Int)) (hL16 : L.length ≤ 16) (hnd : L.Nodup) : ∀ (f fr n g : Nat) (U : Nat → Bool) (w : World), L.length - fr ≤ f → fr ≤ L.length → n ≤ 8 → Rd w a (flatC L) → RowB w g L.length U →
    Calls Try.prog 34 #[.slice a L.length c, .slice (some ⟨g, 0, none⟩) L.length L.length, .int .i64 (fr : Int), .int .i64 (n : Int)] w fun e w' => e = .returned (.int .i64 (pN (remL L U fr) n)) ∧ Below w.heap.size w w' := by
  intro f
  induction f with
  | zero =>
    intro fr n g U w hf hfr hn8 hr hU
    have he : fr = L.length := by omega
    rw [he, rem_end]
    by_cases hn : n = 0
    · have HP : Hid (pN [] n = 1) := Lib.hid (by rw [hn]; exact pN_zero [])
      have hnI : (n : Int) = 0 := by omega
      clear hr hU hf hfr he
      go_enter Try.func34, Try.ntmps34
      go_wp2_with fail
      go_ret
      exact ⟨ret_i HP.out.symm, by repeat' (first | assumption | (with_reducible exact Below.refl _ _) | (with_reducible refine Below.drew ?_) | (with_reducible refine Below.alloc ?_ ?_ _) | (with_reducible refine Below.setCell ?_ ?_ _) | omega | (simp; done) | (simp; omega))⟩
    · have HP : Hid (pN [] n = 0) := Lib.hid (pN_nil hn)
      have hnI : ¬ (n : Int) = 0 := by omega
      clear hr hU hf hfr he
      go_enter Try.func34, Try.ntmps34
      go_wp2_with fail
      go_ret
      exact ⟨ret_i HP.out.symm, by repeat' (first | assumption | (with_reducible exact Below.refl _ _) | (with_reducible refine Below.drew ?_) | (with_reducible refine Below.alloc ?_ ?_ _) | (with_reducible refine Below.setCell ?_ ?_ _) | omega | (simp; done) | (simp; omega))⟩
  | succ f ih =>
    intro fr n g U w hf hfr hn8 hr hU
    by_cases hn : n = 0
    · have HP : Hid (pN (remL L U fr) n = 1) := Lib.hid (by rw [hn]; exact pN_zero _)
      have hnI : (n : Int) = 0 := by omega
      clear hr hU hf hfr ih
      go_enter Try.func34, Try.ntmps34
      go_wp2_with fail
      go_ret
      exact ⟨ret_i HP.out.symm, by repeat' (first | assumption | (with_reducible exact Below.refl _ _) | (with_reducible refine Below.drew ?_) | (with_reducible refine Below.alloc ?_ ?_ _) | (with_reducible refine Below.setCell ?_ ?_ _) | omega | (simp; done) | (simp; omega))⟩
    · have hnI : ¬ (n : Int) = 0 := by omega
      by_cases he : fr = L.length
      · have HP : Hid (pN (remL L U fr) n = 0) := Lib.hid (by rw [he, rem_end]; exact pN_nil hn)
        have heI : (fr : Int) = (L.length : Int) := by omega
        clear hr hU hf hfr ih he
        go_enter Try.func34, Try.ntmps34
        go_wp2_with fail
        go_ret
        exact ⟨ret_i HP.out.symm, by repeat' (first | assumption | (with_reducible exact Below.refl _ _) | (with_reducible refine Below.drew ?_) | (with_reducible refine Below.alloc ?_ ?_ _) | (with_reducible refine Below.setCell ?_ ?_ _) | omega | (simp; done) | (simp; omega))⟩
      · have hlt : fr < L.length := by omega
        have heI : ¬ (fr : Int) = (L.length : Int) := by omega
        have HIH := Lib.hid ih
        have HND := Lib.hid hnd
        obtain ⟨fr1, hfr1⟩ : ∃ q, q = fr + 1 := ⟨_, rfl⟩
        have e1 : IntKind.i64.wrap ((fr : Int) + 1) = (fr1 : Int) := by rw [IntKind.wrap_i64]; omega
        have HP0 := Lib.hid (fun (W : World) (h : Rd W a (flatC L)) (h2 : RowB W g L.length U) => HIH.out fr1 n g U W (by omega) (by omega) hn8 h h2)
        obtain ⟨p0, hp0⟩ : ∃ p0, p0 = pN (remL L U fr1) n := ⟨_, rfl⟩
        rw [← hp0] at HP0
        have HP0E := Lib.hid hp0
        have hgl := hU.lt
        have hltI : (fr : Int) < (L.length : Int) := by omega
        have HF1 := Lib.hid hfr1
        have hf1l : fr1 ≤ L.length := by omega
        obtain ⟨res, hres⟩ : ∃ res, res = pN (remL L U fr) n := ⟨_, rfl⟩
        rw [← hres]
        have HRES := Lib.hid hres
        have HU := Lib.hid hU
        have HR := Lib.hid hr
        have hff : L.length - fr1 ≤ f := by omega
        clear ih hp0 hfr1 hres hf
        rcases Bool.eq_false_or_eq_true (U fr) with hu | hu
        · have hcu : w.cell? ⟨g, fr, none⟩ = some (.bool true) := by have := HU.out.cell hlt; rw [hu] at this; exact this
          have HRE : Hid (p0 = res) := Lib.hid (by rw [HP0E.out, HRES.out, HF1.out, rem_used hlt hu])
          clear hr hU
          go_enter Try.func34, Try.ntmps34
          go_wp2_with (go_at_call 34; fail)
          refine (HP0.out _ HR.out HU.out).mono ?_
          rintro e w1 ⟨rfl, hb⟩
          have hcu1 : w1.cell? ⟨g, fr, none⟩ = some (.bool true) := (hb.cell (p := ⟨g, fr, none⟩) hgl).trans hcu
          go_wp2_with fail
          go_loopw [9, 10] (fun o i wr => o = .int .i64 p0 ∧ i = .int .i64 (fr1 : Int) ∧ wr.cell? ⟨g, fr, none⟩ = some (.bool true) ∧ Below w.heap.size w wr) (fun _ _ _ => 0)
          case atStart => exact ⟨rfl, rfl, hcu1, hb⟩
          case round =>
            obtain ⟨rfl, rfl, hcu2, hB⟩ := hrel
            by_cases hl : fr1 < L.length
            · have hlI : (fr1 : Int) < (L.length : Int) := by omega
              go_wp2_with fail
              go_ret
              exact ⟨ret_i HRE.out, hB⟩
            · have hlI : ¬ (fr1 : Int) < (L.length : Int) := by omega
              go_wp2_with fail
              go_ret
              exact ⟨ret_i HRE.out, hB⟩
        · have hcu : w.cell? ⟨g, fr, none⟩ = some (.bool false) := by have := HU.out.cell hlt; rw [hu] at this; exact this
          have HRE : Hid (res = pFold (remL L U fr1) n (nbrK L U fr L.length)) := Lib.hid (by rw [HRES.out, rem_free hlt hu, pN_cons hn, nbrK_all, ← HF1.out])
          clear hr hU
          go_enter Try.func34, Try.ntmps34
          go_wp2_with (go_at_call 34; fail)
          refine (HP0.out _ HR.out HU.out).mono ?_
          rintro e w1 ⟨rfl, hb⟩
          go_wp2_with fail
          go_loopw [9, 10] (fun o i wr => ∃ (j : Nat) (v : Int), fr1 ≤ j ∧ j ≤ L.length ∧ i = .int .i64 j ∧ o = .int .i64 v ∧ Hid (v = pFold (remL L U fr1) n (nbrK L U fr j)) ∧ Below w.heap.size w wr) (fun _ i _ => L.length - (intOf i).toNat)
          case atStart => exact ⟨fr1, p0, Nat.le_refl _, hf1l, rfl, rfl, Lib.hid (by rw [HP0E.out, HF1.out, nbrK_zero]; rfl), hb⟩
          case round =>
            obtain ⟨j, v, hj1, hj, rfl, rfl, hV, hB⟩ := hrel
            have HUr := Lib.hid (RowB.below HU.out hB hgl)
            have hcf : wr.cell? ⟨g, fr, none⟩ = some (.bool false) := by have := HUr.out.cell hlt; rw [hu] at this; exact this
            have hsz := hB.size
            by_cases hl : j < L.length
            · have hlI : (j : Int) < (L.length : Int) := by omega
              obtain ⟨b5, o5, cx, cy, hab, hbl5, hx5, hy5, hv5⟩ := RdC_at (Rd.below HR.out hB) hlt
              obtain ⟨b6, o6, dx, dy, hab2, -, hx6, hy6, hv6⟩ := RdC_at (Rd.below HR.out hB) hl
              rw [hab] at hab2
              injection hab2 with hab2
              injection hab2 with hab3 hab4
              subst hab3 hab4
              subst hab
              have hac : at0 L fr = (cx, cy) := at0_of hv5.out
              have had : at0 L j = (dx, dy) := at0_of hv6.out
              have hgr : g < wr.heap.size := by omega
              have hBr : Below wr.heap.size wr wr := Below.refl _ _
              rcases Bool.eq_false_or_eq_true (U j) with huj | huj
              · have hcj : wr.cell? ⟨g, j, none⟩ = some (.bool true) := by have := HUr.out.cell hl; rw [huj] at this; exact this
                have HV2 : Hid (v = pFold (remL L U fr1) n (nbrK L U fr (j + 1))) := Lib.hid (by rw [nbrK_no (by have := HF1.out; omega) (by rw [huj]; rfl)]; exact hV.out)
                go_wp2_with fail
                refine hold_start (S := (fun w' => w'.cell? ⟨g, j, none⟩ = some (.bool true) ∧ w'.cell? ⟨b5, o5 + fr * 2, none⟩ = some (.int .i64 cx) ∧ w'.cell? ⟨b5, o5 + fr * 2 + 1, none⟩ = some (.int .i64 cy) ∧ w'.cell? ⟨b5, o5 + j * 2, none⟩ = some (.int .i64 dx) ∧ w'.cell? ⟨b5, o5 + j * 2 + 1, none⟩ = some (.int .i64 dy) ∧ Below w.heap.size w w' ∧ Below wr.heap.size wr w' ∧ wr.heap.size ≤ w'.heap.size)) (by kernel_rfl) (by kernel_rfl) (by intro _ _ d _ _ h; cases d <;> exact h) ?_ (fun hHC hH0 => ?_)
                · (first | (go_keep; done) | ((try go_split_ands); (repeat' apply And.intro) <;> first | assumption | (with_reducible refine Rd.below ?_ hb1; assumption) | (with_reducible refine Rd.drew ?_; repeat' (first | assumption | (with_reducible refine Rd.alloc ?_ _))) | (refine (hb1.cell (by first | omega | (simp; done) | (simp; omega))).trans ?_; first | assumption | simp) | (exact below_step hb1 (by first | omega | (simp; done) | (simp; omega)) (by assumption)) | (have hz' := hb1.size; (try simp at hz'); omega) | ((repeat' (first | assumption | (with_reducible exact Below.refl _ _) | (with_reducible refine Below.drew ?_) | (with_reducible refine Below.alloc ?_ ?_ _) | (with_reducible refine Below.setCell ?_ ?_ _) | omega | (simp; done) | (simp; omega))); done) | go_simp | (simp; done) | (simp; omega)))
                refine hold_plain 0 (v := ?_) hHC hH0 (by simp only [List.getElem?_toArray, List.getElem?_cons_succ, List.getElem?_cons_zero]; rfl) rfl (by kernel_rfl) ?_ ?_
                rotate_left 1
                · (intro w hSw; (try dsimp only at hSw); go_simp; try with_reducible rfl)
                try simp only [Act.put, List.setIfInBounds_toArray, List.set_cons_zero, List.set_cons_succ]
                refine hold_plain 1 (v := ?_) hHC hH0 (by simp only [List.getElem?_toArray, List.getElem?_cons_succ, List.getElem?_cons_zero]; rfl) rfl (by kernel_rfl) ?_ ?_
                rotate_left 1
                · (intro w hSw; (try dsimp only at hSw); go_simp; try with_reducible rfl)
                try simp only [Act.put, List.setIfInBounds_toArray, List.set_cons_zero, List.set_cons_succ]
                refine hold_plain 2 (v := ?_) hHC hH0 (by simp only [List.getElem?_toArray, List.getElem?_cons_succ, List.getElem?_cons_zero]; rfl) rfl (by kernel_rfl) ?_ ?_
                rotate_left 1
                · (intro w hSw; (try dsimp only at hSw); go_simp; try with_reducible rfl)
                try simp only [Act.put, List.setIfInBounds_toArray, List.set_cons_zero, List.set_cons_succ]
                refine hold_plain 3 (v := ?_) hHC hH0 (by simp only [List.getElem?_toArray, List.getElem?_cons_succ, List.getElem?_cons_zero]; rfl) rfl (by kernel_rfl) ?_ ?_
                rotate_left 1
                · (intro w hSw; (try dsimp only at hSw); go_simp; try with_reducible rfl)
                try simp only [Act.put, List.setIfInBounds_toArray, List.set_cons_zero, List.set_cons_succ]
                refine hold_plain 4 (v := ?_) hHC hH0 (by simp only [List.getElem?_toArray, List.getElem?_cons_succ, List.getElem?_cons_zero]; rfl) rfl (by kernel_rfl) ?_ ?_
                rotate_left 1
                · (intro w hSw; (try dsimp only at hSw); go_simp; try with_reducible rfl)
                try simp only [Act.put, List.setIfInBounds_toArray, List.set_cons_zero, List.set_cons_succ]
                refine hold_plain 5 (v := ?_) hHC hH0 (by simp only [List.getElem?_toArray, List.getElem?_cons_succ, List.getElem?_cons_zero]; rfl) rfl (by kernel_rfl) ?_ ?_
                rotate_left 1
                · (intro w hSw; (try dsimp only at hSw); go_simp; try with_reducible rfl)
                try simp only [Act.put, List.setIfInBounds_toArray, List.set_cons_zero, List.set_cons_succ]
                refine hold_no 6 hHC hH0 (by simp only [List.getElem?_toArray, List.getElem?_cons_succ, List.getElem?_cons_zero]; rfl) rfl (by kernel_rfl) (by kernel_rfl) ?_
                try simp only [Act.put, List.setIfInBounds_toArray, List.set_cons_zero, List.set_cons_succ]
                refine hold_no 7 hHC hH0 (by simp only [List.getElem?_toArray, List.getElem?_cons_succ, List.getElem?_cons_zero]; rfl) rfl (by kernel_rfl) (by kernel_rfl) ?_
                try simp only [Act.put, List.setIfInBounds_toArray, List.set_cons_zero, List.set_cons_succ]
                refine hold_no 8 hHC hH0 (by simp only [List.getElem?_toArray, List.getElem?_cons_succ, List.getElem?_cons_zero]; rfl) rfl (by kernel_rfl) (by kernel_rfl) ?_
                try simp only [Act.put, List.setIfInBounds_toArray, List.set_cons_zero, List.set_cons_succ]
                refine hold_no 9 hHC hH0 (by simp only [List.getElem?_toArray, List.getElem?_cons_succ, List.getElem?_cons_zero]; rfl) rfl (by kernel_rfl) (by kernel_rfl) ?_
                try simp only [Act.put, List.setIfInBounds_toArray, List.set_cons_zero, List.set_cons_succ]
                refine hold_no 10 hHC hH0 (by simp only [List.getElem?_toArray, List.getElem?_cons_succ, List.getElem?_cons_zero]; rfl) rfl (by kernel_rfl) (by kernel_rfl) ?_
                try simp only [Act.put, List.setIfInBounds_toArray, List.set_cons_zero, List.set_cons_succ]
                refine hold_no 11 hHC hH0 (by simp only [List.getElem?_toArray, List.getElem?_cons_succ, List.getElem?_cons_zero]; rfl) rfl (by kernel_rfl) (by kernel_rfl) ?_
                try simp only [Act.put, List.setIfInBounds_toArray, List.set_cons_zero, List.set_cons_succ]
                refine hold_no 12 hHC hH0 (by simp only [List.getElem?_toArray, List.getElem?_cons_succ, List.getElem?_cons_zero]; rfl) rfl (by kernel_rfl) (by kernel_rfl) ?_
                try simp only [Act.put, List.setIfInBounds_toArray, List.set_cons_zero, List.set_cons_succ]
                refine hold_no 13 hHC hH0 (by simp only [List.getElem?_toArray, List.getElem?_cons_succ, List.getElem?_cons_zero]; rfl) rfl (by kernel_rfl) (by kernel_rfl) ?_
                try simp only [Act.put, List.setIfInBounds_toArray, List.set_cons_zero, List.set_cons_succ]
                refine hold_no 14 hHC hH0 (by simp only [List.getElem?_toArray, List.getElem?_cons_succ, List.getElem?_cons_zero]; rfl) rfl (by kernel_rfl) (by kernel_rfl) ?_
                try simp only [Act.put, List.setIfInBounds_toArray, List.set_cons_zero, List.set_cons_succ]
                refine hold_plain 15 (v := ?_) hHC hH0 (by simp only [List.getElem?_toArray, List.getElem?_cons_succ, List.getElem?_cons_zero]; rfl) rfl (by kernel_rfl) ?_ ?_
                rotate_left 1
                · (intro w hSw; (try dsimp only at hSw); go_simp; try with_reducible rfl)
                try simp only [Act.put, List.setIfInBounds_toArray, List.set_cons_zero, List.set_cons_succ]
                refine wpAnyH_done (by kernel_rfl) ?_ _
                (try dsimp only at hH0)
                go_split_ands
                clear hHC
                go_wp2_with fail
                go_roundw
                case rel => exact ⟨j + 1, v, by omega, by omega, by go_num, rfl, HV2, hB.drew⟩
                case measure => simp [intOf]; omega
              · have hcj : wr.cell? ⟨g, j, none⟩ = some (.bool false) := by have := HUr.out.cell hl; rw [huj] at this; exact this
                rcases Bool.eq_false_or_eq_true (nbB cx cy dx dy) with hnb | hnb
                · have HNB := Lib.hid (fun W : World => specNb_val cx cy dx dy W hnb)
                  obtain ⟨n1, hn1⟩ : ∃ n1 : Nat, n1 = n - 1 := ⟨_, rfl⟩
                  have en : IntKind.i64.wrap ((n : Int) - 1) = (n1 : Int) := by rw [IntKind.wrap_i64]; omega
                  have HP1 := Lib.hid (fun (W : World) (h : Rd W (some ⟨b5, o5, none⟩) (flatC L)) (h2 : RowB W g L.length (upd U j)) => HIH.out fr1 n1 g (upd U j) W hff hf1l (by omega) h h2)
                  obtain ⟨u, hu1⟩ : ∃ u, u = pN (remL L (upd U j) fr1) n1 := ⟨_, rfl⟩
                  rw [← hu1] at HP1
                  obtain ⟨t, ht⟩ : ∃ t, t = w64p (v + u) := ⟨_, rfl⟩
                  have eW : wrap64 (v + u) = t := by rw [wrap64_w64p, ht]
                  have HT : Hid (t = pFold (remL L U fr1) n (nbrK L U fr (j + 1))) := Lib.hid (by rw [nbrK_yes (by have := HF1.out; omega) huj (by rw [hac, had]; exact hnb), pFold_snoc, ← hV.out, ht, hu1, rem_upd HND.out hl, hn1])
                  clear ht hu1 hn1
                  go_wp2_with fail
                  refine hold_start (S := (fun w' => w'.cell? ⟨g, j, none⟩ = some (.bool false) ∧ w'.cell? ⟨b5, o5 + fr * 2, none⟩ = some (.int .i64 cx) ∧ w'.cell? ⟨b5, o5 + fr * 2 + 1, none⟩ = some (.int .i64 cy) ∧ w'.cell? ⟨b5, o5 + j * 2, none⟩ = some (.int .i64 dx) ∧ w'.cell? ⟨b5, o5 + j * 2 + 1, none⟩ = some (.int .i64 dy) ∧ Below w.heap.size w w' ∧ Below wr.heap.size wr w' ∧ wr.heap.size ≤ w'.heap.size)) (by kernel_rfl) (by kernel_rfl) (by intro _ _ d _ _ h; cases d <;> exact h) ?_ (fun hHC hH0 => ?_)
                  · (first | (go_keep; done) | ((try go_split_ands); (repeat' apply And.intro) <;> first | assumption | (with_reducible refine Rd.below ?_ hb1; assumption) | (with_reducible refine Rd.drew ?_; repeat' (first | assumption | (with_reducible refine Rd.alloc ?_ _))) | (refine (hb1.cell (by first | omega | (simp; done) | (simp; omega))).trans ?_; first | assumption | simp) | (exact below_step hb1 (by first | omega | (simp; done) | (simp; omega)) (by assumption)) | (have hz' := hb1.size; (try simp at hz'); omega) | ((repeat' (first | assumption | (with_reducible exact Below.refl _ _) | (with_reducible refine Below.drew ?_) | (with_reducible refine Below.alloc ?_ ?_ _) | (with_reducible refine Below.setCell ?_ ?_ _) | omega | (simp; done) | (simp; omega))); done) | go_simp | (simp; done) | (simp; omega)))
                  refine hold_plain 0 (v := ?_) hHC hH0 (by simp only [List.getElem?_toArray, List.getElem?_cons_succ, List.getElem?_cons_zero]; rfl) rfl (by kernel_rfl) ?_ ?_
                  rotate_left 1
                  · (intro w hSw; (try dsimp only at hSw); go_simp; try with_reducible rfl)
                  try simp only [Act.put, List.setIfInBounds_toArray, List.set_cons_zero, List.set_cons_succ]
                  refine hold_plain 1 (v := ?_) hHC hH0 (by simp only [List.getElem?_toArray, List.getElem?_cons_succ, List.getElem?_cons_zero]; rfl) rfl (by kernel_rfl) ?_ ?_
                  rotate_left 1
                  · (intro w hSw; (try dsimp only at hSw); go_simp; try with_reducible rfl)
                  try simp only [Act.put, List.setIfInBounds_toArray, List.set_cons_zero, List.set_cons_succ]
                  refine hold_plain 2 (v := ?_) hHC hH0 (by simp only [List.getElem?_toArray, List.getElem?_cons_succ, List.getElem?_cons_zero]; rfl) rfl (by kernel_rfl) ?_ ?_
                  rotate_left 1
                  · (intro w hSw; (try dsimp only at hSw); go_simp; try with_reducible rfl)
                  try simp only [Act.put, List.setIfInBounds_toArray, List.set_cons_zero, List.set_cons_succ]
                  refine hold_plain 3 (v := ?_) hHC hH0 (by simp only [List.getElem?_toArray, List.getElem?_cons_succ, List.getElem?_cons_zero]; rfl) rfl (by kernel_rfl) ?_ ?_
                  rotate_left 1
                  · (intro w hSw; (try dsimp only at hSw); go_simp; try with_reducible rfl)
                  try simp only [Act.put, List.setIfInBounds_toArray, List.set_cons_zero, List.set_cons_succ]
                  refine hold_plain 4 (v := ?_) hHC hH0 (by simp only [List.getElem?_toArray, List.getElem?_cons_succ, List.getElem?_cons_zero]; rfl) rfl (by kernel_rfl) ?_ ?_
                  rotate_left 1
                  · (intro w hSw; (try dsimp only at hSw); go_simp; try with_reducible rfl)
                  try simp only [Act.put, List.setIfInBounds_toArray, List.set_cons_zero, List.set_cons_succ]
                  refine hold_plain 5 (v := ?_) hHC hH0 (by simp only [List.getElem?_toArray, List.getElem?_cons_succ, List.getElem?_cons_zero]; rfl) rfl (by kernel_rfl) ?_ ?_
                  rotate_left 1
                  · (intro w hSw; (try dsimp only at hSw); go_simp; try with_reducible rfl)
                  try simp only [Act.put, List.setIfInBounds_toArray, List.set_cons_zero, List.set_cons_succ]
                  refine hold_yes 6 (v := ?_) hHC hH0 (by simp only [List.getElem?_toArray, List.getElem?_cons_succ, List.getElem?_cons_zero]; rfl) rfl (by kernel_rfl) (by kernel_rfl) ?_ ?_
                  rotate_left 1
                  · (intro w hSw; (try dsimp only at hSw); go_simp; try with_reducible rfl)
                  try simp only [Act.put, List.setIfInBounds_toArray, List.set_cons_zero, List.set_cons_succ]
                  refine hold_yes 7 (v := ?_) hHC hH0 (by simp only [List.getElem?_toArray, List.getElem?_cons_succ, List.getElem?_cons_zero]; rfl) rfl (by kernel_rfl) (by kernel_rfl) ?_ ?_
                  rotate_left 1
                  · (intro w hSw; (try dsimp only at hSw); go_simp; try with_reducible rfl)
                  try simp only [Act.put, List.setIfInBounds_toArray, List.set_cons_zero, List.set_cons_succ]
                  refine hold_yes 8 (v := ?_) hHC hH0 (by simp only [List.getElem?_toArray, List.getElem?_cons_succ, List.getElem?_cons_zero]; rfl) rfl (by kernel_rfl) (by kernel_rfl) ?_ ?_
                  rotate_left 1
                  · (intro w hSw; (try dsimp only at hSw); go_simp; try with_reducible rfl)
                  try simp only [Act.put, List.setIfInBounds_toArray, List.set_cons_zero, List.set_cons_succ]
                  refine hold_yes 9 (v := ?_) hHC hH0 (by simp only [List.getElem?_toArray, List.getElem?_cons_succ, List.getElem?_cons_zero]; rfl) rfl (by kernel_rfl) (by kernel_rfl) ?_ ?_
                  rotate_left 1
                  · (intro w hSw; (try dsimp only at hSw); go_simp; try with_reducible rfl)
                  try simp only [Act.put, List.setIfInBounds_toArray, List.set_cons_zero, List.set_cons_succ]
                  refine hold_yes 10 (v := ?_) hHC hH0 (by simp only [List.getElem?_toArray, List.getElem?_cons_succ, List.getElem?_cons_zero]; rfl) rfl (by kernel_rfl) (by kernel_rfl) ?_ ?_
                  rotate_left 1
                  · (intro w hSw; (try dsimp only at hSw); go_simp; try with_reducible rfl)
                  try simp only [Act.put, List.setIfInBounds_toArray, List.set_cons_zero, List.set_cons_succ]
                  refine hold_yes 11 (v := ?_) hHC hH0 (by simp only [List.getElem?_toArray, List.getElem?_cons_succ, List.getElem?_cons_zero]; rfl) rfl (by kernel_rfl) (by kernel_rfl) ?_ ?_
                  rotate_left 1
                  · (intro w hSw; (try dsimp only at hSw); go_simp; try with_reducible rfl)
                  try simp only [Act.put, List.setIfInBounds_toArray, List.set_cons_zero, List.set_cons_succ]
                  refine hold_yes 12 (v := ?_) hHC hH0 (by simp only [List.getElem?_toArray, List.getElem?_cons_succ, List.getElem?_cons_zero]; rfl) rfl (by kernel_rfl) (by kernel_rfl) ?_ ?_
                  rotate_left 1
                  · (intro w hSw; (try dsimp only at hSw); go_simp; try with_reducible rfl)
                  try simp only [Act.put, List.setIfInBounds_toArray, List.set_cons_zero, List.set_cons_succ]
                  refine hold_yes 13 (v := ?_) hHC hH0 (by simp only [List.getElem?_toArray, List.getElem?_cons_succ, List.getElem?_cons_zero]; rfl) rfl (by kernel_rfl) (by kernel_rfl) ?_ ?_
                  rotate_left 1
                  · (intro w hSw; (try dsimp only at hSw); go_simp; try with_reducible rfl)
                  try simp only [Act.put, List.setIfInBounds_toArray, List.set_cons_zero, List.set_cons_succ]
                  refine hold_call1 14 (by simp only [List.getElem?_toArray, List.getElem?_cons_succ, List.getElem?_cons_zero]; rfl) rfl (by kernel_rfl) (by kernel_rfl) (fun K hK => ?_)
                  go_simp
                  obtain ⟨_, _, _, _, _, hs1, hs2, _⟩ := id hH0; (go_at_call 53; refine (HNB.out _).mono ?_; rintro e w1 ⟨rfl, hb1⟩)
                  refine hK.out _ _ ?_ (fun hH1 => ?_)
                  · (first | (go_keep; done) | ((try go_split_ands); (repeat' apply And.intro) <;> first | assumption | (with_reducible refine Rd.below ?_ hb1; assumption) | (with_reducible refine Rd.drew ?_; repeat' (first | assumption | (with_reducible refine Rd.alloc ?_ _))) | (refine (hb1.cell (by first | omega | (simp; done) | (simp; omega))).trans ?_; first | assumption | simp) | (exact below_step hb1 (by first | omega | (simp; done) | (simp; omega)) (by assumption)) | (have hz' := hb1.size; (try simp at hz'); omega) | ((repeat' (first | assumption | (with_reducible exact Below.refl _ _) | (with_reducible refine Below.drew ?_) | (with_reducible refine Below.alloc ?_ ?_ _) | (with_reducible refine Below.setCell ?_ ?_ _) | omega | (simp; done) | (simp; omega))); done) | go_simp | (simp; done) | (simp; omega)))
                  clear hK K hH0
                  try simp only [Act.put, List.setIfInBounds_toArray, List.set_cons_zero, List.set_cons_succ]
                  refine hold_plain 15 (v := ?_) hHC hH1 (by simp only [List.getElem?_toArray, List.getElem?_cons_succ, List.getElem?_cons_zero]; rfl) rfl (by kernel_rfl) ?_ ?_
                  rotate_left 1
                  · (intro w hSw; (try dsimp only at hSw); go_simp; try with_reducible rfl)
                  try simp only [Act.put, List.setIfInBounds_toArray, List.set_cons_zero, List.set_cons_succ]
                  refine wpAnyH_done (by kernel_rfl) ?_ _
                  (try dsimp only at hH1)
                  go_split_ands
                  clear hHC
                  have hB5 : Below w.heap.size w w1 := by assumption
                  have hB5r : Below wr.heap.size wr w1 := by assumption
                  have hs5 := hB5.size
                  have HU5 := Lib.hid (RowB.below HU.out hB5 hgl)
                  have hf5 := HU5.out.frozen j
                  have HR5 := Lib.hid (Rd.below HR.out hB5)
                  have hg5 : g < w1.heap.size := by omega
                  go_wp2_with (go_at_call 34; fail)
                  refine (HP1.out _ (Rd.set_far HR5.out (rowB_far HUr.out hx5)) (RowB.set_ HU5.out hl)).mono ?_
                  rintro e w7 ⟨rfl, hb⟩
                  have hz7 := hb.size
                  simp at hz7
                  have hc7 : w7.cell? ⟨g, j, none⟩ = some (.bool true) := (hb.cell (p := ⟨g, j, none⟩) (by simp; omega)).trans (by have := (RowB.set_ HU5.out hl).cell hl; simpa [upd] using this)
                  have hf7 : w7.frozen? ⟨g, j, none⟩ = false := (hb.frozen (p := ⟨g, j, none⟩) (by simp; omega)).trans ((RowB.set_ HU5.out hl).frozen j)
                  have HB7 := Lib.hid (below_restore hB5 HU.out hgl hl huj (hb.mono (by simp; omega)))
                  clear hb
                  go_wp2_with fail
                  go_roundw
                  case rel => exact ⟨j + 1, t, by omega, by omega, by go_num, by rw [eW], HT, HB7.out⟩
                  case measure => simp [intOf]; omega
                · have HNB := Lib.hid (fun W : World => specNb_val cx cy dx dy W hnb)
                  have HV2 : Hid (v = pFold (remL L U fr1) n (nbrK L U fr (j + 1))) := Lib.hid (by rw [nbrK_no (by have := HF1.out; omega) (by rw [huj, hac, had]; simpa [nb2] using hnb)]; exact hV.out)
                  go_wp2_with fail
                  refine hold_start (S := (fun w' => w'.cell? ⟨g, j, none⟩ = some (.bool false) ∧ w'.cell? ⟨b5, o5 + fr * 2, none⟩ = some (.int .i64 cx) ∧ w'.cell? ⟨b5, o5 + fr * 2 + 1, none⟩ = some (.int .i64 cy) ∧ w'.cell? ⟨b5, o5 + j * 2, none⟩ = some (.int .i64 dx) ∧ w'.cell? ⟨b5, o5 + j * 2 + 1, none⟩ = some (.int .i64 dy) ∧ Below w.heap.size w w' ∧ Below wr.heap.size wr w' ∧ wr.heap.size ≤ w'.heap.size)) (by kernel_rfl) (by kernel_rfl) (by intro _ _ d _ _ h; cases d <;> exact h) ?_ (fun hHC hH0 => ?_)
                  · (first | (go_keep; done) | ((try go_split_ands); (repeat' apply And.intro) <;> first | assumption | (with_reducible refine Rd.below ?_ hb1; assumption) | (with_reducible refine Rd.drew ?_; repeat' (first | assumption | (with_reducible refine Rd.alloc ?_ _))) | (refine (hb1.cell (by first | omega | (simp; done) | (simp; omega))).trans ?_; first | assumption | simp) | (exact below_step hb1 (by first | omega | (simp; done) | (simp; omega)) (by assumption)) | (have hz' := hb1.size; (try simp at hz'); omega) | ((repeat' (first | assumption | (with_reducible exact Below.refl _ _) | (with_reducible refine Below.drew ?_) | (with_reducible refine Below.alloc ?_ ?_ _) | (with_reducible refine Below.setCell ?_ ?_ _) | omega | (simp; done) | (simp; omega))); done) | go_simp | (simp; done) | (simp; omega)))
                  refine hold_plain 0 (v := ?_) hHC hH0 (by simp only [List.getElem?_toArray, List.getElem?_cons_succ, List.getElem?_cons_zero]; rfl) rfl (by kernel_rfl) ?_ ?_
                  rotate_left 1
                  · (intro w hSw; (try dsimp only at hSw); go_simp; try with_reducible rfl)
                  try simp only [Act.put, List.setIfInBounds_toArray, List.set_cons_zero, List.set_cons_succ]
                  refine hold_plain 1 (v := ?_) hHC hH0 (by simp only [List.getElem?_toArray, List.getElem?_cons_succ, List.getElem?_cons_zero]; rfl) rfl (by kernel_rfl) ?_ ?_
                  rotate_left 1
                  · (intro w hSw; (try dsimp only at hSw); go_simp; try with_reducible rfl)
                  try simp only [Act.put, List.setIfInBounds_toArray, List.set_cons_zero, List.set_cons_succ]
                  refine hold_plain 2 (v := ?_) hHC hH0 (by simp only [List.getElem?_toArray, List.getElem?_cons_succ, List.getElem?_cons_zero]; rfl) rfl (by kernel_rfl) ?_ ?_
                  rotate_left 1
                  · (intro w hSw; (try dsimp only at hSw); go_simp; try with_reducible rfl)
                  try simp only [Act.put, List.setIfInBounds_toArray, List.set_cons_zero, List.set_cons_succ]
                  refine hold_plain 3 (v := ?_) hHC hH0 (by simp only [List.getElem?_toArray, List.getElem?_cons_succ, List.getElem?_cons_zero]; rfl) rfl (by kernel_rfl) ?_ ?_
                  rotate_left 1
                  · (intro w hSw; (try dsimp only at hSw); go_simp; try with_reducible rfl)
                  try simp only [Act.put, List.setIfInBounds_toArray, List.set_cons_zero, List.set_cons_succ]
                  refine hold_plain 4 (v := ?_) hHC hH0 (by simp only [List.getElem?_toArray, List.getElem?_cons_succ, List.getElem?_cons_zero]; rfl) rfl (by kernel_rfl) ?_ ?_
                  rotate_left 1
                  · (intro w hSw; (try dsimp only at hSw); go_simp; try with_reducible rfl)
                  try simp only [Act.put, List.setIfInBounds_toArray, List.set_cons_zero, List.set_cons_succ]
                  refine hold_plain 5 (v := ?_) hHC hH0 (by simp only [List.getElem?_toArray, List.getElem?_cons_succ, List.getElem?_cons_zero]; rfl) rfl (by kernel_rfl) ?_ ?_
                  rotate_left 1
                  · (intro w hSw; (try dsimp only at hSw); go_simp; try with_reducible rfl)
                  try simp only [Act.put, List.setIfInBounds_toArray, List.set_cons_zero, List.set_cons_succ]
                  refine hold_yes 6 (v := ?_) hHC hH0 (by simp only [List.getElem?_toArray, List.getElem?_cons_succ, List.getElem?_cons_zero]; rfl) rfl (by kernel_rfl) (by kernel_rfl) ?_ ?_
                  rotate_left 1
                  · (intro w hSw; (try dsimp only at hSw); go_simp; try with_reducible rfl)
                  try simp only [Act.put, List.setIfInBounds_toArray, List.set_cons_zero, List.set_cons_succ]
                  refine hold_yes 7 (v := ?_) hHC hH0 (by simp only [List.getElem?_toArray, List.getElem?_cons_succ, List.getElem?_cons_zero]; rfl) rfl (by kernel_rfl) (by kernel_rfl) ?_ ?_
                  rotate_left 1
                  · (intro w hSw; (try dsimp only at hSw); go_simp; try with_reducible rfl)
                  try simp only [Act.put, List.setIfInBounds_toArray, List.set_cons_zero, List.set_cons_succ]
                  refine hold_yes 8 (v := ?_) hHC hH0 (by simp only [List.getElem?_toArray, List.getElem?_cons_succ, List.getElem?_cons_zero]; rfl) rfl (by kernel_rfl) (by kernel_rfl) ?_ ?_
                  rotate_left 1
                  · (intro w hSw; (try dsimp only at hSw); go_simp; try with_reducible rfl)
                  try simp only [Act.put, List.setIfInBounds_toArray, List.set_cons_zero, List.set_cons_succ]
                  refine hold_yes 9 (v := ?_) hHC hH0 (by simp only [List.getElem?_toArray, List.getElem?_cons_succ, List.getElem?_cons_zero]; rfl) rfl (by kernel_rfl) (by kernel_rfl) ?_ ?_
                  rotate_left 1
                  · (intro w hSw; (try dsimp only at hSw); go_simp; try with_reducible rfl)
                  try simp only [Act.put, List.setIfInBounds_toArray, List.set_cons_zero, List.set_cons_succ]
                  refine hold_yes 10 (v := ?_) hHC hH0 (by simp only [List.getElem?_toArray, List.getElem?_cons_succ, List.getElem?_cons_zero]; rfl) rfl (by kernel_rfl) (by kernel_rfl) ?_ ?_
                  rotate_left 1
                  · (intro w hSw; (try dsimp only at hSw); go_simp; try with_reducible rfl)
                  try simp only [Act.put, List.setIfInBounds_toArray, List.set_cons_zero, List.set_cons_succ]
                  refine hold_yes 11 (v := ?_) hHC hH0 (by simp only [List.getElem?_toArray, List.getElem?_cons_succ, List.getElem?_cons_zero]; rfl) rfl (by kernel_rfl) (by kernel_rfl) ?_ ?_
                  rotate_left 1
                  · (intro w hSw; (try dsimp only at hSw); go_simp; try with_reducible rfl)
                  try simp only [Act.put, List.setIfInBounds_toArray, List.set_cons_zero, List.set_cons_succ]
                  refine hold_yes 12 (v := ?_) hHC hH0 (by simp only [List.getElem?_toArray, List.getElem?_cons_succ, List.getElem?_cons_zero]; rfl) rfl (by kernel_rfl) (by kernel_rfl) ?_ ?_
                  rotate_left 1
                  · (intro w hSw; (try dsimp only at hSw); go_simp; try with_reducible rfl)
                  try simp only [Act.put, List.setIfInBounds_toArray, List.set_cons_zero, List.set_cons_succ]
                  refine hold_yes 13 (v := ?_) hHC hH0 (by simp only [List.getElem?_toArray, List.getElem?_cons_succ, List.getElem?_cons_zero]; rfl) rfl (by kernel_rfl) (by kernel_rfl) ?_ ?_
                  rotate_left 1
                  · (intro w hSw; (try dsimp only at hSw); go_simp; try with_reducible rfl)
                  try simp only [Act.put, List.setIfInBounds_toArray, List.set_cons_zero, List.set_cons_succ]
                  refine hold_call1 14 (by simp only [List.getElem?_toArray, List.getElem?_cons_succ, List.getElem?_cons_zero]; rfl) rfl (by kernel_rfl) (by kernel_rfl) (fun K hK => ?_)
                  go_simp
                  obtain ⟨_, _, _, _, _, hs1, hs2, _⟩ := id hH0; (go_at_call 53; refine (HNB.out _).mono ?_; rintro e w1 ⟨rfl, hb1⟩)
                  refine hK.out _ _ ?_ (fun hH1 => ?_)
                  · (first | (go_keep; done) | ((try go_split_ands); (repeat' apply And.intro) <;> first | assumption | (with_reducible refine Rd.below ?_ hb1; assumption) | (with_reducible refine Rd.drew ?_; repeat' (first | assumption | (with_reducible refine Rd.alloc ?_ _))) | (refine (hb1.cell (by first | omega | (simp; done) | (simp; omega))).trans ?_; first | assumption | simp) | (exact below_step hb1 (by first | omega | (simp; done) | (simp; omega)) (by assumption)) | (have hz' := hb1.size; (try simp at hz'); omega) | ((repeat' (first | assumption | (with_reducible exact Below.refl _ _) | (with_reducible refine Below.drew ?_) | (with_reducible refine Below.alloc ?_ ?_ _) | (with_reducible refine Below.setCell ?_ ?_ _) | omega | (simp; done) | (simp; omega))); done) | go_simp | (simp; done) | (simp; omega)))
                  clear hK K hH0
                  try simp only [Act.put, List.setIfInBounds_toArray, List.set_cons_zero, List.set_cons_succ]
                  refine hold_plain 15 (v := ?_) hHC hH1 (by simp only [List.getElem?_toArray, List.getElem?_cons_succ, List.getElem?_cons_zero]; rfl) rfl (by kernel_rfl) ?_ ?_
                  rotate_left 1
                  · (intro w hSw; (try dsimp only at hSw); go_simp; try with_reducible rfl)
                  try simp only [Act.put, List.setIfInBounds_toArray, List.set_cons_zero, List.set_cons_succ]
                  refine wpAnyH_done (by kernel_rfl) ?_ _
                  (try dsimp only at hH1)
                  go_split_ands
                  clear hHC
                  have hB5 : Below w.heap.size w w1 := by assumption
                  go_wp2_with fail
                  go_roundw
                  case rel => exact ⟨j + 1, v, by omega, by omega, by go_num, rfl, HV2, hB5⟩
                  case measure => simp [intOf]; omega
            · have hjn : j = L.length := by omega
              have hlI : ¬ (j : Int) < (L.length : Int) := by omega
              have HE : Hid (v = res) := Lib.hid (by rw [HRE.out, hV.out, hjn])
              clear hjn
              go_wp2_with fail
              go_ret
              exact ⟨ret_i HE.out, hB⟩
end Go.Proofs.Ytfjkjnhmlljefaa
