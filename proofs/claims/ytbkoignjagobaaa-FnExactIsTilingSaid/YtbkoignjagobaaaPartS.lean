/-
  The reference's contract of 'covers a part'.
-/
import Derived.Test.YtbkoignjagobaaaPartW
import Derived.KernelRfl
namespace Go.Proofs.Ytbkoignjagobaaa
open Go.RowKit
set_option linter.unusedVariables false
set_option linter.unusedSimpArgs false

def usedL (C : Nat) : List Value := (List.range 64).map fun i => .bool (C.testBit i)
theorem usedL_len (C : Nat) : (usedL C).length = 64 := by simp [usedL]
theorem usedL_at {C i : Nat} (h : i < 64) : (usedL C)[i]? = some (.bool (C.testBit i)) := by simp [usedL, h]
theorem usedL_zero : (madeCells (Value.bool false).cells (64 * 1)).toList = usedL 0 := by kernel_rfl
theorem usedL_set {C i : Nat} (h : i < 64) : (usedL C).set i (.bool true) = usedL (C ||| 2 ^ i) := by
  apply List.ext_getElem?
  intro j
  by_cases hj : j < 64
  · rw [usedL_at hj, List.getElem?_set, usedL_len]
    by_cases hij : i = j
    · subst hij
      rw [if_pos rfl, if_pos h, Nat.testBit_or, Nat.testBit_two_pow_self, Bool.or_true]
    · rw [if_neg hij, usedL_at hj, Nat.testBit_or, pow_testBit, decide_eq_false hij, Bool.or_false]
  · rw [List.getElem?_eq_none (by simp [usedL_len]; omega), List.getElem?_eq_none (by simp [usedL_len]; omega)]
theorem boolInfo : (Try.prog.info? 4).map (fun i => (i.zero, i.size, i.bytes)) = some (some (.bool false), 1, 1) := by kernel_rfl
theorem hcB_at {zs : List Int} {x y : Int} (h : rokB zs = true) (hxy : okB x y = true) : hcB zs x y = (setS zs).testBit (y * 8 + x).toNat := by simp [hcB, h, hasB, hxy]

/-- The marks, at two indices. -/
def Marks (w : World) (g : Nat) (C : Nat) : Prop := w.ownsRow g 4 1 (.slice (some ⟨g, 0, none⟩) 64 64) 64 (usedL C)
theorem Marks.below {w w' : World} {g C : Nat} (h : Marks w g C) (hb : Below w.heap.size w w') : Marks w' g C := own_below h hb
theorem Marks.at_ {w : World} {g C i : Nat} (h : Marks w g C) (hi : i < 64) : w.cell? ⟨g, i, none⟩ = some (.bool (C.testBit i)) ∧ w.frozen? ⟨g, i, none⟩ = false := by
  have h1 := h.cellAt i (by omega)
  rw [usedL_at hi] at h1
  exact ⟨h1, h.frozenAt i⟩
theorem Marks.set_ {w : World} {g C i : Nat} (h : Marks w g C) (hi : i < 64) : Marks (w.setCell ⟨g, i, none⟩ (.bool true)) g (C ||| 2 ^ i) := by
  have := (h.stored i (.bool true)).1
  rw [usedL_set hi] at this
  exact this
theorem Marks.alloc {w : World} {g C : Nat} (h : Marks w g C) (o : Obj) : Marks (w.alloc o) g C := World.ownsRow.alloc h o
theorem Marks.lt {w : World} {g C : Nat} (h : Marks w g C) : g < w.heap.size := (World.ownsRow.lt h g rfl).2

theorem partH_no {zs : List Int} {L : List DomI} {k : Nat} {x y : Int} {d : Bool} (hv : L[k]? = some (x, y, d)) (hd : domB x y d = true) (h : hcB zs x y = false ∨ hcB zs (secX x d) (secY y d) = false) : partB zs L = false := by
  obtain ⟨k1, k2⟩ := domB_ok hd
  by_cases hr : rokB zs = true
  · refine partB_no hv (okAt_no3 ?_)
    rcases h with h | h
    · rw [hcB_at hr k1] at h; simp [freeB, h]
    · rw [hcB_at hr k2] at h; simp [freeB, h]
  · exact partB_no1 (by simpa using hr)
theorem partH_no1 {zs : List Int} {L : List DomI} {k : Nat} {x y : Int} {d : Bool} (hv : L[k]? = some (x, y, d)) (hd : domB x y d = true) (h : hcB zs x y = false) : partB zs L = false := partH_no hv hd (.inl h)
theorem partH_no2 {zs : List Int} {L : List DomI} {k : Nat} {x y : Int} {d : Bool} (hv : L[k]? = some (x, y, d)) (hd : domB x y d = true) (h : hcB zs (secX x d) (secY y d) = false) : partB zs L = false := partH_no hv hd (.inr h)

set_option maxHeartbeats 3200000 in
set_option maxRecDepth 100000 in
theorem specPart_any (a : Option Addr) (n c : Nat) (zs : List Int) (b0 : Option Addr) (m c0 : Nat) (L : List DomI) (w : World) (hz : zs.length = n) (hn : n ≤ 1048576) (hr : RdI w a zs) (hy : L.length = m) (hm : m ≤ 1048576) (hs : RdD w b0 L) :
    Calls Try.prog 17 #[.agg #[.slice a n c], .slice b0 m c0] w fun e w' => e = .returned (.bool (partB zs L)) ∧ Below w.heap.size w w' := by
  have HZ := Lib.hid hz
  have HY := Lib.hid hy
  clear hz hy
  obtain ⟨i0, hi, hz0, hz1, hz2⟩ := info_parts boolInfo
  go_enter Try.func17, Try.ntmps17
  go_wp2_with (at_make; refine wpList_make_full _ rfl _ _ 61 rfl (w.heap.size + 1) 4 i0 (.bool false) 1 Try.underlying61 hi hz0 hz1 _ _ _ _ 64 rfl rfl rfl rfl (by rw [hz2]; omega) (by unfold maxLen; omega) (by simp) ?_; intro w0 hown0 hgrow0)
  have hsz0 : w.heap.size + 1 ≤ w0.heap.size := by have := hgrow0.size; simpa using this
  have hM0 : Hid (Marks w0 (w.heap.size + 1) 0) := Lib.hid (by
    rw [usedL_zero] at hown0
    have h := hown0
    simpa [Marks] using h)
  have hG0 : Below (w.heap.size + 1) _ w0 := (Below.refl _ _).grown hgrow0 (by simp) (fun k h => by cases h)
  have hc0 : w0.cell? ⟨w.heap.size, 0, none⟩ = some (.slice a n c) := (hG0.cell (p := ⟨w.heap.size, 0, none⟩) (by simp)).trans (by go_simp)
  have hB0 : Below w.heap.size w w0 := ((Below.refl _ _).alloc (Nat.le_refl _) _).trans (hG0.mono (by simp))
  clear hown0 hgrow0 hG0
  go_loopw [6] (fun i wr => ∃ k C : Nat, k ≤ m ∧ i = .int .i64 k ∧ wr.cell? ⟨w.heap.size, 0, none⟩ = some (.slice a n c) ∧ Hid (Marks wr (w.heap.size + 1) C) ∧ Hid (C = cov (L.take k)) ∧ Hid (accTo (setS zs) L k = true) ∧ Hid (0 < k → rokB zs = true) ∧ Below w.heap.size w wr) (fun i _ => m - (intOf i).toNat)
  case atStart => exact ⟨0, 0, Nat.zero_le _, rfl, hc0, hM0, Lib.hid rfl, Lib.hid (accTo_zero _ _), Lib.hid (fun h => absurd h (by omega)), hB0⟩
  case round =>
    clear hc0 hM0 hB0 hsz0
    obtain ⟨k, C, hk, rfl, hc0, hM, hC, hA, hK, hB⟩ := hrel
    have hM1 := hM.out.lt
    have hsz : w.heap.size < wr.heap.size := by omega
    by_cases hlt : k < m
    · obtain ⟨j, hj⟩ : ∃ j : Nat, j = k - 1 := ⟨_, rfl⟩
      obtain ⟨b, off, x, y, d, x', y', d', rfl, hb, ⟨hcx, hcy, hcd, hv⟩, hcx', hcy', hcd', hv'⟩ := RdD_two (Rd.below hs hB) (j := j) (k := k) (by rw [HY.out]; omega) (by rw [HY.out]; exact hlt)
      have hblt : b < w.heap.size := by
        rcases hs with h0 | ⟨b1, o1, e1, h1, -⟩
        · exfalso
          have := flatD_len L
          rw [h0, HY.out] at this
          simp at this
          omega
        · injection e1 with e1; injection e1 with e1 e2; subst e1; exact h1
      have HR := Lib.hid hs
      have HRr := Lib.hid hr
      clear hs hr
      by_cases hd : domB x y d = true
      · have hprev : ∀ (P : Prop), (befPrev L k (x, y, d) = false → P) → (befPrev L k (x, y, d) = true → P) → P := fun P h1 h2 => by cases hh : befPrev L k (x, y, d); exact h1 hh; exact h2 hh
        by_cases hp : befPrev L k (x, y, d) = true
        · have HP := Lib.hid hp
          have hrgn : (0 < k ∧ befB x' y' d' x y d = true) ∨ k = 0 := by
            by_cases hk0 : k = 0
            · exact .inr hk0
            · refine .inl ⟨by omega, ?_⟩
              have e : k = j + 1 := by omega
              rw [e, befPrev_succ hv'.out] at hp
              exact hp
          obtain ⟨k1, k2⟩ := domB_ok hd
          obtain ⟨-, hp64, hq64⟩ := cells_ne hd
          obtain ⟨p, hpp⟩ : ∃ p, p = (y * 8 + x).toNat := ⟨_, rfl⟩
          obtain ⟨q, hqq⟩ : ∃ q, q = (secY y d * 8 + secX x d).toNat := ⟨_, rfl⟩
          obtain ⟨sx, hsx⟩ : ∃ sx, sx = secX x d := ⟨_, rfl⟩
          obtain ⟨sy, hsy⟩ : ∃ sy, sy = secY y d := ⟨_, rfl⟩
          have HU := Lib.hid (fun W : World => by have g := specUnd_any x y d W; rw [(und_yes hd).1, (und_yes hd).2.1, (und_yes hd).2.2.1, (und_yes hd).2.2.2] at g; exact g)
          rw [← hpp] at hp64
          rw [← hqq] at hq64
          rw [← hsx, ← hsy] at k2
          rw [← hsx, ← hsy] at HU
          have e1 := okB_iff.1 k1
          have e2 := okB_iff.1 k2
          have HIa := Lib.hid (fun W : World => by have g := specIdx_any x y W; rw [idxI_yes k1, show y * 8 + x = (p : Int) by omega] at g; exact g)
          have HIb := Lib.hid (fun W : World => by have g := specIdx_any sx sy W; rw [idxI_yes k2, show sy * 8 + sx = (q : Int) by rw [hqq, ← hsx, ← hsy]; omega] at g; exact g)
          have HPp : Hid ((y * 8 + x).toNat = p) := Lib.hid hpp.symm
          have HPq0 : Hid ((secY y d * 8 + secX x d).toNat = q) := Lib.hid hqq.symm
          have HPq : Hid ((sy * 8 + sx).toNat = q) := Lib.hid (by rw [hsx, hsy]; exact hqq.symm)
          have HSX := Lib.hid hsx
          have HSY := Lib.hid hsy
          have hp64' : (p : Int) < 64 := by omega
          have hq64' : (q : Int) < 64 := by omega
          clear hpp hqq hsx hsy e1 e2
          clear hp hprev
          go_wp2_with fail
          rcases hrgn with ⟨hk0, hbf⟩ | hk0
          all_goals first
            | (
            have _t := hbf
            have hk1 : (0 : Int) < (k : Int) := by omega
            have hjm : j < m := by omega
            have hjk : (j : Int) < (m : Int) := by omega
            have ej : IntKind.i64.wrap ((k : Int) - 1) = (j : Int) := by rw [IntKind.wrap_i64]; omega
            clear hj
            refine hold_start (S := (fun w' => w'.cell? ⟨b, off + k * 3, none⟩ = some (.int .i64 x) ∧ w'.cell? ⟨b, off + k * 3 + 1, none⟩ = some (.int .i64 y) ∧ w'.cell? ⟨b, off + k * 3 + 2, none⟩ = some (.bool d) ∧ w'.cell? ⟨b, off + j * 3, none⟩ = some (.int .i64 x') ∧ w'.cell? ⟨b, off + j * 3 + 1, none⟩ = some (.int .i64 y') ∧ w'.cell? ⟨b, off + j * 3 + 2, none⟩ = some (.bool d') ∧ Below wr.heap.size wr w' ∧ Below w.heap.size w w' ∧ wr.heap.size + 0 ≤ w'.heap.size)) (by kernel_rfl) (by kernel_rfl) (by intro _ _ d _ _ h; cases d <;> exact h) ?_ (fun hHC hH0 => ?_)
            · (first | (go_keep; done) | ((try go_split_ands); (repeat' apply And.intro) <;> first | assumption | (with_reducible refine Rd.below ?_ hb1; assumption) | (with_reducible refine Rd.drew ?_; repeat' (first | assumption | (with_reducible refine Rd.alloc ?_ _))) | (refine (hb1.cell (by first | omega | (simp; done) | (simp; omega))).trans ?_; first | assumption | simp) | (exact below_step hb1 (by first | omega | (simp; done) | (simp; omega)) (by assumption)) | (have hz' := hb1.size; (try simp at hz'); omega) | ((repeat' (first | assumption | (with_reducible exact Below.refl _ _) | (with_reducible refine Below.drew ?_) | (with_reducible refine Below.alloc ?_ ?_ _) | (with_reducible refine Below.setCell ?_ ?_ _) | omega | (simp; done) | (simp; omega))); done) | go_simp | (simp; done) | (simp; omega)))
            refine hold_plain 0 (v := ?_) hHC hH0 (by simp only [List.getElem?_toArray, List.getElem?_cons_succ, List.getElem?_cons_zero]; rfl) rfl (by kernel_rfl) ?_ ?_
            rotate_left 1
            · (intro w hSw; (try dsimp only at hSw); go_simp; try with_reducible rfl)
            try simp only [Act.put, List.setIfInBounds_toArray, List.set_cons_zero, List.set_cons_succ]
            refine hold_plain 1 (v := ?_) hHC hH0 (by simp only [List.getElem?_toArray, List.getElem?_cons_succ, List.getElem?_cons_zero]; rfl) rfl (by kernel_rfl) ?_ ?_
            rotate_left 1
            · (intro w hSw; (try dsimp only at hSw); go_simp; try with_reducible rfl)
            try simp only [Act.put, List.setIfInBounds_toArray, List.set_cons_zero, List.set_cons_succ]
            refine hold_plain 2 (v := ?_) hHC hH0 (by simp only [List.getElem?_toArray, List.getElem?_cons_succ, List.getElem?_cons_zero]; rfl) rfl (by kernel_rfl) ?_ ?_
            rotate_left 1
            · (intro w hSw; (try dsimp only at hSw); go_simp; try with_reducible rfl)
            try simp only [Act.put, List.setIfInBounds_toArray, List.set_cons_zero, List.set_cons_succ]
            refine hold_plain 3 (v := ?_) hHC hH0 (by simp only [List.getElem?_toArray, List.getElem?_cons_succ, List.getElem?_cons_zero]; rfl) rfl (by kernel_rfl) ?_ ?_
            rotate_left 1
            · (intro w hSw; (try dsimp only at hSw); go_simp; try with_reducible rfl)
            try simp only [Act.put, List.setIfInBounds_toArray, List.set_cons_zero, List.set_cons_succ]
            refine hold_call0 4 (by simp only [List.getElem?_toArray, List.getElem?_cons_succ, List.getElem?_cons_zero]; rfl) rfl (by kernel_rfl) (fun K hK => ?_)
            go_simp
            obtain ⟨_, _, _, _, _, _, _, _, hs2⟩ := id hH0; first | (go_at_call 35; refine (specDom_any _ _ _ _).mono ?_; rintro e w1 ⟨rfl, hb1⟩) | (go_at_call 36; refine (specBef_any _ _ _ _ _ _ _).mono ?_; rintro e w1 ⟨rfl, hb1⟩)
            refine hK.out _ _ ?_ (fun hH1 => ?_)
            · (first | (go_keep; done) | ((try go_split_ands); (repeat' apply And.intro) <;> first | assumption | (with_reducible refine Rd.below ?_ hb1; assumption) | (with_reducible refine Rd.drew ?_; repeat' (first | assumption | (with_reducible refine Rd.alloc ?_ _))) | (refine (hb1.cell (by first | omega | (simp; done) | (simp; omega))).trans ?_; first | assumption | simp) | (exact below_step hb1 (by first | omega | (simp; done) | (simp; omega)) (by assumption)) | (have hz' := hb1.size; (try simp at hz'); omega) | ((repeat' (first | assumption | (with_reducible exact Below.refl _ _) | (with_reducible refine Below.drew ?_) | (with_reducible refine Below.alloc ?_ ?_ _) | (with_reducible refine Below.setCell ?_ ?_ _) | omega | (simp; done) | (simp; omega))); done) | go_simp | (simp; done) | (simp; omega)))
            clear hK K hH0
            try simp only [Act.put, List.setIfInBounds_toArray, List.set_cons_zero, List.set_cons_succ]
            refine hold_plain 5 (v := ?_) hHC hH1 (by simp only [List.getElem?_toArray, List.getElem?_cons_succ, List.getElem?_cons_zero]; rfl) rfl (by kernel_rfl) ?_ ?_
            rotate_left 1
            · (intro w hSw; (try dsimp only at hSw); go_simp; try with_reducible rfl)
            try simp only [Act.put, List.setIfInBounds_toArray, List.set_cons_zero, List.set_cons_succ]
            refine hold_plain 6 (v := ?_) hHC hH1 (by simp only [List.getElem?_toArray, List.getElem?_cons_succ, List.getElem?_cons_zero]; rfl) rfl (by kernel_rfl) ?_ ?_
            rotate_left 1
            · (intro w hSw; (try dsimp only at hSw); go_simp; try with_reducible rfl)
            try simp only [Act.put, List.setIfInBounds_toArray, List.set_cons_zero, List.set_cons_succ]
            refine hold_yes 7 (v := ?_) hHC hH1 (by simp only [List.getElem?_toArray, List.getElem?_cons_succ, List.getElem?_cons_zero]; rfl) rfl (by kernel_rfl) (by kernel_rfl) ?_ ?_
            rotate_left 1
            · (intro w hSw; (try dsimp only at hSw); go_simp; try with_reducible rfl)
            try simp only [Act.put, List.setIfInBounds_toArray, List.set_cons_zero, List.set_cons_succ]
            refine hold_yes 8 (v := ?_) hHC hH1 (by simp only [List.getElem?_toArray, List.getElem?_cons_succ, List.getElem?_cons_zero]; rfl) rfl (by kernel_rfl) (by kernel_rfl) ?_ ?_
            rotate_left 1
            · (intro w hSw; (try dsimp only at hSw); go_simp; try with_reducible rfl)
            try simp only [Act.put, List.setIfInBounds_toArray, List.set_cons_zero, List.set_cons_succ]
            refine hold_yes 9 (v := ?_) hHC hH1 (by simp only [List.getElem?_toArray, List.getElem?_cons_succ, List.getElem?_cons_zero]; rfl) rfl (by kernel_rfl) (by kernel_rfl) ?_ ?_
            rotate_left 1
            · (intro w hSw; (try dsimp only at hSw); go_simp; try with_reducible rfl)
            try simp only [Act.put, List.setIfInBounds_toArray, List.set_cons_zero, List.set_cons_succ]
            refine hold_yes 10 (v := ?_) hHC hH1 (by simp only [List.getElem?_toArray, List.getElem?_cons_succ, List.getElem?_cons_zero]; rfl) rfl (by kernel_rfl) (by kernel_rfl) ?_ ?_
            rotate_left 1
            · (intro w hSw; (try dsimp only at hSw); go_simp; try with_reducible rfl)
            try simp only [Act.put, List.setIfInBounds_toArray, List.set_cons_zero, List.set_cons_succ]
            refine hold_yes 11 (v := ?_) hHC hH1 (by simp only [List.getElem?_toArray, List.getElem?_cons_succ, List.getElem?_cons_zero]; rfl) rfl (by kernel_rfl) (by kernel_rfl) ?_ ?_
            rotate_left 1
            · (intro w hSw; (try dsimp only at hSw); go_simp; try with_reducible rfl)
            try simp only [Act.put, List.setIfInBounds_toArray, List.set_cons_zero, List.set_cons_succ]
            refine hold_yes 12 (v := ?_) hHC hH1 (by simp only [List.getElem?_toArray, List.getElem?_cons_succ, List.getElem?_cons_zero]; rfl) rfl (by kernel_rfl) (by kernel_rfl) ?_ ?_
            rotate_left 1
            · (intro w hSw; (try dsimp only at hSw); go_simp; try with_reducible rfl)
            try simp only [Act.put, List.setIfInBounds_toArray, List.set_cons_zero, List.set_cons_succ]
            refine hold_yes 13 (v := ?_) hHC hH1 (by simp only [List.getElem?_toArray, List.getElem?_cons_succ, List.getElem?_cons_zero]; rfl) rfl (by kernel_rfl) (by kernel_rfl) ?_ ?_
            rotate_left 1
            · (intro w hSw; (try dsimp only at hSw); go_simp; try with_reducible rfl)
            try simp only [Act.put, List.setIfInBounds_toArray, List.set_cons_zero, List.set_cons_succ]
            refine hold_yes 14 (v := ?_) hHC hH1 (by simp only [List.getElem?_toArray, List.getElem?_cons_succ, List.getElem?_cons_zero]; rfl) rfl (by kernel_rfl) (by kernel_rfl) ?_ ?_
            rotate_left 1
            · (intro w hSw; (try dsimp only at hSw); go_simp; try with_reducible rfl)
            try simp only [Act.put, List.setIfInBounds_toArray, List.set_cons_zero, List.set_cons_succ]
            refine hold_yes 15 (v := ?_) hHC hH1 (by simp only [List.getElem?_toArray, List.getElem?_cons_succ, List.getElem?_cons_zero]; rfl) rfl (by kernel_rfl) (by kernel_rfl) ?_ ?_
            rotate_left 1
            · (intro w hSw; (try dsimp only at hSw); go_simp; try with_reducible rfl)
            try simp only [Act.put, List.setIfInBounds_toArray, List.set_cons_zero, List.set_cons_succ]
            refine hold_yes 16 (v := ?_) hHC hH1 (by simp only [List.getElem?_toArray, List.getElem?_cons_succ, List.getElem?_cons_zero]; rfl) rfl (by kernel_rfl) (by kernel_rfl) ?_ ?_
            rotate_left 1
            · (intro w hSw; (try dsimp only at hSw); go_simp; try with_reducible rfl)
            try simp only [Act.put, List.setIfInBounds_toArray, List.set_cons_zero, List.set_cons_succ]
            refine hold_yes 17 (v := ?_) hHC hH1 (by simp only [List.getElem?_toArray, List.getElem?_cons_succ, List.getElem?_cons_zero]; rfl) rfl (by kernel_rfl) (by kernel_rfl) ?_ ?_
            rotate_left 1
            · (intro w hSw; (try dsimp only at hSw); go_simp; try with_reducible rfl)
            try simp only [Act.put, List.setIfInBounds_toArray, List.set_cons_zero, List.set_cons_succ]
            refine hold_yes 18 (v := ?_) hHC hH1 (by simp only [List.getElem?_toArray, List.getElem?_cons_succ, List.getElem?_cons_zero]; rfl) rfl (by kernel_rfl) (by kernel_rfl) ?_ ?_
            rotate_left 1
            · (intro w hSw; (try dsimp only at hSw); go_simp; try with_reducible rfl)
            try simp only [Act.put, List.setIfInBounds_toArray, List.set_cons_zero, List.set_cons_succ]
            refine hold_call1 19 (by simp only [List.getElem?_toArray, List.getElem?_cons_succ, List.getElem?_cons_zero]; rfl) rfl (by kernel_rfl) (by kernel_rfl) (fun K hK => ?_)
            go_simp
            obtain ⟨_, _, _, _, _, _, _, _, hs2⟩ := id hH1; first | (go_at_call 35; refine (specDom_any _ _ _ _).mono ?_; rintro e w1 ⟨rfl, hb1⟩) | (go_at_call 36; refine (specBef_any _ _ _ _ _ _ _).mono ?_; rintro e w1 ⟨rfl, hb1⟩)
            refine hK.out _ _ ?_ (fun hH2 => ?_)
            · (first | (go_keep; done) | ((try go_split_ands); (repeat' apply And.intro) <;> first | assumption | (with_reducible refine Rd.below ?_ hb1; assumption) | (with_reducible refine Rd.drew ?_; repeat' (first | assumption | (with_reducible refine Rd.alloc ?_ _))) | (refine (hb1.cell (by first | omega | (simp; done) | (simp; omega))).trans ?_; first | assumption | simp) | (exact below_step hb1 (by first | omega | (simp; done) | (simp; omega)) (by assumption)) | (have hz' := hb1.size; (try simp at hz'); omega) | ((repeat' (first | assumption | (with_reducible exact Below.refl _ _) | (with_reducible refine Below.drew ?_) | (with_reducible refine Below.alloc ?_ ?_ _) | (with_reducible refine Below.setCell ?_ ?_ _) | omega | (simp; done) | (simp; omega))); done) | go_simp | (simp; done) | (simp; omega)))
            clear hK K hH1
            try simp only [Act.put, List.setIfInBounds_toArray, List.set_cons_zero, List.set_cons_succ]
            refine hold_yes 20 (v := ?_) hHC hH2 (by simp only [List.getElem?_toArray, List.getElem?_cons_succ, List.getElem?_cons_zero]; rfl) rfl (by kernel_rfl) (by kernel_rfl) ?_ ?_
            rotate_left 1
            · (intro w hSw; (try dsimp only at hSw); go_simp; try with_reducible rfl)
            try simp only [Act.put, List.setIfInBounds_toArray, List.set_cons_zero, List.set_cons_succ]
            refine hold_yes 21 (v := ?_) hHC hH2 (by simp only [List.getElem?_toArray, List.getElem?_cons_succ, List.getElem?_cons_zero]; rfl) rfl (by kernel_rfl) (by kernel_rfl) ?_ ?_
            rotate_left 1
            · (intro w hSw; (try dsimp only at hSw); go_simp; try with_reducible rfl)
            try simp only [Act.put, List.setIfInBounds_toArray, List.set_cons_zero, List.set_cons_succ]
            refine hold_plain 22 (v := ?_) hHC hH2 (by simp only [List.getElem?_toArray, List.getElem?_cons_succ, List.getElem?_cons_zero]; rfl) rfl (by kernel_rfl) ?_ ?_
            rotate_left 1
            · (intro w hSw; (try dsimp only at hSw); go_simp; try with_reducible rfl)
            try simp only [Act.put, List.setIfInBounds_toArray, List.set_cons_zero, List.set_cons_succ]
            refine wpAnyH_done (by kernel_rfl) ?_ _
            (try dsimp only at hH2)
            go_split_ands
            clear hHC
            )
            | (
            have hk1 : ¬ (0 : Int) < (k : Int) := by omega
            have hk3 : ¬ 0 < k := by omega
            have hk2 : decide ((0 : Int) < (k : Int)) = false := decide_eq_false hk1
            have HK0 := Lib.hid hk0
            clear hj hk0
            refine hold_start (S := (fun w' => w'.cell? ⟨b, off + k * 3, none⟩ = some (.int .i64 x) ∧ w'.cell? ⟨b, off + k * 3 + 1, none⟩ = some (.int .i64 y) ∧ w'.cell? ⟨b, off + k * 3 + 2, none⟩ = some (.bool d) ∧ Below wr.heap.size wr w' ∧ Below w.heap.size w w' ∧ wr.heap.size + 0 ≤ w'.heap.size)) (by kernel_rfl) (by kernel_rfl) (by intro _ _ d _ _ h; cases d <;> exact h) ?_ (fun hHC hH0 => ?_)
            · (first | (go_keep; done) | ((try go_split_ands); (repeat' apply And.intro) <;> first | assumption | (with_reducible refine Rd.below ?_ hb1; assumption) | (with_reducible refine Rd.drew ?_; repeat' (first | assumption | (with_reducible refine Rd.alloc ?_ _))) | (refine (hb1.cell (by first | omega | (simp; done) | (simp; omega))).trans ?_; first | assumption | simp) | (exact below_step hb1 (by first | omega | (simp; done) | (simp; omega)) (by assumption)) | (have hz' := hb1.size; (try simp at hz'); omega) | ((repeat' (first | assumption | (with_reducible exact Below.refl _ _) | (with_reducible refine Below.drew ?_) | (with_reducible refine Below.alloc ?_ ?_ _) | (with_reducible refine Below.setCell ?_ ?_ _) | omega | (simp; done) | (simp; omega))); done) | go_simp | (simp; done) | (simp; omega)))
            refine hold_plain 0 (v := ?_) hHC hH0 (by simp only [List.getElem?_toArray, List.getElem?_cons_succ, List.getElem?_cons_zero]; rfl) rfl (by kernel_rfl) ?_ ?_
            rotate_left 1
            · (intro w hSw; (try dsimp only at hSw); go_simp; try with_reducible rfl)
            try simp only [Act.put, List.setIfInBounds_toArray, List.set_cons_zero, List.set_cons_succ]
            refine hold_plain 1 (v := ?_) hHC hH0 (by simp only [List.getElem?_toArray, List.getElem?_cons_succ, List.getElem?_cons_zero]; rfl) rfl (by kernel_rfl) ?_ ?_
            rotate_left 1
            · (intro w hSw; (try dsimp only at hSw); go_simp; try with_reducible rfl)
            try simp only [Act.put, List.setIfInBounds_toArray, List.set_cons_zero, List.set_cons_succ]
            refine hold_plain 2 (v := ?_) hHC hH0 (by simp only [List.getElem?_toArray, List.getElem?_cons_succ, List.getElem?_cons_zero]; rfl) rfl (by kernel_rfl) ?_ ?_
            rotate_left 1
            · (intro w hSw; (try dsimp only at hSw); go_simp; try with_reducible rfl)
            try simp only [Act.put, List.setIfInBounds_toArray, List.set_cons_zero, List.set_cons_succ]
            refine hold_plain 3 (v := ?_) hHC hH0 (by simp only [List.getElem?_toArray, List.getElem?_cons_succ, List.getElem?_cons_zero]; rfl) rfl (by kernel_rfl) ?_ ?_
            rotate_left 1
            · (intro w hSw; (try dsimp only at hSw); go_simp; try with_reducible rfl)
            try simp only [Act.put, List.setIfInBounds_toArray, List.set_cons_zero, List.set_cons_succ]
            refine hold_call0 4 (by simp only [List.getElem?_toArray, List.getElem?_cons_succ, List.getElem?_cons_zero]; rfl) rfl (by kernel_rfl) (fun K hK => ?_)
            go_simp
            obtain ⟨_, _, _, _, _, hs2⟩ := id hH0; first | (go_at_call 35; refine (specDom_any _ _ _ _).mono ?_; rintro e w1 ⟨rfl, hb1⟩)
            refine hK.out _ _ ?_ (fun hH1 => ?_)
            · (first | (go_keep; done) | ((try go_split_ands); (repeat' apply And.intro) <;> first | assumption | (with_reducible refine Rd.below ?_ hb1; assumption) | (with_reducible refine Rd.drew ?_; repeat' (first | assumption | (with_reducible refine Rd.alloc ?_ _))) | (refine (hb1.cell (by first | omega | (simp; done) | (simp; omega))).trans ?_; first | assumption | simp) | (exact below_step hb1 (by first | omega | (simp; done) | (simp; omega)) (by assumption)) | (have hz' := hb1.size; (try simp at hz'); omega) | ((repeat' (first | assumption | (with_reducible exact Below.refl _ _) | (with_reducible refine Below.drew ?_) | (with_reducible refine Below.alloc ?_ ?_ _) | (with_reducible refine Below.setCell ?_ ?_ _) | omega | (simp; done) | (simp; omega))); done) | go_simp | (simp; done) | (simp; omega)))
            clear hK K hH0
            try simp only [Act.put, List.setIfInBounds_toArray, List.set_cons_zero, List.set_cons_succ]
            refine hold_plain 5 (v := ?_) hHC hH1 (by simp only [List.getElem?_toArray, List.getElem?_cons_succ, List.getElem?_cons_zero]; rfl) rfl (by kernel_rfl) ?_ ?_
            rotate_left 1
            · (intro w hSw; (try dsimp only at hSw); go_simp; try with_reducible rfl)
            try simp only [Act.put, List.setIfInBounds_toArray, List.set_cons_zero, List.set_cons_succ]
            refine hold_plain 6 (v := ?_) hHC hH1 (by simp only [List.getElem?_toArray, List.getElem?_cons_succ, List.getElem?_cons_zero]; rfl) rfl (by kernel_rfl) ?_ ?_
            rotate_left 1
            · (intro w hSw; (try dsimp only at hSw); go_simp; try with_reducible rfl)
            try simp only [Act.put, List.setIfInBounds_toArray, List.set_cons_zero, List.set_cons_succ]
            refine hold_yes 7 (v := ?_) hHC hH1 (by simp only [List.getElem?_toArray, List.getElem?_cons_succ, List.getElem?_cons_zero]; rfl) rfl (by kernel_rfl) (by kernel_rfl) ?_ ?_
            rotate_left 1
            · (intro w hSw; (try dsimp only at hSw); go_simp; try with_reducible rfl)
            try simp only [Act.put, List.setIfInBounds_toArray, List.set_cons_zero, List.set_cons_succ]
            refine hold_yes 8 (v := ?_) hHC hH1 (by simp only [List.getElem?_toArray, List.getElem?_cons_succ, List.getElem?_cons_zero]; rfl) rfl (by kernel_rfl) (by kernel_rfl) ?_ ?_
            rotate_left 1
            · (intro w hSw; (try dsimp only at hSw); go_simp; try with_reducible rfl)
            try simp only [Act.put, List.setIfInBounds_toArray, List.set_cons_zero, List.set_cons_succ]
            refine hold_yes 9 (v := ?_) hHC hH1 (by simp only [List.getElem?_toArray, List.getElem?_cons_succ, List.getElem?_cons_zero]; rfl) rfl (by kernel_rfl) (by kernel_rfl) ?_ ?_
            rotate_left 1
            · (intro w hSw; (try dsimp only at hSw); go_simp; try with_reducible rfl)
            try simp only [Act.put, List.setIfInBounds_toArray, List.set_cons_zero, List.set_cons_succ]
            refine hold_no 10 hHC hH1 (by simp only [List.getElem?_toArray, List.getElem?_cons_succ, List.getElem?_cons_zero]; rfl) rfl (by kernel_rfl) (by kernel_rfl) ?_
            try simp only [Act.put, List.setIfInBounds_toArray, List.set_cons_zero, List.set_cons_succ]
            refine hold_no 11 hHC hH1 (by simp only [List.getElem?_toArray, List.getElem?_cons_succ, List.getElem?_cons_zero]; rfl) rfl (by kernel_rfl) (by kernel_rfl) ?_
            try simp only [Act.put, List.setIfInBounds_toArray, List.set_cons_zero, List.set_cons_succ]
            refine hold_no 12 hHC hH1 (by simp only [List.getElem?_toArray, List.getElem?_cons_succ, List.getElem?_cons_zero]; rfl) rfl (by kernel_rfl) (by kernel_rfl) ?_
            try simp only [Act.put, List.setIfInBounds_toArray, List.set_cons_zero, List.set_cons_succ]
            refine hold_no 13 hHC hH1 (by simp only [List.getElem?_toArray, List.getElem?_cons_succ, List.getElem?_cons_zero]; rfl) rfl (by kernel_rfl) (by kernel_rfl) ?_
            try simp only [Act.put, List.setIfInBounds_toArray, List.set_cons_zero, List.set_cons_succ]
            refine hold_no 14 hHC hH1 (by simp only [List.getElem?_toArray, List.getElem?_cons_succ, List.getElem?_cons_zero]; rfl) rfl (by kernel_rfl) (by kernel_rfl) ?_
            try simp only [Act.put, List.setIfInBounds_toArray, List.set_cons_zero, List.set_cons_succ]
            refine hold_no 15 hHC hH1 (by simp only [List.getElem?_toArray, List.getElem?_cons_succ, List.getElem?_cons_zero]; rfl) rfl (by kernel_rfl) (by kernel_rfl) ?_
            try simp only [Act.put, List.setIfInBounds_toArray, List.set_cons_zero, List.set_cons_succ]
            refine hold_no 16 hHC hH1 (by simp only [List.getElem?_toArray, List.getElem?_cons_succ, List.getElem?_cons_zero]; rfl) rfl (by kernel_rfl) (by kernel_rfl) ?_
            try simp only [Act.put, List.setIfInBounds_toArray, List.set_cons_zero, List.set_cons_succ]
            refine hold_no 17 hHC hH1 (by simp only [List.getElem?_toArray, List.getElem?_cons_succ, List.getElem?_cons_zero]; rfl) rfl (by kernel_rfl) (by kernel_rfl) ?_
            try simp only [Act.put, List.setIfInBounds_toArray, List.set_cons_zero, List.set_cons_succ]
            refine hold_no 18 hHC hH1 (by simp only [List.getElem?_toArray, List.getElem?_cons_succ, List.getElem?_cons_zero]; rfl) rfl (by kernel_rfl) (by kernel_rfl) ?_
            try simp only [Act.put, List.setIfInBounds_toArray, List.set_cons_zero, List.set_cons_succ]
            refine hold_no 19 hHC hH1 (by simp only [List.getElem?_toArray, List.getElem?_cons_succ, List.getElem?_cons_zero]; rfl) rfl (by kernel_rfl) (by kernel_rfl) ?_
            try simp only [Act.put, List.setIfInBounds_toArray, List.set_cons_zero, List.set_cons_succ]
            refine hold_no 20 hHC hH1 (by simp only [List.getElem?_toArray, List.getElem?_cons_succ, List.getElem?_cons_zero]; rfl) rfl (by kernel_rfl) (by kernel_rfl) ?_
            try simp only [Act.put, List.setIfInBounds_toArray, List.set_cons_zero, List.set_cons_succ]
            refine hold_yes 21 (v := ?_) hHC hH1 (by simp only [List.getElem?_toArray, List.getElem?_cons_succ, List.getElem?_cons_zero]; rfl) rfl (by kernel_rfl) (by kernel_rfl) ?_ ?_
            rotate_left 1
            · (intro w hSw; (try dsimp only at hSw); go_simp; try with_reducible rfl)
            try simp only [Act.put, List.setIfInBounds_toArray, List.set_cons_zero, List.set_cons_succ]
            refine hold_plain 22 (v := ?_) hHC hH1 (by simp only [List.getElem?_toArray, List.getElem?_cons_succ, List.getElem?_cons_zero]; rfl) rfl (by kernel_rfl) ?_ ?_
            rotate_left 1
            · (intro w hSw; (try dsimp only at hSw); go_simp; try with_reducible rfl)
            try simp only [Act.put, List.setIfInBounds_toArray, List.set_cons_zero, List.set_cons_succ]
            refine wpAnyH_done (by kernel_rfl) ?_ _
            (try dsimp only at hH1)
            go_split_ands
            clear hHC
            )
          all_goals (
            have hbw : Below wr.heap.size wr w1 := by assumption
            have hM2 := Lib.hid (hM.out.below hbw)
            have hc0' := (hbw.cell (p := ⟨w.heap.size, 0, none⟩) hsz).trans hc0
            have hB2 : Below w.heap.size w w1 := by assumption
            have hzw1 := hbw.size
            clear hbw hc0
            go_wp2_with (go_at_call 41; fail)
            refine (HU.out _).mono ?_
            rintro e wa ⟨rfl, hba⟩
            have hza := hba.size
            have hM3 := Lib.hid (hM2.out.below hba)
            have hc0 := (hba.cell (p := ⟨w.heap.size, 0, none⟩) (by simp; omega)).trans hc0'
            have hBa : Below w.heap.size w wa := hB2.trans (hba.mono (by omega))
            have hlm : w.heap.size + 1 < wa.heap.size := by omega
            have hlm2 : w.heap.size < wa.heap.size := by omega
            have hne1 : ¬ w.heap.size = wa.heap.size := by omega
            have hne2 : ¬ wa.heap.size = w.heap.size := by omega
            have hne3 : ¬ w.heap.size + 1 = wa.heap.size := by omega
            have hne4 : ¬ wa.heap.size = w.heap.size + 1 := by omega
            have hne5 : ¬ w.heap.size = wa.heap.size + 1 := by omega
            have hne6 : ¬ wa.heap.size + 1 = w.heap.size := by omega
            clear hba hc0' hB2 hM2
            by_cases cA : hcB zs x y = true
            · go_wp2_with (go_at_call 42; fail)
              refine (specHas_any _ _ _ zs _ _ _ HZ.out hn (Rd.below HRr.out (by repeat' (first | assumption | (with_reducible exact Below.refl _ _) | (with_reducible refine Below.drew ?_) | (with_reducible refine Below.alloc ?_ ?_ _) | (with_reducible refine Below.setCell ?_ ?_ _) | omega | (simp; done) | (simp; omega))))).mono ?_
              rintro e wc ⟨rfl, hb⟩
              have hzwc := hb.size
              (try simp at hzwc)
              have hc0 : wc.cell? ⟨w.heap.size, 0, none⟩ = some (.slice a n c) := (hb.cell (p := ⟨w.heap.size, 0, none⟩) (by first | omega | (simp; done) | (simp; omega))).trans (by go_simp)
              have hA0 : wc.cell? ⟨wa.heap.size, 0, none⟩ = some (.int .i64 x) := (hb.cell (p := ⟨wa.heap.size, 0, none⟩) (by first | omega | (simp; done) | (simp; omega))).trans (by go_simp)
              have hA1 : wc.cell? ⟨wa.heap.size, 1, none⟩ = some (.int .i64 y) := (hb.cell (p := ⟨wa.heap.size, 1, none⟩) (by first | omega | (simp; done) | (simp; omega))).trans (by go_simp)
              have hB0 : wc.cell? ⟨wa.heap.size + 1, 0, none⟩ = some (.int .i64 sx) := (hb.cell (p := ⟨wa.heap.size + 1, 0, none⟩) (by first | omega | (simp; done) | (simp; omega))).trans (by go_simp)
              have hB1 : wc.cell? ⟨wa.heap.size + 1, 1, none⟩ = some (.int .i64 sy) := (hb.cell (p := ⟨wa.heap.size + 1, 1, none⟩) (by first | omega | (simp; done) | (simp; omega))).trans (by go_simp)
              have hBwc : Below w.heap.size w wc := below_step hb (by first | omega | (simp; done) | (simp; omega)) (by repeat' (first | assumption | (with_reducible exact Below.refl _ _) | (with_reducible refine Below.drew ?_) | (with_reducible refine Below.alloc ?_ ?_ _) | (with_reducible refine Below.setCell ?_ ?_ _) | omega | (simp; done) | (simp; omega)))
              have hMwc := Lib.hid (Marks.below ((hM3.out.alloc _).alloc _) hb)
              have hlwc : wa.heap.size + 1 < wc.heap.size := by omega
              have hl2wc : wa.heap.size < wc.heap.size := by omega
              have hl3wc : w.heap.size < wc.heap.size := by omega
              clear hb
              by_cases cB : hcB zs sx sy = true
              · go_wp2_with (go_at_call 42; fail)
                refine (specHas_any _ _ _ zs _ _ _ HZ.out hn (Rd.below HRr.out (by repeat' (first | assumption | (with_reducible exact Below.refl _ _) | (with_reducible refine Below.drew ?_) | (with_reducible refine Below.alloc ?_ ?_ _) | (with_reducible refine Below.setCell ?_ ?_ _) | omega | (simp; done) | (simp; omega))))).mono ?_
                rintro e wd ⟨rfl, hb⟩
                have hzwd := hb.size
                (try simp at hzwd)
                have hc0 : wd.cell? ⟨w.heap.size, 0, none⟩ = some (.slice a n c) := (hb.cell (p := ⟨w.heap.size, 0, none⟩) (by first | omega | (simp; done) | (simp; omega))).trans (by go_simp)
                have hA0 : wd.cell? ⟨wa.heap.size, 0, none⟩ = some (.int .i64 x) := (hb.cell (p := ⟨wa.heap.size, 0, none⟩) (by first | omega | (simp; done) | (simp; omega))).trans (by go_simp)
                have hA1 : wd.cell? ⟨wa.heap.size, 1, none⟩ = some (.int .i64 y) := (hb.cell (p := ⟨wa.heap.size, 1, none⟩) (by first | omega | (simp; done) | (simp; omega))).trans (by go_simp)
                have hB0 : wd.cell? ⟨wa.heap.size + 1, 0, none⟩ = some (.int .i64 sx) := (hb.cell (p := ⟨wa.heap.size + 1, 0, none⟩) (by first | omega | (simp; done) | (simp; omega))).trans (by go_simp)
                have hB1 : wd.cell? ⟨wa.heap.size + 1, 1, none⟩ = some (.int .i64 sy) := (hb.cell (p := ⟨wa.heap.size + 1, 1, none⟩) (by first | omega | (simp; done) | (simp; omega))).trans (by go_simp)
                have hBwd : Below w.heap.size w wd := below_step hb (by first | omega | (simp; done) | (simp; omega)) (by repeat' (first | assumption | (with_reducible exact Below.refl _ _) | (with_reducible refine Below.drew ?_) | (with_reducible refine Below.alloc ?_ ?_ _) | (with_reducible refine Below.setCell ?_ ?_ _) | omega | (simp; done) | (simp; omega)))
                have hMwd := Lib.hid (Marks.below (hMwc.out) hb)
                have hlwd : wa.heap.size + 1 < wd.heap.size := by omega
                have hl2wd : wa.heap.size < wd.heap.size := by omega
                have hl3wd : w.heap.size < wd.heap.size := by omega
                clear hb
                have hrk : rokB zs = true := by unfold hcB at cA; rw [Bool.and_eq_true] at cA; exact cA.1
                have hAS : (setS zs).testBit p = true := by have := cA; rw [hcB_at hrk k1, HPp.out] at this; exact this
                have hBS : (setS zs).testBit q = true := by have := cB; rw [hcB_at hrk k2, HPq.out] at this; exact this
                by_cases uA : C.testBit p = true
                · go_wp2_with (go_at_call 43; fail)
                  refine (HIa.out _).mono ?_
                  rintro e we ⟨rfl, hb⟩
                  have hzwe := hb.size
                  (try simp at hzwe)
                  have hc0 : we.cell? ⟨w.heap.size, 0, none⟩ = some (.slice a n c) := (hb.cell (p := ⟨w.heap.size, 0, none⟩) (by first | omega | (simp; done) | (simp; omega))).trans (by go_simp)
                  have hA0 : we.cell? ⟨wa.heap.size, 0, none⟩ = some (.int .i64 x) := (hb.cell (p := ⟨wa.heap.size, 0, none⟩) (by first | omega | (simp; done) | (simp; omega))).trans (by go_simp)
                  have hA1 : we.cell? ⟨wa.heap.size, 1, none⟩ = some (.int .i64 y) := (hb.cell (p := ⟨wa.heap.size, 1, none⟩) (by first | omega | (simp; done) | (simp; omega))).trans (by go_simp)
                  have hB0 : we.cell? ⟨wa.heap.size + 1, 0, none⟩ = some (.int .i64 sx) := (hb.cell (p := ⟨wa.heap.size + 1, 0, none⟩) (by first | omega | (simp; done) | (simp; omega))).trans (by go_simp)
                  have hB1 : we.cell? ⟨wa.heap.size + 1, 1, none⟩ = some (.int .i64 sy) := (hb.cell (p := ⟨wa.heap.size + 1, 1, none⟩) (by first | omega | (simp; done) | (simp; omega))).trans (by go_simp)
                  have hBwe : Below w.heap.size w we := below_step hb (by first | omega | (simp; done) | (simp; omega)) (by repeat' (first | assumption | (with_reducible exact Below.refl _ _) | (with_reducible refine Below.drew ?_) | (with_reducible refine Below.alloc ?_ ?_ _) | (with_reducible refine Below.setCell ?_ ?_ _) | omega | (simp; done) | (simp; omega)))
                  have hMwe := Lib.hid (Marks.below (hMwd.out) hb)
                  have hlwe : wa.heap.size + 1 < we.heap.size := by omega
                  have hl2we : wa.heap.size < we.heap.size := by omega
                  have hl3we : w.heap.size < we.heap.size := by omega
                  clear hb
                  obtain ⟨hu, hf⟩ := Marks.at_ hMwe.out hp64
                  rw [uA] at hu
                  have HN : Hid (partB zs L = false) := Lib.hid (partB_no hv.out (okAt_no3 (by rw [← hC.out]; simp [freeB, HPp.out, HPq0.out, uA])))
                  go_wp2
                  go_ret
                  exact ⟨ret_b HN.out.symm, by repeat' (first | assumption | (with_reducible exact Below.refl _ _) | (with_reducible refine Below.drew ?_) | (with_reducible refine Below.alloc ?_ ?_ _) | (with_reducible refine Below.setCell ?_ ?_ _) | omega | (simp; done) | (simp; omega))⟩
                · have uA' : C.testBit p = false := by simpa using uA
                  go_wp2_with (go_at_call 43; fail)
                  refine (HIa.out _).mono ?_
                  rintro e we ⟨rfl, hb⟩
                  have hzwe := hb.size
                  (try simp at hzwe)
                  have hc0 : we.cell? ⟨w.heap.size, 0, none⟩ = some (.slice a n c) := (hb.cell (p := ⟨w.heap.size, 0, none⟩) (by first | omega | (simp; done) | (simp; omega))).trans (by go_simp)
                  have hA0 : we.cell? ⟨wa.heap.size, 0, none⟩ = some (.int .i64 x) := (hb.cell (p := ⟨wa.heap.size, 0, none⟩) (by first | omega | (simp; done) | (simp; omega))).trans (by go_simp)
                  have hA1 : we.cell? ⟨wa.heap.size, 1, none⟩ = some (.int .i64 y) := (hb.cell (p := ⟨wa.heap.size, 1, none⟩) (by first | omega | (simp; done) | (simp; omega))).trans (by go_simp)
                  have hB0 : we.cell? ⟨wa.heap.size + 1, 0, none⟩ = some (.int .i64 sx) := (hb.cell (p := ⟨wa.heap.size + 1, 0, none⟩) (by first | omega | (simp; done) | (simp; omega))).trans (by go_simp)
                  have hB1 : we.cell? ⟨wa.heap.size + 1, 1, none⟩ = some (.int .i64 sy) := (hb.cell (p := ⟨wa.heap.size + 1, 1, none⟩) (by first | omega | (simp; done) | (simp; omega))).trans (by go_simp)
                  have hBwe : Below w.heap.size w we := below_step hb (by first | omega | (simp; done) | (simp; omega)) (by repeat' (first | assumption | (with_reducible exact Below.refl _ _) | (with_reducible refine Below.drew ?_) | (with_reducible refine Below.alloc ?_ ?_ _) | (with_reducible refine Below.setCell ?_ ?_ _) | omega | (simp; done) | (simp; omega)))
                  have hMwe := Lib.hid (Marks.below (hMwd.out) hb)
                  have hlwe : wa.heap.size + 1 < we.heap.size := by omega
                  have hl2we : wa.heap.size < we.heap.size := by omega
                  have hl3we : w.heap.size < we.heap.size := by omega
                  clear hb
                  obtain ⟨hu, hf⟩ := Marks.at_ hMwe.out hp64
                  rw [uA'] at hu
                  by_cases uB : C.testBit q = true
                  · go_wp2_with (go_at_call 43; fail)
                    refine (HIb.out _).mono ?_
                    rintro e wf ⟨rfl, hb⟩
                    have hzwf := hb.size
                    (try simp at hzwf)
                    have hc0 : wf.cell? ⟨w.heap.size, 0, none⟩ = some (.slice a n c) := (hb.cell (p := ⟨w.heap.size, 0, none⟩) (by first | omega | (simp; done) | (simp; omega))).trans (by go_simp)
                    have hA0 : wf.cell? ⟨wa.heap.size, 0, none⟩ = some (.int .i64 x) := (hb.cell (p := ⟨wa.heap.size, 0, none⟩) (by first | omega | (simp; done) | (simp; omega))).trans (by go_simp)
                    have hA1 : wf.cell? ⟨wa.heap.size, 1, none⟩ = some (.int .i64 y) := (hb.cell (p := ⟨wa.heap.size, 1, none⟩) (by first | omega | (simp; done) | (simp; omega))).trans (by go_simp)
                    have hB0 : wf.cell? ⟨wa.heap.size + 1, 0, none⟩ = some (.int .i64 sx) := (hb.cell (p := ⟨wa.heap.size + 1, 0, none⟩) (by first | omega | (simp; done) | (simp; omega))).trans (by go_simp)
                    have hB1 : wf.cell? ⟨wa.heap.size + 1, 1, none⟩ = some (.int .i64 sy) := (hb.cell (p := ⟨wa.heap.size + 1, 1, none⟩) (by first | omega | (simp; done) | (simp; omega))).trans (by go_simp)
                    have hBwf : Below w.heap.size w wf := below_step hb (by first | omega | (simp; done) | (simp; omega)) (by repeat' (first | assumption | (with_reducible exact Below.refl _ _) | (with_reducible refine Below.drew ?_) | (with_reducible refine Below.alloc ?_ ?_ _) | (with_reducible refine Below.setCell ?_ ?_ _) | omega | (simp; done) | (simp; omega)))
                    have hMwf := Lib.hid (Marks.below (hMwe.out) hb)
                    have hlwf : wa.heap.size + 1 < wf.heap.size := by omega
                    have hl2wf : wa.heap.size < wf.heap.size := by omega
                    have hl3wf : w.heap.size < wf.heap.size := by omega
                    clear hb
                    obtain ⟨hu, hf⟩ := Marks.at_ hMwf.out hq64
                    rw [uB] at hu
                    have HN : Hid (partB zs L = false) := Lib.hid (partB_no hv.out (okAt_no3 (by rw [← hC.out]; simp [freeB, HPp.out, HPq0.out, uB])))
                    go_wp2
                    go_ret
                    exact ⟨ret_b HN.out.symm, by repeat' (first | assumption | (with_reducible exact Below.refl _ _) | (with_reducible refine Below.drew ?_) | (with_reducible refine Below.alloc ?_ ?_ _) | (with_reducible refine Below.setCell ?_ ?_ _) | omega | (simp; done) | (simp; omega))⟩
                  · have uB' : C.testBit q = false := by simpa using uB
                    go_wp2_with (go_at_call 43; fail)
                    refine (HIb.out _).mono ?_
                    rintro e wf ⟨rfl, hb⟩
                    have hzwf := hb.size
                    (try simp at hzwf)
                    have hc0 : wf.cell? ⟨w.heap.size, 0, none⟩ = some (.slice a n c) := (hb.cell (p := ⟨w.heap.size, 0, none⟩) (by first | omega | (simp; done) | (simp; omega))).trans (by go_simp)
                    have hA0 : wf.cell? ⟨wa.heap.size, 0, none⟩ = some (.int .i64 x) := (hb.cell (p := ⟨wa.heap.size, 0, none⟩) (by first | omega | (simp; done) | (simp; omega))).trans (by go_simp)
                    have hA1 : wf.cell? ⟨wa.heap.size, 1, none⟩ = some (.int .i64 y) := (hb.cell (p := ⟨wa.heap.size, 1, none⟩) (by first | omega | (simp; done) | (simp; omega))).trans (by go_simp)
                    have hB0 : wf.cell? ⟨wa.heap.size + 1, 0, none⟩ = some (.int .i64 sx) := (hb.cell (p := ⟨wa.heap.size + 1, 0, none⟩) (by first | omega | (simp; done) | (simp; omega))).trans (by go_simp)
                    have hB1 : wf.cell? ⟨wa.heap.size + 1, 1, none⟩ = some (.int .i64 sy) := (hb.cell (p := ⟨wa.heap.size + 1, 1, none⟩) (by first | omega | (simp; done) | (simp; omega))).trans (by go_simp)
                    have hBwf : Below w.heap.size w wf := below_step hb (by first | omega | (simp; done) | (simp; omega)) (by repeat' (first | assumption | (with_reducible exact Below.refl _ _) | (with_reducible refine Below.drew ?_) | (with_reducible refine Below.alloc ?_ ?_ _) | (with_reducible refine Below.setCell ?_ ?_ _) | omega | (simp; done) | (simp; omega)))
                    have hMwf := Lib.hid (Marks.below (hMwe.out) hb)
                    have hlwf : wa.heap.size + 1 < wf.heap.size := by omega
                    have hl2wf : wa.heap.size < wf.heap.size := by omega
                    have hl3wf : w.heap.size < wf.heap.size := by omega
                    clear hb
                    obtain ⟨hu, hf⟩ := Marks.at_ hMwf.out hq64
                    rw [uB'] at hu
                    have HOK : Hid (accTo (setS zs) L (k + 1) = true) := Lib.hid (accTo_yes hA.out hv.out (okAt_yes hd HP.out (by rw [← hC.out]; simp [freeB, HPp.out, HPq0.out, uA', uB', hAS, hBS])))
                    have HCC : Hid ((C ||| 2 ^ p) ||| 2 ^ q = cov (L.take (k + 1))) := Lib.hid (by rw [cov_take hv.out, dS_yes hd, ← hC.out, Nat.or_assoc]; unfold domS bitOf; rw [HPp.out, HPq0.out])
                    have HRK : Hid (rokB zs = true) := Lib.hid hrk
                    clear cA cB uA uA' uB uB' hAS hBS hrk
                    go_wp2_with (go_at_call 43; fail)
                    refine (HIa.out _).mono ?_
                    rintro e wg ⟨rfl, hb⟩
                    have hzwg := hb.size
                    (try simp at hzwg)
                    have hc0 : wg.cell? ⟨w.heap.size, 0, none⟩ = some (.slice a n c) := (hb.cell (p := ⟨w.heap.size, 0, none⟩) (by first | omega | (simp; done) | (simp; omega))).trans (by go_simp)
                    have hA0 : wg.cell? ⟨wa.heap.size, 0, none⟩ = some (.int .i64 x) := (hb.cell (p := ⟨wa.heap.size, 0, none⟩) (by first | omega | (simp; done) | (simp; omega))).trans (by go_simp)
                    have hA1 : wg.cell? ⟨wa.heap.size, 1, none⟩ = some (.int .i64 y) := (hb.cell (p := ⟨wa.heap.size, 1, none⟩) (by first | omega | (simp; done) | (simp; omega))).trans (by go_simp)
                    have hB0 : wg.cell? ⟨wa.heap.size + 1, 0, none⟩ = some (.int .i64 sx) := (hb.cell (p := ⟨wa.heap.size + 1, 0, none⟩) (by first | omega | (simp; done) | (simp; omega))).trans (by go_simp)
                    have hB1 : wg.cell? ⟨wa.heap.size + 1, 1, none⟩ = some (.int .i64 sy) := (hb.cell (p := ⟨wa.heap.size + 1, 1, none⟩) (by first | omega | (simp; done) | (simp; omega))).trans (by go_simp)
                    have hBwg : Below w.heap.size w wg := below_step hb (by first | omega | (simp; done) | (simp; omega)) (by repeat' (first | assumption | (with_reducible exact Below.refl _ _) | (with_reducible refine Below.drew ?_) | (with_reducible refine Below.alloc ?_ ?_ _) | (with_reducible refine Below.setCell ?_ ?_ _) | omega | (simp; done) | (simp; omega)))
                    have hMwg := Lib.hid (Marks.below (hMwf.out) hb)
                    have hlwg : wa.heap.size + 1 < wg.heap.size := by omega
                    have hl2wg : wa.heap.size < wg.heap.size := by omega
                    have hl3wg : w.heap.size < wg.heap.size := by omega
                    clear hb
                    obtain ⟨hu, hf⟩ := Marks.at_ hMwg.out hp64
                    have hMs := Lib.hid (Marks.set_ hMwg.out hp64)
                    go_wp2_with (go_at_call 43; fail)
                    refine (HIb.out _).mono ?_
                    rintro e wh ⟨rfl, hb⟩
                    have hzwh := hb.size
                    (try simp at hzwh)
                    have hc0 : wh.cell? ⟨w.heap.size, 0, none⟩ = some (.slice a n c) := (hb.cell (p := ⟨w.heap.size, 0, none⟩) (by first | omega | (simp; done) | (simp; omega))).trans (by go_simp)
                    have hA0 : wh.cell? ⟨wa.heap.size, 0, none⟩ = some (.int .i64 x) := (hb.cell (p := ⟨wa.heap.size, 0, none⟩) (by first | omega | (simp; done) | (simp; omega))).trans (by go_simp)
                    have hA1 : wh.cell? ⟨wa.heap.size, 1, none⟩ = some (.int .i64 y) := (hb.cell (p := ⟨wa.heap.size, 1, none⟩) (by first | omega | (simp; done) | (simp; omega))).trans (by go_simp)
                    have hB0 : wh.cell? ⟨wa.heap.size + 1, 0, none⟩ = some (.int .i64 sx) := (hb.cell (p := ⟨wa.heap.size + 1, 0, none⟩) (by first | omega | (simp; done) | (simp; omega))).trans (by go_simp)
                    have hB1 : wh.cell? ⟨wa.heap.size + 1, 1, none⟩ = some (.int .i64 sy) := (hb.cell (p := ⟨wa.heap.size + 1, 1, none⟩) (by first | omega | (simp; done) | (simp; omega))).trans (by go_simp)
                    have hBwh : Below w.heap.size w wh := below_step hb (by first | omega | (simp; done) | (simp; omega)) (by repeat' (first | assumption | (with_reducible exact Below.refl _ _) | (with_reducible refine Below.drew ?_) | (with_reducible refine Below.alloc ?_ ?_ _) | (with_reducible refine Below.setCell ?_ ?_ _) | omega | (simp; done) | (simp; omega)))
                    have hMwh := Lib.hid (Marks.below (hMs.out) hb)
                    have hlwh : wa.heap.size + 1 < wh.heap.size := by omega
                    have hl2wh : wa.heap.size < wh.heap.size := by omega
                    have hl3wh : w.heap.size < wh.heap.size := by omega
                    clear hb
                    obtain ⟨hu, hf⟩ := Marks.at_ hMwh.out hq64
                    have hMt := Lib.hid (Marks.set_ hMwh.out hq64)
                    go_wp2
                    go_roundw
                    case rel => exact ⟨k + 1, (C ||| 2 ^ p) ||| 2 ^ q, by omega, by go_num, by go_simp, hMt, HCC, HOK, Lib.hid (fun _ => HRK.out), by repeat' (first | assumption | (with_reducible exact Below.refl _ _) | (with_reducible refine Below.drew ?_) | (with_reducible refine Below.alloc ?_ ?_ _) | (with_reducible refine Below.setCell ?_ ?_ _) | omega | (simp; done) | (simp; omega))⟩
                    case measure => simp [intOf]; omega
              · have cB' : hcB zs sx sy = false := by simpa using cB
                go_wp2_with (go_at_call 42; fail)
                refine (specHas_any _ _ _ zs _ _ _ HZ.out hn (Rd.below HRr.out (by repeat' (first | assumption | (with_reducible exact Below.refl _ _) | (with_reducible refine Below.drew ?_) | (with_reducible refine Below.alloc ?_ ?_ _) | (with_reducible refine Below.setCell ?_ ?_ _) | omega | (simp; done) | (simp; omega))))).mono ?_
                rintro e wd ⟨rfl, hb⟩
                have hzwd := hb.size
                (try simp at hzwd)
                have hc0 : wd.cell? ⟨w.heap.size, 0, none⟩ = some (.slice a n c) := (hb.cell (p := ⟨w.heap.size, 0, none⟩) (by first | omega | (simp; done) | (simp; omega))).trans (by go_simp)
                have hA0 : wd.cell? ⟨wa.heap.size, 0, none⟩ = some (.int .i64 x) := (hb.cell (p := ⟨wa.heap.size, 0, none⟩) (by first | omega | (simp; done) | (simp; omega))).trans (by go_simp)
                have hA1 : wd.cell? ⟨wa.heap.size, 1, none⟩ = some (.int .i64 y) := (hb.cell (p := ⟨wa.heap.size, 1, none⟩) (by first | omega | (simp; done) | (simp; omega))).trans (by go_simp)
                have hB0 : wd.cell? ⟨wa.heap.size + 1, 0, none⟩ = some (.int .i64 sx) := (hb.cell (p := ⟨wa.heap.size + 1, 0, none⟩) (by first | omega | (simp; done) | (simp; omega))).trans (by go_simp)
                have hB1 : wd.cell? ⟨wa.heap.size + 1, 1, none⟩ = some (.int .i64 sy) := (hb.cell (p := ⟨wa.heap.size + 1, 1, none⟩) (by first | omega | (simp; done) | (simp; omega))).trans (by go_simp)
                have hBwd : Below w.heap.size w wd := below_step hb (by first | omega | (simp; done) | (simp; omega)) (by repeat' (first | assumption | (with_reducible exact Below.refl _ _) | (with_reducible refine Below.drew ?_) | (with_reducible refine Below.alloc ?_ ?_ _) | (with_reducible refine Below.setCell ?_ ?_ _) | omega | (simp; done) | (simp; omega)))
                have hMwd := Lib.hid (Marks.below (hMwc.out) hb)
                have hlwd : wa.heap.size + 1 < wd.heap.size := by omega
                have hl2wd : wa.heap.size < wd.heap.size := by omega
                have hl3wd : w.heap.size < wd.heap.size := by omega
                clear hb
                have HN : Hid (partB zs L = false) := Lib.hid (partH_no2 hv.out hd (by rw [← HSX.out, ← HSY.out]; exact cB'))
                go_wp2
                go_ret
                exact ⟨ret_b HN.out.symm, by repeat' (first | assumption | (with_reducible exact Below.refl _ _) | (with_reducible refine Below.drew ?_) | (with_reducible refine Below.alloc ?_ ?_ _) | (with_reducible refine Below.setCell ?_ ?_ _) | omega | (simp; done) | (simp; omega))⟩
            · have cA' : hcB zs x y = false := by simpa using cA
              go_wp2_with (go_at_call 42; fail)
              refine (specHas_any _ _ _ zs _ _ _ HZ.out hn (Rd.below HRr.out (by repeat' (first | assumption | (with_reducible exact Below.refl _ _) | (with_reducible refine Below.drew ?_) | (with_reducible refine Below.alloc ?_ ?_ _) | (with_reducible refine Below.setCell ?_ ?_ _) | omega | (simp; done) | (simp; omega))))).mono ?_
              rintro e wc ⟨rfl, hb⟩
              have hzwc := hb.size
              (try simp at hzwc)
              have hc0 : wc.cell? ⟨w.heap.size, 0, none⟩ = some (.slice a n c) := (hb.cell (p := ⟨w.heap.size, 0, none⟩) (by first | omega | (simp; done) | (simp; omega))).trans (by go_simp)
              have hA0 : wc.cell? ⟨wa.heap.size, 0, none⟩ = some (.int .i64 x) := (hb.cell (p := ⟨wa.heap.size, 0, none⟩) (by first | omega | (simp; done) | (simp; omega))).trans (by go_simp)
              have hA1 : wc.cell? ⟨wa.heap.size, 1, none⟩ = some (.int .i64 y) := (hb.cell (p := ⟨wa.heap.size, 1, none⟩) (by first | omega | (simp; done) | (simp; omega))).trans (by go_simp)
              have hB0 : wc.cell? ⟨wa.heap.size + 1, 0, none⟩ = some (.int .i64 sx) := (hb.cell (p := ⟨wa.heap.size + 1, 0, none⟩) (by first | omega | (simp; done) | (simp; omega))).trans (by go_simp)
              have hB1 : wc.cell? ⟨wa.heap.size + 1, 1, none⟩ = some (.int .i64 sy) := (hb.cell (p := ⟨wa.heap.size + 1, 1, none⟩) (by first | omega | (simp; done) | (simp; omega))).trans (by go_simp)
              have hBwc : Below w.heap.size w wc := below_step hb (by first | omega | (simp; done) | (simp; omega)) (by repeat' (first | assumption | (with_reducible exact Below.refl _ _) | (with_reducible refine Below.drew ?_) | (with_reducible refine Below.alloc ?_ ?_ _) | (with_reducible refine Below.setCell ?_ ?_ _) | omega | (simp; done) | (simp; omega)))
              have hMwc := Lib.hid (Marks.below ((hM3.out.alloc _).alloc _) hb)
              have hlwc : wa.heap.size + 1 < wc.heap.size := by omega
              have hl2wc : wa.heap.size < wc.heap.size := by omega
              have hl3wc : w.heap.size < wc.heap.size := by omega
              clear hb
              have HN : Hid (partB zs L = false) := Lib.hid (partH_no1 hv.out hd cA')
              go_wp2
              go_ret
              exact ⟨ret_b HN.out.symm, by repeat' (first | assumption | (with_reducible exact Below.refl _ _) | (with_reducible refine Below.drew ?_) | (with_reducible refine Below.alloc ?_ ?_ _) | (with_reducible refine Below.setCell ?_ ?_ _) | omega | (simp; done) | (simp; omega))⟩
            )
        · have hp' : befPrev L k (x, y, d) = false := by simpa using hp
          have hk0 : 0 < k := by
            rcases Nat.eq_zero_or_pos k with h | h
            · subst h; simp [befPrev] at hp'
            · exact h
          have hk1 : (0 : Int) < (k : Int) := by omega
          have hjm : j < m := by omega
          have hjk : (j : Int) < (m : Int) := by omega
          have ej : IntKind.i64.wrap ((k : Int) - 1) = (j : Int) := by rw [IntKind.wrap_i64]; omega
          have hbf : befB x' y' d' x y d = false := by
            have e : k = j + 1 := by omega
            rw [e, befPrev_succ hv'.out] at hp'
            exact hp'
          have HN : Hid (partB zs L = false) := Lib.hid (partB_no hv.out (okAt_no2 hp'))
          clear hj hp hp' hprev
          go_wp2_with fail
          refine hold_start (S := (fun w' => w'.cell? ⟨b, off + k * 3, none⟩ = some (.int .i64 x) ∧ w'.cell? ⟨b, off + k * 3 + 1, none⟩ = some (.int .i64 y) ∧ w'.cell? ⟨b, off + k * 3 + 2, none⟩ = some (.bool d) ∧ w'.cell? ⟨b, off + j * 3, none⟩ = some (.int .i64 x') ∧ w'.cell? ⟨b, off + j * 3 + 1, none⟩ = some (.int .i64 y') ∧ w'.cell? ⟨b, off + j * 3 + 2, none⟩ = some (.bool d') ∧ Below wr.heap.size wr w' ∧ Below w.heap.size w w' ∧ wr.heap.size + 0 ≤ w'.heap.size)) (by kernel_rfl) (by kernel_rfl) (by intro _ _ d _ _ h; cases d <;> exact h) ?_ (fun hHC hH0 => ?_)
          · (first | (go_keep; done) | ((try go_split_ands); (repeat' apply And.intro) <;> first | assumption | (with_reducible refine Rd.below ?_ hb1; assumption) | (with_reducible refine Rd.drew ?_; repeat' (first | assumption | (with_reducible refine Rd.alloc ?_ _))) | (refine (hb1.cell (by first | omega | (simp; done) | (simp; omega))).trans ?_; first | assumption | simp) | (exact below_step hb1 (by first | omega | (simp; done) | (simp; omega)) (by assumption)) | (have hz' := hb1.size; (try simp at hz'); omega) | ((repeat' (first | assumption | (with_reducible exact Below.refl _ _) | (with_reducible refine Below.drew ?_) | (with_reducible refine Below.alloc ?_ ?_ _) | (with_reducible refine Below.setCell ?_ ?_ _) | omega | (simp; done) | (simp; omega))); done) | go_simp | (simp; done) | (simp; omega)))
          refine hold_plain 0 (v := ?_) hHC hH0 (by simp only [List.getElem?_toArray, List.getElem?_cons_succ, List.getElem?_cons_zero]; rfl) rfl (by kernel_rfl) ?_ ?_
          rotate_left 1
          · (intro w hSw; (try dsimp only at hSw); go_simp; try with_reducible rfl)
          try simp only [Act.put, List.setIfInBounds_toArray, List.set_cons_zero, List.set_cons_succ]
          refine hold_plain 1 (v := ?_) hHC hH0 (by simp only [List.getElem?_toArray, List.getElem?_cons_succ, List.getElem?_cons_zero]; rfl) rfl (by kernel_rfl) ?_ ?_
          rotate_left 1
          · (intro w hSw; (try dsimp only at hSw); go_simp; try with_reducible rfl)
          try simp only [Act.put, List.setIfInBounds_toArray, List.set_cons_zero, List.set_cons_succ]
          refine hold_plain 2 (v := ?_) hHC hH0 (by simp only [List.getElem?_toArray, List.getElem?_cons_succ, List.getElem?_cons_zero]; rfl) rfl (by kernel_rfl) ?_ ?_
          rotate_left 1
          · (intro w hSw; (try dsimp only at hSw); go_simp; try with_reducible rfl)
          try simp only [Act.put, List.setIfInBounds_toArray, List.set_cons_zero, List.set_cons_succ]
          refine hold_plain 3 (v := ?_) hHC hH0 (by simp only [List.getElem?_toArray, List.getElem?_cons_succ, List.getElem?_cons_zero]; rfl) rfl (by kernel_rfl) ?_ ?_
          rotate_left 1
          · (intro w hSw; (try dsimp only at hSw); go_simp; try with_reducible rfl)
          try simp only [Act.put, List.setIfInBounds_toArray, List.set_cons_zero, List.set_cons_succ]
          refine hold_call0 4 (by simp only [List.getElem?_toArray, List.getElem?_cons_succ, List.getElem?_cons_zero]; rfl) rfl (by kernel_rfl) (fun K hK => ?_)
          go_simp
          obtain ⟨_, _, _, _, _, _, _, _, hs2⟩ := id hH0; first | (go_at_call 35; refine (specDom_any _ _ _ _).mono ?_; rintro e w1 ⟨rfl, hb1⟩) | (go_at_call 36; refine (specBef_any _ _ _ _ _ _ _).mono ?_; rintro e w1 ⟨rfl, hb1⟩)
          refine hK.out _ _ ?_ (fun hH1 => ?_)
          · (first | (go_keep; done) | ((try go_split_ands); (repeat' apply And.intro) <;> first | assumption | (with_reducible refine Rd.below ?_ hb1; assumption) | (with_reducible refine Rd.drew ?_; repeat' (first | assumption | (with_reducible refine Rd.alloc ?_ _))) | (refine (hb1.cell (by first | omega | (simp; done) | (simp; omega))).trans ?_; first | assumption | simp) | (exact below_step hb1 (by first | omega | (simp; done) | (simp; omega)) (by assumption)) | (have hz' := hb1.size; (try simp at hz'); omega) | ((repeat' (first | assumption | (with_reducible exact Below.refl _ _) | (with_reducible refine Below.drew ?_) | (with_reducible refine Below.alloc ?_ ?_ _) | (with_reducible refine Below.setCell ?_ ?_ _) | omega | (simp; done) | (simp; omega))); done) | go_simp | (simp; done) | (simp; omega)))
          clear hK K hH0
          try simp only [Act.put, List.setIfInBounds_toArray, List.set_cons_zero, List.set_cons_succ]
          refine hold_plain 5 (v := ?_) hHC hH1 (by simp only [List.getElem?_toArray, List.getElem?_cons_succ, List.getElem?_cons_zero]; rfl) rfl (by kernel_rfl) ?_ ?_
          rotate_left 1
          · (intro w hSw; (try dsimp only at hSw); go_simp; try with_reducible rfl)
          try simp only [Act.put, List.setIfInBounds_toArray, List.set_cons_zero, List.set_cons_succ]
          refine hold_plain 6 (v := ?_) hHC hH1 (by simp only [List.getElem?_toArray, List.getElem?_cons_succ, List.getElem?_cons_zero]; rfl) rfl (by kernel_rfl) ?_ ?_
          rotate_left 1
          · (intro w hSw; (try dsimp only at hSw); go_simp; try with_reducible rfl)
          try simp only [Act.put, List.setIfInBounds_toArray, List.set_cons_zero, List.set_cons_succ]
          refine hold_yes 7 (v := ?_) hHC hH1 (by simp only [List.getElem?_toArray, List.getElem?_cons_succ, List.getElem?_cons_zero]; rfl) rfl (by kernel_rfl) (by kernel_rfl) ?_ ?_
          rotate_left 1
          · (intro w hSw; (try dsimp only at hSw); go_simp; try with_reducible rfl)
          try simp only [Act.put, List.setIfInBounds_toArray, List.set_cons_zero, List.set_cons_succ]
          refine hold_yes 8 (v := ?_) hHC hH1 (by simp only [List.getElem?_toArray, List.getElem?_cons_succ, List.getElem?_cons_zero]; rfl) rfl (by kernel_rfl) (by kernel_rfl) ?_ ?_
          rotate_left 1
          · (intro w hSw; (try dsimp only at hSw); go_simp; try with_reducible rfl)
          try simp only [Act.put, List.setIfInBounds_toArray, List.set_cons_zero, List.set_cons_succ]
          refine hold_yes 9 (v := ?_) hHC hH1 (by simp only [List.getElem?_toArray, List.getElem?_cons_succ, List.getElem?_cons_zero]; rfl) rfl (by kernel_rfl) (by kernel_rfl) ?_ ?_
          rotate_left 1
          · (intro w hSw; (try dsimp only at hSw); go_simp; try with_reducible rfl)
          try simp only [Act.put, List.setIfInBounds_toArray, List.set_cons_zero, List.set_cons_succ]
          refine hold_yes 10 (v := ?_) hHC hH1 (by simp only [List.getElem?_toArray, List.getElem?_cons_succ, List.getElem?_cons_zero]; rfl) rfl (by kernel_rfl) (by kernel_rfl) ?_ ?_
          rotate_left 1
          · (intro w hSw; (try dsimp only at hSw); go_simp; try with_reducible rfl)
          try simp only [Act.put, List.setIfInBounds_toArray, List.set_cons_zero, List.set_cons_succ]
          refine hold_yes 11 (v := ?_) hHC hH1 (by simp only [List.getElem?_toArray, List.getElem?_cons_succ, List.getElem?_cons_zero]; rfl) rfl (by kernel_rfl) (by kernel_rfl) ?_ ?_
          rotate_left 1
          · (intro w hSw; (try dsimp only at hSw); go_simp; try with_reducible rfl)
          try simp only [Act.put, List.setIfInBounds_toArray, List.set_cons_zero, List.set_cons_succ]
          refine hold_yes 12 (v := ?_) hHC hH1 (by simp only [List.getElem?_toArray, List.getElem?_cons_succ, List.getElem?_cons_zero]; rfl) rfl (by kernel_rfl) (by kernel_rfl) ?_ ?_
          rotate_left 1
          · (intro w hSw; (try dsimp only at hSw); go_simp; try with_reducible rfl)
          try simp only [Act.put, List.setIfInBounds_toArray, List.set_cons_zero, List.set_cons_succ]
          refine hold_yes 13 (v := ?_) hHC hH1 (by simp only [List.getElem?_toArray, List.getElem?_cons_succ, List.getElem?_cons_zero]; rfl) rfl (by kernel_rfl) (by kernel_rfl) ?_ ?_
          rotate_left 1
          · (intro w hSw; (try dsimp only at hSw); go_simp; try with_reducible rfl)
          try simp only [Act.put, List.setIfInBounds_toArray, List.set_cons_zero, List.set_cons_succ]
          refine hold_yes 14 (v := ?_) hHC hH1 (by simp only [List.getElem?_toArray, List.getElem?_cons_succ, List.getElem?_cons_zero]; rfl) rfl (by kernel_rfl) (by kernel_rfl) ?_ ?_
          rotate_left 1
          · (intro w hSw; (try dsimp only at hSw); go_simp; try with_reducible rfl)
          try simp only [Act.put, List.setIfInBounds_toArray, List.set_cons_zero, List.set_cons_succ]
          refine hold_yes 15 (v := ?_) hHC hH1 (by simp only [List.getElem?_toArray, List.getElem?_cons_succ, List.getElem?_cons_zero]; rfl) rfl (by kernel_rfl) (by kernel_rfl) ?_ ?_
          rotate_left 1
          · (intro w hSw; (try dsimp only at hSw); go_simp; try with_reducible rfl)
          try simp only [Act.put, List.setIfInBounds_toArray, List.set_cons_zero, List.set_cons_succ]
          refine hold_yes 16 (v := ?_) hHC hH1 (by simp only [List.getElem?_toArray, List.getElem?_cons_succ, List.getElem?_cons_zero]; rfl) rfl (by kernel_rfl) (by kernel_rfl) ?_ ?_
          rotate_left 1
          · (intro w hSw; (try dsimp only at hSw); go_simp; try with_reducible rfl)
          try simp only [Act.put, List.setIfInBounds_toArray, List.set_cons_zero, List.set_cons_succ]
          refine hold_yes 17 (v := ?_) hHC hH1 (by simp only [List.getElem?_toArray, List.getElem?_cons_succ, List.getElem?_cons_zero]; rfl) rfl (by kernel_rfl) (by kernel_rfl) ?_ ?_
          rotate_left 1
          · (intro w hSw; (try dsimp only at hSw); go_simp; try with_reducible rfl)
          try simp only [Act.put, List.setIfInBounds_toArray, List.set_cons_zero, List.set_cons_succ]
          refine hold_yes 18 (v := ?_) hHC hH1 (by simp only [List.getElem?_toArray, List.getElem?_cons_succ, List.getElem?_cons_zero]; rfl) rfl (by kernel_rfl) (by kernel_rfl) ?_ ?_
          rotate_left 1
          · (intro w hSw; (try dsimp only at hSw); go_simp; try with_reducible rfl)
          try simp only [Act.put, List.setIfInBounds_toArray, List.set_cons_zero, List.set_cons_succ]
          refine hold_call1 19 (by simp only [List.getElem?_toArray, List.getElem?_cons_succ, List.getElem?_cons_zero]; rfl) rfl (by kernel_rfl) (by kernel_rfl) (fun K hK => ?_)
          go_simp
          obtain ⟨_, _, _, _, _, _, _, _, hs2⟩ := id hH1; first | (go_at_call 35; refine (specDom_any _ _ _ _).mono ?_; rintro e w1 ⟨rfl, hb1⟩) | (go_at_call 36; refine (specBef_any _ _ _ _ _ _ _).mono ?_; rintro e w1 ⟨rfl, hb1⟩)
          refine hK.out _ _ ?_ (fun hH2 => ?_)
          · (first | (go_keep; done) | ((try go_split_ands); (repeat' apply And.intro) <;> first | assumption | (with_reducible refine Rd.below ?_ hb1; assumption) | (with_reducible refine Rd.drew ?_; repeat' (first | assumption | (with_reducible refine Rd.alloc ?_ _))) | (refine (hb1.cell (by first | omega | (simp; done) | (simp; omega))).trans ?_; first | assumption | simp) | (exact below_step hb1 (by first | omega | (simp; done) | (simp; omega)) (by assumption)) | (have hz' := hb1.size; (try simp at hz'); omega) | ((repeat' (first | assumption | (with_reducible exact Below.refl _ _) | (with_reducible refine Below.drew ?_) | (with_reducible refine Below.alloc ?_ ?_ _) | (with_reducible refine Below.setCell ?_ ?_ _) | omega | (simp; done) | (simp; omega))); done) | go_simp | (simp; done) | (simp; omega)))
          clear hK K hH1
          try simp only [Act.put, List.setIfInBounds_toArray, List.set_cons_zero, List.set_cons_succ]
          refine hold_yes 20 (v := ?_) hHC hH2 (by simp only [List.getElem?_toArray, List.getElem?_cons_succ, List.getElem?_cons_zero]; rfl) rfl (by kernel_rfl) (by kernel_rfl) ?_ ?_
          rotate_left 1
          · (intro w hSw; (try dsimp only at hSw); go_simp; try with_reducible rfl)
          try simp only [Act.put, List.setIfInBounds_toArray, List.set_cons_zero, List.set_cons_succ]
          refine hold_yes 21 (v := ?_) hHC hH2 (by simp only [List.getElem?_toArray, List.getElem?_cons_succ, List.getElem?_cons_zero]; rfl) rfl (by kernel_rfl) (by kernel_rfl) ?_ ?_
          rotate_left 1
          · (intro w hSw; (try dsimp only at hSw); go_simp; try with_reducible rfl)
          try simp only [Act.put, List.setIfInBounds_toArray, List.set_cons_zero, List.set_cons_succ]
          refine hold_plain 22 (v := ?_) hHC hH2 (by simp only [List.getElem?_toArray, List.getElem?_cons_succ, List.getElem?_cons_zero]; rfl) rfl (by kernel_rfl) ?_ ?_
          rotate_left 1
          · (intro w hSw; (try dsimp only at hSw); go_simp; try with_reducible rfl)
          try simp only [Act.put, List.setIfInBounds_toArray, List.set_cons_zero, List.set_cons_succ]
          refine wpAnyH_done (by kernel_rfl) ?_ _
          (try dsimp only at hH2)
          go_split_ands
          clear hHC
          go_wp2
          go_ret
          exact ⟨ret_b HN.out.symm, by repeat' (first | assumption | (with_reducible exact Below.refl _ _) | (with_reducible refine Below.drew ?_) | (with_reducible refine Below.alloc ?_ ?_ _) | (with_reducible refine Below.setCell ?_ ?_ _) | omega | (simp; done) | (simp; omega))⟩
      · have hd' : domB x y d = false := by simpa using hd
        have HN : Hid (partB zs L = false) := Lib.hid (partB_no hv.out (okAt_no1 hd'))
        clear hj
        go_wp2_with fail
        refine hold_start (S := (fun w' => w'.cell? ⟨b, off + k * 3, none⟩ = some (.int .i64 x) ∧ w'.cell? ⟨b, off + k * 3 + 1, none⟩ = some (.int .i64 y) ∧ w'.cell? ⟨b, off + k * 3 + 2, none⟩ = some (.bool d) ∧ Below wr.heap.size wr w' ∧ Below w.heap.size w w' ∧ wr.heap.size + 0 ≤ w'.heap.size)) (by kernel_rfl) (by kernel_rfl) (by intro _ _ d _ _ h; cases d <;> exact h) ?_ (fun hHC hH0 => ?_)
        · (first | (go_keep; done) | ((try go_split_ands); (repeat' apply And.intro) <;> first | assumption | (with_reducible refine Rd.below ?_ hb1; assumption) | (with_reducible refine Rd.drew ?_; repeat' (first | assumption | (with_reducible refine Rd.alloc ?_ _))) | (refine (hb1.cell (by first | omega | (simp; done) | (simp; omega))).trans ?_; first | assumption | simp) | (exact below_step hb1 (by first | omega | (simp; done) | (simp; omega)) (by assumption)) | (have hz' := hb1.size; (try simp at hz'); omega) | ((repeat' (first | assumption | (with_reducible exact Below.refl _ _) | (with_reducible refine Below.drew ?_) | (with_reducible refine Below.alloc ?_ ?_ _) | (with_reducible refine Below.setCell ?_ ?_ _) | omega | (simp; done) | (simp; omega))); done) | go_simp | (simp; done) | (simp; omega)))
        refine hold_plain 0 (v := ?_) hHC hH0 (by simp only [List.getElem?_toArray, List.getElem?_cons_succ, List.getElem?_cons_zero]; rfl) rfl (by kernel_rfl) ?_ ?_
        rotate_left 1
        · (intro w hSw; (try dsimp only at hSw); go_simp; try with_reducible rfl)
        try simp only [Act.put, List.setIfInBounds_toArray, List.set_cons_zero, List.set_cons_succ]
        refine hold_plain 1 (v := ?_) hHC hH0 (by simp only [List.getElem?_toArray, List.getElem?_cons_succ, List.getElem?_cons_zero]; rfl) rfl (by kernel_rfl) ?_ ?_
        rotate_left 1
        · (intro w hSw; (try dsimp only at hSw); go_simp; try with_reducible rfl)
        try simp only [Act.put, List.setIfInBounds_toArray, List.set_cons_zero, List.set_cons_succ]
        refine hold_plain 2 (v := ?_) hHC hH0 (by simp only [List.getElem?_toArray, List.getElem?_cons_succ, List.getElem?_cons_zero]; rfl) rfl (by kernel_rfl) ?_ ?_
        rotate_left 1
        · (intro w hSw; (try dsimp only at hSw); go_simp; try with_reducible rfl)
        try simp only [Act.put, List.setIfInBounds_toArray, List.set_cons_zero, List.set_cons_succ]
        refine hold_plain 3 (v := ?_) hHC hH0 (by simp only [List.getElem?_toArray, List.getElem?_cons_succ, List.getElem?_cons_zero]; rfl) rfl (by kernel_rfl) ?_ ?_
        rotate_left 1
        · (intro w hSw; (try dsimp only at hSw); go_simp; try with_reducible rfl)
        try simp only [Act.put, List.setIfInBounds_toArray, List.set_cons_zero, List.set_cons_succ]
        refine hold_call0 4 (by simp only [List.getElem?_toArray, List.getElem?_cons_succ, List.getElem?_cons_zero]; rfl) rfl (by kernel_rfl) (fun K hK => ?_)
        go_simp
        obtain ⟨_, _, _, _, _, hs2⟩ := id hH0; first | (go_at_call 35; refine (specDom_any _ _ _ _).mono ?_; rintro e w1 ⟨rfl, hb1⟩)
        refine hK.out _ _ ?_ (fun hH1 => ?_)
        · (first | (go_keep; done) | ((try go_split_ands); (repeat' apply And.intro) <;> first | assumption | (with_reducible refine Rd.below ?_ hb1; assumption) | (with_reducible refine Rd.drew ?_; repeat' (first | assumption | (with_reducible refine Rd.alloc ?_ _))) | (refine (hb1.cell (by first | omega | (simp; done) | (simp; omega))).trans ?_; first | assumption | simp) | (exact below_step hb1 (by first | omega | (simp; done) | (simp; omega)) (by assumption)) | (have hz' := hb1.size; (try simp at hz'); omega) | ((repeat' (first | assumption | (with_reducible exact Below.refl _ _) | (with_reducible refine Below.drew ?_) | (with_reducible refine Below.alloc ?_ ?_ _) | (with_reducible refine Below.setCell ?_ ?_ _) | omega | (simp; done) | (simp; omega))); done) | go_simp | (simp; done) | (simp; omega)))
        clear hK K hH0
        try simp only [Act.put, List.setIfInBounds_toArray, List.set_cons_zero, List.set_cons_succ]
        refine hold_plain 5 (v := ?_) hHC hH1 (by simp only [List.getElem?_toArray, List.getElem?_cons_succ, List.getElem?_cons_zero]; rfl) rfl (by kernel_rfl) ?_ ?_
        rotate_left 1
        · (intro w hSw; (try dsimp only at hSw); go_simp; try with_reducible rfl)
        try simp only [Act.put, List.setIfInBounds_toArray, List.set_cons_zero, List.set_cons_succ]
        refine hold_plain 6 (v := ?_) hHC hH1 (by simp only [List.getElem?_toArray, List.getElem?_cons_succ, List.getElem?_cons_zero]; rfl) rfl (by kernel_rfl) ?_ ?_
        rotate_left 1
        · (intro w hSw; (try dsimp only at hSw); go_simp; try with_reducible rfl)
        try simp only [Act.put, List.setIfInBounds_toArray, List.set_cons_zero, List.set_cons_succ]
        refine hold_no 7 hHC hH1 (by simp only [List.getElem?_toArray, List.getElem?_cons_succ, List.getElem?_cons_zero]; rfl) rfl (by kernel_rfl) (by kernel_rfl) ?_
        try simp only [Act.put, List.setIfInBounds_toArray, List.set_cons_zero, List.set_cons_succ]
        refine hold_no 8 hHC hH1 (by simp only [List.getElem?_toArray, List.getElem?_cons_succ, List.getElem?_cons_zero]; rfl) rfl (by kernel_rfl) (by kernel_rfl) ?_
        try simp only [Act.put, List.setIfInBounds_toArray, List.set_cons_zero, List.set_cons_succ]
        refine hold_no 9 hHC hH1 (by simp only [List.getElem?_toArray, List.getElem?_cons_succ, List.getElem?_cons_zero]; rfl) rfl (by kernel_rfl) (by kernel_rfl) ?_
        try simp only [Act.put, List.setIfInBounds_toArray, List.set_cons_zero, List.set_cons_succ]
        refine hold_no 10 hHC hH1 (by simp only [List.getElem?_toArray, List.getElem?_cons_succ, List.getElem?_cons_zero]; rfl) rfl (by kernel_rfl) (by kernel_rfl) ?_
        try simp only [Act.put, List.setIfInBounds_toArray, List.set_cons_zero, List.set_cons_succ]
        refine hold_no 11 hHC hH1 (by simp only [List.getElem?_toArray, List.getElem?_cons_succ, List.getElem?_cons_zero]; rfl) rfl (by kernel_rfl) (by kernel_rfl) ?_
        try simp only [Act.put, List.setIfInBounds_toArray, List.set_cons_zero, List.set_cons_succ]
        refine hold_no 12 hHC hH1 (by simp only [List.getElem?_toArray, List.getElem?_cons_succ, List.getElem?_cons_zero]; rfl) rfl (by kernel_rfl) (by kernel_rfl) ?_
        try simp only [Act.put, List.setIfInBounds_toArray, List.set_cons_zero, List.set_cons_succ]
        refine hold_no 13 hHC hH1 (by simp only [List.getElem?_toArray, List.getElem?_cons_succ, List.getElem?_cons_zero]; rfl) rfl (by kernel_rfl) (by kernel_rfl) ?_
        try simp only [Act.put, List.setIfInBounds_toArray, List.set_cons_zero, List.set_cons_succ]
        refine hold_no 14 hHC hH1 (by simp only [List.getElem?_toArray, List.getElem?_cons_succ, List.getElem?_cons_zero]; rfl) rfl (by kernel_rfl) (by kernel_rfl) ?_
        try simp only [Act.put, List.setIfInBounds_toArray, List.set_cons_zero, List.set_cons_succ]
        refine hold_no 15 hHC hH1 (by simp only [List.getElem?_toArray, List.getElem?_cons_succ, List.getElem?_cons_zero]; rfl) rfl (by kernel_rfl) (by kernel_rfl) ?_
        try simp only [Act.put, List.setIfInBounds_toArray, List.set_cons_zero, List.set_cons_succ]
        refine hold_no 16 hHC hH1 (by simp only [List.getElem?_toArray, List.getElem?_cons_succ, List.getElem?_cons_zero]; rfl) rfl (by kernel_rfl) (by kernel_rfl) ?_
        try simp only [Act.put, List.setIfInBounds_toArray, List.set_cons_zero, List.set_cons_succ]
        refine hold_no 17 hHC hH1 (by simp only [List.getElem?_toArray, List.getElem?_cons_succ, List.getElem?_cons_zero]; rfl) rfl (by kernel_rfl) (by kernel_rfl) ?_
        try simp only [Act.put, List.setIfInBounds_toArray, List.set_cons_zero, List.set_cons_succ]
        refine hold_no 18 hHC hH1 (by simp only [List.getElem?_toArray, List.getElem?_cons_succ, List.getElem?_cons_zero]; rfl) rfl (by kernel_rfl) (by kernel_rfl) ?_
        try simp only [Act.put, List.setIfInBounds_toArray, List.set_cons_zero, List.set_cons_succ]
        refine hold_no 19 hHC hH1 (by simp only [List.getElem?_toArray, List.getElem?_cons_succ, List.getElem?_cons_zero]; rfl) rfl (by kernel_rfl) (by kernel_rfl) ?_
        try simp only [Act.put, List.setIfInBounds_toArray, List.set_cons_zero, List.set_cons_succ]
        refine hold_no 20 hHC hH1 (by simp only [List.getElem?_toArray, List.getElem?_cons_succ, List.getElem?_cons_zero]; rfl) rfl (by kernel_rfl) (by kernel_rfl) ?_
        try simp only [Act.put, List.setIfInBounds_toArray, List.set_cons_zero, List.set_cons_succ]
        refine hold_no 21 hHC hH1 (by simp only [List.getElem?_toArray, List.getElem?_cons_succ, List.getElem?_cons_zero]; rfl) rfl (by kernel_rfl) (by kernel_rfl) ?_
        try simp only [Act.put, List.setIfInBounds_toArray, List.set_cons_zero, List.set_cons_succ]
        refine hold_plain 22 (v := ?_) hHC hH1 (by simp only [List.getElem?_toArray, List.getElem?_cons_succ, List.getElem?_cons_zero]; rfl) rfl (by kernel_rfl) ?_ ?_
        rotate_left 1
        · (intro w hSw; (try dsimp only at hSw); go_simp; try with_reducible rfl)
        try simp only [Act.put, List.setIfInBounds_toArray, List.set_cons_zero, List.set_cons_succ]
        refine wpAnyH_done (by kernel_rfl) ?_ _
        (try dsimp only at hH1)
        go_split_ands
        clear hHC
        go_wp2
        go_ret
        exact ⟨ret_b HN.out.symm, by repeat' (first | assumption | (with_reducible exact Below.refl _ _) | (with_reducible refine Below.drew ?_) | (with_reducible refine Below.alloc ?_ ?_ _) | (with_reducible refine Below.setCell ?_ ?_ _) | omega | (simp; done) | (simp; omega))⟩
    · have hkn : k = m := by omega
      have HAA : Hid (accTo (setS zs) L L.length = true) := Lib.hid (by have := hA.out; rw [hkn] at this; rw [HY.out]; exact this)
      have HN : Hid (partB zs L = rokB zs) := Lib.hid (by simp [partB, HAA.out])
      clear hkn hs
      go_wp2_with (go_at_call 44; refine (specRok_any _ _ _ zs _ HZ.out hn (Rd.below hr (by repeat' (first | assumption | (with_reducible exact Below.refl _ _) | (with_reducible refine Below.drew ?_) | (with_reducible refine Below.alloc ?_ ?_ _) | (with_reducible refine Below.setCell ?_ ?_ _) | omega | (simp; done) | (simp; omega))))).mono ?_; rintro e wz ⟨rfl, hbwz⟩; have hzwz := hbwz.size; (try simp at hzwz); (try have hl0wr_wz : wr.heap.size < wz.heap.size := by omega); (try have hl1wr_wz : wr.heap.size + 1 < wz.heap.size := by omega); (try have hl2wr_wz : wr.heap.size + 1 + 1 < wz.heap.size := by omega); (try have hl3wr_wz : wr.heap.size + 1 + 1 + 1 < wz.heap.size := by omega); (first | (have hcwr_wz : ∀ b o, b ≤ wr.heap.size + 6 → wz.cell? ⟨b, o, none⟩ = _ := fun b o h => hbwz.cell (p := ⟨b, o, none⟩) (by first | omega | (simp; omega)); have hfwr_wz : ∀ b o, b ≤ wr.heap.size + 6 → wz.frozen? ⟨b, o, none⟩ = _ := fun b o h => hbwz.frozen (p := ⟨b, o, none⟩) (by first | omega | (simp; omega))) | (have hcwr_wz : ∀ b o, b ≤ wr.heap.size + 5 → wz.cell? ⟨b, o, none⟩ = _ := fun b o h => hbwz.cell (p := ⟨b, o, none⟩) (by first | omega | (simp; omega)); have hfwr_wz : ∀ b o, b ≤ wr.heap.size + 5 → wz.frozen? ⟨b, o, none⟩ = _ := fun b o h => hbwz.frozen (p := ⟨b, o, none⟩) (by first | omega | (simp; omega))) | (have hcwr_wz : ∀ b o, b ≤ wr.heap.size + 4 → wz.cell? ⟨b, o, none⟩ = _ := fun b o h => hbwz.cell (p := ⟨b, o, none⟩) (by first | omega | (simp; omega)); have hfwr_wz : ∀ b o, b ≤ wr.heap.size + 4 → wz.frozen? ⟨b, o, none⟩ = _ := fun b o h => hbwz.frozen (p := ⟨b, o, none⟩) (by first | omega | (simp; omega))) | (have hcwr_wz : ∀ b o, b ≤ wr.heap.size + 3 → wz.cell? ⟨b, o, none⟩ = _ := fun b o h => hbwz.cell (p := ⟨b, o, none⟩) (by first | omega | (simp; omega)); have hfwr_wz : ∀ b o, b ≤ wr.heap.size + 3 → wz.frozen? ⟨b, o, none⟩ = _ := fun b o h => hbwz.frozen (p := ⟨b, o, none⟩) (by first | omega | (simp; omega))) | (have hcwr_wz : ∀ b o, b ≤ wr.heap.size + 2 → wz.cell? ⟨b, o, none⟩ = _ := fun b o h => hbwz.cell (p := ⟨b, o, none⟩) (by first | omega | (simp; omega)); have hfwr_wz : ∀ b o, b ≤ wr.heap.size + 2 → wz.frozen? ⟨b, o, none⟩ = _ := fun b o h => hbwz.frozen (p := ⟨b, o, none⟩) (by first | omega | (simp; omega))) | (have hcwr_wz : ∀ b o, b ≤ wr.heap.size + 1 → wz.cell? ⟨b, o, none⟩ = _ := fun b o h => hbwz.cell (p := ⟨b, o, none⟩) (by first | omega | (simp; omega)); have hfwr_wz : ∀ b o, b ≤ wr.heap.size + 1 → wz.frozen? ⟨b, o, none⟩ = _ := fun b o h => hbwz.frozen (p := ⟨b, o, none⟩) (by first | omega | (simp; omega))) | (have hcwr_wz : ∀ b o, b ≤ wr.heap.size + 0 → wz.cell? ⟨b, o, none⟩ = _ := fun b o h => hbwz.cell (p := ⟨b, o, none⟩) (by first | omega | (simp; omega)); have hfwr_wz : ∀ b o, b ≤ wr.heap.size + 0 → wz.frozen? ⟨b, o, none⟩ = _ := fun b o h => hbwz.frozen (p := ⟨b, o, none⟩) (by first | omega | (simp; omega))) | skip); have hBwz : Below w.heap.size w wz := below_step hbwz (by first | omega | (simp; done) | (simp; omega)) (by repeat' (first | assumption | (with_reducible exact Below.refl _ _) | (with_reducible refine Below.drew ?_) | (with_reducible refine Below.alloc ?_ ?_ _) | (with_reducible refine Below.setCell ?_ ?_ _) | omega | (simp; done) | (simp; omega))); clear hbwz)
      go_ret
      exact ⟨ret_b HN.out.symm, by repeat' (first | assumption | (with_reducible exact Below.refl _ _) | (with_reducible refine Below.drew ?_) | (with_reducible refine Below.alloc ?_ ?_ _) | (with_reducible refine Below.setCell ?_ ?_ _) | omega | (simp; done) | (simp; omega))⟩
end Go.Proofs.Ytbkoignjagobaaa
