/-
  The program's number of holes: its two closures.
-/
import Derived.Test.YtghakmhglneckaaHol
import Derived.Test.YtghakmhglneckaaPcI
import Derived.Test.YtghakmhglneckaaRowB
import Derived.Deep.LoopGhost
namespace Go.Proofs.Ytghakmhglneckaa
open Go.RowKit Plain
set_option linter.unusedVariables false
set_option linter.unusedSimpArgs false

/-- What is marked, in memory. -/
def SeenB (w : World) (g : Nat) (U : Nat → Bool) : Prop := ∃ cur t, w.heap[g]? = some (.cells cur t (0, 0)) ∧ cur.size = 100 ∧ ∀ i, i < 100 → cur[i]? = some (.bool (U i))
theorem SeenB.lt {w : World} {g : Nat} {U : Nat → Bool} (h : SeenB w g U) : g < w.heap.size := by obtain ⟨cur, t, h1, -⟩ := h; exact (Array.getElem?_eq_some_iff.1 h1).1
theorem SeenB.cell {w : World} {g : Nat} {U : Nat → Bool} (h : SeenB w g U) {i : Nat} (hi : i < 100) : w.cell? ⟨g, i, none⟩ = some (.bool (U i)) := by
  obtain ⟨cur, t, h1, h2, h3⟩ := h
  simp only [World.cell?, h1]
  exact h3 i hi
theorem SeenB.frozen {w : World} {g : Nat} {U : Nat → Bool} (h : SeenB w g U) (i : Nat) : w.frozen? ⟨g, i, none⟩ = false := by
  obtain ⟨cur, t, h1, h2, h3⟩ := h
  simp [World.frozen?, h1]
theorem SeenB.kept {w w' : World} {g : Nat} {U : Nat → Bool} (h : SeenB w g U) (hh : w'.heap[g]? = w.heap[g]?) : SeenB w' g U := by obtain ⟨cur, t, h1, h2⟩ := h; exact ⟨cur, t, hh.trans h1, h2⟩
theorem SeenB.next {w w' : World} {g : Nat} {U : Nat → Bool} (h : SeenB w g U) (hb : Below w.heap.size w w') : SeenB w' g U := h.kept (hb.block g h.lt)
theorem SeenB.set_ {w : World} {g k : Nat} {U : Nat → Bool} (h : SeenB w g U) (hk : k < 100) : SeenB (w.setCell ⟨g, k, none⟩ (.bool true)) g (mk1 U k) := by
  obtain ⟨cur, t, h1, h2, h3⟩ := h
  refine ⟨cur.setIfInBounds k (.bool true), t, heap_setCell_same w g k cur _ _ h1, by simpa using h2, fun i hi => ?_⟩
  unfold mk1
  rw [Array.getElem?_setIfInBounds]
  by_cases e : k = i
  · subst e; simp [h2, hk]
  · have : ¬ i = k := fun h => e h.symm
    simp [e, this, h3 i hi]
/-- Every old block but one is as it was. -/
structure KeptBut (g : Nat) (w w' : World) : Prop where
  os : w'.os = w.os
  tape : w'.tape = w.tape
  output : w'.output = w.output
  size : w.heap.size ≤ w'.heap.size
  block : ∀ k, k < w.heap.size → k ≠ g → w'.heap[k]? = w.heap[k]?
theorem KeptBut.refl (g : Nat) (w : World) : KeptBut g w w := ⟨rfl, rfl, rfl, Nat.le_refl _, fun _ _ _ => rfl⟩
theorem KeptBut.next {g : Nat} {w w1 w' : World} (h : KeptBut g w w1) (hb : Below w1.heap.size w1 w') : KeptBut g w w' :=
  ⟨hb.os.trans h.os, hb.tape.trans h.tape, hb.output.trans h.output, Nat.le_trans h.size hb.size, fun k hk hn => (hb.block k (Nat.lt_of_lt_of_le hk h.size)).trans (h.block k hk hn)⟩
theorem KeptBut.trans {g : Nat} {w w1 w' : World} (h : KeptBut g w w1) (hb : KeptBut g w1 w') : KeptBut g w w' :=
  ⟨hb.os.trans h.os, hb.tape.trans h.tape, hb.output.trans h.output, Nat.le_trans h.size hb.size, fun k hk hn => (hb.block k (Nat.lt_of_lt_of_le hk h.size) hn).trans (h.block k hk hn)⟩
theorem KeptBut.set_ {g : Nat} {w w1 : World} (h : KeptBut g w w1) (k : Nat) (v : Value) : KeptBut g w (w1.setCell ⟨g, k, none⟩ v) :=
  ⟨h.os, h.tape, h.output, by simpa [World.setCell] using h.size, fun b hb hn => (Below.heap_setCell _ _ _ _ hn).trans (h.block b hb hn)⟩
theorem KeptBut.cell {g : Nat} {w w' : World} (h : KeptBut g w w') {p : Addr} (hp : p.block < w.heap.size) (hn : ¬ p.block = g) : w'.cell? p = w.cell? p := World.cell?_of_block (w := w) (h.block p.block hp hn)
theorem KeptBut.below {g B : Nat} {w0 w w' : World} (h : KeptBut g w w') (hb : Below B w0 w) (h1 : B ≤ g) (h2 : B ≤ w.heap.size) : Below B w0 w' :=
  hb.trans ⟨h.os, h.tape, h.output, h.size, fun k hk => h.block k (by omega) (by omega)⟩
theorem KeptBut.below_ {g : Nat} {w w' : World} (h : KeptBut g w w') : Below (min g w.heap.size) w w' := ⟨h.os, h.tape, h.output, h.size, fun k hk => h.block k (by omega) (by omega)⟩

/-- What the program asks of a place in the ringed square. -/
def frB (S : Nat) (U : Nat → Bool) (X Y : Int) : Bool := inB X 0 9 && (inB Y 0 9 && (!U (Y * 10 + X).toNat && !hasB S (X - 1) (Y - 1)))
theorem fr_in {S : Nat} {U : Nat → Bool} {x y k : Nat} (hx : x < 10) (hy : y < 10) (hk : k = y * 10 + x) : frB S U x y = (!U k && free S.testBit k) := by
  have h1 : inB (x : Int) 0 9 = true := inB_iff.2 (by omega)
  have h2 : inB (y : Int) 0 9 = true := inB_iff.2 (by omega)
  have h3 : ((y : Int) * 10 + (x : Int)).toNat = k := by omega
  unfold frB
  rw [h1, h2, h3, hk, free_at S hx hy]
  rfl
theorem fr_nat {S : Nat} {U : Nat → Bool} {t : Nat} (ht : t < 100) : frB S U ((t % 10 : Nat) : Int) ((t / 10 : Nat) : Int) = (!U t && free S.testBit t) :=
  fr_in (by omega) (by omega) (by omega)
theorem fr_yes {S v a b x y : Nat} {U : Nat → Bool} {dx dy : Int} (hv : v = y * 10 + x) (hx : x < 10) (hy : y < 10) (ha : a < 3) (hb : b < 3) (hdx : dx = (b : Int) - 1) (hdy : dy = (a : Int) - 1) (h : frB S U ((x : Int) + dx) ((y : Int) + dy) = true) :
    ∃ t, t < 100 ∧ (x : Int) + dx = ((t % 10 : Nat) : Int) ∧ (y : Int) + dy = ((t / 10 : Nat) : Int) ∧ nbAt v (3 * a + b) t ∧ free S.testBit t = true ∧ U t = false := by
  have h' := h
  unfold frB at h'
  simp only [Bool.and_eq_true, inB_iff] at h'
  obtain ⟨⟨x0, x9⟩, ⟨y0, y9⟩, -⟩ := h'
  refine ⟨(((y : Int) + dy) * 10 + ((x : Int) + dx)).toNat, by omega, by omega, by omega, ?_⟩
  have e1 : (x : Int) + dx = ((((((y : Int) + dy) * 10 + ((x : Int) + dx)).toNat) % 10 : Nat) : Int) := by omega
  have e2 : (y : Int) + dy = ((((((y : Int) + dy) * 10 + ((x : Int) + dx)).toNat) / 10 : Nat) : Int) := by omega
  have e3 : (((y : Int) + dy) * 10 + ((x : Int) + dx)).toNat < 100 := by omega
  generalize (((y : Int) + dy) * 10 + ((x : Int) + dx)).toNat = t at e1 e2 e3 ⊢
  rw [e1, e2, fr_nat e3] at h
  simp only [Bool.and_eq_true, Bool.not_eq_true'] at h
  exact ⟨by unfold nbAt; omega, h.2, h.1⟩
theorem fr_no {S v a b x y : Nat} {U : Nat → Bool} {dx dy : Int} (hv : v = y * 10 + x) (hx : x < 10) (hy : y < 10) (ha : a < 3) (hb : b < 3) (hdx : dx = (b : Int) - 1) (hdy : dy = (a : Int) - 1) (h : frB S U ((x : Int) + dx) ((y : Int) + dy) = false) :
    ∀ t, nbAt v (3 * a + b) t → t < 100 → free S.testBit t = true → U t = true := by
  intro t hn ht hf
  unfold nbAt at hn
  have e1 : (x : Int) + dx = ((t % 10 : Nat) : Int) := by omega
  have e2 : (y : Int) + dy = ((t / 10 : Nat) : Int) := by omega
  rw [e1, e2, fr_nat ht, hf] at h
  simpa using h
theorem has_valH (S : Nat) (x y : Int) (w : World) (hS : Hid (S < 2 ^ 64)) {b : Bool} (hb : hasB S x y = b) :
    Calls Try.prog 41 #[.int .u64 (S : Int), .agg #[.int .i64 x, .int .i64 y]] w fun e w' => e = .returned (.bool b) ∧ Below w.heap.size w w' := by
  subst hb
  exact has_any S x y w hS
set_option maxHeartbeats 1600000 in
theorem freeC_any (S : Nat) (HS : Hid (S < 2 ^ 64)) (U : Nat → Bool) (g sb : Nat) (X Y : Int) (w : World) (hX : -1 ≤ X ∧ X ≤ 10) (hY : -1 ≤ Y ∧ Y ≤ 10) (hU : Hid (SeenB w g U)) (hs : w.cell? ⟨sb, 0, none⟩ = some (.int .u64 (S : Int))) {r : Bool} (hr : frB S U X Y = r) :
    Calls Try.prog 39 #[.int .i64 X, .int .i64 Y, .pointer (some ⟨g, 0, none⟩), .pointer (some ⟨sb, 0, none⟩)] w fun e w' => e = .returned (.bool r) ∧ Below w.heap.size w w' := by
  obtain ⟨X0, X1⟩ := hX
  obtain ⟨Y0, Y1⟩ := hY
  rcases Bool.eq_false_or_eq_true (inB X 0 9) with h1 | h1
  · rcases Bool.eq_false_or_eq_true (inB Y 0 9) with h2 | h2
    · obtain ⟨x, rfl⟩ : ∃ x : Nat, X = x := ⟨X.toNat, by have := inB_iff.1 h1; omega⟩
      obtain ⟨y, rfl⟩ : ∃ y : Nat, Y = y := ⟨Y.toNat, by have := inB_iff.1 h2; omega⟩
      have hx : x < 10 := by have := inB_iff.1 h1; omega
      have hy : y < 10 := by have := inB_iff.1 h2; omega
      obtain ⟨k, hk⟩ : ∃ k : Nat, k = y * 10 + x := ⟨_, rfl⟩
      have e3 : ((y : Int) * 10 + (x : Int)).toNat = k := by omega
      have hk1 : k < 100 := by omega
      have hkI : (y : Int) * 10 + (x : Int) = (k : Int) := by omega
      have hc := hU.out.cell hk1
      have hHK := Lib.hid hk
      clear hk
      rcases Bool.eq_false_or_eq_true (U k) with h3 | h3
      · rw [h3] at hc
        have hr' : r = false := by rw [← hr]; unfold frB; rw [h1, h2, e3, h3]; rfl
        subst hr'
        clear hr
        go_enter Try.func39, Try.ntmps39
        go_wp2_with (first | (go_at_call 40; refine (within_any _ _ _ _).mono ?_; rintro e w' ⟨rfl, rfl⟩))
        go_ret
        exact ⟨rfl, by repeat' (first | assumption | (with_reducible exact Below.refl _ _) | (with_reducible refine Below.drew ?_) | (with_reducible refine Below.alloc ?_ ?_ _) | (with_reducible refine Below.setCell ?_ ?_ _) | omega | (simp; done) | (simp; omega))⟩
      · rw [h3] at hc
        obtain ⟨b, hb⟩ : ∃ b, b = hasB S ((x : Int) - 1) ((y : Int) - 1) := ⟨_, rfl⟩
        have hr' : r = !b := by rw [← hr, hb]; unfold frB; rw [h1, h2, e3, h3]; rfl
        have HH := Lib.hid (fun W : World => has_valH S ((x : Int) - 1) ((y : Int) - 1) W HS hb.symm)
        subst hr'
        clear hr hb
        go_enter Try.func39, Try.ntmps39
        go_wp2_with (first | (go_at_call 40; refine (within_any _ _ _ _).mono ?_; rintro e w' ⟨rfl, rfl⟩) | (go_at_call 41; refine (HH.out _).mono ?_; rintro e w1 ⟨rfl, hbw1⟩; have hzw1 := hbw1.size; (try simp at hzw1); (try have hl0w_w1 : w.heap.size < w1.heap.size := by omega); (try have hl1w_w1 : w.heap.size + 1 < w1.heap.size := by omega); (try have hl2w_w1 : w.heap.size + 1 + 1 < w1.heap.size := by omega); (try have hl3w_w1 : w.heap.size + 1 + 1 + 1 < w1.heap.size := by omega); (first | (have hcw_w1 : ∀ b o, b ≤ w.heap.size + 6 → w1.cell? ⟨b, o, none⟩ = _ := fun b o h => hbw1.cell (p := ⟨b, o, none⟩) (by first | omega | (simp; omega)); have hfw_w1 : ∀ b o, b ≤ w.heap.size + 6 → w1.frozen? ⟨b, o, none⟩ = _ := fun b o h => hbw1.frozen (p := ⟨b, o, none⟩) (by first | omega | (simp; omega))) | (have hcw_w1 : ∀ b o, b ≤ w.heap.size + 5 → w1.cell? ⟨b, o, none⟩ = _ := fun b o h => hbw1.cell (p := ⟨b, o, none⟩) (by first | omega | (simp; omega)); have hfw_w1 : ∀ b o, b ≤ w.heap.size + 5 → w1.frozen? ⟨b, o, none⟩ = _ := fun b o h => hbw1.frozen (p := ⟨b, o, none⟩) (by first | omega | (simp; omega))) | (have hcw_w1 : ∀ b o, b ≤ w.heap.size + 4 → w1.cell? ⟨b, o, none⟩ = _ := fun b o h => hbw1.cell (p := ⟨b, o, none⟩) (by first | omega | (simp; omega)); have hfw_w1 : ∀ b o, b ≤ w.heap.size + 4 → w1.frozen? ⟨b, o, none⟩ = _ := fun b o h => hbw1.frozen (p := ⟨b, o, none⟩) (by first | omega | (simp; omega))) | (have hcw_w1 : ∀ b o, b ≤ w.heap.size + 3 → w1.cell? ⟨b, o, none⟩ = _ := fun b o h => hbw1.cell (p := ⟨b, o, none⟩) (by first | omega | (simp; omega)); have hfw_w1 : ∀ b o, b ≤ w.heap.size + 3 → w1.frozen? ⟨b, o, none⟩ = _ := fun b o h => hbw1.frozen (p := ⟨b, o, none⟩) (by first | omega | (simp; omega))) | (have hcw_w1 : ∀ b o, b ≤ w.heap.size + 2 → w1.cell? ⟨b, o, none⟩ = _ := fun b o h => hbw1.cell (p := ⟨b, o, none⟩) (by first | omega | (simp; omega)); have hfw_w1 : ∀ b o, b ≤ w.heap.size + 2 → w1.frozen? ⟨b, o, none⟩ = _ := fun b o h => hbw1.frozen (p := ⟨b, o, none⟩) (by first | omega | (simp; omega))) | (have hcw_w1 : ∀ b o, b ≤ w.heap.size + 1 → w1.cell? ⟨b, o, none⟩ = _ := fun b o h => hbw1.cell (p := ⟨b, o, none⟩) (by first | omega | (simp; omega)); have hfw_w1 : ∀ b o, b ≤ w.heap.size + 1 → w1.frozen? ⟨b, o, none⟩ = _ := fun b o h => hbw1.frozen (p := ⟨b, o, none⟩) (by first | omega | (simp; omega))) | (have hcw_w1 : ∀ b o, b ≤ w.heap.size + 0 → w1.cell? ⟨b, o, none⟩ = _ := fun b o h => hbw1.cell (p := ⟨b, o, none⟩) (by first | omega | (simp; omega)); have hfw_w1 : ∀ b o, b ≤ w.heap.size + 0 → w1.frozen? ⟨b, o, none⟩ = _ := fun b o h => hbw1.frozen (p := ⟨b, o, none⟩) (by first | omega | (simp; omega))) | skip); have hBw1 : Below w.heap.size w w1 := below_step hbw1 (by first | omega | (simp; done) | (simp; omega)) (by repeat' (first | assumption | (with_reducible exact Below.refl _ _) | (with_reducible refine Below.drew ?_) | (with_reducible refine Below.alloc ?_ ?_ _) | (with_reducible refine Below.setCell ?_ ?_ _) | omega | (simp; done) | (simp; omega))); clear hbw1))
        go_ret
        exact ⟨rfl, by repeat' (first | assumption | (with_reducible exact Below.refl _ _) | (with_reducible refine Below.drew ?_) | (with_reducible refine Below.alloc ?_ ?_ _) | (with_reducible refine Below.setCell ?_ ?_ _) | omega | (simp; done) | (simp; omega))⟩
    · have hr' : r = false := by rw [← hr]; unfold frB; rw [h1, h2]; rfl
      subst hr'
      clear hr
      go_enter Try.func39, Try.ntmps39
      go_wp2_with (first | (go_at_call 40; refine (within_any _ _ _ _).mono ?_; rintro e w' ⟨rfl, rfl⟩))
      go_ret
      exact ⟨rfl, by repeat' (first | assumption | (with_reducible exact Below.refl _ _) | (with_reducible refine Below.drew ?_) | (with_reducible refine Below.alloc ?_ ?_ _) | (with_reducible refine Below.setCell ?_ ?_ _) | omega | (simp; done) | (simp; omega))⟩
  · have hr' : r = false := by rw [← hr]; unfold frB; rw [h1]; rfl
    subst hr'
    clear hr
    go_enter Try.func39, Try.ntmps39
    go_wp2_with (first | (go_at_call 40; refine (within_any _ _ _ _).mono ?_; rintro e w' ⟨rfl, rfl⟩))
    go_ret
    exact ⟨rfl, by repeat' (first | assumption | (with_reducible exact Below.refl _ _) | (with_reducible refine Below.drew ?_) | (with_reducible refine Below.alloc ?_ ?_ _) | (with_reducible refine Below.setCell ?_ ?_ _) | omega | (simp; done) | (simp; omega))⟩
set_option maxHeartbeats 3200000 in
set_option maxRecDepth 100000 in
theorem markC_any (S g sb fb mb : Nat) (HS : Hid (S < 2 ^ 64)) (hg1 : ¬ sb = g) (hg2 : ¬ fb = g) (hg3 : ¬ mb = g) : ∀ (f : Nat) (U : Nat → Bool) (x y v : Nat) (w : World), opn S U ≤ f → x < 10 → y < 10 → v = y * 10 + x → free S.testBit v = true → U v = false → SeenB w g U →
    w.cell? ⟨sb, 0, none⟩ = some (.int .u64 (S : Int)) → w.cell? ⟨fb, 0, none⟩ = some (.func (.func 39) #[] #[.pointer (some ⟨g, 0, none⟩), .pointer (some ⟨sb, 0, none⟩)]) →
    w.cell? ⟨mb, 0, none⟩ = some (.func (.func 42) #[] #[.pointer (some ⟨g, 0, none⟩), .pointer (some ⟨fb, 0, none⟩), .pointer (some ⟨mb, 0, none⟩)]) →
    Calls Try.prog 42 #[.int .i64 (x : Int), .int .i64 (y : Int), .pointer (some ⟨g, 0, none⟩), .pointer (some ⟨fb, 0, none⟩), .pointer (some ⟨mb, 0, none⟩)] w fun e w' => e = .returned (.tuple #[]) ∧ ∃ U', Fill S v U U' ∧ SeenB w' g U' ∧ KeptBut g w w' := by
  intro f
  induction f with
  | zero =>
    intro U x y v w ho hx hy hv hf hu
    have := opn_one (S := S) (v := v) (U := U) (by omega) hf hu
    omega
  | succ f ih =>
    intro U x y v w ho hx hy hv hf hu hU hcs hcf hcm
    have hv1 : v < 100 := by omega
    have HU1 := Lib.hid (hU.set_ hv1)
    have hfz := hU.frozen v
    have hcv := hU.cell hv1
    have hgl := hU.lt
    have hsl : sb < w.heap.size := World.block_lt_of_cell? w _ hcs
    have hfl : fb < w.heap.size := World.block_lt_of_cell? w _ hcf
    have hml : mb < w.heap.size := World.block_lt_of_cell? w _ hcm
    have hvI : (y : Int) * 10 + (x : Int) = (v : Int) := by omega
    have HO : Hid (opn S (mk1 U v) ≤ f) := Lib.hid (by have := opn_one (S := S) (v := v) (U := U) (by omega) hf hu; omega)
    have HV := Lib.hid hv
    have HF := Lib.hid hf
    have HIH := Lib.hid ih
    have hg4 : ¬ g = sb := fun h => hg1 h.symm
    have hg5 : ¬ g = fb := fun h => hg2 h.symm
    have hg6 : ¬ g = mb := fun h => hg3 h.symm
    rw [hu] at hcv
    have HUv := Lib.hid hu
    clear ih ho hv hf hu hU
    go_enter Try.func42, Try.ntmps42
    go_wp2_with fail
    have HK1 : Hid (KeptBut g w (w.setCell ⟨g, v, none⟩ (.bool true))) := Lib.hid ((KeptBut.refl g w).set_ v _)
    go_loopw [7] (fun i wr => ∃ (a : Nat) (dy : Int) (Uc : Nat → Bool), a ≤ 3 ∧ i = .int .i64 dy ∧ Hid (dy = (a : Int) - 1) ∧ -1 ≤ dy ∧ dy ≤ 2 ∧ Hid (Mid S v (mk1 U v) Uc (3 * a)) ∧ Hid (SeenB wr g Uc) ∧ Hid (KeptBut g w wr)) (fun i _ => (2 - intOf i).toNat)
    case atStart => exact ⟨0, -1, _, by omega, rfl, Lib.hid (by omega), by omega, by omega, Lib.hid (mid_start _ _ _), HU1, HK1⟩
    case round =>
      clear HU1 HK1 hcv hfz
      obtain ⟨a, dy, Uc, ha, rfl, HD, hd0, hd2, HM, HUr, HK⟩ := hrel
      by_cases hlt : dy ≤ 1
      · have ha3 : a < 3 := by have := HD.out; omega
        go_wp2_with fail
        go_loopw [8] (fun i wr => ∃ (b : Nat) (dx : Int) (Uc : Nat → Bool), b ≤ 3 ∧ i = .int .i64 dx ∧ Hid (dx = (b : Int) - 1) ∧ -1 ≤ dx ∧ dx ≤ 2 ∧ Hid (Mid S v (mk1 U v) Uc (3 * a + b)) ∧ Hid (SeenB wr g Uc) ∧ Hid (KeptBut g w wr)) (fun i _ => (2 - intOf i).toNat)
        case atStart => exact ⟨0, -1, Uc, by omega, rfl, Lib.hid (by omega), by omega, by omega, HM, HUr, HK⟩
        case round =>
          clear HM HUr HK
          obtain ⟨b, dx, Ud, hb, rfl, HDx, hx0, hx2, HM, HUr, HK⟩ := hrel
          have hcs1 := (HK.out.cell (p := ⟨sb, 0, none⟩) hsl hg1).trans hcs
          have hcf1 := (HK.out.cell (p := ⟨fb, 0, none⟩) hfl hg2).trans hcf
          have hcm1 := (HK.out.cell (p := ⟨mb, 0, none⟩) hml hg3).trans hcm
          by_cases hlt2 : dx ≤ 1
          · have hb3 : b < 3 := by have := HDx.out; omega
            have hsz := HK.out.size
            have hgr : g < wr.heap.size := by omega
            rcases Bool.eq_false_or_eq_true (frB S Ud ((x : Int) + dx) ((y : Int) + dy)) with hr | hr
            · have HFR := Lib.hid (fun W (h1 : Hid (SeenB W g Ud)) (h2 : W.cell? ⟨sb, 0, none⟩ = some (.int .u64 (S : Int))) => freeC_any S HS Ud g sb ((x : Int) + dx) ((y : Int) + dy) W (by omega) (by omega) h1 h2 hr)
              obtain ⟨t, ht, ht1, ht2, hnb, hft, hut⟩ := fr_yes HV.out hx hy ha3 hb3 HDx.out HD.out hr
              have HMK := Lib.hid (fun W (h1 : SeenB W g Ud) (h2 : W.cell? ⟨sb, 0, none⟩ = some (.int .u64 (S : Int))) h3 h4 => HIH.out Ud (t % 10) (t / 10) t W (by have := opn_mono (S := S) HM.out.1; have := HO.out; omega) (by omega) (by omega) (by omega) hft hut h1 h2 h3 h4)
              rw [← ht1, ← ht2] at HMK
              have HNX := Lib.hid (fun U' => mid_fill hv1 HF.out HM.out (by omega) hnb ht hft (U' := U'))
              clear hr ht ht1 ht2 hnb hft hut
              go_wp2_with (go_at_call 39; fail)
              refine (HFR.out _ HUr (by assumption)).mono ?_
              rintro e w2 ⟨rfl, hb⟩
              have hcs2 := (hb.cell (p := ⟨sb, 0, none⟩) (by simp; omega)).trans hcs1
              have hcf2 := (hb.cell (p := ⟨fb, 0, none⟩) (by simp; omega)).trans hcf1
              have hcm2 := (hb.cell (p := ⟨mb, 0, none⟩) (by simp; omega)).trans hcm1
              have HU2 := Lib.hid (HUr.out.next hb)
              have HK2 := Lib.hid (HK.out.next hb)
              clear hb
              go_wp2_with (go_at_call 42; fail)
              refine (HMK.out _ HU2.out hcs2 hcf2 hcm2).mono ?_
              rintro e w3 ⟨rfl, U', hFl, hU3, hK3⟩
              have HM3 := Lib.hid (HNX.out U' hFl)
              have HU3 := Lib.hid hU3
              have HK3 := Lib.hid (HK2.out.trans hK3)
              clear hFl hU3 hK3
              go_wp2_with fail
              go_roundw
              case rel => exact ⟨b + 1, dx + 1, U', by omega, by go_num, Lib.hid (by have := HDx.out; omega), by omega, by omega, HM3, HU3, HK3⟩
              case measure => simp [intOf]; omega
            · have HFR := Lib.hid (fun W (h1 : Hid (SeenB W g Ud)) (h2 : W.cell? ⟨sb, 0, none⟩ = some (.int .u64 (S : Int))) => freeC_any S HS Ud g sb ((x : Int) + dx) ((y : Int) + dy) W (by omega) (by omega) h1 h2 hr)
              have HM3 := Lib.hid (mid_skip HM.out (fr_no HV.out hx hy ha3 hb3 HDx.out HD.out hr))
              clear hr
              go_wp2_with (go_at_call 39; fail)
              refine (HFR.out _ HUr (by assumption)).mono ?_
              rintro e w2 ⟨rfl, hb⟩
              have HU2 := Lib.hid (HUr.out.next hb)
              have HK2 := Lib.hid (HK.out.next hb)
              clear hb
              go_wp2_with fail
              go_roundw
              case rel => exact ⟨b + 1, dx + 1, Ud, by omega, by go_num, Lib.hid (by have := HDx.out; omega), by omega, by omega, HM3, HU2, HK2⟩
              case measure => simp [intOf]; omega
          · have hb3 : b = 3 := by have := HDx.out; omega
            have HM3 : Hid (Mid S v (mk1 U v) Ud (3 * (a + 1))) := Lib.hid (by have := HM.out; rw [hb3] at this; exact this)
            go_wp2_with fail
            go_roundw
            case rel => exact ⟨a + 1, dy + 1, Ud, by omega, by go_num, Lib.hid (by have := HD.out; omega), by omega, by omega, HM3, HUr, HK⟩
            case measure => simp [intOf]; omega
      · have ha3 : a = 3 := by have := HD.out; omega
        have HFin := Lib.hid (mid_end hv1 HF.out (by have := HM.out; rw [ha3] at this; exact this))
        go_wp2_with fail
        go_end0
        exact ⟨rfl, Uc, HFin.out, HUr.out, HK.out⟩
end Go.Proofs.Ytghakmhglneckaa
