/-
  Contracts of the law's helpers that write into a result and look at it again.
-/
import Derived.Test.YtghakmhglneckaaRegI
import Derived.Test.YtghakmhglneckaaCountB
namespace Go.Proofs.Ytghakmhglneckaa
open Go.RowKit
set_option linter.unusedVariables false
set_option linter.unusedSimpArgs false

/-- The numbers from 1 on, as cells. -/
def MK (m : Nat) : List Value := (List.range m).map fun i : Nat => Value.int .i64 (1 + (i : Int))
theorem MK_len (m : Nat) : (MK m).length = m := by simp [MK]
theorem MK_at {m i : Nat} (h : i < m) : (MK m)[i]? = some (.int .i64 (1 + (i : Int))) := by simp [MK, h]
theorem MK_succ (m : Nat) : MK (m + 1) = MK m ++ [.int .i64 (1 + (m : Int))] := by simp [MK, List.range_succ]
theorem mk_set {xs : List Value} {j : Nat} (hj : j < xs.length) (h : xs.take j = MK j) : (xs.set j (.int .i64 (1 + (j : Int)))).take (j + 1) = MK (j + 1) := by
  rw [MK_succ, ← h, List.take_add_one, List.take_set]
  simp [List.getElem?_set, hj]
  rw [List.set_eq_of_length_le (by rw [List.length_take]; omega)]
theorem gb_set {a w : World} {g : Nat} (h : a.grownBy w (some g)) (o : Nat) (u : Value) : a.grownBy (w.setCell ⟨g, o, none⟩ u) (some g) :=
  ⟨h.os, h.tape, h.output, by simpa [World.setCell] using h.size, fun i hi hne => (Below.heap_setCell w ⟨g, o, none⟩ u i (by rintro rfl; exact hne rfl)).trans (h.block i hi hne)⟩
theorem gb_alloc {a w : World} {r : Option Nat} (h : a.grownBy w r) (o : Obj) : a.grownBy (w.alloc o) r :=
  ⟨h.os, h.tape, h.output, Nat.le_trans h.size (by simp), fun i hi hne => (Below.heap_alloc w o i (Nat.lt_of_lt_of_le hi h.size)).trans (h.block i hi hne)⟩
theorem gb_step {a w w' : World} {r : Option Nat} (h : a.grownBy w r) (hg : w.grownBy w' r) : a.grownBy w' r :=
  ⟨hg.os.trans h.os, hg.tape.trans h.tape, hg.output.trans h.output, Nat.le_trans h.size hg.size, fun i hi hne => (hg.block i (Nat.lt_of_lt_of_le hi h.size) hne).trans (h.block i hi hne)⟩
theorem gb_below {a w : World} {g B : Nat} (h : a.grownBy w (some g)) (hB : B ≤ g) (hs : B ≤ a.heap.size) : Below B a w := (Below.refl _ _).grown h hs (fun k hk => by cases hk; exact hB)

set_option maxRecDepth 100000 in
theorem markIntS_any (g n c : Nat) (B : Nat) (xs : List Value) (w : World) (hn : n ≤ 1048576) (ho : w.ownsRow B 3 1 (.slice (some ⟨g, 0, none⟩) n c) n xs) :
    Calls Try.prog 52 #[.slice (some ⟨g, 0, none⟩) n c, .int .i64 1] w fun e w' => e = .returned (.int .i64 (1 + (n : Int))) ∧ w'.ownsRow B 3 1 (.slice (some ⟨g, 0, none⟩) n c) n (MK n) ∧ w.grownBy w' (some g) := by
  go_enter Try.func52, Try.ntmps52
  go_wp2
  go_loopw [1, 5] (fun s i wr => ∃ (k : Nat) (ys : List Value), k ≤ n ∧ i = .int .i64 k ∧ s = .int .i64 (1 + (k : Int)) ∧ wr.ownsRow B 3 1 (.slice (some ⟨g, 0, none⟩) n c) n ys ∧ Hid (ys.take k = MK k) ∧ w.grownBy wr (some g)) (fun _ i _ => n - (intOf i).toNat)
  case atStart => exact ⟨0, xs, Nat.zero_le _, rfl, rfl, ho, Lib.hid (by simp [MK]), World.grownBy.refl _ _⟩
  case round =>
    obtain ⟨k, ys, hk, rfl, rfl, hown, hX, hG⟩ := hrel
    have hl := hown.1
    by_cases hlt : k < n
    · have hc := hown.cellAt k (by omega)
      have hf := hown.frozenAt k
      have hk' : k < ys.length := by omega
      rw [List.getElem?_eq_getElem hk'] at hc
      obtain ⟨u, hu⟩ : ∃ u, u = ys[k] := ⟨_, rfl⟩
      rw [← hu] at hc
      have HST := Lib.hid (hown.stored k (.int .i64 (1 + (k : Int)))).1
      have HX : Hid ((ys.set k (.int .i64 (1 + (k : Int)))).take (k + 1) = MK (k + 1)) := Lib.hid (mk_set hk' hX.out)
      clear hu hl hown hk' ho
      go_wp2
      go_roundw
      case rel => exact ⟨k + 1, _, by omega, by go_num, congrArg (Value.int .i64) (by omega), HST.out, HX, gb_set hG _ _⟩
      case measure => simp [intOf]; omega
    · have hkn : k = n := by omega
      have HX : Hid (ys = MK n) := Lib.hid (by have h := hX.out; rwa [hkn, List.take_of_length_le (by omega)] at h)
      have HO := Lib.hid hown
      have HK := Lib.hid hkn
      clear hkn hl hown ho
      go_wp2
      go_ret
      exact ⟨ret_i (by rw [HK.out]), by rw [← HX.out]; exact HO.out, hG⟩
theorem markRegion_any (g n c : Nat) (B : Nat) (xs : List Value) (w : World) (hn : n ≤ 1048576) (ho : w.ownsRow B 3 1 (.slice (some ⟨g, 0, none⟩) n c) n xs) :
    Calls Try.prog 19 #[.agg #[.slice (some ⟨g, 0, none⟩) n c], .int .i64 1] w fun e w' => e = .returned (.int .i64 (1 + (n : Int))) ∧ w'.ownsRow B 3 1 (.slice (some ⟨g, 0, none⟩) n c) n (MK n) ∧ w.grownBy w' (some g) := by
  have H := Lib.hid (fun o : Obj => markIntS_any g n c B xs (w.alloc o) hn (ho.alloc o))
  clear ho
  go_enter Try.func19, Try.ntmps19
  go_wp2_with (go_at_call 52; refine (H.out _).mono ?_; rintro e w1 ⟨rfl, ho1, hg1⟩; have HO := Lib.hid ho1; have HG : Hid (w.grownBy w1 (some g)) := Lib.hid (gb_step (gb_alloc (World.grownBy.refl _ _) _) hg1); clear ho1 hg1)
  go_ret
  exact ⟨rfl, HO.out, HG.out⟩

theorem eqCell_same (x y : Int) (w : World) :
    Calls Try.prog 51 #[.agg #[.int .i64 x, .int .i64 y], .agg #[.int .i64 x, .int .i64 y]] w fun e w' => e = .returned (.bool true) ∧ Below w.heap.size w w' := by
  have := eqCell_any x y x y w
  simpa using this
set_option maxHeartbeats 800000 in
set_option maxRecDepth 100000 in
theorem eqCellS_same (a b : Option Addr) (n c d : Nat) (L : List (Int × Int)) (w : World) (hz : L.length = n) (hn : n ≤ 1048576) (hr : Rd w a (flatC L)) (hs : Rd w b (flatC L)) :
    Calls Try.prog 18 #[.slice a n c, .slice b n d] w fun e w' => e = .returned (.bool true) ∧ Below w.heap.size w w' := by
  have HZ := Lib.hid hz
  clear hz
  go_enter Try.func18, Try.ntmps18
  go_wp2
  go_loopw [5] (fun i wr => ∃ k : Nat, k ≤ n ∧ i = .int .i64 k ∧ Below w.heap.size w wr) (fun i _ => n - (intOf i).toNat)
  case atStart => exact ⟨0, Nat.zero_le _, rfl, Below.refl _ _⟩
  case round =>
    obtain ⟨k, hk, rfl, hB⟩ := hrel
    have hsz := hB.size
    by_cases hlt : k < n
    · obtain ⟨b1, off1, x, y, rfl, hb1, hcx1, hcy1, hv1⟩ := RdC_at (Rd.below hr hB) (k := k) (by rw [HZ.out]; exact hlt)
      obtain ⟨b2, off2, x', y', rfl, hb2, hcx2, hcy2, hv2⟩ := RdC_at (Rd.below hs hB) (k := k) (by rw [HZ.out]; exact hlt)
      obtain ⟨rfl, rfl⟩ : x = x' ∧ y = y' := by have h1 := hv1.out; rw [hv2.out] at h1; have := Option.some.inj h1; simp at this; exact ⟨this.1.symm, this.2.symm⟩
      have HR := Lib.hid hr
      have HS := Lib.hid hs
      clear hr hs hv2 hv1
      go_wp2
      refine hold_start (S := (fun w' => w'.cell? ⟨b1, off1 + k * 2, none⟩ = some (.int .i64 x) ∧ w'.cell? ⟨b1, off1 + k * 2 + 1, none⟩ = some (.int .i64 y) ∧ w'.cell? ⟨b2, off2 + k * 2, none⟩ = some (.int .i64 x) ∧ w'.cell? ⟨b2, off2 + k * 2 + 1, none⟩ = some (.int .i64 y) ∧ Below w.heap.size w w' ∧ wr.heap.size ≤ w'.heap.size)) (by kernel_rfl) (by kernel_rfl) (by intro _ _ d _ _ h; cases d <;> exact h) ?_ (fun hHC hH0 => ?_)
      · (first | (go_keep; done) | ((try go_split_ands); (repeat' apply And.intro) <;> first | assumption | (with_reducible refine Rd.below ?_ hb1; assumption) | (with_reducible refine Rd.drew ?_; repeat' (first | assumption | (with_reducible refine Rd.alloc ?_ _))) | (refine (hb1.cell (by first | omega | (simp; done) | (simp; omega))).trans ?_; first | assumption | simp) | (exact below_step hb1 (by first | omega | (simp; done) | (simp; omega)) (by assumption)) | (have hz' := hb1.size; (try simp at hz'); omega) | ((repeat' (first | assumption | (with_reducible exact Below.refl _ _) | (with_reducible refine Below.drew ?_) | (with_reducible refine Below.alloc ?_ ?_ _) | (with_reducible refine Below.setCell ?_ ?_ _) | omega | (simp; done) | (simp; omega))); done) | go_simp | (simp; done) | (simp; omega)))
      refine hold_plain 0 (v := ?_) hHC hH0 (by simp only [List.getElem?_toArray, List.getElem?_cons_succ, List.getElem?_cons_zero]; rfl) rfl (by kernel_rfl) ?_ ?_
      rotate_left 1
      · (intro w hSw; (try dsimp only at hSw); go_simp; try with_reducible rfl)
      try simp only [Act.put, List.setIfInBounds_toArray, List.set_cons_zero, List.set_cons_succ]
      refine hold_plain 1 (v := ?_) hHC hH0 (by simp only [List.getElem?_toArray, List.getElem?_cons_succ, List.getElem?_cons_zero]; rfl) rfl (by kernel_rfl) ?_ ?_
      rotate_left 1
      · (intro w hSw; (try dsimp only at hSw); go_simp; try with_reducible rfl)
      try simp only [Act.put, List.setIfInBounds_toArray, List.set_cons_zero, List.set_cons_succ]
      refine hold_plain 2 (v := ?_) hHC hH0 (by simp only [List.getElem?_toArray, List.getElem?_cons_succ, List.getElem?_cons_zero]; rfl) rfl (by kernel_rfl) ?_ ?_
      rotate_left 1
      · (intro w hSw; (try dsimp only at hSw); go_simp; try with_reducible rfl)
      try simp only [Act.put, List.setIfInBounds_toArray, List.set_cons_zero, List.set_cons_succ]
      refine hold_plain 3 (v := ?_) hHC hH0 (by simp only [List.getElem?_toArray, List.getElem?_cons_succ, List.getElem?_cons_zero]; rfl) rfl (by kernel_rfl) ?_ ?_
      rotate_left 1
      · (intro w hSw; (try dsimp only at hSw); go_simp; try with_reducible rfl)
      try simp only [Act.put, List.setIfInBounds_toArray, List.set_cons_zero, List.set_cons_succ]
      refine hold_plain 4 (v := ?_) hHC hH0 (by simp only [List.getElem?_toArray, List.getElem?_cons_succ, List.getElem?_cons_zero]; rfl) rfl (by kernel_rfl) ?_ ?_
      rotate_left 1
      · (intro w hSw; (try dsimp only at hSw); go_simp; try with_reducible rfl)
      try simp only [Act.put, List.setIfInBounds_toArray, List.set_cons_zero, List.set_cons_succ]
      refine hold_plain 5 (v := ?_) hHC hH0 (by simp only [List.getElem?_toArray, List.getElem?_cons_succ, List.getElem?_cons_zero]; rfl) rfl (by kernel_rfl) ?_ ?_
      rotate_left 1
      · (intro w hSw; (try dsimp only at hSw); go_simp; try with_reducible rfl)
      try simp only [Act.put, List.setIfInBounds_toArray, List.set_cons_zero, List.set_cons_succ]
      refine hold_plain 6 (v := ?_) hHC hH0 (by simp only [List.getElem?_toArray, List.getElem?_cons_succ, List.getElem?_cons_zero]; rfl) rfl (by kernel_rfl) ?_ ?_
      rotate_left 1
      · (intro w hSw; (try dsimp only at hSw); go_simp; try with_reducible rfl)
      try simp only [Act.put, List.setIfInBounds_toArray, List.set_cons_zero, List.set_cons_succ]
      refine hold_plain 7 (v := ?_) hHC hH0 (by simp only [List.getElem?_toArray, List.getElem?_cons_succ, List.getElem?_cons_zero]; rfl) rfl (by kernel_rfl) ?_ ?_
      rotate_left 1
      · (intro w hSw; (try dsimp only at hSw); go_simp; try with_reducible rfl)
      try simp only [Act.put, List.setIfInBounds_toArray, List.set_cons_zero, List.set_cons_succ]
      refine hold_call0 8 (by simp only [List.getElem?_toArray, List.getElem?_cons_succ, List.getElem?_cons_zero]; rfl) rfl (by kernel_rfl) (fun K hK => ?_)
      go_simp
      (go_at_call 51; refine (eqCell_same _ _ _).mono ?_; rintro e w1 ⟨rfl, hb1'⟩; have hb1 := hb1')
      refine hK.out _ _ ?_ (fun hH1 => ?_)
      · (first | (go_keep; done) | ((try go_split_ands); (repeat' apply And.intro) <;> first | assumption | (with_reducible refine Rd.below ?_ hb1; assumption) | (with_reducible refine Rd.drew ?_; repeat' (first | assumption | (with_reducible refine Rd.alloc ?_ _))) | (refine (hb1.cell (by first | omega | (simp; done) | (simp; omega))).trans ?_; first | assumption | simp) | (exact below_step hb1 (by first | omega | (simp; done) | (simp; omega)) (by assumption)) | (have hz' := hb1.size; (try simp at hz'); omega) | ((repeat' (first | assumption | (with_reducible exact Below.refl _ _) | (with_reducible refine Below.drew ?_) | (with_reducible refine Below.alloc ?_ ?_ _) | (with_reducible refine Below.setCell ?_ ?_ _) | omega | (simp; done) | (simp; omega))); done) | go_simp | (simp; done) | (simp; omega)))
      clear hK K hH0
      try simp only [Act.put, List.setIfInBounds_toArray, List.set_cons_zero, List.set_cons_succ]
      refine hold_plain 9 (v := ?_) hHC hH1 (by simp only [List.getElem?_toArray, List.getElem?_cons_succ, List.getElem?_cons_zero]; rfl) rfl (by kernel_rfl) ?_ ?_
      rotate_left 1
      · (intro w hSw; (try dsimp only at hSw); go_simp; try with_reducible rfl)
      try simp only [Act.put, List.setIfInBounds_toArray, List.set_cons_zero, List.set_cons_succ]
      refine wpAnyH_done (by kernel_rfl) ?_ _
      (try dsimp only at hH1)
      go_split_ands
      clear hHC
      go_wp2
      go_roundw
      case rel => exact ⟨k + 1, by omega, by go_num, by assumption⟩
      case measure => simp [intOf]; omega
    · clear hr hs
      go_wp2
      go_ret
      exact ⟨rfl, hB⟩
set_option maxRecDepth 100000 in
theorem markCellS_any (a : Option Addr) (n c : Nat) (B : Nat) (xs : List Value) (w : World) (hn : n ≤ 1048576) (ho : w.ownsRow B 35 2 (.slice a n c) n xs) :
    Calls Try.prog 20 #[.slice a n c, .int .i64 1] w fun e w' => e = .returned (.int .i64 (1 + ((2 * n : Nat) : Int))) ∧ w'.ownsRow B 35 2 (.slice a n c) n (MK (2 * n)) ∧ w.grownBy w' (Value.slice a n c).ownBlock := by
  go_enter Try.func20, Try.ntmps20
  go_wp2
  go_loopw [1, 5] (fun s i wr => ∃ (k : Nat) (ys : List Value), k ≤ n ∧ i = .int .i64 k ∧ s = .int .i64 (1 + ((2 * k : Nat) : Int)) ∧ wr.ownsRow B 35 2 (.slice a n c) n ys ∧ Hid (ys.take (2 * k) = MK (2 * k)) ∧ w.grownBy wr (Value.slice a n c).ownBlock) (fun _ i _ => n - (intOf i).toNat)
  case atStart => exact ⟨0, xs, Nat.zero_le _, rfl, rfl, ho, Lib.hid (by simp [MK]), World.grownBy.refl _ _⟩
  case round =>
    obtain ⟨k, ys, hk, rfl, rfl, hown, hX, hG⟩ := hrel
    have hl := hown.1
    by_cases hlt : k < n
    · obtain ⟨g, rfl⟩ : ∃ g, a = some ⟨g, 0, none⟩ := by
        rcases hown.2 with ⟨hv, h0⟩ | ⟨g, cap, cur, hv, _⟩
        · omega
        · exact ⟨g, by injection hv⟩
      have hc := hown.cellAt (k * 2) (by omega)
      have hc' := hown.cellAt (k * 2 + 1) (by omega)
      have hf := hown.frozenAt (k * 2)
      have hf' := hown.frozenAt (k * 2 + 1)
      have hk1 : k * 2 < ys.length := by omega
      have hk2 : k * 2 + 1 < ys.length := by omega
      rw [List.getElem?_eq_getElem hk1] at hc
      rw [List.getElem?_eq_getElem hk2] at hc'
      obtain ⟨u, hu⟩ : ∃ u, u = ys[k * 2] := ⟨_, rfl⟩
      obtain ⟨u', hu'⟩ : ∃ u, u = ys[k * 2 + 1] := ⟨_, rfl⟩
      rw [← hu] at hc
      rw [← hu'] at hc'
      have HST := Lib.hid ((hown.stored (k * 2) (.int .i64 (1 + ((k * 2 : Nat) : Int)))).1.stored (k * 2 + 1) (.int .i64 (1 + ((k * 2 + 1 : Nat) : Int)))).1
      have HX : Hid (((ys.set (k * 2) (.int .i64 (1 + ((k * 2 : Nat) : Int)))).set (k * 2 + 1) (.int .i64 (1 + ((k * 2 + 1 : Nat) : Int)))).take (2 * (k + 1)) = MK (2 * (k + 1))) :=
        Lib.hid (by
          have h1 := mk_set hk1 (by have := hX.out; rwa [Nat.mul_comm] at this)
          have h2 := mk_set (xs := ys.set (k * 2) (.int .i64 (1 + ((k * 2 : Nat) : Int)))) (j := k * 2 + 1) (by simpa using hk2) h1
          rw [show 2 * (k + 1) = k * 2 + 1 + 1 by omega]
          exact h2)
      have e1 : (1 + ((k * 2 : Nat) : Int)) = 1 + 2 * (k : Int) := by omega
      have e2 : (1 + ((k * 2 + 1 : Nat) : Int)) = 1 + 2 * (k : Int) + 1 := by omega
      rw [e1, e2] at HST HX
      clear hu hu' hl hown hk1 hk2 ho e1 e2
      go_wp2
      go_roundw
      case rel => exact ⟨k + 1, _, by omega, by go_num, congrArg (Value.int .i64) (by omega), HST.out, HX, gb_set (gb_set hG _ _) _ _⟩
      case measure => simp [intOf]; omega
    · have hkn : k = n := by omega
      have HX : Hid (ys = MK (2 * n)) := Lib.hid (by have h := hX.out; rwa [hkn, List.take_of_length_le (by omega)] at h)
      have HO := Lib.hid hown
      have HK := Lib.hid hkn
      clear hkn hl hown ho
      go_wp2
      go_ret
      exact ⟨ret_i (by rw [HK.out]), by rw [← HX.out]; exact HO.out, hG⟩
set_option maxRecDepth 100000 in
theorem heldCellS_any (a : Option Addr) (n c : Nat) (w : World) (hn : n ≤ 1048576) (hr : Rd w a (MK (2 * n))) :
    Calls Try.prog 21 #[.slice a n c, .int .i64 1] w fun e w' => e = .returned (.int .i64 (1 + ((2 * n : Nat) : Int))) ∧ w = w' := by
  go_enter Try.func21, Try.ntmps21
  go_wp2
  go_loop [1, 5] (fun s i => ∃ k : Nat, k ≤ n ∧ i = .int .i64 k ∧ s = .int .i64 (1 + ((2 * k : Nat) : Int))) (fun _ i => n - (intOf i).toNat)
  case atStart => exact ⟨0, Nat.zero_le _, rfl, rfl⟩
  case round =>
    obtain ⟨k, hk, rfl, rfl⟩ := hrel
    by_cases hlt : k < n
    · have HC : ∃ b off, a = some ⟨b, off, none⟩ ∧ b < w.heap.size ∧ w.cell? ⟨b, off + k * 2, none⟩ = some (.int .i64 (1 + 2 * (k : Int))) ∧ w.cell? ⟨b, off + k * 2 + 1, none⟩ = some (.int .i64 (1 + 2 * (k : Int) + 1)) := by
        have hm := MK_len (2 * n)
        rcases hr with h0 | ⟨b, off, h3, h4, h5⟩
        · rw [h0] at hm; simp at hm; omega
        · refine ⟨b, off, h3, h4, ?_, ?_⟩
          · rw [h5 (k * 2) (by omega), MK_at (by omega)]; congr 2; omega
          · rw [Nat.add_assoc, h5 (k * 2 + 1) (by omega), MK_at (by omega)]; congr 2; omega
      obtain ⟨b, off, rfl, hb, hcell, hcell'⟩ := HC
      clear hr
      go_wp2
      go_round
      case rel => exact ⟨k + 1, by omega, by go_num, congrArg (Value.int .i64) (by omega)⟩
      case measure => simp [intOf]; omega
    · have hkn : k = n := by omega
      have HK := Lib.hid hkn
      clear hr hkn
      go_wp2
      go_ret
      exact ⟨ret_i (by rw [HK.out]), rfl⟩
end Go.Proofs.Ytghakmhglneckaa
