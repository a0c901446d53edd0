/-
  The reference's number of pieces.
-/
import Derived.Test.YtghakmhglneckaaPcI
import Derived.Test.YtghakmhglneckaaPieceS
namespace Go.Proofs.Ytghakmhglneckaa
open Go.RowKit Plain
set_option linter.unusedVariables false
set_option linter.unusedSimpArgs false

/-- A cell is the first of its piece. -/
def fstB (zs : List Int) (p : Int × Int) : Bool := decide ((pieceL zs p.1 p.2)[0]? = some p)
theorem range_first {n : Nat} {p : Nat → Bool} {i : Nat} (hi : i < n) (hp : p i = true) : ((List.range n).filter p)[0]? = some i ↔ ∀ u, u < i → p u = false := by
  have e : ((List.range n).filter p)[0]? = (List.range n).find? p := by rw [← List.head?_eq_getElem?, List.head?_filter]
  rw [e, List.find?_range_eq_some]
  constructor
  · rintro ⟨_, _, h⟩ u hu
    simpa using h u hu
  · intro h
    exact ⟨hp, by simpa using hi, fun u hu => by simpa using h u hu⟩
theorem fst_min {zs : List Int} (hok : rokB zs = true) {i : Nat} (hi : i < 64) (hb : (setS zs).testBit i = true) : fstB zs (cellOf i) = isMin (es4 (setS zs)) i := by
  have hh : hcB zs (cellOf i).1 (cellOf i).2 = true := by rw [hcB_yes hok, hasB_at hi]; exact hb
  have hP := Part.self (setS zs)
  unfold fstB pieceL
  rw [if_pos hh, List.getElem?_map, Bool.eq_iff_iff, decide_eq_true_eq, isMin_iff]
  have hfe : ((List.range 64).filter fun j => decide (cellOf j ∈ bfsR (setS zs) ((cellOf i).1, (cellOf i).2))) = (List.range 64).filter fun j => labs (es4 (setS zs)) j == labs (es4 (setS zs)) i :=
    List.filter_congr fun j hj => bfs_class hP hi hb (List.mem_range.1 hj)
  rw [hfe]
  have h2 := range_first (n := 64) (p := fun j => labs (es4 (setS zs)) j == labs (es4 (setS zs)) i) hi (by simp)
  constructor
  · intro h
    cases hq : ((List.range 64).filter fun j => labs (es4 (setS zs)) j == labs (es4 (setS zs)) i)[0]? with
    | none => rw [hq] at h; cases h
    | some q =>
      rw [hq] at h
      have hq64 : q < 64 := by have := List.mem_of_getElem? hq; rw [List.mem_filter, List.mem_range] at this; exact this.1
      have : cellOf q = cellOf i := by simpa using h
      have := cell_inj hq64 hi this
      subst this
      intro u hu he
      have := h2.1 hq u hu
      rw [he] at this
      simp at this
  · intro h
    rw [h2.2 (fun u hu => by simpa using h u hu)]
    rfl
theorem fst_count {zs : List Int} : ((coL zs).filter (fstB zs)).length = pcB zs := by
  by_cases hok : rokB zs = true
  · rw [coL_yes hok]
    unfold pcB
    rw [if_pos hok, ← pcN_mins]
    unfold cellsL cellsK cnt
    rw [List.filter_map, List.length_map, List.filter_filter]
    congr 1
    refine List.filter_congr fun i hi => ?_
    have hi := List.mem_range.1 hi
    cases hb : (setS zs).testBit i with
    | false => simp
    | true => simp [fst_min hok hi hb]
  · rw [coL_no (by simpa using hok)]
    unfold pcB
    rw [if_neg hok]
    rfl
theorem piece_ne {zs : List Int} {p : Int × Int} (h : p ∈ coL zs) : 0 < (pieceL zs p.1 p.2).length := by
  by_cases hok : rokB zs = true
  · rw [coL_yes hok] at h
    obtain ⟨i, hi, rfl⟩ := List.mem_map.1 h
    rw [List.mem_filter, List.mem_range] at hi
    have hh : hcB zs (cellOf i).1 (cellOf i).2 = true := by rw [hcB_yes hok, hasB_at hi.1]; exact hi.2
    unfold pieceL
    rw [if_pos hh, List.length_map]
    refine List.length_pos_of_mem (a := i) ?_
    rw [List.mem_filter, List.mem_range]
    exact ⟨hi.1, decide_eq_true (bfs_start (setS zs) (cellOf i) 64)⟩
  · rw [coL_no (by simpa using hok)] at h
    cases h
/-- Those that are first of their pieces. -/
def fsts (zs : List Int) (L : List (Int × Int)) : Nat := (L.filter (fstB zs)).length
theorem fsts_yes {zs : List Int} {L : List (Int × Int)} {k : Nat} {p : Int × Int} (h : L[k]? = some p) (hb : fstB zs p = true) : fsts zs (L.take (k + 1)) = fsts zs (L.take k) + 1 := by
  rw [take_one h]; simp [fsts, List.filter_append, hb]
theorem fsts_no {zs : List Int} {L : List (Int × Int)} {k : Nat} {p : Int × Int} (h : L[k]? = some p) (hb : fstB zs p = false) : fsts zs (L.take (k + 1)) = fsts zs (L.take k) := by
  rw [take_one h]; simp [fsts, List.filter_append, hb]
theorem fsts_le (zs : List Int) (L : List (Int × Int)) : fsts zs L ≤ L.length := List.length_filter_le _ _
set_option maxHeartbeats 6400000 in
set_option maxRecDepth 100000 in
theorem specPcs_any (a : Option Addr) (n c : Nat) (zs : List Int) (w : World) (hz : zs.length = n) (hn : n ≤ 1048576) (hr : RdI w a zs) :
    Calls Try.prog 13 #[.agg #[.slice a n c]] w fun e w' => e = .returned (.int .i64 (pcB zs : Int)) ∧ Below w.heap.size w w' := by
  have HZ := Lib.hid hz
  clear hz
  have hcl := coL_len zs
  have HCO := Lib.hid (fun (W : World) (h : RdI W a zs) => specCellsOf_any a n c zs W HZ.out hn h)
  have HPC := Lib.hid (fun (x y : Int) (W : World) (h : RdI W a zs) => specPiece_any a n c zs x y W HZ.out hn h)
  have HFC : Hid (fsts zs (coL zs) = pcB zs) := Lib.hid fst_count
  have HNE := Lib.hid (fun p : Int × Int => @piece_ne zs p)
  obtain ⟨L, hL⟩ : ∃ L, L = coL zs := ⟨_, rfl⟩
  rw [← hL] at hcl HCO HFC HNE
  clear hL
  go_enter Try.func13, Try.ntmps13
  go_wp2_with (go_at_call 28; fail)
  refine (HCO.out _ (by repeat' (first | assumption | (with_reducible refine Rd.alloc ?_ _) | (with_reducible refine Rd.drew ?_)))).mono ?_
  rintro e w1 ⟨a1, c1, rfl, hO, hb⟩
  have hz1 := hb.size
  simp at hz1
  have hc1 : w1.cell? ⟨w.heap.size, 0, none⟩ = some (.slice a n c) := (hb.cell (p := ⟨w.heap.size, 0, none⟩) (by first | omega | (simp; done) | (simp; omega))).trans (by go_simp)
  have hr1 : RdI w1 a zs := Rd.below (by repeat' (first | assumption | (with_reducible refine Rd.alloc ?_ _) | (with_reducible refine Rd.drew ?_))) hb
  have hB1 : Below w.heap.size w w1 := below_step hb (by first | omega | (simp; done) | (simp; omega)) (by repeat' (first | assumption | (with_reducible exact Below.refl _ _) | (with_reducible refine Below.drew ?_) | (with_reducible refine Below.alloc ?_ ?_ _) | (with_reducible refine Below.setCell ?_ ?_ _) | omega | (simp; done) | (simp; omega)))
  have hRL : Rd w1 a1 (flatC L) := Rd.of_own hO
  clear hb hr hO
  go_wp2_with fail
  go_loopg [3, 5] (L.length + 1) (fun g i k wr => ∃ m : Nat, m ≤ L.length ∧ g = L.length + 1 - m ∧ k = .int .i64 m ∧ i = .int .i64 (fsts zs (L.take m) : Int) ∧ wr.cell? ⟨w.heap.size, 0, none⟩ = some (.slice a n c) ∧ RdI wr a zs ∧ Rd wr a1 (flatC L) ∧ Below w.heap.size w wr ∧ w.heap.size + 1 ≤ wr.heap.size)
  case atStart => exact ⟨0, Nat.zero_le _, rfl, rfl, rfl, hc1, hr1, hRL, hB1, hz1⟩
  case round =>
    obtain ⟨m, hm, hg, rfl, rfl, hcr, hrr, hRL, hB, hsz⟩ := hrel
    have hfl := fsts_le zs (L.take m)
    have hfl2 : (L.take m).length ≤ m := by simp; omega
    by_cases hlt : m < L.length
    · obtain ⟨b, off, x, y, rfl, hbl, hcx, hcy, hv⟩ := RdC_at hRL hlt
      have hmI : (m : Int) < (L.length : Int) := by omega
      have HP := Lib.hid (fun (W : World) (h : RdI W a zs) => HPC.out x y W h)
      have hp64 := pieceL_len zs x y
      have hpne := HNE.out (x, y) (List.mem_of_getElem? hv.out)
      simp only at hpne
      by_cases hf : fstB zs (x, y) = true
      · have HF := Lib.hid (fsts_yes hv.out hf)
        have HP0 : Hid ((pieceL zs x y)[0]? = some (x, y)) := Lib.hid (by unfold fstB at hf; simpa using hf)
        obtain ⟨Q, hQ⟩ : ∃ Q, Q = pieceL zs x y := ⟨_, rfl⟩
        rw [← hQ] at HP hp64 hpne HP0
        clear hQ hf hv
        go_wp2_with fail
        refine hold_start (S := (fun w' => w'.cell? ⟨w.heap.size, 0, none⟩ = some (.slice a n c) ∧ w'.cell? ⟨b, off + m * 2, none⟩ = some (.int .i64 x) ∧ w'.cell? ⟨b, off + m * 2 + 1, none⟩ = some (.int .i64 y) ∧ RdI w' a zs ∧ Rd w' (some ⟨b, off, none⟩) (flatC L) ∧ Below w.heap.size w w' ∧ w.heap.size + 1 ≤ w'.heap.size ∧ b < w'.heap.size)) (by kernel_rfl) (by kernel_rfl) (by intro _ _ d _ _ h; cases d <;> exact h) ?_ (fun hHC hH0 => ?_)
        · (first | (go_keep; done) | ((try go_split_ands); (repeat' apply And.intro) <;> first | assumption | (with_reducible refine Rd.below ?_ hb1; assumption) | (with_reducible refine Rd.drew ?_; repeat' (first | assumption | (with_reducible refine Rd.alloc ?_ _))) | (refine (hb1.cell (by first | omega | (simp; done) | (simp; omega))).trans ?_; first | assumption | simp) | (exact below_step hb1 (by first | omega | (simp; done) | (simp; omega)) (by assumption)) | (have hz' := hb1.size; (try simp at hz'); omega) | ((repeat' (first | assumption | (with_reducible exact Below.refl _ _) | (with_reducible refine Below.drew ?_) | (with_reducible refine Below.alloc ?_ ?_ _) | (with_reducible refine Below.setCell ?_ ?_ _) | omega | (simp; done) | (simp; omega))); done) | go_simp | (simp; done) | (simp; omega)))
        refine hold_plain 0 (v := ?_) hHC hH0 (by simp only [List.getElem?_toArray, List.getElem?_cons_succ, List.getElem?_cons_zero]; rfl) rfl (by kernel_rfl) ?_ ?_
        rotate_left 1
        · (intro w hSw; (try dsimp only at hSw); go_simp; try with_reducible rfl)
        try simp only [Act.put, List.setIfInBounds_toArray, List.set_cons_zero, List.set_cons_succ]
        refine hold_plain 1 (v := ?_) hHC hH0 (by simp only [List.getElem?_toArray, List.getElem?_cons_succ, List.getElem?_cons_zero]; rfl) rfl (by kernel_rfl) ?_ ?_
        rotate_left 1
        · (intro w hSw; (try dsimp only at hSw); go_simp; try with_reducible rfl)
        try simp only [Act.put, List.setIfInBounds_toArray, List.set_cons_zero, List.set_cons_succ]
        refine hold_plain 2 (v := ?_) hHC hH0 (by simp only [List.getElem?_toArray, List.getElem?_cons_succ, List.getElem?_cons_zero]; rfl) rfl (by kernel_rfl) ?_ ?_
        rotate_left 1
        · (intro w hSw; (try dsimp only at hSw); go_simp; try with_reducible rfl)
        try simp only [Act.put, List.setIfInBounds_toArray, List.set_cons_zero, List.set_cons_succ]
        refine hold_plain 3 (v := ?_) hHC hH0 (by simp only [List.getElem?_toArray, List.getElem?_cons_succ, List.getElem?_cons_zero]; rfl) rfl (by kernel_rfl) ?_ ?_
        rotate_left 1
        · (intro w hSw; (try dsimp only at hSw); go_simp; try with_reducible rfl)
        try simp only [Act.put, List.setIfInBounds_toArray, List.set_cons_zero, List.set_cons_succ]
        refine hold_plain 4 (v := ?_) hHC hH0 (by simp only [List.getElem?_toArray, List.getElem?_cons_succ, List.getElem?_cons_zero]; rfl) rfl (by kernel_rfl) ?_ ?_
        rotate_left 1
        · (intro w hSw; (try dsimp only at hSw); go_simp; try with_reducible rfl)
        try simp only [Act.put, List.setIfInBounds_toArray, List.set_cons_zero, List.set_cons_succ]
        refine hold_plain 8 (v := ?_) hHC hH0 (by simp only [List.getElem?_toArray, List.getElem?_cons_succ, List.getElem?_cons_zero]; rfl) rfl (by kernel_rfl) ?_ ?_
        rotate_left 1
        · (intro w hSw; (try dsimp only at hSw); go_simp; try with_reducible rfl)
        try simp only [Act.put, List.setIfInBounds_toArray, List.set_cons_zero, List.set_cons_succ]
        refine hold_plain 9 (v := ?_) hHC hH0 (by simp only [List.getElem?_toArray, List.getElem?_cons_succ, List.getElem?_cons_zero]; rfl) rfl (by kernel_rfl) ?_ ?_
        rotate_left 1
        · (intro w hSw; (try dsimp only at hSw); go_simp; try with_reducible rfl)
        try simp only [Act.put, List.setIfInBounds_toArray, List.set_cons_zero, List.set_cons_succ]
        refine hold_plain 10 (v := ?_) hHC hH0 (by simp only [List.getElem?_toArray, List.getElem?_cons_succ, List.getElem?_cons_zero]; rfl) rfl (by kernel_rfl) ?_ ?_
        rotate_left 1
        · (intro w hSw; (try dsimp only at hSw); go_simp; try with_reducible rfl)
        try simp only [Act.put, List.setIfInBounds_toArray, List.set_cons_zero, List.set_cons_succ]
        refine hold_plain 11 (v := ?_) hHC hH0 (by simp only [List.getElem?_toArray, List.getElem?_cons_succ, List.getElem?_cons_zero]; rfl) rfl (by kernel_rfl) ?_ ?_
        rotate_left 1
        · (intro w hSw; (try dsimp only at hSw); go_simp; try with_reducible rfl)
        try simp only [Act.put, List.setIfInBounds_toArray, List.set_cons_zero, List.set_cons_succ]
        refine hold_call0 5 (by simp only [List.getElem?_toArray, List.getElem?_cons_succ, List.getElem?_cons_zero]; rfl) rfl (by kernel_rfl) (fun K hK => ?_)
        go_simp
        (go_at_call 15; obtain ⟨_, _, _, hs1, hs2, hs3, hs4, hs5⟩ := id hH0; refine (HP.out _ hs1).mono ?_; rintro e w5 ⟨a8, c8, rfl, hO8, hb1⟩; obtain ⟨b9, o9, x9, y9, rfl, hbl9, hx9, hy9, hv9⟩ := RdC_at (Rd.of_own hO8) hpne; obtain ⟨rfl, rfl⟩ : x9 = x ∧ y9 = y := (by have e1 := hv9.out; rw [HP0.out] at e1; simpa using e1.symm); clear hO8 hv9; simp only [Nat.zero_mul, Nat.add_zero] at hx9 hy9)
        refine hK.out _ _ ?_ (fun hH1 => ?_)
        · (first | (go_keep; done) | ((try go_split_ands); (repeat' apply And.intro) <;> first | assumption | (with_reducible refine Rd.below ?_ hb1; assumption) | (with_reducible refine Rd.drew ?_; repeat' (first | assumption | (with_reducible refine Rd.alloc ?_ _))) | (refine (hb1.cell (by first | omega | (simp; done) | (simp; omega))).trans ?_; first | assumption | simp) | (exact below_step hb1 (by first | omega | (simp; done) | (simp; omega)) (by assumption)) | (have hz' := hb1.size; (try simp at hz'); omega) | ((repeat' (first | assumption | (with_reducible exact Below.refl _ _) | (with_reducible refine Below.drew ?_) | (with_reducible refine Below.alloc ?_ ?_ _) | (with_reducible refine Below.setCell ?_ ?_ _) | omega | (simp; done) | (simp; omega))); done) | go_simp | (simp; done) | (simp; omega)))
        clear hK K hH0
        try simp only [Act.put, List.setIfInBounds_toArray, List.set_cons_zero, List.set_cons_succ]
        refine hold_plain 6 (v := ?_) hHC hH1 (by simp only [List.getElem?_toArray, List.getElem?_cons_succ, List.getElem?_cons_zero]; rfl) rfl (by kernel_rfl) ?_ ?_
        rotate_left 1
        · (intro w hSw; (try dsimp only at hSw); go_simp; try with_reducible rfl)
        try simp only [Act.put, List.setIfInBounds_toArray, List.set_cons_zero, List.set_cons_succ]
        refine hold_call0 7 (by simp only [List.getElem?_toArray, List.getElem?_cons_succ, List.getElem?_cons_zero]; rfl) rfl (by kernel_rfl) (fun K hK => ?_)
        go_simp
        refine hK.out _ _ ?_ (fun hH2 => ?_)
        · (first | (go_keep; done) | ((try go_split_ands); (repeat' apply And.intro) <;> first | assumption | (with_reducible refine Rd.below ?_ hb1; assumption) | (with_reducible refine Rd.drew ?_; repeat' (first | assumption | (with_reducible refine Rd.alloc ?_ _))) | (refine (hb1.cell (by first | omega | (simp; done) | (simp; omega))).trans ?_; first | assumption | simp) | (exact below_step hb1 (by first | omega | (simp; done) | (simp; omega)) (by assumption)) | (have hz' := hb1.size; (try simp at hz'); omega) | ((repeat' (first | assumption | (with_reducible exact Below.refl _ _) | (with_reducible refine Below.drew ?_) | (with_reducible refine Below.alloc ?_ ?_ _) | (with_reducible refine Below.setCell ?_ ?_ _) | omega | (simp; done) | (simp; omega))); done) | go_simp | (simp; done) | (simp; omega)))
        clear hK K hH1
        try simp only [Act.put, List.setIfInBounds_toArray, List.set_cons_zero, List.set_cons_succ]
        refine hold_plain 12 (v := ?_) hHC hH2 (by simp only [List.getElem?_toArray, List.getElem?_cons_succ, List.getElem?_cons_zero]; rfl) rfl (by kernel_rfl) ?_ ?_
        rotate_left 1
        · (intro w hSw; (try dsimp only at hSw); go_simp; try with_reducible rfl)
        try simp only [Act.put, List.setIfInBounds_toArray, List.set_cons_zero, List.set_cons_succ]
        refine wpAnyH_done (by kernel_rfl) ?_ _
        (try dsimp only at hH2)
        go_split_ands
        clear hHC
        go_wp2_with fail
        go_roundg (L.length + 1 - (m + 1))
        case measure => omega
        case rel => exact ⟨m + 1, by omega, rfl, by go_num, congrArg (Value.int .i64) (by rw [HF.out]; omega), by assumption, by assumption, by assumption, by assumption, by assumption⟩
      · have hf' : fstB zs (x, y) = false := by simpa using hf
        have HF := Lib.hid (fsts_no hv.out hf')
        obtain ⟨⟨px, py⟩, hpq⟩ : ∃ q, (pieceL zs x y)[0]? = some q := ⟨(pieceL zs x y)[0], List.getElem?_eq_getElem hpne⟩
        have HP0 := Lib.hid hpq
        have hne : ¬ (px = x ∧ py = y) := by
          rintro ⟨rfl, rfl⟩
          unfold fstB at hf
          simp only [decide_eq_true_eq] at hf
          exact hf hpq
        obtain ⟨Q, hQ⟩ : ∃ Q, Q = pieceL zs x y := ⟨_, rfl⟩
        rw [← hQ] at HP hp64 hpne HP0
        clear hQ hf hf' hv hpq
        by_cases hpx : px = x
        · replace hpx := hpx.symm
          subst hpx
          have hpy : ¬ py = y := fun e => hne ⟨rfl, e⟩
          clear hne
          go_wp2_with fail
          refine hold_start (S := (fun w' => w'.cell? ⟨w.heap.size, 0, none⟩ = some (.slice a n c) ∧ w'.cell? ⟨b, off + m * 2, none⟩ = some (.int .i64 x) ∧ w'.cell? ⟨b, off + m * 2 + 1, none⟩ = some (.int .i64 y) ∧ RdI w' a zs ∧ Rd w' (some ⟨b, off, none⟩) (flatC L) ∧ Below w.heap.size w w' ∧ w.heap.size + 1 ≤ w'.heap.size ∧ b < w'.heap.size)) (by kernel_rfl) (by kernel_rfl) (by intro _ _ d _ _ h; cases d <;> exact h) ?_ (fun hHC hH0 => ?_)
          · (first | (go_keep; done) | ((try go_split_ands); (repeat' apply And.intro) <;> first | assumption | (with_reducible refine Rd.below ?_ hb1; assumption) | (with_reducible refine Rd.drew ?_; repeat' (first | assumption | (with_reducible refine Rd.alloc ?_ _))) | (refine (hb1.cell (by first | omega | (simp; done) | (simp; omega))).trans ?_; first | assumption | simp) | (exact below_step hb1 (by first | omega | (simp; done) | (simp; omega)) (by assumption)) | (have hz' := hb1.size; (try simp at hz'); omega) | ((repeat' (first | assumption | (with_reducible exact Below.refl _ _) | (with_reducible refine Below.drew ?_) | (with_reducible refine Below.alloc ?_ ?_ _) | (with_reducible refine Below.setCell ?_ ?_ _) | omega | (simp; done) | (simp; omega))); done) | go_simp | (simp; done) | (simp; omega)))
          refine hold_plain 0 (v := ?_) hHC hH0 (by simp only [List.getElem?_toArray, List.getElem?_cons_succ, List.getElem?_cons_zero]; rfl) rfl (by kernel_rfl) ?_ ?_
          rotate_left 1
          · (intro w hSw; (try dsimp only at hSw); go_simp; try with_reducible rfl)
          try simp only [Act.put, List.setIfInBounds_toArray, List.set_cons_zero, List.set_cons_succ]
          refine hold_plain 1 (v := ?_) hHC hH0 (by simp only [List.getElem?_toArray, List.getElem?_cons_succ, List.getElem?_cons_zero]; rfl) rfl (by kernel_rfl) ?_ ?_
          rotate_left 1
          · (intro w hSw; (try dsimp only at hSw); go_simp; try with_reducible rfl)
          try simp only [Act.put, List.setIfInBounds_toArray, List.set_cons_zero, List.set_cons_succ]
          refine hold_plain 2 (v := ?_) hHC hH0 (by simp only [List.getElem?_toArray, List.getElem?_cons_succ, List.getElem?_cons_zero]; rfl) rfl (by kernel_rfl) ?_ ?_
          rotate_left 1
          · (intro w hSw; (try dsimp only at hSw); go_simp; try with_reducible rfl)
          try simp only [Act.put, List.setIfInBounds_toArray, List.set_cons_zero, List.set_cons_succ]
          refine hold_plain 3 (v := ?_) hHC hH0 (by simp only [List.getElem?_toArray, List.getElem?_cons_succ, List.getElem?_cons_zero]; rfl) rfl (by kernel_rfl) ?_ ?_
          rotate_left 1
          · (intro w hSw; (try dsimp only at hSw); go_simp; try with_reducible rfl)
          try simp only [Act.put, List.setIfInBounds_toArray, List.set_cons_zero, List.set_cons_succ]
          refine hold_plain 4 (v := ?_) hHC hH0 (by simp only [List.getElem?_toArray, List.getElem?_cons_succ, List.getElem?_cons_zero]; rfl) rfl (by kernel_rfl) ?_ ?_
          rotate_left 1
          · (intro w hSw; (try dsimp only at hSw); go_simp; try with_reducible rfl)
          try simp only [Act.put, List.setIfInBounds_toArray, List.set_cons_zero, List.set_cons_succ]
          refine hold_plain 8 (v := ?_) hHC hH0 (by simp only [List.getElem?_toArray, List.getElem?_cons_succ, List.getElem?_cons_zero]; rfl) rfl (by kernel_rfl) ?_ ?_
          rotate_left 1
          · (intro w hSw; (try dsimp only at hSw); go_simp; try with_reducible rfl)
          try simp only [Act.put, List.setIfInBounds_toArray, List.set_cons_zero, List.set_cons_succ]
          refine hold_plain 9 (v := ?_) hHC hH0 (by simp only [List.getElem?_toArray, List.getElem?_cons_succ, List.getElem?_cons_zero]; rfl) rfl (by kernel_rfl) ?_ ?_
          rotate_left 1
          · (intro w hSw; (try dsimp only at hSw); go_simp; try with_reducible rfl)
          try simp only [Act.put, List.setIfInBounds_toArray, List.set_cons_zero, List.set_cons_succ]
          refine hold_plain 10 (v := ?_) hHC hH0 (by simp only [List.getElem?_toArray, List.getElem?_cons_succ, List.getElem?_cons_zero]; rfl) rfl (by kernel_rfl) ?_ ?_
          rotate_left 1
          · (intro w hSw; (try dsimp only at hSw); go_simp; try with_reducible rfl)
          try simp only [Act.put, List.setIfInBounds_toArray, List.set_cons_zero, List.set_cons_succ]
          refine hold_plain 11 (v := ?_) hHC hH0 (by simp only [List.getElem?_toArray, List.getElem?_cons_succ, List.getElem?_cons_zero]; rfl) rfl (by kernel_rfl) ?_ ?_
          rotate_left 1
          · (intro w hSw; (try dsimp only at hSw); go_simp; try with_reducible rfl)
          try simp only [Act.put, List.setIfInBounds_toArray, List.set_cons_zero, List.set_cons_succ]
          refine hold_call0 5 (by simp only [List.getElem?_toArray, List.getElem?_cons_succ, List.getElem?_cons_zero]; rfl) rfl (by kernel_rfl) (fun K hK => ?_)
          go_simp
          (go_at_call 15; obtain ⟨_, _, _, hs1, hs2, hs3, hs4, hs5⟩ := id hH0; refine (HP.out _ hs1).mono ?_; rintro e w5 ⟨a8, c8, rfl, hO8, hb1⟩; obtain ⟨b9, o9, x9, y9, rfl, hbl9, hx9, hy9, hv9⟩ := RdC_at (Rd.of_own hO8) hpne; obtain ⟨rfl, rfl⟩ : x9 = x ∧ y9 = py := (by have e1 := hv9.out; rw [HP0.out] at e1; simpa using e1.symm); clear hO8 hv9; simp only [Nat.zero_mul, Nat.add_zero] at hx9 hy9)
          refine hK.out _ _ ?_ (fun hH1 => ?_)
          · (first | (go_keep; done) | ((try go_split_ands); (repeat' apply And.intro) <;> first | assumption | (with_reducible refine Rd.below ?_ hb1; assumption) | (with_reducible refine Rd.drew ?_; repeat' (first | assumption | (with_reducible refine Rd.alloc ?_ _))) | (refine (hb1.cell (by first | omega | (simp; done) | (simp; omega))).trans ?_; first | assumption | simp) | (exact below_step hb1 (by first | omega | (simp; done) | (simp; omega)) (by assumption)) | (have hz' := hb1.size; (try simp at hz'); omega) | ((repeat' (first | assumption | (with_reducible exact Below.refl _ _) | (with_reducible refine Below.drew ?_) | (with_reducible refine Below.alloc ?_ ?_ _) | (with_reducible refine Below.setCell ?_ ?_ _) | omega | (simp; done) | (simp; omega))); done) | go_simp | (simp; done) | (simp; omega)))
          clear hK K hH0
          try simp only [Act.put, List.setIfInBounds_toArray, List.set_cons_zero, List.set_cons_succ]
          refine hold_plain 6 (v := ?_) hHC hH1 (by simp only [List.getElem?_toArray, List.getElem?_cons_succ, List.getElem?_cons_zero]; rfl) rfl (by kernel_rfl) ?_ ?_
          rotate_left 1
          · (intro w hSw; (try dsimp only at hSw); go_simp; try with_reducible rfl)
          try simp only [Act.put, List.setIfInBounds_toArray, List.set_cons_zero, List.set_cons_succ]
          refine hold_call0 7 (by simp only [List.getElem?_toArray, List.getElem?_cons_succ, List.getElem?_cons_zero]; rfl) rfl (by kernel_rfl) (fun K hK => ?_)
          go_simp
          refine hK.out _ _ ?_ (fun hH2 => ?_)
          · (first | (go_keep; done) | ((try go_split_ands); (repeat' apply And.intro) <;> first | assumption | (with_reducible refine Rd.below ?_ hb1; assumption) | (with_reducible refine Rd.drew ?_; repeat' (first | assumption | (with_reducible refine Rd.alloc ?_ _))) | (refine (hb1.cell (by first | omega | (simp; done) | (simp; omega))).trans ?_; first | assumption | simp) | (exact below_step hb1 (by first | omega | (simp; done) | (simp; omega)) (by assumption)) | (have hz' := hb1.size; (try simp at hz'); omega) | ((repeat' (first | assumption | (with_reducible exact Below.refl _ _) | (with_reducible refine Below.drew ?_) | (with_reducible refine Below.alloc ?_ ?_ _) | (with_reducible refine Below.setCell ?_ ?_ _) | omega | (simp; done) | (simp; omega))); done) | go_simp | (simp; done) | (simp; omega)))
          clear hK K hH1
          try simp only [Act.put, List.setIfInBounds_toArray, List.set_cons_zero, List.set_cons_succ]
          refine hold_plain 12 (v := ?_) hHC hH2 (by simp only [List.getElem?_toArray, List.getElem?_cons_succ, List.getElem?_cons_zero]; rfl) rfl (by kernel_rfl) ?_ ?_
          rotate_left 1
          · (intro w hSw; (try dsimp only at hSw); go_simp; try with_reducible rfl)
          try simp only [Act.put, List.setIfInBounds_toArray, List.set_cons_zero, List.set_cons_succ]
          refine wpAnyH_done (by kernel_rfl) ?_ _
          (try dsimp only at hH2)
          go_split_ands
          clear hHC
          go_wp2_with fail
          go_roundg (L.length + 1 - (m + 1))
          case measure => omega
          case rel => exact ⟨m + 1, by omega, rfl, by go_num, congrArg (Value.int .i64) (by rw [HF.out]), by assumption, by assumption, by assumption, by assumption, by assumption⟩
        · clear hne
          go_wp2_with fail
          refine hold_start (S := (fun w' => w'.cell? ⟨w.heap.size, 0, none⟩ = some (.slice a n c) ∧ w'.cell? ⟨b, off + m * 2, none⟩ = some (.int .i64 x) ∧ w'.cell? ⟨b, off + m * 2 + 1, none⟩ = some (.int .i64 y) ∧ RdI w' a zs ∧ Rd w' (some ⟨b, off, none⟩) (flatC L) ∧ Below w.heap.size w w' ∧ w.heap.size + 1 ≤ w'.heap.size ∧ b < w'.heap.size)) (by kernel_rfl) (by kernel_rfl) (by intro _ _ d _ _ h; cases d <;> exact h) ?_ (fun hHC hH0 => ?_)
          · (first | (go_keep; done) | ((try go_split_ands); (repeat' apply And.intro) <;> first | assumption | (with_reducible refine Rd.below ?_ hb1; assumption) | (with_reducible refine Rd.drew ?_; repeat' (first | assumption | (with_reducible refine Rd.alloc ?_ _))) | (refine (hb1.cell (by first | omega | (simp; done) | (simp; omega))).trans ?_; first | assumption | simp) | (exact below_step hb1 (by first | omega | (simp; done) | (simp; omega)) (by assumption)) | (have hz' := hb1.size; (try simp at hz'); omega) | ((repeat' (first | assumption | (with_reducible exact Below.refl _ _) | (with_reducible refine Below.drew ?_) | (with_reducible refine Below.alloc ?_ ?_ _) | (with_reducible refine Below.setCell ?_ ?_ _) | omega | (simp; done) | (simp; omega))); done) | go_simp | (simp; done) | (simp; omega)))
          refine hold_plain 0 (v := ?_) hHC hH0 (by simp only [List.getElem?_toArray, List.getElem?_cons_succ, List.getElem?_cons_zero]; rfl) rfl (by kernel_rfl) ?_ ?_
          rotate_left 1
          · (intro w hSw; (try dsimp only at hSw); go_simp; try with_reducible rfl)
          try simp only [Act.put, List.setIfInBounds_toArray, List.set_cons_zero, List.set_cons_succ]
          refine hold_plain 1 (v := ?_) hHC hH0 (by simp only [List.getElem?_toArray, List.getElem?_cons_succ, List.getElem?_cons_zero]; rfl) rfl (by kernel_rfl) ?_ ?_
          rotate_left 1
          · (intro w hSw; (try dsimp only at hSw); go_simp; try with_reducible rfl)
          try simp only [Act.put, List.setIfInBounds_toArray, List.set_cons_zero, List.set_cons_succ]
          refine hold_plain 2 (v := ?_) hHC hH0 (by simp only [List.getElem?_toArray, List.getElem?_cons_succ, List.getElem?_cons_zero]; rfl) rfl (by kernel_rfl) ?_ ?_
          rotate_left 1
          · (intro w hSw; (try dsimp only at hSw); go_simp; try with_reducible rfl)
          try simp only [Act.put, List.setIfInBounds_toArray, List.set_cons_zero, List.set_cons_succ]
          refine hold_plain 3 (v := ?_) hHC hH0 (by simp only [List.getElem?_toArray, List.getElem?_cons_succ, List.getElem?_cons_zero]; rfl) rfl (by kernel_rfl) ?_ ?_
          rotate_left 1
          · (intro w hSw; (try dsimp only at hSw); go_simp; try with_reducible rfl)
          try simp only [Act.put, List.setIfInBounds_toArray, List.set_cons_zero, List.set_cons_succ]
          refine hold_plain 4 (v := ?_) hHC hH0 (by simp only [List.getElem?_toArray, List.getElem?_cons_succ, List.getElem?_cons_zero]; rfl) rfl (by kernel_rfl) ?_ ?_
          rotate_left 1
          · (intro w hSw; (try dsimp only at hSw); go_simp; try with_reducible rfl)
          try simp only [Act.put, List.setIfInBounds_toArray, List.set_cons_zero, List.set_cons_succ]
          refine hold_plain 8 (v := ?_) hHC hH0 (by simp only [List.getElem?_toArray, List.getElem?_cons_succ, List.getElem?_cons_zero]; rfl) rfl (by kernel_rfl) ?_ ?_
          rotate_left 1
          · (intro w hSw; (try dsimp only at hSw); go_simp; try with_reducible rfl)
          try simp only [Act.put, List.setIfInBounds_toArray, List.set_cons_zero, List.set_cons_succ]
          refine hold_plain 9 (v := ?_) hHC hH0 (by simp only [List.getElem?_toArray, List.getElem?_cons_succ, List.getElem?_cons_zero]; rfl) rfl (by kernel_rfl) ?_ ?_
          rotate_left 1
          · (intro w hSw; (try dsimp only at hSw); go_simp; try with_reducible rfl)
          try simp only [Act.put, List.setIfInBounds_toArray, List.set_cons_zero, List.set_cons_succ]
          refine hold_plain 10 (v := ?_) hHC hH0 (by simp only [List.getElem?_toArray, List.getElem?_cons_succ, List.getElem?_cons_zero]; rfl) rfl (by kernel_rfl) ?_ ?_
          rotate_left 1
          · (intro w hSw; (try dsimp only at hSw); go_simp; try with_reducible rfl)
          try simp only [Act.put, List.setIfInBounds_toArray, List.set_cons_zero, List.set_cons_succ]
          refine hold_plain 11 (v := ?_) hHC hH0 (by simp only [List.getElem?_toArray, List.getElem?_cons_succ, List.getElem?_cons_zero]; rfl) rfl (by kernel_rfl) ?_ ?_
          rotate_left 1
          · (intro w hSw; (try dsimp only at hSw); go_simp; try with_reducible rfl)
          try simp only [Act.put, List.setIfInBounds_toArray, List.set_cons_zero, List.set_cons_succ]
          refine hold_call0 5 (by simp only [List.getElem?_toArray, List.getElem?_cons_succ, List.getElem?_cons_zero]; rfl) rfl (by kernel_rfl) (fun K hK => ?_)
          go_simp
          (go_at_call 15; obtain ⟨_, _, _, hs1, hs2, hs3, hs4, hs5⟩ := id hH0; refine (HP.out _ hs1).mono ?_; rintro e w5 ⟨a8, c8, rfl, hO8, hb1⟩; obtain ⟨b9, o9, x9, y9, rfl, hbl9, hx9, hy9, hv9⟩ := RdC_at (Rd.of_own hO8) hpne; obtain ⟨rfl, rfl⟩ : x9 = px ∧ y9 = py := (by have e1 := hv9.out; rw [HP0.out] at e1; simpa using e1.symm); clear hO8 hv9; simp only [Nat.zero_mul, Nat.add_zero] at hx9 hy9)
          refine hK.out _ _ ?_ (fun hH1 => ?_)
          · (first | (go_keep; done) | ((try go_split_ands); (repeat' apply And.intro) <;> first | assumption | (with_reducible refine Rd.below ?_ hb1; assumption) | (with_reducible refine Rd.drew ?_; repeat' (first | assumption | (with_reducible refine Rd.alloc ?_ _))) | (refine (hb1.cell (by first | omega | (simp; done) | (simp; omega))).trans ?_; first | assumption | simp) | (exact below_step hb1 (by first | omega | (simp; done) | (simp; omega)) (by assumption)) | (have hz' := hb1.size; (try simp at hz'); omega) | ((repeat' (first | assumption | (with_reducible exact Below.refl _ _) | (with_reducible refine Below.drew ?_) | (with_reducible refine Below.alloc ?_ ?_ _) | (with_reducible refine Below.setCell ?_ ?_ _) | omega | (simp; done) | (simp; omega))); done) | go_simp | (simp; done) | (simp; omega)))
          clear hK K hH0
          try simp only [Act.put, List.setIfInBounds_toArray, List.set_cons_zero, List.set_cons_succ]
          refine hold_plain 6 (v := ?_) hHC hH1 (by simp only [List.getElem?_toArray, List.getElem?_cons_succ, List.getElem?_cons_zero]; rfl) rfl (by kernel_rfl) ?_ ?_
          rotate_left 1
          · (intro w hSw; (try dsimp only at hSw); go_simp; try with_reducible rfl)
          try simp only [Act.put, List.setIfInBounds_toArray, List.set_cons_zero, List.set_cons_succ]
          refine hold_call0 7 (by simp only [List.getElem?_toArray, List.getElem?_cons_succ, List.getElem?_cons_zero]; rfl) rfl (by kernel_rfl) (fun K hK => ?_)
          go_simp
          refine hK.out _ _ ?_ (fun hH2 => ?_)
          · (first | (go_keep; done) | ((try go_split_ands); (repeat' apply And.intro) <;> first | assumption | (with_reducible refine Rd.below ?_ hb1; assumption) | (with_reducible refine Rd.drew ?_; repeat' (first | assumption | (with_reducible refine Rd.alloc ?_ _))) | (refine (hb1.cell (by first | omega | (simp; done) | (simp; omega))).trans ?_; first | assumption | simp) | (exact below_step hb1 (by first | omega | (simp; done) | (simp; omega)) (by assumption)) | (have hz' := hb1.size; (try simp at hz'); omega) | ((repeat' (first | assumption | (with_reducible exact Below.refl _ _) | (with_reducible refine Below.drew ?_) | (with_reducible refine Below.alloc ?_ ?_ _) | (with_reducible refine Below.setCell ?_ ?_ _) | omega | (simp; done) | (simp; omega))); done) | go_simp | (simp; done) | (simp; omega)))
          clear hK K hH1
          try simp only [Act.put, List.setIfInBounds_toArray, List.set_cons_zero, List.set_cons_succ]
          refine hold_plain 12 (v := ?_) hHC hH2 (by simp only [List.getElem?_toArray, List.getElem?_cons_succ, List.getElem?_cons_zero]; rfl) rfl (by kernel_rfl) ?_ ?_
          rotate_left 1
          · (intro w hSw; (try dsimp only at hSw); go_simp; try with_reducible rfl)
          try simp only [Act.put, List.setIfInBounds_toArray, List.set_cons_zero, List.set_cons_succ]
          refine wpAnyH_done (by kernel_rfl) ?_ _
          (try dsimp only at hH2)
          go_split_ands
          clear hHC
          go_wp2_with fail
          go_roundg (L.length + 1 - (m + 1))
          case measure => omega
          case rel => exact ⟨m + 1, by omega, rfl, by go_num, congrArg (Value.int .i64) (by rw [HF.out]), by assumption, by assumption, by assumption, by assumption, by assumption⟩
    · have hmL : m = L.length := by omega
      have HT : Hid (fsts zs (L.take m) = pcB zs) := Lib.hid (by rw [hmL, List.take_length]; exact HFC.out)
      have hmI : ¬ (m : Int) < (L.length : Int) := by omega
      clear hmL
      go_wp2_with fail
      go_ret
      exact ⟨ret_i (by rw [HT.out]), hB⟩
end Go.Proofs.Ytghakmhglneckaa
