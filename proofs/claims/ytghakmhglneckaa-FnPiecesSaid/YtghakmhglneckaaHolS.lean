/-
  The specification's number of holes.
-/
import Derived.Test.YtghakmhglneckaaHolP
import Derived.Test.YtghakmhglneckaaPieceS
import Derived.Test.YtghakmhglneckaaPcS
import Derived.Test.YtghakmhglneckaaDpK
namespace Go.Proofs.Ytghakmhglneckaa
open Go.RowKit Plain
set_option linter.unusedVariables false
set_option linter.unusedSimpArgs false

/-- A row of marks in memory. -/
def MarkI (w : World) (g : Nat) (U : Nat → Bool) : Prop := ∃ cur t, w.heap[g]? = some (.cells cur t (0, 0)) ∧ cur.size = 100 ∧ ∀ i, i < 100 → cur[i]? = some (.int .i64 (if U i then 1 else 0))
theorem MarkI.lt {w : World} {g : Nat} {U : Nat → Bool} (h : MarkI w g U) : g < w.heap.size := by obtain ⟨cur, t, h1, -⟩ := h; exact (Array.getElem?_eq_some_iff.1 h1).1
theorem MarkI.cell {w : World} {g : Nat} {U : Nat → Bool} (h : MarkI w g U) {i : Nat} (hi : i < 100) : w.cell? ⟨g, i, none⟩ = some (.int .i64 (if U i then 1 else 0)) := by
  obtain ⟨cur, t, h1, h2, h3⟩ := h
  simp only [World.cell?, h1]
  exact h3 i hi
theorem MarkI.yes {w : World} {g : Nat} {U : Nat → Bool} (h : MarkI w g U) {i : Nat} (hi : i < 100) (hu : U i = true) : w.cell? ⟨g, i, none⟩ = some (.int .i64 1) := by have := h.cell hi; rw [hu] at this; exact this
theorem MarkI.no {w : World} {g : Nat} {U : Nat → Bool} (h : MarkI w g U) {i : Nat} (hi : i < 100) (hu : U i = false) : w.cell? ⟨g, i, none⟩ = some (.int .i64 0) := by have := h.cell hi; rw [hu] at this; exact this
theorem MarkI.frozen {w : World} {g : Nat} {U : Nat → Bool} (h : MarkI w g U) (i : Nat) : w.frozen? ⟨g, i, none⟩ = false := by
  obtain ⟨cur, t, h1, h2, h3⟩ := h
  simp [World.frozen?, h1]
theorem MarkI.below {w w' : World} {g B : Nat} {U : Nat → Bool} (h : MarkI w g U) (hb : Below B w w') (hg : g < B) : MarkI w' g U := by obtain ⟨cur, t, h1, h2⟩ := h; exact ⟨cur, t, (hb.block g hg).trans h1, h2⟩
theorem MarkI.next {w w' : World} {g : Nat} {U : Nat → Bool} (h : MarkI w g U) (hb : Below w.heap.size w w') : MarkI w' g U := h.below hb h.lt
theorem MarkI.set_ {w : World} {g k : Nat} {U : Nat → Bool} (h : MarkI w g U) (hk : k < 100) : MarkI (w.setCell ⟨g, k, none⟩ (.int .i64 1)) g (mk1 U k) := by
  obtain ⟨cur, t, h1, h2, h3⟩ := h
  refine ⟨cur.setIfInBounds k (.int .i64 1), t, heap_setCell_same w g k cur _ _ h1, by simpa using h2, fun i hi => ?_⟩
  unfold mk1
  rw [Array.getElem?_setIfInBounds]
  by_cases e : k = i
  · subst e; simp [h2, hk]
  · have : ¬ i = k := fun h => e h.symm
    simp [e, this, h3 i hi]
theorem mark_new {w : World} {B g : Nat} (h : w.ownsRow B 3 1 (.slice (some ⟨g, 0, none⟩) 100 100) 100 (madeCells (Value.int .i64 0).cells (100 * 1)).toList) : MarkI w g (fun _ => false) := by
  rcases h.2 with ⟨hv, -⟩ | ⟨g', cap, cur, hv, hb, hg, hnc, hcm, hcs, ht⟩
  · cases hv
  · have e : g' = g ∧ 100 = cap := by injection hv with e1 _ e3; injection e1 with e1; injection e1 with e1; exact ⟨e1.symm, e3⟩
    obtain ⟨rfl, rfl⟩ := e
    refine ⟨cur, _, hg, by omega, fun i hi => ?_⟩
    have e2 : (madeCells (Value.int .i64 0).cells (100 * 1)).toList = List.replicate (100 * 1) (.int .i64 0) := toList_madeCells_one _ _
    rw [e2, List.take_of_length_le (by simp; omega)] at ht
    rw [← Array.getElem?_toList, ht, List.getElem?_replicate]
    rw [if_pos (by omega)]
    rfl
/-- A list of numbers that the call owns. -/
def flatM (L : List Nat) : List Value := L.map fun (k : Nat) => Value.int .i64 (k : Int)
def OwnN (w : World) (B g c : Nat) (L : List Nat) : Prop := w.ownsRow B 3 1 (.slice (some ⟨g, 0, none⟩) L.length c) L.length (flatM L)
theorem OwnN.below {w w' : World} {B g c : Nat} {L : List Nat} (h : OwnN w B g c L) (hb : Below w.heap.size w w') : OwnN w' B g c L := own_below h hb
theorem OwnN.lt {w : World} {B g c : Nat} {L : List Nat} (h : OwnN w B g c L) : B ≤ g ∧ g < w.heap.size := World.ownsRow.lt h g rfl
theorem OwnN.at_ {w : World} {B g c i u : Nat} {L : List Nat} (h : OwnN w B g c L) (hu : L[i]? = some u) : w.cell? ⟨g, i, none⟩ = some (.int .i64 (u : Int)) := by
  rw [World.ownsRow.cellAt h i (by have := (List.getElem?_eq_some_iff.1 hu).1; omega)]
  unfold flatM
  rw [List.getElem?_map, hu]
  rfl
theorem OwnN.far {w : World} {B g c : Nat} {L : List Nat} (h : OwnN w B g c L) {p : Addr} (hp : p.block < B) (u : Value) : OwnN (w.setCell p u) B g c L := ownsRow_setCell_below h hp u
theorem OwnN.one (w : World) (B k : Nat) (hB : B ≤ w.heap.size) : OwnN (w.alloc (.cells #[.int .i64 (k : Int)] 3)) B w.heap.size 1 [k] := World.ownsRow_lit w _ 1 hB (by unfold maxLen; omega) rfl
theorem OwnN.snoc {w : World} {B t : Nat} {v : Value} {L : List Nat} (h : w.ownsRow B 3 1 v (L.length + 1) (flatM L ++ [.int .i64 (t : Int)])) : ∃ g c, v = .slice (some ⟨g, 0, none⟩) (L ++ [t]).length c ∧ OwnN w B g c (L ++ [t]) := by
  have h0 := h
  rcases h.2 with ⟨hv, hz⟩ | ⟨g, cap, cur, hv, hg, r⟩
  · omega
  · subst hv
    refine ⟨g, cap, by simp, ?_⟩
    unfold OwnN flatM
    rw [List.map_append, List.length_append]
    exact h0
theorem one_newN (w : World) (x : Value) (t : TypeId) : ∀ j u, [x][j]? = some u → (w.alloc (.cells #[x] t)).cell? ((⟨w.heap.size, 0, none⟩ : Addr).add j) = some u := by
  intro j u hj
  match j, hj with
  | 0, hj =>
    simp at hj
    subst hj
    simp [Addr.add]
theorem specRok_valH (a : Option Addr) (n c : Nat) (zs : List Int) (w : World) (hz : zs.length = n) (hn : n ≤ 1048576) (hr : RdI w a zs) {b : Bool} (h : rokB zs = b) :
    Calls Try.prog 26 #[.agg #[.slice a n c]] w fun e w' => e = .returned (.bool b) ∧ Below w.heap.size w w' := by
  subst h
  exact specRok_any a n c zs w hz hn hr
theorem specIn_val (x a b : Int) (w : World) {r : Bool} (h : inB x a b = r) : Calls Try.prog 35 #[.int .i64 x, .int .i64 a, .int .i64 b] w fun e w' => e = .returned (.bool r) ∧ w' = w := by
  subst h
  exact (specIn_any x a b w).mono fun e w' h => ⟨h.1, h.2.symm⟩
set_option maxHeartbeats 6400000 in
set_option maxRecDepth 100000 in
theorem specHol_any (a : Option Addr) (n c : Nat) (zs : List Int) (w : World) (hz : zs.length = n) (hn : n ≤ 1048576) (hr : RdI w a zs) :
    Calls Try.prog 9 #[.agg #[.slice a n c]] w fun e w' => e = .returned (.int .i64 (hlB zs)) ∧ Below w.heap.size w w' := by
  obtain ⟨i0, hi, hz0, hz1, hz2⟩ := info_parts intInfo
  have HZ := Lib.hid hz
  clear hz
  by_cases h1 : rokB zs = true
  · have HOK := Lib.hid (fun (W : World) (h : RdI W a zs) => specRok_valH a n c zs W HZ.out hn h h1)
    have HT : Hid (hlB zs = (blanks (setS zs).testBit : Int) - 1) := Lib.hid (by unfold hlB; rw [if_pos h1])
    have HH := Lib.hid (fun (W : World) (h : RdI W a zs) (x y : Int) (b : Bool) (hb : hasB (setS zs) x y = b) => specHas_valP a n c zs x y W HZ.out hn h (b := b) (by rw [hcB_yes h1]; exact hb))
    obtain ⟨S, hS⟩ : ∃ S, S = setS zs := ⟨_, rfl⟩
    rw [← hS] at HH HT
    clear hS h1
    have HR := Lib.hid hr
    go_enter Try.func9, Try.ntmps9
    go_wp2_with (go_at_call 26; fail)
    refine (HOK.out _ (by repeat' (first | assumption | (with_reducible refine Rd.alloc ?_ _) | (with_reducible refine Rd.drew ?_)))).mono ?_
    rintro e w1 ⟨rfl, hb⟩
    have hzz1 := hb.size
    simp at hzz1
    have hc1 : w1.cell? ⟨w.heap.size, 0, none⟩ = some (.slice a n c) := (hb.cell (p := ⟨w.heap.size, 0, none⟩) (by first | omega | (simp; done) | (simp; omega))).trans (by go_simp)
    have hB1 : Below w.heap.size w w1 := below_step hb (by first | omega | (simp; done) | (simp; omega)) (by repeat' (first | assumption | (with_reducible exact Below.refl _ _) | (with_reducible refine Below.drew ?_) | (with_reducible refine Below.alloc ?_ ?_ _) | (with_reducible refine Below.setCell ?_ ?_ _) | omega | (simp; done) | (simp; omega)))
    clear hb hr
    go_wp2_with (at_make; refine wpList_make_full _ rfl _ _ 22 rfl (w.heap.size) 3 i0 (.int .i64 0) 1 Try.underlying22 hi hz0 hz1 _ _ _ _ 100 rfl rfl rfl rfl (by rw [hz2]; omega) (by unfold maxLen; omega) (by first | omega | (simp; done) | (simp; omega)) ?_; intro w2 hown0 hgrow0)
    have HM2 := Lib.hid (mark_new hown0)
    have hG : Below w1.heap.size w1 w2 := (Below.refl _ _).grown hgrow0 (by omega) (fun k h => by cases h)
    have hc2 : w2.cell? ⟨w.heap.size, 0, none⟩ = some (.slice a n c) := (hG.cell (p := ⟨w.heap.size, 0, none⟩) (by first | omega | (simp; done) | (simp; omega))).trans hc1
    have hB2 : Below w.heap.size w w2 := hB1.trans (hG.mono (by omega))
    obtain ⟨G, hGd⟩ : ∃ G, G = w1.heap.size := ⟨_, rfl⟩
    rw [← hGd] at HM2 ⊢
    have hwG : w.heap.size < G := by omega
    have hG2 := HM2.out.lt
    have hne : ¬ w.heap.size = G := by omega
    have hne' : ¬ G = w.heap.size := by omega
    clear hown0 hgrow0 hG hB1 hc1 hzz1 hGd
    go_wp2_with fail
    go_loopw [5, 6] (fun nv kv wr => ∃ (k : Nat) (nn : Int) (U : Nat → Bool), k ≤ 100 ∧ kv = .int .i64 (k : Int) ∧ nv = .int .i64 nn ∧ Hid (nn = (hcN S k : Int) - 1) ∧ Hid (Upto S k U) ∧ Hid (MarkI wr G U) ∧ wr.cell? ⟨w.heap.size, 0, none⟩ = some (.slice a n c) ∧ Below w.heap.size w wr ∧ G + 1 ≤ wr.heap.size) (fun _ kv _ => 100 - (intOf kv).toNat)
    case atStart => exact ⟨0, -1, _, by omega, rfl, rfl, Lib.hid (by rw [hcN_zero]; rfl), Lib.hid (upto_start S), HM2, hc2, hB2, by omega⟩
    case round =>
      clear HM2 hc2 hB2 hG2
      obtain ⟨k, nn, U, hk, rfl, rfl, HN, HU, HM, hcr, hB, hs⟩ := hrel
      by_cases hlt : k < 100
      · have hkI : (k : Int) < 100 := by omega
        have hnn : -1 ≤ nn ∧ nn ≤ 100 := by have := HN.out; have := hcN_le S k; omega
        obtain ⟨hn0, hn1⟩ := hnn
        obtain ⟨X, hX⟩ : ∃ X : Nat, X = k % 10 := ⟨_, rfl⟩
        obtain ⟨Y, hY⟩ : ∃ Y : Nat, Y = k / 10 := ⟨_, rfl⟩
        have hX9 : X < 10 := by omega
        have hY9 : Y < 10 := by omega
        have eX0 : (k : Int) % 10 = (X : Int) := by omega
        have eX : (k : Int).tmod 10 = (X : Int) := by rw [Int.tmod_eq_emod_of_nonneg (by omega)]; exact eX0
        have eY : (k : Int) / 10 = (Y : Int) := by omega
        have eX1 : IntKind.i64.wrap ((X : Int) - 1) = (X : Int) - 1 := by rw [IntKind.wrap_i64]; omega
        have eY0 : IntKind.i64.wrap (Y : Int) = (Y : Int) := by rw [IntKind.wrap_i64]; omega
        have eY1 : IntKind.i64.wrap ((Y : Int) - 1) = (Y : Int) - 1 := by rw [IntKind.wrap_i64]; omega
        have HFR : Hid (free S.testBit k = !hasB S ((X : Int) - 1) ((Y : Int) - 1)) := Lib.hid (by rw [← free_at S hX9 hY9]; congr 1; omega)
        have hGs : G < wr.heap.size := by omega
        clear hX hY
        go_upto_region 9 with fail
        refine hold_start (S := (fun w' => Below (G + 1) wr w' ∧ wr.heap.size ≤ w'.heap.size)) (by kernel_rfl) (by kernel_rfl) (by intro _ _ d _ _ h; cases d <;> exact h) ?_ (fun hHC hH0 => ?_)
        · (first | (go_keep; done) | ((try go_split_ands); (repeat' apply And.intro) <;> first | assumption | (with_reducible refine Rd.below ?_ hb1; assumption) | (with_reducible refine Rd.drew ?_; repeat' (first | assumption | (with_reducible refine Rd.alloc ?_ _))) | (refine (hb1.cell (by first | omega | (simp; done) | (simp; omega))).trans ?_; first | assumption | simp) | (exact below_step hb1 (by first | omega | (simp; done) | (simp; omega)) (by assumption)) | (have hz' := hb1.size; (try simp at hz'); omega) | ((repeat' (first | assumption | (with_reducible exact Below.refl _ _) | (with_reducible refine Below.drew ?_) | (with_reducible refine Below.alloc ?_ ?_ _) | (with_reducible refine Below.setCell ?_ ?_ _) | omega | (simp; done) | (simp; omega))); done) | go_simp | (simp; done) | (simp; omega)))
        refine hold_plain 0 (v := ?_) hHC hH0 (by simp only [List.getElem?_toArray, List.getElem?_cons_succ, List.getElem?_cons_zero]; rfl) rfl (by kernel_rfl) ?_ ?_
        rotate_left 1
        · (intro w hSw; (try dsimp only at hSw); go_simp; try with_reducible rfl)
        try simp only [Act.put, List.setIfInBounds_toArray, List.set_cons_zero, List.set_cons_succ]
        refine hold_plain 1 (v := ?_) hHC hH0 (by simp only [List.getElem?_toArray, List.getElem?_cons_succ, List.getElem?_cons_zero]; rfl) rfl (by kernel_rfl) ?_ ?_
        rotate_left 1
        · (intro w hSw; (try dsimp only at hSw); go_simp; try with_reducible rfl)
        try simp only [Act.put, List.setIfInBounds_toArray, List.set_cons_zero, List.set_cons_succ]
        refine hold_plain 2 (v := ?_) hHC hH0 (by simp only [List.getElem?_toArray, List.getElem?_cons_succ, List.getElem?_cons_zero]; rfl) rfl (by kernel_rfl) ?_ ?_
        rotate_left 1
        · (intro w hSw; (try dsimp only at hSw); go_simp; try with_reducible rfl)
        try simp only [Act.put, List.setIfInBounds_toArray, List.set_cons_zero, List.set_cons_succ]
        refine hold_plain 3 (v := ?_) hHC hH0 (by simp only [List.getElem?_toArray, List.getElem?_cons_succ, List.getElem?_cons_zero]; rfl) rfl (by kernel_rfl) ?_ ?_
        rotate_left 1
        · (intro w hSw; (try dsimp only at hSw); go_simp; try with_reducible rfl)
        try simp only [Act.put, List.setIfInBounds_toArray, List.set_cons_zero, List.set_cons_succ]
        refine hold_plain 4 (v := ?_) hHC hH0 (by simp only [List.getElem?_toArray, List.getElem?_cons_succ, List.getElem?_cons_zero]; rfl) rfl (by kernel_rfl) ?_ ?_
        rotate_left 1
        · (intro w hSw; (try dsimp only at hSw); go_simp; try with_reducible rfl)
        try simp only [Act.put, List.setIfInBounds_toArray, List.set_cons_zero, List.set_cons_succ]
        refine hold_plain 5 (v := ?_) hHC hH0 (by simp only [List.getElem?_toArray, List.getElem?_cons_succ, List.getElem?_cons_zero]; rfl) rfl (by kernel_rfl) ?_ ?_
        rotate_left 1
        · (intro w hSw; (try dsimp only at hSw); go_simp; try with_reducible rfl)
        try simp only [Act.put, List.setIfInBounds_toArray, List.set_cons_zero, List.set_cons_succ]
        refine hold_plain 6 (v := ?_) hHC hH0 (by simp only [List.getElem?_toArray, List.getElem?_cons_succ, List.getElem?_cons_zero]; rfl) rfl (by kernel_rfl) ?_ ?_
        rotate_left 1
        · (intro w hSw; (try dsimp only at hSw); go_simp; try with_reducible rfl)
        try simp only [Act.put, List.setIfInBounds_toArray, List.set_cons_zero, List.set_cons_succ]
        refine hold_plain 7 (v := ?_) hHC hH0 (by simp only [List.getElem?_toArray, List.getElem?_cons_succ, List.getElem?_cons_zero]; rfl) rfl (by kernel_rfl) ?_ ?_
        rotate_left 1
        · (intro w hSw; (try dsimp only at hSw); go_simp; try with_reducible rfl)
        try simp only [Act.put, List.setIfInBounds_toArray, List.set_cons_zero, List.set_cons_succ]
        refine hold_plain 8 (v := ?_) hHC hH0 (by simp only [List.getElem?_toArray, List.getElem?_cons_succ, List.getElem?_cons_zero]; rfl) rfl (by kernel_rfl) ?_ ?_
        rotate_left 1
        · (intro w hSw; (try dsimp only at hSw); go_simp; try with_reducible rfl)
        try simp only [Act.put, List.setIfInBounds_toArray, List.set_cons_zero, List.set_cons_succ]
        refine hold_call0 9 (by simp only [List.getElem?_toArray, List.getElem?_cons_succ, List.getElem?_cons_zero]; rfl) rfl (by kernel_rfl) (fun K hK => ?_)
        go_simp
        refine hK.out _ _ ?_ (fun hH1 => ?_)
        · (first | (go_keep; done) | ((try go_split_ands); (repeat' apply And.intro) <;> first | assumption | (with_reducible refine Rd.below ?_ hb1; assumption) | (with_reducible refine Rd.drew ?_; repeat' (first | assumption | (with_reducible refine Rd.alloc ?_ _))) | (refine (hb1.cell (by first | omega | (simp; done) | (simp; omega))).trans ?_; first | assumption | simp) | (exact below_step hb1 (by first | omega | (simp; done) | (simp; omega)) (by assumption)) | (have hz' := hb1.size; (try simp at hz'); omega) | ((repeat' (first | assumption | (with_reducible exact Below.refl _ _) | (with_reducible refine Below.drew ?_) | (with_reducible refine Below.alloc ?_ ?_ _) | (with_reducible refine Below.setCell ?_ ?_ _) | omega | (simp; done) | (simp; omega))); done) | go_simp | (simp; done) | (simp; omega)))
        clear hK K hH0
        try simp only [Act.put, List.setIfInBounds_toArray, List.set_cons_zero, List.set_cons_succ]
        refine hold_call0 10 (by simp only [List.getElem?_toArray, List.getElem?_cons_succ, List.getElem?_cons_zero]; rfl) rfl (by kernel_rfl) (fun K hK => ?_)
        go_simp
        refine hK.out _ _ ?_ (fun hH2 => ?_)
        · (first | (go_keep; done) | ((try go_split_ands); (repeat' apply And.intro) <;> first | assumption | (with_reducible refine Rd.below ?_ hb1; assumption) | (with_reducible refine Rd.drew ?_; repeat' (first | assumption | (with_reducible refine Rd.alloc ?_ _))) | (refine (hb1.cell (by first | omega | (simp; done) | (simp; omega))).trans ?_; first | assumption | simp) | (exact below_step hb1 (by first | omega | (simp; done) | (simp; omega)) (by assumption)) | (have hz' := hb1.size; (try simp at hz'); omega) | ((repeat' (first | assumption | (with_reducible exact Below.refl _ _) | (with_reducible refine Below.drew ?_) | (with_reducible refine Below.alloc ?_ ?_ _) | (with_reducible refine Below.setCell ?_ ?_ _) | omega | (simp; done) | (simp; omega))); done) | go_simp | (simp; done) | (simp; omega)))
        clear hK K hH1
        try simp only [Act.put, List.setIfInBounds_toArray, List.set_cons_zero, List.set_cons_succ]
        refine wpAnyH_done (by kernel_rfl) ?_ _
        (try dsimp only at hH2)
        go_split_ands
        clear hHC
        obtain ⟨w3, hw3⟩ : ∃ w3, w3 = (wr.alloc (.cells #[.int .i64 ((X : Int) - 1), .int .i64 ((Y : Int) - 1)] 35)).drew := ⟨_, rfl⟩
        have hB30 : Below wr.heap.size wr w3 := by rw [hw3]; exact ((Below.refl _ _).alloc (Nat.le_refl _) _).drew
        have hcx3 : w3.cell? ⟨wr.heap.size, 0, none⟩ = some (.int .i64 ((X : Int) - 1)) := by rw [hw3]; go_simp
        have hcy3 : w3.cell? ⟨wr.heap.size, 1, none⟩ = some (.int .i64 ((Y : Int) - 1)) := by rw [hw3]; go_simp
        have hs3 : wr.heap.size + 1 ≤ w3.heap.size := by rw [hw3]; simp
        rw [← hw3]
        clear hw3 eX0 eX eY eX1 eY0 eY1
        have hcr3 : w3.cell? ⟨w.heap.size, 0, none⟩ = some (.slice a n c) := (hB30.cell (p := ⟨w.heap.size, 0, none⟩) (by first | omega | (simp; done) | (simp; omega))).trans hcr
        have HM3 := Lib.hid (HM.out.next hB30)
        have hB3 : Below w.heap.size w w3 := hB.trans (hB30.mono (by omega))
        clear hB30 HM hcr hB hGs
        rcases Bool.eq_false_or_eq_true (U k) with hu | hu
        · have hck := HM3.out.yes hlt hu
          have hnx := upto_skip hlt HU.out (Or.inr hu)
          have HN3 : Hid (nn = (hcN S (k + 1) : Int) - 1) := Lib.hid (by rw [hcN_no hnx.2]; exact HN.out)
          have HU3 := Lib.hid hnx.1
          clear hnx hu HN HU
          go_wp2_with fail
          go_roundw
          case rel => exact ⟨k + 1, nn, U, by omega, by go_num, rfl, HN3, HU3, HM3, hcr3, hB3, by omega⟩
          case measure => simp [intOf]; omega
        · have hck := HM3.out.no hlt hu
          rcases Bool.eq_false_or_eq_true (hasB S ((X : Int) - 1) ((Y : Int) - 1)) with hh | hh
          · have hff : free S.testBit k = false := by rw [HFR.out, hh]; rfl
            have hnx := upto_skip hlt HU.out (Or.inl hff)
            have HN3 : Hid (nn = (hcN S (k + 1) : Int) - 1) := Lib.hid (by rw [hcN_no hnx.2]; exact HN.out)
            have HU3 := Lib.hid hnx.1
            have HHx := Lib.hid (fun (W : World) (h : RdI W a zs) => HH.out W h _ _ _ hh)
            clear hnx hu HN HU hff hh
            go_wp2_with (go_at_call 29; fail)
            refine (HHx.out _ (Rd.below HR.out hB3)).mono ?_
            rintro e w4 ⟨rfl, hb⟩
            have hcr4 := (hb.cell (p := ⟨w.heap.size, 0, none⟩) (by first | omega | (simp; done) | (simp; omega))).trans hcr3
            have HM4 := Lib.hid (HM3.out.next hb)
            have hB4 := below_step hb (by first | omega | (simp; done) | (simp; omega)) hB3
            have hz4 := hb.size
            clear hb
            go_wp2_with fail
            go_roundw
            case rel => exact ⟨k + 1, nn, U, by omega, by go_num, rfl, HN3, HU3, HM4, hcr4, hB4, by omega⟩
            case measure => simp [intOf]; omega
          · have hff : free S.testBit k = true := by rw [HFR.out, hh]; rfl
            have HNX := Lib.hid (fun U' => upto_fill hlt HU.out hff hu (U' := U'))
            have HBQ := Lib.hid (bq_start hlt hff hu)
            have HHx := Lib.hid (fun (W : World) (h : RdI W a zs) => HH.out W h _ _ _ hh)
            clear hu HU hff hh
            go_wp2_with (go_at_call 29; fail)
            refine (HHx.out _ (Rd.below HR.out hB3)).mono ?_
            rintro e w4 ⟨rfl, hb⟩
            have hcr4 := (hb.cell (p := ⟨w.heap.size, 0, none⟩) (by first | omega | (simp; done) | (simp; omega))).trans hcr3
            have HM4 := Lib.hid (HM3.out.next hb)
            have hB4 := below_step hb (by first | omega | (simp; done) | (simp; omega)) hB3
            have hz4 := hb.size
            have hck4 := (hb.cell (p := ⟨G, k, none⟩) (by simp; omega)).trans hck
            have hfz4 := HM4.out.frozen k
            clear hb hck hcr3 HM3 hB3 hcx3 hcy3
            go_upto_region 14 with fail
            obtain ⟨w5, hw5⟩ : ∃ w5, w5 = (w4.setCell ⟨G, k, none⟩ (.int .i64 1)).alloc (.cells #[.int .i64 (k : Int)] 3) := ⟨_, rfl⟩
            have hz40 : (w4.setCell ⟨G, k, none⟩ (.int .i64 1)).heap.size = w4.heap.size := by simp [World.setCell]
            have HO5 : Hid (OwnN w5 (G + 1) w4.heap.size 1 [k]) := Lib.hid (by have := OwnN.one (w4.setCell ⟨G, k, none⟩ (.int .i64 1)) (G + 1) k (by rw [hz40]; omega); rw [hz40, ← hw5] at this; exact this)
            have hB40 : Below G w4 (w4.setCell ⟨G, k, none⟩ (.int .i64 1)) := Below.setCell (Below.refl G w4) (p := ⟨G, k, none⟩) (Nat.le_refl G) _
            have hB45 : Below w4.heap.size (w4.setCell ⟨G, k, none⟩ (.int .i64 1)) w5 := by rw [hw5]; exact (Below.refl _ _).alloc (by rw [hz40]; exact Nat.le_refl _) _
            have HM5 := Lib.hid ((HM4.out.set_ hlt).below hB45 (by omega))
            have hB5 : Below w.heap.size w w5 := (hB4.trans (hB40.mono (by omega))).trans (hB45.mono (by omega))
            have hcr5 : w5.cell? ⟨w.heap.size, 0, none⟩ = some (.slice a n c) := (hB45.cell (p := ⟨w.heap.size, 0, none⟩) (by simp; omega)).trans ((hB40.cell (p := ⟨w.heap.size, 0, none⟩) (by simp; omega)).trans hcr4)
            have hz5 : G + 1 ≤ w5.heap.size := by have := HM5.out.lt; omega
            rw [← hw5]
            clear hw5 hz40 hB40 hB45 HM4 hB4 hcr4 hck4 hfz4 hs3 hz4 hs
            go_wp2_with fail
            go_loopg [8, 9] 100 (fun gk lv iv wr => ∃ (i : Nat) (U2 : Nat → Bool) (L : List Nat) (gl cl : Nat), i ≤ L.length ∧ gk = 100 - i ∧ iv = .int .i64 (i : Int) ∧ lv = .slice (some ⟨gl, 0, none⟩) L.length cl ∧ Hid (Bq S k U U2 L i 0) ∧ Hid (OwnN wr (G + 1) gl cl L) ∧ Hid (MarkI wr G U2) ∧ wr.cell? ⟨w.heap.size, 0, none⟩ = some (.slice a n c) ∧ Below w.heap.size w wr ∧ G + 1 ≤ wr.heap.size)
            case atStart => exact ⟨0, _, [k], _, _, by simp, rfl, rfl, rfl, HBQ, HO5, HM5, hcr5, hB5, hz5⟩
            case round =>
              clear HBQ HO5 HM5 hcr5 hB5 hz5
              obtain ⟨i, U1, L, gl, cl, hi9, hgk, rfl, rfl, HBq, HO, HM, hcr, hB, hs⟩ := hrel
              have hL100 := bq_len HBq.out
              by_cases hil : i < L.length
              · have hiI : (i : Int) < (L.length : Int) := by omega
                obtain ⟨u, hu⟩ : ∃ u, L[i]? = some u := ⟨_, List.getElem?_eq_getElem hil⟩
                have hu9 := bq_at HBq.out hu
                obtain ⟨ux, hux⟩ : ∃ ux : Nat, ux = u % 10 := ⟨_, rfl⟩
                obtain ⟨uy, huy⟩ : ∃ uy : Nat, uy = u / 10 := ⟨_, rfl⟩
                have hux9 : ux < 10 := by omega
                have huy9 : uy < 10 := by omega
                have eux : (u : Int) % 10 = (ux : Int) := by omega
                have euy : (u : Int) / 10 = (uy : Int) := by omega
                have hu100 := hu9.1
                have huI : (u : Int) < 100 := by omega
                have HUV : Hid (u = uy * 10 + ux) := Lib.hid (by omega)
                have HL := Lib.hid hu
                clear hux huy hu9 hu
                go_wp2_with fail
                go_loopw [8, 10] (fun lv dv wr => ∃ (p : Nat) (dy : Int) (U2 : Nat → Bool) (L : List Nat) (gl cl : Nat), p ≤ 3 ∧ dv = .int .i64 dy ∧ lv = .slice (some ⟨gl, 0, none⟩) L.length cl ∧ Hid (dy = (p : Int) - 1) ∧ -1 ≤ dy ∧ dy ≤ 2 ∧ Hid (Bq S k U U2 L i (3 * p)) ∧ Hid (L[i]? = some u) ∧ Hid (OwnN wr (G + 1) gl cl L) ∧ Hid (MarkI wr G U2) ∧ wr.cell? ⟨w.heap.size, 0, none⟩ = some (.slice a n c) ∧ Below w.heap.size w wr ∧ G + 1 ≤ wr.heap.size) (fun _ dv _ => (2 - intOf dv).toNat)
                case atStart => exact ⟨0, -1, U1, L, gl, cl, by omega, rfl, rfl, Lib.hid (by omega), by omega, by omega, HBq, HL, HO, HM, hcr, hB, hs⟩
                case round =>
                  clear HBq HL HO HM hcr hB hs hL100 hil hiI hi9
                  obtain ⟨p, dy, U1, L, gl, cl, hp, rfl, rfl, HDy, hdy0, hdy2, HBq, HL, HO, HM, hcr, hB, hs⟩ := hrel
                  by_cases hdl : dy ≤ 1
                  · have hp3 : p < 3 := by have := HDy.out; omega
                    go_wp2_with fail
                    go_loopw [8, 11] (fun lv dv wr => ∃ (q : Nat) (dx : Int) (U2 : Nat → Bool) (L : List Nat) (gl cl : Nat), q ≤ 3 ∧ dv = .int .i64 dx ∧ lv = .slice (some ⟨gl, 0, none⟩) L.length cl ∧ Hid (dx = (q : Int) - 1) ∧ -1 ≤ dx ∧ dx ≤ 2 ∧ Hid (Bq S k U U2 L i (3 * p + q)) ∧ Hid (L[i]? = some u) ∧ Hid (OwnN wr (G + 1) gl cl L) ∧ Hid (MarkI wr G U2) ∧ wr.cell? ⟨w.heap.size, 0, none⟩ = some (.slice a n c) ∧ Below w.heap.size w wr ∧ G + 1 ≤ wr.heap.size) (fun _ dv _ => (2 - intOf dv).toNat)
                    case atStart => exact ⟨0, -1, U1, L, gl, cl, by omega, rfl, rfl, Lib.hid (by omega), by omega, by omega, HBq, HL, HO, HM, hcr, hB, hs⟩
                    case round =>
                      clear HBq HL HO HM hcr hB hs
                      obtain ⟨q, dx, U2, L2, gl, cl, hq, rfl, rfl, HDx, hdx0, hdx2, HBq, HL, HO, HM, hcr, hB, hs⟩ := hrel
                      have hL100 := bq_len HBq.out
                      have hiL : i < L2.length := (List.getElem?_eq_some_iff.1 HL.out).1
                      have hiI : (i : Int) < (L2.length : Int) := by omega
                      by_cases hql : dx ≤ 1
                      · have hq3 : q < 3 := by have := HDx.out; omega
                        have hcu := HO.out.at_ HL.out
                        have HSK := Lib.hid (fun h => bq_skip HBq.out HL.out (fr_no (S := S) (U := U2) HUV.out hux9 huy9 hp3 hq3 HDx.out HDy.out h))
                        rcases Bool.eq_false_or_eq_true (inB ((ux : Int) + dx) 0 9) with h1 | h1
                        · have hx09 := inB_iff.1 h1
                          obtain ⟨hx00, hx99⟩ := hx09
                          rcases Bool.eq_false_or_eq_true (inB ((uy : Int) + dy) 0 9) with h2 | h2
                          · have hy09 := inB_iff.1 h2
                            obtain ⟨hy00, hy99⟩ := hy09
                            obtain ⟨t, ht⟩ : ∃ t : Nat, t = (((uy : Int) + dy) * 10 + ((ux : Int) + dx)).toNat := ⟨_, rfl⟩
                            have e3 : ((uy : Int) + dy) * 10 + ((ux : Int) + dx) = (t : Int) := by omega
                            have ht100 : t < 100 := by omega
                            have htI : (t : Int) < 100 := by omega
                            have HT1 := Lib.hid ht
                            have hfz := HM.out.frozen t
                            clear ht
                            rcases Bool.eq_false_or_eq_true (U2 t) with hut | hut
                            · have hct := HM.out.yes ht100 hut
                              have HBk := Lib.hid (HSK.out (by unfold frB; rw [h1, h2, ← HT1.out, hut]; rfl))
                              clear hut HSK HBq
                              go_wp2_with (first | (go_at_call 35; refine (specIn_any _ _ _ _).mono ?_; rintro e w' ⟨rfl, rfl⟩))
                              go_roundw
                              case rel => exact ⟨q + 1, dx + 1, U2, L2, gl, cl, by omega, by go_num, rfl, Lib.hid (by have := HDx.out; omega), by omega, by omega, HBk, HL, HO, HM, hcr, hB, hs⟩
                              case measure => simp [intOf]; omega
                            · have hct := HM.out.no ht100 hut
                              rcases Bool.eq_false_or_eq_true (hasB S ((ux : Int) + dx - 1) ((uy : Int) + dy - 1)) with hh | hh
                              · have HHx := Lib.hid (fun (W : World) (h : RdI W a zs) => HH.out W h _ _ _ hh)
                                have HBk := Lib.hid (HSK.out (by unfold frB; rw [h1, h2, ← HT1.out, hut, hh]; rfl))
                                clear hut HSK HBq hh
                                go_wp2_with (first | (go_at_call 35; refine (specIn_any _ _ _ _).mono ?_; rintro e w' ⟨rfl, rfl⟩) | (go_at_call 29; fail))
                                refine (HHx.out _ (Rd.below HR.out hB)).mono ?_
                                rintro e w6 ⟨rfl, hb⟩
                                have hcr6 := (hb.cell (p := ⟨w.heap.size, 0, none⟩) (by first | omega | (simp; done) | (simp; omega))).trans hcr
                                have HM6 := Lib.hid (HM.out.next hb)
                                have HO6 := Lib.hid (HO.out.below hb)
                                have hB6 := below_step hb (by first | omega | (simp; done) | (simp; omega)) hB
                                have hz6 := hb.size
                                clear hb hct hfz hcr HM HO hB
                                go_wp2_with fail
                                go_roundw
                                case rel => exact ⟨q + 1, dx + 1, U2, L2, gl, cl, by omega, by go_num, rfl, Lib.hid (by have := HDx.out; omega), by omega, by omega, HBk, HL, HO6, HM6, hcr6, hB6, by omega⟩
                                case measure => simp [intOf]; omega
                              · have HHx := Lib.hid (fun (W : World) (h : RdI W a zs) => HH.out W h _ _ _ hh)
                                have hyes : frB S U2 ((ux : Int) + dx) ((uy : Int) + dy) = true := by unfold frB; rw [h1, h2, ← HT1.out, hut, hh]; rfl
                                obtain ⟨t', ht', hx', hy', hnb, hft, hut'⟩ := fr_yes HUV.out hux9 huy9 hp3 hq3 HDx.out HDy.out hyes
                                obtain rfl : t' = t := by omega
                                have HBk := Lib.hid (bq_add HBq.out (by omega) HL.out hnb ht100 hft hut)
                                have HLk : Hid ((L2 ++ [t'])[i]? = some u) := Lib.hid (by rw [List.getElem?_append_left hiL]; exact HL.out)
                                clear hut HSK HBq hh hyes ht' hx' hy' hnb hft hut'
                                go_wp2_with (first | (go_at_call 35; refine (specIn_any _ _ _ _).mono ?_; rintro e w' ⟨rfl, rfl⟩) | (go_at_call 29; fail))
                                refine (HHx.out _ (Rd.below HR.out hB)).mono ?_
                                rintro e w6 ⟨rfl, hb⟩
                                have hcr6 := (hb.cell (p := ⟨w.heap.size, 0, none⟩) (by first | omega | (simp; done) | (simp; omega))).trans hcr
                                have HM6 := Lib.hid (HM.out.next hb)
                                have HO6 := Lib.hid (HO.out.below hb)
                                have hB6 := below_step hb (by first | omega | (simp; done) | (simp; omega)) hB
                                have hz6 := hb.size
                                have hct6 := (hb.cell (p := ⟨G, t', none⟩) (by simp; omega)).trans hct
                                have hfz6 := HM6.out.frozen t'
                                have HO7 := Lib.hid (HO6.out.far (p := ⟨G, t', none⟩) (by simp) (.int .i64 1))
                                have HM7 := Lib.hid (HM6.out.set_ ht100)
                                have hB7 : Below w.heap.size w (w6.setCell ⟨G, t', none⟩ (.int .i64 1)) := Below.setCell hB6 (p := ⟨G, t', none⟩) (by simp; omega) _
                                have hcr7 : (w6.setCell ⟨G, t', none⟩ (.int .i64 1)).cell? ⟨w.heap.size, 0, none⟩ = some (.slice a n c) := ((Below.setCell (Below.refl G w6) (p := ⟨G, t', none⟩) (Nat.le_refl G) _).cell (p := ⟨w.heap.size, 0, none⟩) hwG).trans hcr6
                                have hz7 : (w6.setCell ⟨G, t', none⟩ (.int .i64 1)).heap.size = w6.heap.size := by simp [World.setCell]
                                have hz8 : G + 1 ≤ w6.heap.size := by omega
                                have hgz := HM7.out.lt
                                have HZ7 := Lib.hid hz7
                                clear hb hct hfz hcr HM HO hB hcu hz7
                                go_wp2_with (at_builtin; refine wpList_append_own _ rfl _ _ 22 rfl (G + 1) 3 i0 (.int .i64 0) 1 8 Try.underlying22 hi hz0 hz1 hz2 rfl (by decide) _ _ _ rfl (World.ownsRow.alloc HO7.out _) ⟨(w6.setCell ⟨G, t', none⟩ (.int .i64 1)).heap.size, 0, none⟩ 1 1 [.int .i64 (t' : Int)] (by rw [HZ7.out]; rfl) rfl (one_newN _ _ _) (by intro u hu; simp at hu; subst hu; rfl) (by unfold maxLen; omega) (by omega) (by simp; omega) ?_; intro v3 w8 hown3 hgrow3 hnil3)
                                have hG8 : Below (G + 1) (w6.setCell ⟨G, t', none⟩ (.int .i64 1)) w8 := ((Below.refl _ _).alloc (by rw [HZ7.out]; exact hz8) _).trans (grown_below (World.ownsRow.alloc HO7.out _) hgrow3 (by simp; omega))
                                obtain ⟨gl8, cl8, hv8, hO8⟩ := OwnN.snoc hown3
                                subst hv8
                                have HO8 := Lib.hid hO8
                                have HM8 := Lib.hid (HM7.out.below hG8 (by omega))
                                have hB8 : Below w.heap.size w w8 := hB7.trans (hG8.mono (by omega))
                                have hcr8 : w8.cell? ⟨w.heap.size, 0, none⟩ = some (.slice a n c) := (hG8.cell (p := ⟨w.heap.size, 0, none⟩) (by simp; omega)).trans hcr7
                                have hz9 : G + 1 ≤ w8.heap.size := by have := HM8.out.lt; omega
                                clear hown3 hgrow3 hnil3 hO8 hG8 hB7 hcr7 HM7 HO7 HO6 HM6 hcr6 hB6 hct6 hfz6
                                go_wp2_with fail
                                go_roundw
                                case rel => exact ⟨q + 1, dx + 1, mk1 U2 t', L2 ++ [t'], gl8, cl8, by omega, by go_num, rfl, Lib.hid (by have := HDx.out; omega), by omega, by omega, HBk, HLk, HO8, HM8, hcr8, hB8, hz9⟩
                                case measure => simp [intOf]; omega
                          · have HBk := Lib.hid (HSK.out (by unfold frB; rw [h1, h2]; rfl))
                            clear HSK HBq
                            go_wp2_with (first | (go_at_call 35; refine (specIn_any _ _ _ _).mono ?_; rintro e w' ⟨rfl, rfl⟩))
                            go_roundw
                            case rel => exact ⟨q + 1, dx + 1, U2, L2, gl, cl, by omega, by go_num, rfl, Lib.hid (by have := HDx.out; omega), by omega, by omega, HBk, HL, HO, HM, hcr, hB, hs⟩
                            case measure => simp [intOf]; omega
                        · have HBk := Lib.hid (HSK.out (by unfold frB; rw [h1]; rfl))
                          clear HSK HBq
                          go_wp2_with (first | (go_at_call 35; refine (specIn_any _ _ _ _).mono ?_; rintro e w' ⟨rfl, rfl⟩))
                          go_roundw
                          case rel => exact ⟨q + 1, dx + 1, U2, L2, gl, cl, by omega, by go_num, rfl, Lib.hid (by have := HDx.out; omega), by omega, by omega, HBk, HL, HO, HM, hcr, hB, hs⟩
                          case measure => simp [intOf]; omega
                      · have hq3 : q = 3 := by have := HDx.out; omega
                        have HBk : Hid (Bq S k U U2 L2 i (3 * (p + 1))) := Lib.hid (by have := HBq.out; rw [hq3] at this; exact this)
                        go_wp2_with fail
                        go_roundw
                        case rel => exact ⟨p + 1, dy + 1, U2, L2, gl, cl, by omega, by go_num, rfl, Lib.hid (by have := HDy.out; omega), by omega, by omega, HBk, HL, HO, HM, hcr, hB, hs⟩
                        case measure => simp [intOf]; omega
                  · have hp3 : p = 3 := by have := HDy.out; omega
                    have hiL : i < L.length := (List.getElem?_eq_some_iff.1 HL.out).1
                    have hL100 := bq_len HBq.out
                    have HBk : Hid (Bq S k U U1 L (i + 1) 0) := Lib.hid (bq_next (by have := HBq.out; rw [hp3] at this; exact this))
                    go_wp2_with fail
                    go_roundg (100 - (i + 1))
                    case rel => exact ⟨i + 1, U1, L, gl, cl, by omega, rfl, by go_num, rfl, HBk, HO, HM, hcr, hB, hs⟩
                    case measure => omega
              · have hiI : ¬ (i : Int) < (L.length : Int) := by omega
                have hnx := HNX.out U1 (bq_end HBq.out (by omega))
                have HN3 : Hid (nn + 1 = (hcN S (k + 1) : Int) - 1) := Lib.hid (by rw [hcN_yes hnx.2]; have := HN.out; omega)
                have HU3 := Lib.hid hnx.1
                clear hnx
                go_wp2_with fail
                go_roundw
                case rel => exact ⟨k + 1, nn + 1, U1, by omega, by go_num, rfl, HN3, HU3, HM, hcr, hB, hs⟩
                case measure => simp [intOf]; omega
      · have hkI : ¬ (k : Int) < 100 := by omega
        have HN3 : Hid (nn = hlB zs) := Lib.hid (by have := HN.out; rw [HT.out, ← hcN_all, show 100 = k by omega]; exact this)
        go_wp2_with fail
        go_ret
        exact ⟨ret_i HN3.out, hB⟩
  · have h1' : rokB zs = false := by simpa using h1
    have HOK := Lib.hid (fun (W : World) (h : RdI W a zs) => specRok_valH a n c zs W HZ.out hn h h1')
    have HT : Hid (hlB zs = 0) := Lib.hid (by unfold hlB; rw [if_neg h1])
    clear h1 h1'
    go_enter Try.func9, Try.ntmps9
    go_wp2_with (go_at_call 26; refine (HOK.out _ (Rd.below hr (by repeat' (first | assumption | (with_reducible exact Below.refl _ _) | (with_reducible refine Below.drew ?_) | (with_reducible refine Below.alloc ?_ ?_ _) | (with_reducible refine Below.setCell ?_ ?_ _) | omega | (simp; done) | (simp; omega))))).mono ?_; rintro e w1 ⟨rfl, hbw1⟩; have hzw1 := hbw1.size; (try simp at hzw1); (try have hl0w_w1 : w.heap.size < w1.heap.size := by omega); (try have hl1w_w1 : w.heap.size + 1 < w1.heap.size := by omega); (try have hl2w_w1 : w.heap.size + 1 + 1 < w1.heap.size := by omega); (try have hl3w_w1 : w.heap.size + 1 + 1 + 1 < w1.heap.size := by omega); (first | (have hcw_w1 : ∀ b o, b ≤ w.heap.size + 6 → w1.cell? ⟨b, o, none⟩ = _ := fun b o h => hbw1.cell (p := ⟨b, o, none⟩) (by first | omega | (simp; omega)); have hfw_w1 : ∀ b o, b ≤ w.heap.size + 6 → w1.frozen? ⟨b, o, none⟩ = _ := fun b o h => hbw1.frozen (p := ⟨b, o, none⟩) (by first | omega | (simp; omega))) | (have hcw_w1 : ∀ b o, b ≤ w.heap.size + 5 → w1.cell? ⟨b, o, none⟩ = _ := fun b o h => hbw1.cell (p := ⟨b, o, none⟩) (by first | omega | (simp; omega)); have hfw_w1 : ∀ b o, b ≤ w.heap.size + 5 → w1.frozen? ⟨b, o, none⟩ = _ := fun b o h => hbw1.frozen (p := ⟨b, o, none⟩) (by first | omega | (simp; omega))) | (have hcw_w1 : ∀ b o, b ≤ w.heap.size + 4 → w1.cell? ⟨b, o, none⟩ = _ := fun b o h => hbw1.cell (p := ⟨b, o, none⟩) (by first | omega | (simp; omega)); have hfw_w1 : ∀ b o, b ≤ w.heap.size + 4 → w1.frozen? ⟨b, o, none⟩ = _ := fun b o h => hbw1.frozen (p := ⟨b, o, none⟩) (by first | omega | (simp; omega))) | (have hcw_w1 : ∀ b o, b ≤ w.heap.size + 3 → w1.cell? ⟨b, o, none⟩ = _ := fun b o h => hbw1.cell (p := ⟨b, o, none⟩) (by first | omega | (simp; omega)); have hfw_w1 : ∀ b o, b ≤ w.heap.size + 3 → w1.frozen? ⟨b, o, none⟩ = _ := fun b o h => hbw1.frozen (p := ⟨b, o, none⟩) (by first | omega | (simp; omega))) | (have hcw_w1 : ∀ b o, b ≤ w.heap.size + 2 → w1.cell? ⟨b, o, none⟩ = _ := fun b o h => hbw1.cell (p := ⟨b, o, none⟩) (by first | omega | (simp; omega)); have hfw_w1 : ∀ b o, b ≤ w.heap.size + 2 → w1.frozen? ⟨b, o, none⟩ = _ := fun b o h => hbw1.frozen (p := ⟨b, o, none⟩) (by first | omega | (simp; omega))) | (have hcw_w1 : ∀ b o, b ≤ w.heap.size + 1 → w1.cell? ⟨b, o, none⟩ = _ := fun b o h => hbw1.cell (p := ⟨b, o, none⟩) (by first | omega | (simp; omega)); have hfw_w1 : ∀ b o, b ≤ w.heap.size + 1 → w1.frozen? ⟨b, o, none⟩ = _ := fun b o h => hbw1.frozen (p := ⟨b, o, none⟩) (by first | omega | (simp; omega))) | (have hcw_w1 : ∀ b o, b ≤ w.heap.size + 0 → w1.cell? ⟨b, o, none⟩ = _ := fun b o h => hbw1.cell (p := ⟨b, o, none⟩) (by first | omega | (simp; omega)); have hfw_w1 : ∀ b o, b ≤ w.heap.size + 0 → w1.frozen? ⟨b, o, none⟩ = _ := fun b o h => hbw1.frozen (p := ⟨b, o, none⟩) (by first | omega | (simp; omega))) | skip); have hBw1 : Below w.heap.size w w1 := below_step hbw1 (by first | omega | (simp; done) | (simp; omega)) (by repeat' (first | assumption | (with_reducible exact Below.refl _ _) | (with_reducible refine Below.drew ?_) | (with_reducible refine Below.alloc ?_ ?_ _) | (with_reducible refine Below.setCell ?_ ?_ _) | omega | (simp; done) | (simp; omega))); clear hbw1)
    go_ret
    exact ⟨ret_i HT.out.symm, by repeat' (first | assumption | (with_reducible exact Below.refl _ _) | (with_reducible refine Below.drew ?_) | (with_reducible refine Below.alloc ?_ ?_ _) | (with_reducible refine Below.setCell ?_ ?_ _) | omega | (simp; done) | (simp; omega))⟩
end Go.Proofs.Ytghakmhglneckaa
