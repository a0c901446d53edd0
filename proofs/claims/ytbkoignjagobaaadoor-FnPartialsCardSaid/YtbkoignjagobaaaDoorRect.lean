/-
  Rectangle: contracts.
-/
import Derived.Test.YtbkoignjagobaaaDoorRegI
import Derived.Test.YtbkoignjagobaaaDoorList
import Derived.Test.YtbkoignjagobaaaDoorMark
namespace Go.Proofs.YtbkoignjagobaaaDoor
open Go.RowKit
set_option linter.unusedVariables false
set_option linter.unusedSimpArgs false

def flatI (L : List Int) : List Value := L.map (Value.int .i64)
theorem flatI_app (L M : List Int) : flatI (L ++ M) = flatI L ++ flatI M := by simp [flatI]
def OwnI (w : World) (B : Nat) (v : Value) (L : List Int) : Prop := w.ownsRow B 3 1 v L.length (flatI L)
theorem OwnI.below {w w' : World} {B : Nat} {v : Value} {L : List Int} (h : OwnI w B v L) (hb : Below w.heap.size w w') : OwnI w' B v L := own_below h hb
theorem OwnI.nil (w : World) (B : Nat) : OwnI w B (.slice none 0 0) [] := ⟨rfl, .inl ⟨rfl, rfl⟩⟩
theorem OwnI.set {w : World} {B : Nat} {v : Value} {L : List Int} (h : OwnI w B v L) {p o : Nat} (hp : p < B) (u : Value) : OwnI (w.setCell ⟨p, o, none⟩ u) B v L := by
  refine ⟨h.1, ?_⟩
  rcases h.2 with h2 | ⟨g, cap, cur, hv, hg, hh, r⟩
  · exact .inl h2
  · refine .inr ⟨g, cap, cur, hv, hg, ?_, r⟩
    rw [Below.heap_setCell w ⟨p, o, none⟩ u g (by simp; omega)]
    exact hh
theorem pow_small {n : Nat} (h1 : 1 ≤ n) (h : n ≤ 8) : IntKind.i64.wrap (IntKind.i64.wrap ((2 : Int) ^ n) - 1) = 2 ^ n - 1 := by
  have : n = 1 ∨ n = 2 ∨ n = 3 ∨ n = 4 ∨ n = 5 ∨ n = 6 ∨ n = 7 ∨ n = 8 := by omega
  rcases this with rfl | rfl | rfl | rfl | rfl | rfl | rfl | rfl <;> decide
theorem one_new (w : World) (x : Value) (t : TypeId) : ∀ j u, [x][j]? = some u → (w.alloc (.cells #[x] t)).cell? ((⟨w.heap.size, 0, none⟩ : Addr).add j) = some u := by
  intro j u hj
  match j, hj with
  | 0, hj => simp at hj; subst hj; simp [Addr.add]
  | (j + 1), hj => simp at hj

section
variable {P : Program} {ops : Array Oper} {Q : Exit → Act → World → Prop} {S : World → Prop} {fuel : Nat} {listed : Array Bool} {a : Act} {w : World}
theorem hold_two (i j : Nat) {oi oj : Oper} (hi : ops[i]? = some oi) (hg : oi.guard = none) (hj : ops[j]? = some oj) (hgj : oj.guard = none) (hr : Region.ready .any ops listed = [i, j])
    (h : ∀ K' : Act → World → Prop, Shut (∀ a w, S w → (S w → wpAnyH P .any ops Q S fuel (listed.setIfInBounds i true) a w) → K' a w) → Oper.wp P oi a w K' Q)
    (h' : ∀ K' : Act → World → Prop, Shut (∀ a w, S w → (S w → wpAnyH P .any ops Q S fuel (listed.setIfInBounds j true) a w) → K' a w) → Oper.wp P oj a w K' Q) : wpAnyH P .any ops Q S (fuel + 1) listed a w :=
  wpAnyH_ready hr (by simp) (AllReadyH.cons hi (fun K hK => by rw [if_pos (by simp [Region.wanted, hg])]; exact h K hK) (AllReadyH.cons hj (fun K hK => by rw [if_pos (by simp [Region.wanted, hgj])]; exact h' K hK) AllReadyH.nil))
end
set_option maxHeartbeats 1600000 in
set_option maxRecDepth 100000 in
theorem specRect_any (x y : Int) (w : World) (hx : inB x 1 8 = true) (hy : inB y 1 8 = true) :
    Calls Tryd.prog 32 #[.int .i64 x, .int .i64 y] w fun e w' => ∃ a c, e = .returned (.agg #[.slice a y.toNat c]) ∧ OwnI w' w.heap.size (.slice a y.toNat c) (List.replicate y.toNat (2 ^ x.toNat - 1)) ∧ Below w.heap.size w w' := by
  obtain ⟨i0, hi, hz0, hz1, hz2⟩ := info_parts intInfo
  obtain ⟨h1, h2⟩ := inB_iff.1 hx
  obtain ⟨h3, h4⟩ := inB_iff.1 hy
  obtain ⟨q, hq⟩ : ∃ q : Nat, (q : Int) = x := ⟨x.toNat, by omega⟩
  go_enter Tryd.func32, Tryd.ntmps32
  go_wp2
  go_loopw [6] (fun i wr => ∃ (k : Nat) (L : List Int) (a : Option Addr) (c : Nat), (k : Int) ≤ y ∧ i = .int .i64 k ∧ wr.cell? ⟨w.heap.size + 1, 0, none⟩ = some (.slice a L.length c) ∧ wr.frozen? ⟨w.heap.size + 1, 0, none⟩ = false ∧ w.heap.size + 2 ≤ wr.heap.size ∧ Hid (OwnI wr (w.heap.size + 2) (.slice a L.length c) L) ∧ Hid (L = List.replicate k (2 ^ x.toNat - 1)) ∧ Below w.heap.size w wr ∧ wr.cell? ⟨w.heap.size, 0, none⟩ = some (.slice none 0 0) ∧ wr.frozen? ⟨w.heap.size, 0, none⟩ = false)
    (fun i _ => y.toNat - (intOf i).toNat)
  case atStart => exact ⟨0, [], none, 0, by omega, rfl, by simp, by simp, by simp, Lib.hid (OwnI.nil _ _), Lib.hid rfl, by repeat' (first | assumption | (with_reducible exact Below.refl _ _) | (with_reducible refine Below.drew ?_) | (with_reducible refine Below.alloc ?_ ?_ _) | (with_reducible refine Below.setCell ?_ ?_ _) | omega | (simp; done) | (simp; omega)), by simp, by simp⟩
  case round =>
    obtain ⟨k, L, a, c, hk, rfl, hc, hf, hsz, hO, hL, hB, hc0, hf0⟩ := hrel
    by_cases hlt : (k : Int) < y
    · have hlen : L.length ≤ 8 := by rw [hL.out]; simp; omega
      go_wp2_with (go_at_call 51; refine (specIn_any _ _ _ _).mono ?_; rintro e w' ⟨rfl, rfl⟩)
      have hO : Hid (OwnI wr.drew (w.heap.size + 2) (.slice a L.length c) L) := Lib.hid hO.out
      have hp : w.heap.size + 1 < wr.heap.size := by omega
      have hp0 : w.heap.size < wr.heap.size := by omega
      obtain ⟨z, hz⟩ : ∃ z : Int, z = 2 ^ x.toNat - 1 := ⟨_, rfl⟩
      have ez : IntKind.i64.wrap (IntKind.i64.wrap (2 ^ x.toNat) - 1) = z := by rw [hz]; exact pow_small (by omega) (by omega)
      have HZ := Lib.hid hz
      clear hz
      refine hold_start (S := (fun w' => w.heap.size ≤ w'.heap.size ∧ Below w.heap.size w w' ∧ w.heap.size + 2 ≤ w'.heap.size)) (by kernel_rfl) (by kernel_rfl) (by intro _ _ d _ _ h; cases d <;> exact h) ?_ (fun hHC hH0 => ?_)
      · (first | (go_keep; done) | ((try go_split_ands); (repeat' apply And.intro) <;> first | assumption | (with_reducible refine Rd.below ?_ hb1; assumption) | (with_reducible refine Rd.drew ?_; repeat' (first | assumption | (with_reducible refine Rd.alloc ?_ _))) | (refine (hb1.cell (by first | omega | (simp; done) | (simp; omega))).trans ?_; first | assumption | simp) | (exact below_step hb1 (by first | omega | (simp; done) | (simp; omega)) (by assumption)) | (have hz' := hb1.size; (try simp at hz'); omega) | ((repeat' (first | assumption | (with_reducible exact Below.refl _ _) | (with_reducible refine Below.drew ?_) | (with_reducible refine Below.alloc ?_ ?_ _) | (with_reducible refine Below.setCell ?_ ?_ _) | omega | (simp; done) | (simp; omega))); done) | go_simp | (simp; done) | (simp; omega)))
      refine hold_plain 0 (v := ?_) hHC hH0 (by simp only [List.getElem?_toArray, List.getElem?_cons_succ, List.getElem?_cons_zero]; rfl) rfl (by kernel_rfl) ?_ ?_
      rotate_left 1
      · (intro w hSw; (try dsimp only at hSw); go_simp; try with_reducible rfl)
      try simp only [Act.put, List.setIfInBounds_toArray, List.set_cons_zero, List.set_cons_succ]
      refine hold_plain 2 (v := ?_) hHC hH0 (by simp only [List.getElem?_toArray, List.getElem?_cons_succ, List.getElem?_cons_zero]; rfl) rfl (by kernel_rfl) ?_ ?_
      rotate_left 1
      · (intro w hSw; (try dsimp only at hSw); go_simp; try with_reducible rfl)
      try simp only [Act.put, List.setIfInBounds_toArray, List.set_cons_zero, List.set_cons_succ]
      refine hold_plain 3 (v := ?_) hHC hH0 (by simp only [List.getElem?_toArray, List.getElem?_cons_succ, List.getElem?_cons_zero]; rfl) rfl (by kernel_rfl) ?_ ?_
      rotate_left 1
      · (intro w hSw; (try dsimp only at hSw); go_simp; try with_reducible rfl)
      try simp only [Act.put, List.setIfInBounds_toArray, List.set_cons_zero, List.set_cons_succ]
      refine hold_plain 4 (v := ?_) hHC hH0 (by simp only [List.getElem?_toArray, List.getElem?_cons_succ, List.getElem?_cons_zero]; rfl) rfl (by kernel_rfl) ?_ ?_
      rotate_left 1
      · (intro w hSw; (try dsimp only at hSw); go_simp; try with_reducible rfl)
      try simp only [Act.put, List.setIfInBounds_toArray, List.set_cons_zero, List.set_cons_succ]
      refine hold_two 1 5 (by simp only [List.getElem?_toArray, List.getElem?_cons_succ, List.getElem?_cons_zero]; rfl) rfl (by simp only [List.getElem?_toArray, List.getElem?_cons_succ, List.getElem?_cons_zero]; rfl) rfl (by kernel_rfl) (fun K hK => ?_) (fun K hK => ?_)
      focus
        go_simp
        refine hK.out _ _ ?_ (fun hH1 => ?_)
        · (first | (go_keep; done) | ((try go_split_ands); (repeat' apply And.intro) <;> first | assumption | (with_reducible refine Rd.below ?_ hb1; assumption) | (with_reducible refine Rd.drew ?_; repeat' (first | assumption | (with_reducible refine Rd.alloc ?_ _))) | (refine (hb1.cell (by first | omega | (simp; done) | (simp; omega))).trans ?_; first | assumption | simp) | (exact below_step hb1 (by first | omega | (simp; done) | (simp; omega)) (by assumption)) | (have hz' := hb1.size; (try simp at hz'); omega) | ((repeat' (first | assumption | (with_reducible exact Below.refl _ _) | (with_reducible refine Below.drew ?_) | (with_reducible refine Below.alloc ?_ ?_ _) | (with_reducible refine Below.setCell ?_ ?_ _) | omega | (simp; done) | (simp; omega))); done) | go_simp | (simp; done) | (simp; omega)))
        clear hK K hH0
        try simp only [Act.put, List.setIfInBounds_toArray, List.set_cons_zero, List.set_cons_succ]
        refine hold_call0 5 (by simp only [List.getElem?_toArray, List.getElem?_cons_succ, List.getElem?_cons_zero]; rfl) rfl (by kernel_rfl) (fun K hK => ?_)
        go_simp
        refine hK.out _ _ ?_ (fun hH2 => ?_)
        · (first | (go_keep; done) | ((try go_split_ands); (repeat' apply And.intro) <;> first | assumption | (with_reducible refine Rd.below ?_ hb1; assumption) | (with_reducible refine Rd.drew ?_; repeat' (first | assumption | (with_reducible refine Rd.alloc ?_ _))) | (refine (hb1.cell (by first | omega | (simp; done) | (simp; omega))).trans ?_; first | assumption | simp) | (exact below_step hb1 (by first | omega | (simp; done) | (simp; omega)) (by assumption)) | (have hz' := hb1.size; (try simp at hz'); omega) | ((repeat' (first | assumption | (with_reducible exact Below.refl _ _) | (with_reducible refine Below.drew ?_) | (with_reducible refine Below.alloc ?_ ?_ _) | (with_reducible refine Below.setCell ?_ ?_ _) | omega | (simp; done) | (simp; omega))); done) | go_simp | (simp; done) | (simp; omega)))
        clear hK K hH1
        try simp only [Act.put, List.setIfInBounds_toArray, List.set_cons_zero, List.set_cons_succ]
        refine hold_call0 6 (by simp only [List.getElem?_toArray, List.getElem?_cons_succ, List.getElem?_cons_zero]; rfl) rfl (by kernel_rfl) (fun K hK => ?_)
        (have hS := hH2; (try dsimp only at hS); obtain ⟨_, hBS, hzS⟩ := hS; (try simp at hzS); refine wp_append_own _ _ _ 24 rfl (w.heap.size + 2) 3 i0 (.int .i64 0) 1 8 Tryd.underlying24 hi hz0 hz1 hz2 rfl (by decide) (.slice a L.length c) L.length (flatI L) (by rfl) (World.ownsRow.alloc hO.out _) ⟨wr.heap.size, 0, none⟩ 1 1 [.int .i64 z] (by rfl) rfl (one_new _ _ _) (by intro u hu; simp at hu; subst hu; rfl) (by unfold maxLen; omega) (by omega) (by simp; omega) ?_; intro v3 w3 hown3 hgrow3 hnil3; obtain ⟨a3, c3, rfl⟩ := own_slice hown3; have hG : Below (w.heap.size + 2) _ w3 := grown_below (World.ownsRow.alloc hO.out _) hgrow3 (by simp; omega); have hc3 : w3.cell? ⟨w.heap.size + 1, 0, none⟩ = some (.slice a L.length c) := (hG.cell (p := ⟨w.heap.size + 1, 0, none⟩) (by simp)).trans (by go_simp); have hf3 : w3.frozen? ⟨w.heap.size + 1, 0, none⟩ = false := (hG.frozen (p := ⟨w.heap.size + 1, 0, none⟩) (by simp)).trans (by go_simp); have hB3 : Below w.heap.size w w3 := hBS.trans (hG.mono (by omega)); have hz3 : w.heap.size + 2 ≤ w3.heap.size := Nat.le_trans (by simp; omega) hG.size; have hd3 : w3.cell? ⟨w.heap.size, 0, none⟩ = some (.slice none 0 0) := (hG.cell (p := ⟨w.heap.size, 0, none⟩) (by simp)).trans (by go_simp); have he3 : w3.frozen? ⟨w.heap.size, 0, none⟩ = false := (hG.frozen (p := ⟨w.heap.size, 0, none⟩) (by simp)).trans (by go_simp); have HO3 : Hid (OwnI w3 (w.heap.size + 2) (.slice a3 (L.length + 1) c3) (L ++ [z])) := Lib.hid (by unfold OwnI; rw [flatI_app, List.length_append]; exact hown3); clear hown3 hgrow3 hnil3 hBS hzS)
        refine hK.out _ _ ?_ (fun hH3 => ?_)
        · (first | (go_keep; done) | ((try go_split_ands); (repeat' apply And.intro) <;> first | assumption | (with_reducible refine Rd.below ?_ hb1; assumption) | (with_reducible refine Rd.drew ?_; repeat' (first | assumption | (with_reducible refine Rd.alloc ?_ _))) | (refine (hb1.cell (by first | omega | (simp; done) | (simp; omega))).trans ?_; first | assumption | simp) | (exact below_step hb1 (by first | omega | (simp; done) | (simp; omega)) (by assumption)) | (have hz' := hb1.size; (try simp at hz'); omega) | ((repeat' (first | assumption | (with_reducible exact Below.refl _ _) | (with_reducible refine Below.drew ?_) | (with_reducible refine Below.alloc ?_ ?_ _) | (with_reducible refine Below.setCell ?_ ?_ _) | omega | (simp; done) | (simp; omega))); done) | go_simp | (simp; done) | (simp; omega)))
        clear hK K hH2
        try simp only [Act.put, List.setIfInBounds_toArray, List.set_cons_zero, List.set_cons_succ]
        refine hold_plain 7 (v := ?_) hHC hH3 (by simp only [List.getElem?_toArray, List.getElem?_cons_succ, List.getElem?_cons_zero]; rfl) rfl (by kernel_rfl) ?_ ?_
        rotate_left 1
        · (intro w hSw; (try dsimp only at hSw); go_simp; try with_reducible rfl)
        try simp only [Act.put, List.setIfInBounds_toArray, List.set_cons_zero, List.set_cons_succ]
        refine hold_call0 8 (by simp only [List.getElem?_toArray, List.getElem?_cons_succ, List.getElem?_cons_zero]; rfl) rfl (by kernel_rfl) (fun K hK => ?_)
        go_simp
        refine hK.out _ _ ?_ (fun hH4 => ?_)
        · (first | (go_keep; done) | ((try go_split_ands); (repeat' apply And.intro) <;> first | assumption | (with_reducible refine Rd.below ?_ hb1; assumption) | (with_reducible refine Rd.drew ?_; repeat' (first | assumption | (with_reducible refine Rd.alloc ?_ _))) | (refine (hb1.cell (by first | omega | (simp; done) | (simp; omega))).trans ?_; first | assumption | simp) | (exact below_step hb1 (by first | omega | (simp; done) | (simp; omega)) (by assumption)) | (have hz' := hb1.size; (try simp at hz'); omega) | ((repeat' (first | assumption | (with_reducible exact Below.refl _ _) | (with_reducible refine Below.drew ?_) | (with_reducible refine Below.alloc ?_ ?_ _) | (with_reducible refine Below.setCell ?_ ?_ _) | omega | (simp; done) | (simp; omega))); done) | go_simp | (simp; done) | (simp; omega)))
        clear hK K hH3
        try simp only [Act.put, List.setIfInBounds_toArray, List.set_cons_zero, List.set_cons_succ]
        refine wpAnyH_done (by kernel_rfl) ?_ _
        (try dsimp only at hH4)
        go_split_ands
        clear hHC
      rotate_left 1
      focus
        go_simp
        refine hK.out _ _ ?_ (fun hH1 => ?_)
        · (first | (go_keep; done) | ((try go_split_ands); (repeat' apply And.intro) <;> first | assumption | (with_reducible refine Rd.below ?_ hb1; assumption) | (with_reducible refine Rd.drew ?_; repeat' (first | assumption | (with_reducible refine Rd.alloc ?_ _))) | (refine (hb1.cell (by first | omega | (simp; done) | (simp; omega))).trans ?_; first | assumption | simp) | (exact below_step hb1 (by first | omega | (simp; done) | (simp; omega)) (by assumption)) | (have hz' := hb1.size; (try simp at hz'); omega) | ((repeat' (first | assumption | (with_reducible exact Below.refl _ _) | (with_reducible refine Below.drew ?_) | (with_reducible refine Below.alloc ?_ ?_ _) | (with_reducible refine Below.setCell ?_ ?_ _) | omega | (simp; done) | (simp; omega))); done) | go_simp | (simp; done) | (simp; omega)))
        clear hK K hH0
        try simp only [Act.put, List.setIfInBounds_toArray, List.set_cons_zero, List.set_cons_succ]
        refine hold_call0 1 (by simp only [List.getElem?_toArray, List.getElem?_cons_succ, List.getElem?_cons_zero]; rfl) rfl (by kernel_rfl) (fun K hK => ?_)
        go_simp
        refine hK.out _ _ ?_ (fun hH2 => ?_)
        · (first | (go_keep; done) | ((try go_split_ands); (repeat' apply And.intro) <;> first | assumption | (with_reducible refine Rd.below ?_ hb1; assumption) | (with_reducible refine Rd.drew ?_; repeat' (first | assumption | (with_reducible refine Rd.alloc ?_ _))) | (refine (hb1.cell (by first | omega | (simp; done) | (simp; omega))).trans ?_; first | assumption | simp) | (exact below_step hb1 (by first | omega | (simp; done) | (simp; omega)) (by assumption)) | (have hz' := hb1.size; (try simp at hz'); omega) | ((repeat' (first | assumption | (with_reducible exact Below.refl _ _) | (with_reducible refine Below.drew ?_) | (with_reducible refine Below.alloc ?_ ?_ _) | (with_reducible refine Below.setCell ?_ ?_ _) | omega | (simp; done) | (simp; omega))); done) | go_simp | (simp; done) | (simp; omega)))
        clear hK K hH1
        try simp only [Act.put, List.setIfInBounds_toArray, List.set_cons_zero, List.set_cons_succ]
        refine hold_call0 6 (by simp only [List.getElem?_toArray, List.getElem?_cons_succ, List.getElem?_cons_zero]; rfl) rfl (by kernel_rfl) (fun K hK => ?_)
        (have hS := hH2; (try dsimp only at hS); obtain ⟨_, hBS, hzS⟩ := hS; (try simp at hzS); refine wp_append_own _ _ _ 24 rfl (w.heap.size + 2) 3 i0 (.int .i64 0) 1 8 Tryd.underlying24 hi hz0 hz1 hz2 rfl (by decide) (.slice a L.length c) L.length (flatI L) (by rfl) (World.ownsRow.alloc hO.out _) ⟨wr.heap.size, 0, none⟩ 1 1 [.int .i64 z] (by rfl) rfl (one_new _ _ _) (by intro u hu; simp at hu; subst hu; rfl) (by unfold maxLen; omega) (by omega) (by simp; omega) ?_; intro v3 w3 hown3 hgrow3 hnil3; obtain ⟨a3, c3, rfl⟩ := own_slice hown3; have hG : Below (w.heap.size + 2) _ w3 := grown_below (World.ownsRow.alloc hO.out _) hgrow3 (by simp; omega); have hc3 : w3.cell? ⟨w.heap.size + 1, 0, none⟩ = some (.slice a L.length c) := (hG.cell (p := ⟨w.heap.size + 1, 0, none⟩) (by simp)).trans (by go_simp); have hf3 : w3.frozen? ⟨w.heap.size + 1, 0, none⟩ = false := (hG.frozen (p := ⟨w.heap.size + 1, 0, none⟩) (by simp)).trans (by go_simp); have hB3 : Below w.heap.size w w3 := hBS.trans (hG.mono (by omega)); have hz3 : w.heap.size + 2 ≤ w3.heap.size := Nat.le_trans (by simp; omega) hG.size; have hd3 : w3.cell? ⟨w.heap.size, 0, none⟩ = some (.slice none 0 0) := (hG.cell (p := ⟨w.heap.size, 0, none⟩) (by simp)).trans (by go_simp); have he3 : w3.frozen? ⟨w.heap.size, 0, none⟩ = false := (hG.frozen (p := ⟨w.heap.size, 0, none⟩) (by simp)).trans (by go_simp); have HO3 : Hid (OwnI w3 (w.heap.size + 2) (.slice a3 (L.length + 1) c3) (L ++ [z])) := Lib.hid (by unfold OwnI; rw [flatI_app, List.length_append]; exact hown3); clear hown3 hgrow3 hnil3 hBS hzS)
        refine hK.out _ _ ?_ (fun hH3 => ?_)
        · (first | (go_keep; done) | ((try go_split_ands); (repeat' apply And.intro) <;> first | assumption | (with_reducible refine Rd.below ?_ hb1; assumption) | (with_reducible refine Rd.drew ?_; repeat' (first | assumption | (with_reducible refine Rd.alloc ?_ _))) | (refine (hb1.cell (by first | omega | (simp; done) | (simp; omega))).trans ?_; first | assumption | simp) | (exact below_step hb1 (by first | omega | (simp; done) | (simp; omega)) (by assumption)) | (have hz' := hb1.size; (try simp at hz'); omega) | ((repeat' (first | assumption | (with_reducible exact Below.refl _ _) | (with_reducible refine Below.drew ?_) | (with_reducible refine Below.alloc ?_ ?_ _) | (with_reducible refine Below.setCell ?_ ?_ _) | omega | (simp; done) | (simp; omega))); done) | go_simp | (simp; done) | (simp; omega)))
        clear hK K hH2
        try simp only [Act.put, List.setIfInBounds_toArray, List.set_cons_zero, List.set_cons_succ]
        refine hold_plain 7 (v := ?_) hHC hH3 (by simp only [List.getElem?_toArray, List.getElem?_cons_succ, List.getElem?_cons_zero]; rfl) rfl (by kernel_rfl) ?_ ?_
        rotate_left 1
        · (intro w hSw; (try dsimp only at hSw); go_simp; try with_reducible rfl)
        try simp only [Act.put, List.setIfInBounds_toArray, List.set_cons_zero, List.set_cons_succ]
        refine hold_call0 8 (by simp only [List.getElem?_toArray, List.getElem?_cons_succ, List.getElem?_cons_zero]; rfl) rfl (by kernel_rfl) (fun K hK => ?_)
        go_simp
        refine hK.out _ _ ?_ (fun hH4 => ?_)
        · (first | (go_keep; done) | ((try go_split_ands); (repeat' apply And.intro) <;> first | assumption | (with_reducible refine Rd.below ?_ hb1; assumption) | (with_reducible refine Rd.drew ?_; repeat' (first | assumption | (with_reducible refine Rd.alloc ?_ _))) | (refine (hb1.cell (by first | omega | (simp; done) | (simp; omega))).trans ?_; first | assumption | simp) | (exact below_step hb1 (by first | omega | (simp; done) | (simp; omega)) (by assumption)) | (have hz' := hb1.size; (try simp at hz'); omega) | ((repeat' (first | assumption | (with_reducible exact Below.refl _ _) | (with_reducible refine Below.drew ?_) | (with_reducible refine Below.alloc ?_ ?_ _) | (with_reducible refine Below.setCell ?_ ?_ _) | omega | (simp; done) | (simp; omega))); done) | go_simp | (simp; done) | (simp; omega)))
        clear hK K hH3
        try simp only [Act.put, List.setIfInBounds_toArray, List.set_cons_zero, List.set_cons_succ]
        refine wpAnyH_done (by kernel_rfl) ?_ _
        (try dsimp only at hH4)
        go_split_ands
        clear hHC
      all_goals (
        go_wp2
        go_roundw
        case rel => exact ⟨k + 1, L ++ [z], a3, c3, by omega, by go_num, by rw [World.cell?_setCell_same _ _ _ hc3]; simp, by simp [hf3], by simpa [World.setCell] using hz3, Lib.hid (by simpa using HO3.out.set (by omega) _), Lib.hid (by rw [List.replicate_succ', hL.out, HZ.out]), Below.setCell hB3 (p := ⟨w.heap.size + 1, 0, none⟩) (by simp) _, by rw [World.cell?_setCell_far _ _ _ _ (by simp)]; exact hd3, by simp [he3]⟩
        case measure => simp [intOf]; omega)
    · have hkn : k = y.toNat := by omega
      have hL2 : Hid (L = List.replicate y.toNat (2 ^ x.toNat - 1)) := Lib.hid (by rw [hL.out, hkn])
      have hLn : Hid (L.length = y.toNat) := Lib.hid (by rw [hL2.out]; simp)
      have hO2 : Hid (OwnI wr w.heap.size (.slice a L.length c) L) := Lib.hid (by
        refine ⟨hO.out.1, ?_⟩
        rcases hO.out.2 with h2 | ⟨g, cap, cur, hv, hg, r⟩
        · exact .inl h2
        · exact .inr ⟨g, cap, cur, hv, by omega, r⟩)
      have hO3 : ∀ u : Value, OwnI (wr.setCell ⟨w.heap.size, 0, none⟩ u) w.heap.size (.slice a L.length c) L := fun u => by
        have h := hO.out.set (p := w.heap.size) (o := 0) (by omega) u
        refine ⟨h.1, ?_⟩
        rcases h.2 with h2 | ⟨g, cap, cur, hv, hg, r⟩
        · exact .inl h2
        · exact .inr ⟨g, cap, cur, hv, by omega, r⟩
      have HO3 := Lib.hid hO3
      have hp0 : w.heap.size < wr.heap.size := by omega
      clear hkn hk hO2 hO3 hL
      go_wp2_with (go_at_call 51; refine (specIn_any _ _ _ _).mono ?_; rintro e w' ⟨rfl, rfl⟩)
      have hcs : (wr.setCell ⟨w.heap.size, 0, none⟩ (.slice a L.length c)).cell? ⟨w.heap.size, 0, none⟩ = some (.slice a L.length c) := World.cell?_setCell_same _ _ _ hc0
      exact bodyPost_ret (v := .agg #[.slice a L.length c]) (by simp [results, Tryd.results32, go_sem, hcs]) rfl ⟨a, c, by rw [hLn.out], by rw [← hL2.out, ← hLn.out]; exact HO3.out _, Below.setCell hB (p := ⟨w.heap.size, 0, none⟩) (by simp) _⟩
end Go.Proofs.YtbkoignjagobaaaDoor
