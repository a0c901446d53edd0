/-
  The program's search from a cell.
-/
import Derived.Test.YtghakmhglneckaaQue
import Derived.Test.YtghakmhglneckaaDomD
import Derived.Test.YtghakmhglneckaaDpK
import Derived.Deep.LoopGhost
import Derived.Deep.DeepCutAuto
import Derived.Deep.CutRange
namespace Go.Proofs.Ytghakmhglneckaa
open Go.RowKit
set_option linter.unusedVariables false
set_option linter.unusedSimpArgs false
section
variable {P : Program} {ops : Array Oper} {Q : Exit → Act → World → Prop} {S : World → Prop} {fuel : Nat} {listed : Array Bool} {a : Act} {w : World}
theorem hold_twoR (i j : Nat) {oi oj : Oper} (hi : ops[i]? = some oi) (hg : oi.guard = none) (hj : ops[j]? = some oj) (hgj : oj.guard = none) (hr : Region.ready .any ops listed = [i, j])
    (h : ∀ K' : Act → World → Prop, Shut (∀ a w, S w → (S w → wpAnyH P .any ops Q S fuel (listed.setIfInBounds i true) a w) → K' a w) → Oper.wp P oi a w K' Q)
    (h' : ∀ K' : Act → World → Prop, Shut (∀ a w, S w → (S w → wpAnyH P .any ops Q S fuel (listed.setIfInBounds j true) a w) → K' a w) → Oper.wp P oj a w K' Q) : wpAnyH P .any ops Q S (fuel + 1) listed a w :=
  wpAnyH_ready hr (by simp) (AllReadyH.cons hi (fun K hK => by rw [if_pos (by simp [Region.wanted, hg])]; exact h K hK) (AllReadyH.cons hj (fun K hK => by rw [if_pos (by simp [Region.wanted, hgj])]; exact h' K hK) AllReadyH.nil))
end
theorem hold_two {P : Program} {ops : Array Oper} {Q : Exit → Act → World → Prop} {S : World → Prop} {fuel : Nat} {listed : Array Bool} {a : Act} {w : World} (i j : Nat) {oi oj : Oper} (hi : ops[i]? = some oi) (hg : oi.guard = none) (hj : ops[j]? = some oj) (hgj : oj.guard = none) (hr : Region.ready .any ops listed = [i, j])
    (h : ∀ K' : Act → World → Prop, Shut (∀ a w, S w → (S w → wpAnyH P .any ops Q S fuel (listed.setIfInBounds i true) a w) → K' a w) → Oper.wp P oi a w K' Q)
    (h' : ∀ K' : Act → World → Prop, Shut (∀ a w, S w → (S w → wpAnyH P .any ops Q S fuel (listed.setIfInBounds j true) a w) → K' a w) → Oper.wp P oj a w K' Q) : wpAnyH P .any ops Q S (fuel + 1) listed a w := hold_twoR i j hi hg hj hgj hr h h'
theorem OwnQ.new (w : World) (B g : Nat) (x y : Int) (hB : B ≤ w.heap.size) (hg : g = w.heap.size) : OwnQ (w.alloc (.cells #[.int .i64 x, .int .i64 y] 35)) B g 0 1 1 [(x, y)] := by
  subst hg
  refine ⟨#[.int .i64 x, .int .i64 y], heap_alloc_new w _, hB, by simp, Nat.le_refl _, rfl, fun i hi => ?_⟩
  match i, hi with
  | 0, _ => rfl
  | 1, _ => rfl
/-- The set of the cells of a list. -/
def SetOf (O : Nat) (L : List CellI) : Prop := O < 2 ^ 64 ∧ ∀ x y : Int, hasB O x y = decide ((x, y) ∈ L)
theorem bit_at {x y u v : Int} (h : okB x y = true) (h' : okB u v = true) : (bitOf x y).testBit (v * 8 + u).toNat = decide ((u, v) = (x, y)) := by
  unfold bitOf
  rw [Nat.testBit_two_pow]
  refine decide_eq_decide.2 ?_
  have a := okB_iff.1 h
  have b := okB_iff.1 h'
  simp only [Prod.mk.injEq]
  omega
theorem set_one {x y : Int} (h : okB x y = true) : SetOf (bitOf x y) [(x, y)] := by
  refine ⟨bitOf_lt h, fun u v => ?_⟩
  unfold hasB
  by_cases hk : okB u v = true
  · rw [hk, Bool.true_and, bit_at h hk]; simp
  · have hk' : okB u v = false := by simpa using hk
    rw [hk', Bool.false_and]
    symm
    simp only [List.mem_singleton, decide_eq_false_iff_not]
    intro e
    injection e with e1 e2
    rw [e1, e2, h] at hk'
    cases hk'
theorem set_snoc {O : Nat} {L : List CellI} {x y : Int} (hO : SetOf O L) (h : okB x y = true) : SetOf (O ||| bitOf x y) (L ++ [(x, y)]) := by
  refine ⟨or_lt64 hO.1 (bitOf_lt h), fun u v => ?_⟩
  have h1 := hO.2 u v
  have h2 := (set_one h).2 u v
  unfold hasB at h1 h2 ⊢
  rw [Nat.testBit_or]
  have e : decide ((u, v) ∈ L ++ [(x, y)]) = (decide ((u, v) ∈ L) || decide ((u, v) ∈ [(x, y)])) := by simp
  rw [e, ← h1, ← h2]
  cases okB u v <;> simp
theorem with_val (S S' : Nat) (x y : Int) (w : World) (hS : Hid (S < 2 ^ 64)) (h : okB x y = true) (hb : S ||| bitOf x y = S') :
    Calls Try.prog 66 #[.int .u64 (S : Int), .agg #[.int .i64 x, .int .i64 y]] w fun e w' => e = .returned (.int .u64 ((S' : Nat) : Int)) ∧ Below w.heap.size w w' := by
  subst hb
  exact with_any S x y w hS h
theorem with0_val (S' : Nat) (x y : Int) (w : World) (h : okB x y = true) (hb : bitOf x y = S') :
    Calls Try.prog 66 #[.int .u64 0, .agg #[.int .i64 x, .int .i64 y]] w fun e w' => e = .returned (.int .u64 ((S' : Nat) : Int)) ∧ Below w.heap.size w w' := with_val 0 S' x y w (Lib.hid (by decide)) h (by rw [Nat.zero_or]; exact hb)
theorem nb_cellR {x y : Int} {p : Int × Int} (h : p ∈ nbL x y) : okB p.1 p.2 = true := by
  unfold nbL nbK at h
  obtain ⟨k, hk, rfl⟩ := List.mem_map.1 h
  exact ok_at (List.mem_range.1 (List.mem_filter.1 hk).1)
theorem has_valR (S : Nat) (x y : Int) (w : World) (hS : Hid (S < 2 ^ 64)) {b : Bool} (hb : hasB S x y = b) :
    Calls Try.prog 41 #[.int .u64 (S : Int), .agg #[.int .i64 x, .int .i64 y]] w fun e w' => e = .returned (.bool b) ∧ Below w.heap.size w w' := by
  subst hb
  exact has_any S x y w hS
set_option maxHeartbeats 6400000 in
set_option maxRecDepth 100000 in
theorem reach_any (S : Nat) (x y : Int) (w : World) (hS : Hid (S < 2 ^ 64)) (hc : hasB S x y = true) :
    Calls Try.prog 44 #[.int .u64 (S : Int), .agg #[.int .i64 x, .int .i64 y]] w fun e w' => ∃ O : Nat, e = .returned (.int .u64 (O : Int)) ∧ SetOf O (bfsR S (x, y)) ∧ Below w.heap.size w w' := by
  obtain ⟨i0, hinf, hz0, hz1, hz2⟩ := info_parts cellInfo
  have hok : okB x y = true := by unfold hasB at hc; rw [Bool.and_eq_true] at hc; exact hc.1
  obtain ⟨O0, hO0⟩ : ∃ O0, O0 = bitOf x y := ⟨_, rfl⟩
  have HW0 := Lib.hid (fun W : World => with0_val O0 x y W hok hO0.symm)
  have HS0 : Hid (SetOf O0 [(x, y)]) := Lib.hid (by rw [hO0]; exact set_one hok)
  have HG := Lib.hid (fun k => good_bfs (S := S) (c := (x, y)) hc k)
  clear hO0 hc
  go_enter Try.func44, Try.ntmps44
  go_upto_region 1 with fail
  go_cut [5, 6] (fun o q wx => ∃ b, o = .int .u64 (O0 : Int) ∧ q = .slice (some ⟨b, 0, none⟩) 1 1 ∧ Hid (OwnQ wx w.heap.size b 0 1 1 [(x, y)]) ∧ Below w.heap.size w wx)
  case first =>
    refine hold_start (S := (fun w' => w'.cell? ⟨w.heap.size, 0, none⟩ = some (.int .i64 x) ∧ w'.cell? ⟨w.heap.size, 1, none⟩ = some (.int .i64 y) ∧ Below w.heap.size w w' ∧ w.heap.size + 1 ≤ w'.heap.size)) (by kernel_rfl) (by kernel_rfl) (by intro _ _ d _ _ h; cases d <;> exact h) ?_ (fun hHC hH0 => ?_)
    · (first | (go_keep; done) | ((try go_split_ands); (repeat' apply And.intro) <;> first | assumption | (with_reducible refine Rd.below ?_ hb1; assumption) | (with_reducible refine Rd.drew ?_; repeat' (first | assumption | (with_reducible refine Rd.alloc ?_ _))) | (refine (hb1.cell (by first | omega | (simp; done) | (simp; omega))).trans ?_; first | assumption | simp) | (exact below_step hb1 (by first | omega | (simp; done) | (simp; omega)) (by assumption)) | (have hz' := hb1.size; (try simp at hz'); omega) | ((repeat' (first | assumption | (with_reducible exact Below.refl _ _) | (with_reducible refine Below.drew ?_) | (with_reducible refine Below.alloc ?_ ?_ _) | (with_reducible refine Below.setCell ?_ ?_ _) | omega | (simp; done) | (simp; omega))); done) | go_simp | (simp; done) | (simp; omega)))
    refine hold_plain 0 (v := ?_) hHC hH0 (by simp only [List.getElem?_toArray, List.getElem?_cons_succ, List.getElem?_cons_zero]; rfl) rfl (by kernel_rfl) ?_ ?_
    rotate_left 1
    · (intro w hSw; (try dsimp only at hSw); go_simp; try with_reducible rfl)
    try simp only [Act.put, List.setIfInBounds_toArray, List.set_cons_zero, List.set_cons_succ]
    refine hold_plain 2 (v := ?_) hHC hH0 (by simp only [List.getElem?_toArray, List.getElem?_cons_succ, List.getElem?_cons_zero]; rfl) rfl (by kernel_rfl) ?_ ?_
    rotate_left 1
    · (intro w hSw; (try dsimp only at hSw); go_simp; try with_reducible rfl)
    try simp only [Act.put, List.setIfInBounds_toArray, List.set_cons_zero, List.set_cons_succ]
    refine hold_two 1 3 (by simp only [List.getElem?_toArray, List.getElem?_cons_succ, List.getElem?_cons_zero]; rfl) rfl (by simp only [List.getElem?_toArray, List.getElem?_cons_succ, List.getElem?_cons_zero]; rfl) rfl (by kernel_rfl) (fun K hK => ?_) (fun K hK => ?_)
    focus
      go_simp
      (go_at_call 66; refine (HW0.out _).mono ?_; rintro e w1 ⟨rfl, hb1⟩; have hwl : w.heap.size < w1.heap.size := (by have := hb1.size; simp at this; omega))
      refine hK.out _ _ ?_ (fun hH1 => ?_)
      · (first | (go_keep; done) | ((try go_split_ands); (repeat' apply And.intro) <;> first | assumption | (with_reducible refine Rd.below ?_ hb1; assumption) | (with_reducible refine Rd.drew ?_; repeat' (first | assumption | (with_reducible refine Rd.alloc ?_ _))) | (refine (hb1.cell (by first | omega | (simp; done) | (simp; omega))).trans ?_; first | assumption | simp) | (exact below_step hb1 (by first | omega | (simp; done) | (simp; omega)) (by assumption)) | (have hz' := hb1.size; (try simp at hz'); omega) | ((repeat' (first | assumption | (with_reducible exact Below.refl _ _) | (with_reducible refine Below.drew ?_) | (with_reducible refine Below.alloc ?_ ?_ _) | (with_reducible refine Below.setCell ?_ ?_ _) | omega | (simp; done) | (simp; omega))); done) | go_simp | (simp; done) | (simp; omega)))
      clear hK K hH0
      try simp only [Act.put, List.setIfInBounds_toArray, List.set_cons_zero, List.set_cons_succ]
      refine hold_plain 4 (v := ?_) hHC hH1 (by simp only [List.getElem?_toArray, List.getElem?_cons_succ, List.getElem?_cons_zero]; rfl) rfl (by kernel_rfl) ?_ ?_
      rotate_left 1
      · (intro w hSw; (try dsimp only at hSw); go_simp; try with_reducible rfl)
      try simp only [Act.put, List.setIfInBounds_toArray, List.set_cons_zero, List.set_cons_succ]
      refine hold_call0 3 (by simp only [List.getElem?_toArray, List.getElem?_cons_succ, List.getElem?_cons_zero]; rfl) rfl (by kernel_rfl) (fun K hK => ?_)
      go_simp
      refine hK.out _ _ ?_ (fun hH2 => ?_)
      · (first | (go_keep; done) | ((try go_split_ands); (repeat' apply And.intro) <;> first | assumption | (with_reducible refine Rd.below ?_ hb1; assumption) | (with_reducible refine Rd.drew ?_; repeat' (first | assumption | (with_reducible refine Rd.alloc ?_ _))) | (refine (hb1.cell (by first | omega | (simp; done) | (simp; omega))).trans ?_; first | assumption | simp) | (exact below_step hb1 (by first | omega | (simp; done) | (simp; omega)) (by assumption)) | (have hz' := hb1.size; (try simp at hz'); omega) | ((repeat' (first | assumption | (with_reducible exact Below.refl _ _) | (with_reducible refine Below.drew ?_) | (with_reducible refine Below.alloc ?_ ?_ _) | (with_reducible refine Below.setCell ?_ ?_ _) | omega | (simp; done) | (simp; omega))); done) | go_simp | (simp; done) | (simp; omega)))
      clear hK K hH1
      try simp only [Act.put, List.setIfInBounds_toArray, List.set_cons_zero, List.set_cons_succ]
      refine hold_plain 5 (v := ?_) hHC hH2 (by simp only [List.getElem?_toArray, List.getElem?_cons_succ, List.getElem?_cons_zero]; rfl) rfl (by kernel_rfl) ?_ ?_
      rotate_left 1
      · (intro w hSw; (try dsimp only at hSw); go_simp; try with_reducible rfl)
      try simp only [Act.put, List.setIfInBounds_toArray, List.set_cons_zero, List.set_cons_succ]
      refine wpAnyH_done (by kernel_rfl) ?_ _
      (try dsimp only at hH2)
      go_split_ands
      clear hHC
    rotate_left 1
    focus
      go_simp
      refine hK.out _ _ ?_ (fun hH1 => ?_)
      · (first | (go_keep; done) | ((try go_split_ands); (repeat' apply And.intro) <;> first | assumption | (with_reducible refine Rd.below ?_ hb1; assumption) | (with_reducible refine Rd.drew ?_; repeat' (first | assumption | (with_reducible refine Rd.alloc ?_ _))) | (refine (hb1.cell (by first | omega | (simp; done) | (simp; omega))).trans ?_; first | assumption | simp) | (exact below_step hb1 (by first | omega | (simp; done) | (simp; omega)) (by assumption)) | (have hz' := hb1.size; (try simp at hz'); omega) | ((repeat' (first | assumption | (with_reducible exact Below.refl _ _) | (with_reducible refine Below.drew ?_) | (with_reducible refine Below.alloc ?_ ?_ _) | (with_reducible refine Below.setCell ?_ ?_ _) | omega | (simp; done) | (simp; omega))); done) | go_simp | (simp; done) | (simp; omega)))
      clear hK K hH0
      try simp only [Act.put, List.setIfInBounds_toArray, List.set_cons_zero, List.set_cons_succ]
      refine hold_call0 1 (by simp only [List.getElem?_toArray, List.getElem?_cons_succ, List.getElem?_cons_zero]; rfl) rfl (by kernel_rfl) (fun K hK => ?_)
      go_simp
      (go_at_call 66; refine (HW0.out _).mono ?_; rintro e w1 ⟨rfl, hb1⟩; have hwl : w.heap.size < w1.heap.size := (by have := hb1.size; simp at this; omega))
      refine hK.out _ _ ?_ (fun hH2 => ?_)
      · (first | (go_keep; done) | ((try go_split_ands); (repeat' apply And.intro) <;> first | assumption | (with_reducible refine Rd.below ?_ hb1; assumption) | (with_reducible refine Rd.drew ?_; repeat' (first | assumption | (with_reducible refine Rd.alloc ?_ _))) | (refine (hb1.cell (by first | omega | (simp; done) | (simp; omega))).trans ?_; first | assumption | simp) | (exact below_step hb1 (by first | omega | (simp; done) | (simp; omega)) (by assumption)) | (have hz' := hb1.size; (try simp at hz'); omega) | ((repeat' (first | assumption | (with_reducible exact Below.refl _ _) | (with_reducible refine Below.drew ?_) | (with_reducible refine Below.alloc ?_ ?_ _) | (with_reducible refine Below.setCell ?_ ?_ _) | omega | (simp; done) | (simp; omega))); done) | go_simp | (simp; done) | (simp; omega)))
      clear hK K hH1
      try simp only [Act.put, List.setIfInBounds_toArray, List.set_cons_zero, List.set_cons_succ]
      refine hold_plain 4 (v := ?_) hHC hH2 (by simp only [List.getElem?_toArray, List.getElem?_cons_succ, List.getElem?_cons_zero]; rfl) rfl (by kernel_rfl) ?_ ?_
      rotate_left 1
      · (intro w hSw; (try dsimp only at hSw); go_simp; try with_reducible rfl)
      try simp only [Act.put, List.setIfInBounds_toArray, List.set_cons_zero, List.set_cons_succ]
      refine hold_plain 5 (v := ?_) hHC hH2 (by simp only [List.getElem?_toArray, List.getElem?_cons_succ, List.getElem?_cons_zero]; rfl) rfl (by kernel_rfl) ?_ ?_
      rotate_left 1
      · (intro w hSw; (try dsimp only at hSw); go_simp; try with_reducible rfl)
      try simp only [Act.put, List.setIfInBounds_toArray, List.set_cons_zero, List.set_cons_succ]
      refine wpAnyH_done (by kernel_rfl) ?_ _
      (try dsimp only at hH2)
      go_split_ands
      clear hHC
    all_goals (go_wp2_with fail; go_meet; exact ⟨_, rfl, rfl, Lib.hid (by first | exact OwnQ.new w1 _ _ _ _ (by omega) (by simp) | exact OwnQ.below (OwnQ.new (w.alloc _) _ _ _ _ (by simp) (by simp)) hb1 | exact OwnQ.below (OwnQ.new (w.alloc _).drew _ _ _ _ (by simp) (by simp)) hb1), by assumption⟩)
  case rest =>
    obtain ⟨b0, rfl, rfl, hQ0, hB0⟩ := hcut
    go_wp2_with fail
    go_loopg [5, 6] 64 (fun gk o q wr => ∃ (k : Nat) (L : List CellI) (O b off cap : Nat), k ≤ 64 ∧ gk = 64 - k ∧ k ≤ L.length ∧ Hid (L = bfsL S (x, y) k) ∧ o = .int .u64 (O : Int) ∧ q = .slice (some ⟨b, off, none⟩) (L.length - k) cap ∧ Hid (SetOf O L) ∧ Hid (OwnQ wr w.heap.size b off (L.length - k) cap (L.drop k)) ∧ Below w.heap.size w wr)
    case atStart => exact ⟨0, [(x, y)], O0, b0, 0, 1, by omega, rfl, by simp, Lib.hid rfl, rfl, rfl, HS0, hQ0, hB0⟩
    case round =>
      obtain ⟨k, L, O, b, off, cap, hk, hgk, hkL, hL, rfl, rfl, hSO, hQ, hB⟩ := hrel
      have HGD : Hid (Good S L) := Lib.hid (by rw [hL.out]; exact HG.out k)
      have hL64 : L.length ≤ 64 := good_len HGD.out
      by_cases hlt : k < L.length
      · obtain ⟨n, hn⟩ : ∃ n, L.length - k = n + 1 := ⟨L.length - k - 1, by omega⟩
        rw [hn] at hQ
        obtain ⟨⟨cx, cy⟩, hq⟩ : ∃ q, L[k]? = some q := ⟨L[k], List.getElem?_eq_getElem hlt⟩
        have hdr : L.drop k = (cx, cy) :: L.drop (k + 1) := by rw [List.drop_eq_getElem_cons hlt]; congr 1; rw [List.getElem?_eq_getElem hlt] at hq; exact Option.some.inj hq
        rw [hdr] at hQ
        have hQl := hQ.out.lt
        obtain ⟨b9, off9, cx', cy', he9, hbl9, hx9, hy9, hv9⟩ := RdC_at (OwnQ.rd hQ.out) (k := 0) (by simp)
        injection he9 with he9
        injection he9 with h91 h92
        subst h91 h92
        obtain ⟨rfl, rfl⟩ : cx' = cx ∧ cy' = cy := by have := hv9.out; simp at this; exact ⟨this.1.symm, this.2.symm⟩
        simp only [Nat.zero_mul, Nat.add_zero] at hx9 hy9
        obtain ⟨off1, hoff1⟩ : ∃ o1, o1 = if cap = 1 then off else off + 2 := ⟨_, rfl⟩
        have hQT : Hid (OwnQ wr w.heap.size b off1 n (cap - 1) (L.drop (k + 1))) := Lib.hid (by
          rw [hoff1]
          split
          · exact OwnQ.tail0 hQ.out (by omega)
          · exact OwnQ.tail hQ.out)
        have HNB := Lib.hid (fun W : World => implNbrs_any cx' cy' W)
        obtain ⟨N, hN⟩ : ∃ N, N = nbL cx' cy' := ⟨_, rfl⟩
        have HNN := Lib.hid hN
        have hNl : N.length ≤ 64 := by rw [hN]; exact nbL_len cx' cy'
        rw [← hN] at HNB
        have HQ := Lib.hid hq
        have HLN := Lib.hid hn
        have hcap1 : 1 ≤ cap := by omega
        clear hN hdr hQ hv9 hq
        have HOF := Lib.hid hoff1
        clear hoff1
        go_upto_region 4 with fail
        go_cut [6] from 14 to 45 (fun q wx => q = .slice (some ⟨b, off1, none⟩) n (cap - 1) ∧ wx = wr.alloc (.cells #[.int .i64 cx', .int .i64 cy'] 35))
        case first =>
          go_wp2_with fail
          all_goals (go_meet; have hoff1 := HOF.out; exact ⟨by simp [hoff1, *], rfl⟩)
        case rest =>
          obtain ⟨rfl, rfl⟩ := hcut
          have hxc : (wr.alloc (.cells #[.int .i64 cx', .int .i64 cy'] 35)).cell? ⟨wr.heap.size, 0, none⟩ = some (.int .i64 cx') := by go_simp
          go_wp2_with (go_at_call 67; fail)
          refine (HNB.out _).mono ?_
          rintro e w4 ⟨a4, c4, rfl, hO4, hb⟩
          have hz4 := hb.size
          simp at hz4
          have hQ4 := Lib.hid (OwnQ.below (OwnQ.alloc hQT.out (.cells #[.int .i64 cx', .int .i64 cy'] 35)) hb)
          have hB4 : Below w.heap.size w w4 := below_step hb (by first | omega | (simp; done) | (simp; omega)) (by repeat' (first | assumption | (with_reducible exact Below.refl _ _) | (with_reducible refine Below.drew ?_) | (with_reducible refine Below.alloc ?_ ?_ _) | (with_reducible refine Below.setCell ?_ ?_ _) | omega | (simp; done) | (simp; omega)))
          have hRd : Rd w4 a4 (flatC N) := Rd.of_own hO4
          have HNE : Hid (∀ bb oo, a4 = some ⟨bb, oo, none⟩ → bb ≠ b) := Lib.hid (by
            intro bb oo he
            have h1 := World.ownsRow.lt hO4 bb (by rw [he]; rfl)
            simp at h1
            omega)
          have hnL : L.length - (k + 1) = n := by omega
          rw [← hnL] at hQ4
          clear hb hO4
          go_wp2_with fail
          go_loopg [5, 6, 25] N.length (fun gi o q i wx => ∃ (j : Nat) (L2 : List CellI) (O2 b2 off2 cap2 : Nat), j ≤ N.length ∧ gi = N.length - j ∧ i = .int .i64 j ∧ o = .int .u64 (O2 : Int) ∧ q = .slice (some ⟨b2, off2, none⟩) (L2.length - (k + 1)) cap2 ∧ Hid (L2 = (N.take j).foldl (stepN S) L) ∧ Hid (SetOf O2 L2) ∧ Hid (OwnQ wx w.heap.size b2 off2 (L2.length - (k + 1)) cap2 (L2.drop (k + 1))) ∧ Hid (∀ bb oo, a4 = some ⟨bb, oo, none⟩ → bb ≠ b2) ∧ Rd wx a4 (flatC N) ∧ Below w.heap.size w wx)
          case atStart => exact ⟨0, L, O, b, off1, cap - 1, Nat.zero_le _, rfl, rfl, rfl, by rw [hnL], Lib.hid rfl, hSO, hQ4, HNE, hRd, hB4⟩
          case round =>
            obtain ⟨j, L2, O2, b2, off2, cap2, hj, hgi, rfl, rfl, rfl, hL2, hSO2, hQ2, hNE2, hRd2, hB2⟩ := hrel
            by_cases hjl : j < N.length
            · obtain ⟨b5, o5, dx, dy, hab, hbl5, hx5, hy5, hv5⟩ := RdC_at hRd2 hjl
              have hjI : (j : Int) < (N.length : Int) := by omega
              have hdok : okB dx dy = true := nb_cellR (x := cx') (y := cy') (p := (dx, dy)) (by rw [← HNN.out]; exact List.mem_of_getElem? hv5.out)
              have hlen2 : k + 1 ≤ L2.length := by have := fold_len (S := S) (N.take j) L; rw [← hL2.out] at this; omega
              have hstep : (N.take (j + 1)).foldl (stepN S) L = stepN S L2 (dx, dy) := by rw [take_one hv5.out, List.foldl_append, ← hL2.out]; rfl
              have HST := Lib.hid hstep
              clear hstep
              have hGD2 : Good S L2 := by rw [hL2.out]; exact good_fold _ HGD.out
              have hL264 := good_len hGD2
              clear hGD2
              have hQl2 := hQ2.out.lt
              have HAB := Lib.hid hab
              have hbx : True := trivial
              have hby : True := trivial
              rcases Bool.eq_false_or_eq_true (hasB S dx dy) with hs | hs
              · have HH := Lib.hid (fun W : World => has_valR S dx dy W hS hs)
                have HO2 := Lib.hid hSO2.out.1
                subst hab
                by_cases hin : (dx, dy) ∈ L2
                · have HH2 := Lib.hid (fun W : World => has_valR O2 dx dy W HO2 (b := true) (by rw [hSO2.out.2]; simpa using hin))
                  have HT : Hid (L2 = (N.take (j + 1)).foldl (stepN S) L) := Lib.hid (by rw [HST.out, stepN_in hin])
                  clear hs hin
                  go_wp2_with (go_at_call 41; fail)
                  refine (HH.out _).mono ?_
                  rintro e w5 ⟨rfl, hb⟩
                  have hzw5 := hb.size
                  (try simp at hzw5)
                  have hbx : w5.cell? ⟨wr.heap.size, 0, none⟩ = some (.int .i64 dx) := (hb.cell (p := ⟨wr.heap.size, 0, none⟩) (by first | omega | (simp; done) | (simp; omega))).trans (by go_simp)
                  have hby : w5.cell? ⟨wr.heap.size, 1, none⟩ = some (.int .i64 dy) := (hb.cell (p := ⟨wr.heap.size, 1, none⟩) (by first | omega | (simp; done) | (simp; omega))).trans (by go_simp)
                  replace hQ2 := Lib.hid (OwnQ.below (OwnQ.alloc hQ2.out _) hb)
                  replace hRd2 := Rd.below (Rd.alloc hRd2 _) hb
                  replace hB2 : Below w.heap.size w w5 := below_step hb (by first | omega | (simp; done) | (simp; omega)) (by repeat' (first | assumption | (with_reducible exact Below.refl _ _) | (with_reducible refine Below.drew ?_) | (with_reducible refine Below.alloc ?_ ?_ _) | (with_reducible refine Below.setCell ?_ ?_ _) | omega | (simp; done) | (simp; omega)))
                  clear hb hx5 hy5
                  go_wp2_with (go_at_call 41; fail)
                  refine (HH2.out _).mono ?_
                  rintro e w6 ⟨rfl, hb⟩
                  have hzw6 := hb.size
                  (try simp at hzw6)
                  replace hQ2 := Lib.hid (OwnQ.below (hQ2.out) hb)
                  replace hRd2 := Rd.below (hRd2) hb
                  replace hB2 : Below w.heap.size w w6 := below_step hb (by first | omega | (simp; done) | (simp; omega)) (by repeat' (first | assumption | (with_reducible exact Below.refl _ _) | (with_reducible refine Below.drew ?_) | (with_reducible refine Below.alloc ?_ ?_ _) | (with_reducible refine Below.setCell ?_ ?_ _) | omega | (simp; done) | (simp; omega)))
                  clear hb hbx hby
                  go_wp2_with fail
                  go_roundg (N.length - (j + 1))
                  case measure => omega
                  case rel => exact ⟨j + 1, L2, O2, b2, off2, cap2, by omega, rfl, by go_num, rfl, rfl, HT, hSO2, hQ2, hNE2, hRd2, hB2⟩
                · have HH2 := Lib.hid (fun W : World => has_valR O2 dx dy W HO2 (b := false) (by rw [hSO2.out.2]; simpa using hin))
                  obtain ⟨O3, hO3⟩ : ∃ O3, O3 = O2 ||| bitOf dx dy := ⟨_, rfl⟩
                  have HW := Lib.hid (fun W : World => with_val O2 O3 dx dy W HO2 hdok hO3.symm)
                  have HS3 : Hid (SetOf O3 (L2 ++ [(dx, dy)])) := Lib.hid (by rw [hO3]; exact set_snoc hSO2.out hdok)
                  have HT : Hid (L2 ++ [(dx, dy)] = (N.take (j + 1)).foldl (stepN S) L) := Lib.hid (by rw [HST.out, stepN_yes hs hin])
                  clear hs hin hO3
                  go_wp2_with (go_at_call 41; fail)
                  refine (HH.out _).mono ?_
                  rintro e w5 ⟨rfl, hb⟩
                  have hzw5 := hb.size
                  (try simp at hzw5)
                  have hbx : w5.cell? ⟨wr.heap.size, 0, none⟩ = some (.int .i64 dx) := (hb.cell (p := ⟨wr.heap.size, 0, none⟩) (by first | omega | (simp; done) | (simp; omega))).trans (by go_simp)
                  have hby : w5.cell? ⟨wr.heap.size, 1, none⟩ = some (.int .i64 dy) := (hb.cell (p := ⟨wr.heap.size, 1, none⟩) (by first | omega | (simp; done) | (simp; omega))).trans (by go_simp)
                  replace hQ2 := Lib.hid (OwnQ.below (OwnQ.alloc hQ2.out _) hb)
                  replace hRd2 := Rd.below (Rd.alloc hRd2 _) hb
                  replace hB2 : Below w.heap.size w w5 := below_step hb (by first | omega | (simp; done) | (simp; omega)) (by repeat' (first | assumption | (with_reducible exact Below.refl _ _) | (with_reducible refine Below.drew ?_) | (with_reducible refine Below.alloc ?_ ?_ _) | (with_reducible refine Below.setCell ?_ ?_ _) | omega | (simp; done) | (simp; omega)))
                  clear hb hx5 hy5
                  go_wp2_with (go_at_call 41; fail)
                  refine (HH2.out _).mono ?_
                  rintro e w6 ⟨rfl, hb⟩
                  have hzw6 := hb.size
                  (try simp at hzw6)
                  replace hbx : w6.cell? ⟨wr.heap.size, 0, none⟩ = some (.int .i64 dx) := (hb.cell (p := ⟨wr.heap.size, 0, none⟩) (by first | omega | (simp; done) | (simp; omega))).trans (by first | exact hbx | go_simp)
                  replace hby : w6.cell? ⟨wr.heap.size, 1, none⟩ = some (.int .i64 dy) := (hb.cell (p := ⟨wr.heap.size, 1, none⟩) (by first | omega | (simp; done) | (simp; omega))).trans (by first | exact hby | go_simp)
                  replace hQ2 := Lib.hid (OwnQ.below (hQ2.out) hb)
                  replace hRd2 := Rd.below (hRd2) hb
                  replace hB2 : Below w.heap.size w w6 := below_step hb (by first | omega | (simp; done) | (simp; omega)) (by repeat' (first | assumption | (with_reducible exact Below.refl _ _) | (with_reducible refine Below.drew ?_) | (with_reducible refine Below.alloc ?_ ?_ _) | (with_reducible refine Below.setCell ?_ ?_ _) | omega | (simp; done) | (simp; omega)))
                  clear hb
                  go_wp2_with (go_at_call 66; fail)
                  refine (HW.out _).mono ?_
                  rintro e w7 ⟨rfl, hb⟩
                  have hzw7 := hb.size
                  (try simp at hzw7)
                  replace hbx : w7.cell? ⟨wr.heap.size, 0, none⟩ = some (.int .i64 dx) := (hb.cell (p := ⟨wr.heap.size, 0, none⟩) (by first | omega | (simp; done) | (simp; omega))).trans (by first | exact hbx | go_simp)
                  replace hby : w7.cell? ⟨wr.heap.size, 1, none⟩ = some (.int .i64 dy) := (hb.cell (p := ⟨wr.heap.size, 1, none⟩) (by first | omega | (simp; done) | (simp; omega))).trans (by first | exact hby | go_simp)
                  replace hQ2 := Lib.hid (OwnQ.below (hQ2.out) hb)
                  replace hRd2 := Rd.below (hRd2) hb
                  replace hB2 : Below w.heap.size w w7 := below_step hb (by first | omega | (simp; done) | (simp; omega)) (by repeat' (first | assumption | (with_reducible exact Below.refl _ _) | (with_reducible refine Below.drew ?_) | (with_reducible refine Below.alloc ?_ ?_ _) | (with_reducible refine Below.setCell ?_ ?_ _) | omega | (simp; done) | (simp; omega)))
                  clear hb
                  have HFL : Hid ((flatC (L2.drop (k + 1))).length = (L2.length - (k + 1)) * 2) := Lib.hid (by rw [flatC_len, List.length_drop])
                  obtain ⟨n2, hn2⟩ : ∃ n2, n2 = L2.length - (k + 1) := ⟨_, rfl⟩
                  rw [← hn2] at hQ2 HFL ⊢
                  have HN2 := Lib.hid hn2
                  have hn64 : n2 ≤ 64 := by omega
                  clear hn2
                  have hlen3 : (L2 ++ [(dx, dy)]).length - (k + 1) = n2 + 1 := by have := HN2.out; simp; omega
                  have hdrop3 : (L2 ++ [(dx, dy)]).drop (k + 1) = L2.drop (k + 1) ++ [(dx, dy)] := List.drop_append_of_le_length hlen2
                  go_wp2_with (at_builtin; go_must (refine wpList_append_arg _ rfl _ _ 33 rfl 35 i0 (.agg #[.int .i64 0, .int .i64 0]) 2 16 Try.underlying33 hinf hz0 hz1 hz2 rfl (by decide) b2 off2 n2 cap2 (flatC (L2.drop (k + 1))) (by rfl) HFL.out (OwnQ.holds (OwnQ.alloc hQ2.out _)) ⟨w7.heap.size, 0, none⟩ 1 1 [.int .i64 dx, .int .i64 dy] (by rfl) rfl (cell_two_new _ _ _ _) (by intro u hu; simp at hu; rcases hu with rfl | rfl <;> rfl) (fun hr j hj => OwnQ.spare (OwnQ.alloc hQ2.out _) hr (by simpa using hj)) (by unfold maxLen; omega) (by omega) (fun hr => ?_) (fun hr v3 w3 hown3 hgr3 => ?_)))
                  all_goals first
                    | (
                        obtain ⟨s1, s2, s3⟩ := OwnQ.snoc (OwnQ.alloc hQ2.out (.cells #[.int .i64 dx, .int .i64 dy] 35)) hr dx dy
                        have hRd3 := Rd.heap_ (Rd.alloc hRd2 _) (s2 0 (Nat.zero_le _)).size hNE2.out s3
                        have hB3 := Below.trans (hB2.alloc (by omega) (.cells #[.int .i64 dx, .int .i64 dy] 35)) (s2 w.heap.size hQl2.1)
                        go_roundg (N.length - (j + 1))
                        case measure => omega
                        case rel => exact ⟨j + 1, L2 ++ [(dx, dy)], O3, b2, off2, cap2, by omega, rfl, by go_num, rfl, by rw [hlen3], HT, HS3, Lib.hid (by rw [hlen3, hdrop3]; exact s1), hNE2, hRd3, hB3⟩)
                    | (
                        obtain ⟨g3, c3, rfl, hg3, hQ3⟩ := OwnQ.grow hown3 (by rw [List.length_drop]; exact HN2.out.symm)
                        simp at hg3
                        have hG3 : Below (w7.alloc (.cells #[.int .i64 dx, .int .i64 dy] 35)).heap.size (w7.alloc (.cells #[.int .i64 dx, .int .i64 dy] 35)) w3 := (Below.refl _ _).grown hgr3 (Nat.le_refl _) (fun k h => by cases h)
                        have hRd3 := Rd.below (Rd.alloc hRd2 _) hG3
                        have hB3 := Below.trans (hB2.alloc (by omega) (.cells #[.int .i64 dx, .int .i64 dy] 35)) (hG3.mono (by simp; omega))
                        have hNE3 : Hid (∀ bb oo, (some ⟨b5, o5, none⟩ : Option Addr) = some ⟨bb, oo, none⟩ → bb ≠ g3) := Lib.hid (by intro bb oo he; injection he with he; injection he with h1 h2; omega)
                        go_roundg (N.length - (j + 1))
                        case measure => omega
                        case rel => exact ⟨j + 1, L2 ++ [(dx, dy)], O3, g3, 0, c3, by omega, rfl, by go_num, rfl, by rw [hlen3], HT, HS3, Lib.hid (by rw [hlen3, hdrop3]; exact OwnQ.mono hQ3 (by simp; omega)), hNE3, hRd3, hB3⟩)
              · have HH := Lib.hid (fun W : World => has_valR S dx dy W hS hs)
                have HT : Hid (L2 = (N.take (j + 1)).foldl (stepN S) L) := Lib.hid (by rw [HST.out, stepN_no hs])
                subst hab
                clear hs
                go_wp2_with (go_at_call 41; fail)
                refine (HH.out _).mono ?_
                rintro e w5 ⟨rfl, hb⟩
                have hzw5 := hb.size
                (try simp at hzw5)
                replace hQ2 := Lib.hid (OwnQ.below (OwnQ.alloc hQ2.out _) hb)
                replace hRd2 := Rd.below (Rd.alloc hRd2 _) hb
                replace hB2 : Below w.heap.size w w5 := below_step hb (by first | omega | (simp; done) | (simp; omega)) (by repeat' (first | assumption | (with_reducible exact Below.refl _ _) | (with_reducible refine Below.drew ?_) | (with_reducible refine Below.alloc ?_ ?_ _) | (with_reducible refine Below.setCell ?_ ?_ _) | omega | (simp; done) | (simp; omega)))
                clear hb hx5 hy5
                go_wp2_with fail
                go_roundg (N.length - (j + 1))
                case measure => omega
                case rel => exact ⟨j + 1, L2, O2, b2, off2, cap2, by omega, rfl, by go_num, rfl, rfl, HT, hSO2, hQ2, hNE2, hRd2, hB2⟩
            · have hjn : j = N.length := by omega
              have hE : Hid (L2 = bfsL S (x, y) (k + 1)) := Lib.hid (by rw [bfs_succ (by rw [← hL.out]; exact HQ.out), ← hL.out]; rw [hL2.out, hjn, List.take_length, HNN.out]; rfl)
              have hlen2 : k + 1 ≤ L2.length := by have := fold_len (S := S) (N.take j) L; rw [← hL2.out] at this; omega
              clear hjn
              go_wp2_with fail
              go_roundg (64 - (k + 1))
              case measure => omega
              case rel => exact ⟨k + 1, L2, O2, b2, off2, cap2, by omega, rfl, hlen2, hE, rfl, rfl, hSO2, hQ2, hB2⟩
      · have hkl : L.length ≤ k := by omega
        have hE : Hid (SetOf O (bfsR S (x, y))) := Lib.hid (by rw [← bfs_end hk (by rw [← hL.out]; exact hkl), ← hL.out]; exact hSO.out)
        have h0 : L.length - k = 0 := by omega
        go_wp2_with fail
        go_ret
        exact ⟨O, rfl, hE.out, hB⟩
end Go.Proofs.Ytghakmhglneckaa
