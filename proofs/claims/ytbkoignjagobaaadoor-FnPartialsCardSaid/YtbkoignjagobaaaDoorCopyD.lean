/-
  The tail of a list of dominoes copied one place on.
-/
import Derived.Test.YtbkoignjagobaaaDoorSortS
import Derived.Laws.CopyRow
namespace Go.Proofs.YtbkoignjagobaaaDoor
open Go.RowKit
set_option linter.unusedVariables false
set_option linter.unusedSimpArgs false

theorem run_copy3 {P : Program} (w : World) (dT sT ty elem : TypeId) (g o dLen dCap : Nat) (a : Addr) (sLen sCap : Nat) (cur : Array Value) (t : TypeId) (cs : List Value)
    (hu : P.underlying dT = some (.slice elem)) (hs : (P.info? elem).map (·.size) = some 3)
    (hg : w.heap[g]? = some (.cells cur t (0, 0))) (hn : cs.length = Nat.min sLen dLen * 3)
    (hsrc : ∀ j v, cs[j]? = some v → w.cell? (a.add j) = some v) (hfit : o + cs.length ≤ cur.size) (h1 : ∀ v ∈ cs, v.oneCell' = true) :
    (Builtin.copy_ #[dT, sT] ty #[.slice (some ⟨g, o, none⟩) dLen dCap, .slice (some a) sLen sCap]).run P w =
      .ok (goInt (Nat.min sLen dLen)) (w.setRow g (cur.toList.take o ++ cs ++ cur.toList.drop (o + cs.length)).toArray) := by
  have hl := run_loadCells_list (P := P) w a cs hsrc
  have hst := run_storeCells_at P g o t cs 0 cur w hg (by simpa using hfit) h1
  cases hq : P.info? elem with
  | none => simp [hq] at hs
  | some i =>
    have hi : i.size = 3 := by simpa [hq] using hs
    simp [Builtin.copy_, run_underlying hu, Builtin.lenOf, Builtin.firstCells, sizeOf, typeInfo, hq, hi, ← hn, hl, hst]
theorem run_copy0 {P : Program} (w : World) (dT sT ty elem : TypeId) (d a : Addr) (dCap sLen sCap : Nat)
    (hu : P.underlying dT = some (.slice elem)) (hs : (P.info? elem).map (·.size) = some 3) :
    (Builtin.copy_ #[dT, sT] ty #[.slice (some d) 0 dCap, .slice (some a) sLen sCap]).run P w = .ok (goInt 0) w := by
  have hl : (loadCells a 0).run P w = .ok #[] w := run_loadCells_list (P := P) w a [] (by simp)
  cases hq : P.info? elem with
  | none => simp [hq] at hs
  | some i =>
    have hi : i.size = 3 := by simpa [hq] using hs
    simp [Builtin.copy_, run_underlying hu, Builtin.lenOf, Builtin.firstCells, sizeOf, typeInfo, hq, hi, hl, storeCells]
theorem wp_copy3 {P : Program} (w : World) {o : Oper} {a : Act} {K : Act → World → Prop} {Q : Exit → Act → World → Prop} (d s : Operand) (t t' : TypeId)
    (ho : o.op = .call { callee := .builtin .copy, args := #[d, s], argTypes := #[t, t'] }) (v u : Value) (hd : a.eval d = v) (hs : a.eval s = u) {v' : Value} {w' : World}
    (hr : (Builtin.copy_ #[t, t'] o.type #[v, u]).run P w = .ok v' w') (h : K (a.put o.dst v') w') : o.wp P a w K Q := by
  unfold Oper.wp execOp
  simp only [ho, resolve, invoke, builtin, Sem.run_bind, Sem.run_pure, Result.andThen_ok, List.map_toArray, List.map_cons, List.map_nil, hd, hs, hr]
  exact h
theorem set_three {L : List DomI} {j : Nat} {x y : Int} {d : Bool} (hj : j < L.length) : (((flatD L).set (j * 3) (.int .i64 x)).set (j * 3 + 1) (.int .i64 y)).set (j * 3 + 2) (.bool d) = flatD (L.set j (x, y, d)) := by
  induction L generalizing j with
  | nil => simp at hj
  | cons p L ih =>
    cases j with
    | zero => simp [flatD_cons]
    | succ j =>
      rw [List.set_cons_succ, flatD_cons, flatD_cons, show (j + 1) * 3 = j * 3 + 1 + 1 + 1 by omega, ← ih (by simpa using hj)]
      rfl
theorem OwnD.set3_ {w : World} {B g n c j : Nat} {L : List DomI} (h : OwnD w B (.slice (some ⟨g, 0, none⟩) n c) L) (hn : L.length = n) (hj : j < n) (x y : Int) (d : Bool) :
    OwnD (((w.setCell ⟨g, j * 3, none⟩ (.int .i64 x)).setCell ⟨g, j * 3 + 1, none⟩ (.int .i64 y)).setCell ⟨g, j * 3 + 2, none⟩ (.bool d)) B (.slice (some ⟨g, 0, none⟩) n c) (L.set j (x, y, d)) := by
  subst hn
  have h1 := (h.stored (j * 3) (.int .i64 x)).1
  have h2 := (h1.stored (j * 3 + 1) (.int .i64 y)).1
  have h3 := (h2.stored (j * 3 + 2) (.bool d)).1
  rw [set_three hj] at h3
  unfold OwnD
  rw [List.length_set]
  exact h3
theorem OwnD.some3 {w : World} {B g n c j : Nat} {L : List DomI} (h : OwnD w B (.slice (some ⟨g, 0, none⟩) n c) L) (hn : L.length = n) (hj : j < n) :
    (w.cell? ⟨g, j * 3, none⟩).isSome = true ∧ (w.cell? ⟨g, j * 3 + 1, none⟩).isSome = true ∧ (w.cell? ⟨g, j * 3 + 2, none⟩).isSome = true := by
  subst hn
  have hl := flatD_len L
  refine ⟨?_, ?_, ?_⟩
  · rw [h.cell_ _ (by omega), List.getElem?_eq_getElem (by omega)]; rfl
  · rw [h.cell_ _ (by omega), List.getElem?_eq_getElem (by omega)]; rfl
  · rw [h.cell_ _ (by omega), List.getElem?_eq_getElem (by omega)]; rfl
theorem OwnD.frozen_ {w : World} {B g n c : Nat} {L : List DomI} (h : OwnD w B (.slice (some ⟨g, 0, none⟩) n c) L) (hn : L.length = n) (o : Nat) : w.frozen? ⟨g, o, none⟩ = false := by
  subst hn
  exact h.frozenAt o
theorem ins_end {M : List DomI} {j : Nat} {z p : DomI} (hj : j ≤ M.length) : ((M ++ [z]).take (j + 1) ++ ((M ++ [z]).drop j).take (M.length - j)).set j p = M.take j ++ p :: M.drop j := by
  have e1 : ((M ++ [z]).drop j).take (M.length - j) = M.drop j := by
    rw [List.drop_append_of_le_length hj, List.take_append_of_le_length (by simp), List.take_of_length_le (by simp)]
  rw [e1]
  obtain ⟨q, hq⟩ : ∃ q, (M ++ [z]).take (j + 1) = M.take j ++ [q] := by
    have hl : j < (M ++ [z]).length := by simp; omega
    refine ⟨(M ++ [z])[j], ?_⟩
    rw [List.take_succ_eq_append_getElem hl, List.take_append_of_le_length hj]
  have hl : (M.take j).length = j := by simp; omega
  rw [hq, List.append_assoc, List.set_append_right _ _ (by omega), hl, Nat.sub_self]
  rfl
theorem seg_take {A C : List Value} {cur : List Value} {n k : Nat} (hA : cur.take n = A) (hk : k ≤ n) : cur.take k = A.take k := by
  rw [← hA, List.take_take, Nat.min_eq_left hk]
theorem copy_own {w : World} {B g m c j dc sc : Nat} {N : List DomI} (ty : TypeId) (h : OwnD w B (.slice (some ⟨g, 0, none⟩) (m + 1) c) N) (hN : N.length = m + 1) (hj : j < m) :
    ∃ v w', (Builtin.copy_ #[27, 27] ty #[.slice (some ⟨g, (j + 1) * 3, none⟩) (m - j) dc, .slice (some ⟨g, j * 3, none⟩) (m + 1 - j) sc]).run Tryd.prog w = .ok v w' ∧
      OwnD w' B (.slice (some ⟨g, 0, none⟩) (m + 1) c) (N.take (j + 1) ++ (N.drop j).take (m - j)) ∧ w'.heap.size = w.heap.size ∧ (∀ b o, b ≠ g → w'.cell? ⟨b, o, none⟩ = w.cell? ⟨b, o, none⟩) ∧ Below g w w' := by
  have h0 := h
  rcases h.2 with ⟨hv, -⟩ | ⟨g', cap, cur, hv, hb, hg, hnc, hcm, hcs, ht⟩
  · cases hv
  · have e : g' = g ∧ c = cap := by injection hv with e1 _ e3; injection e1 with e1; injection e1 with e1; exact ⟨e1.symm, e3⟩
    obtain ⟨rfl, rfl⟩ := e
    have hl3 := flatD_len N
    rw [hN] at hl3 ht hnc
    have hlen : (N.take (j + 1) ++ (N.drop j).take (m - j)).length = m + 1 := by simp [hN]; omega
    have hcl : cur.toList.length = c * 3 := by simpa using hcs
    have hcsl : (flatD ((N.drop j).take (m - j))).length = (m - j) * 3 := by rw [flatD_len, List.length_take, List.length_drop]; congr 1; omega
    have hseg : flatD ((N.drop j).take (m - j)) = ((flatD N).drop (j * 3)).take ((m - j) * 3) := by rw [← flatD_take, ← flatD_drop]
    have hsrc : ∀ i u, (flatD ((N.drop j).take (m - j)))[i]? = some u → w.cell? ((⟨g', j * 3, none⟩ : Addr).add i) = some u := by
      intro i u hu
      have hi := lt_of_at hu
      rw [hcsl] at hi
      rw [hseg, List.getElem?_take_of_lt hi, List.getElem?_drop, ← ht, List.getElem?_take_of_lt (by omega)] at hu
      rw [show ((⟨g', j * 3, none⟩ : Addr).add i) = ⟨g', j * 3 + i, none⟩ by unfold Addr.add; split <;> simp_all]
      simp only [World.cell?, hg]
      simpa using hu
    have hmin : Nat.min (m + 1 - j) (m - j) = m - j := Nat.min_eq_right (by omega)
    refine ⟨_, _, run_copy3 w _ _ ty 34 g' ((j + 1) * 3) (m - j) dc ⟨g', j * 3, none⟩ (m + 1 - j) sc cur 34 (flatD ((N.drop j).take (m - j))) Tryd.underlying27 (by kernel_rfl) hg (by rw [hcsl, hmin]) hsrc (by rw [hcsl, hcs]; omega) (flatD_one _), ?_, ?_, ?_, ?_⟩
    · unfold OwnD
      rw [hlen]
      refine ⟨by rw [flatD_len, hlen], .inr ⟨g', c, _, rfl, hb, setRow_heap w g' cur _ _ _ hg, hnc, hcm, ?_, ?_⟩⟩
      · simp [hcsl, hcl]; omega
      · have hA : cur.toList.take ((j + 1) * 3) = flatD (N.take (j + 1)) := by rw [← flatD_take, ← ht, List.take_take, Nat.min_eq_left (by omega)]
        have hAl : (flatD (N.take (j + 1))).length = (j + 1) * 3 := by rw [flatD_len, List.length_take]; congr 1; omega
        rw [flatD_append, hA]
        simp only [List.toList_toArray]
        rw [List.take_append_of_le_length (by rw [List.length_append, hAl, hcsl]; omega), List.take_of_length_le (by rw [List.length_append, hAl, hcsl]; omega)]
    · simp [World.setRow]
    · intro b o hbg
      exact cell_setRow_other w g' _ ⟨b, o, none⟩ hbg
    · refine ⟨rfl, rfl, rfl, by simp [World.setRow], fun i hi => ?_⟩
      simp only [World.setRow, Array.getElem?_modify]
      rw [if_neg (by omega)]
end Go.Proofs.YtbkoignjagobaaaDoor
