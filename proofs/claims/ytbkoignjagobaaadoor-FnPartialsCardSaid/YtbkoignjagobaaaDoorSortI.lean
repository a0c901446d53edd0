/-
  The program sorts dominoes.
-/
import Derived.Test.YtbkoignjagobaaaDoorCopyD
namespace Go.Proofs.YtbkoignjagobaaaDoor
open Go.RowKit
set_option linter.unusedVariables false
set_option linter.unusedSimpArgs false

set_option maxHeartbeats 6400000 in
set_option maxRecDepth 100000 in
theorem implSort_any (a : Option Addr) (n c : Nat) (L : List DomI) (w : World) (hz : L.length = n) (hn : n ≤ 1048576) (hr : RdD w a L) :
    Calls Tryd.prog 6 #[.slice a n c] w fun e w' => ∃ a' c', e = .returned (.slice a' (srtL L).length c') ∧ OwnD w' w.heap.size (.slice a' (srtL L).length c') (srtL L) ∧ Below w.heap.size w w' := by
  obtain ⟨i0, hinf, hz0, hz1, hz2⟩ := info_parts domInfo
  have HZ := Lib.hid hz
  clear hz
  go_enter Tryd.func6, Tryd.ntmps6
  go_wp2_with fail
  go_loopw [3, 10] (fun v i wr => ∃ (k : Nat) (M : List DomI) (g c' : Nat), k ≤ n ∧ i = .int .i64 k ∧ v = .slice (some ⟨g, 0, none⟩) M.length c' ∧ Hid (OwnD wr w.heap.size (.slice (some ⟨g, 0, none⟩) M.length c') M) ∧ Hid (M = srtL (L.take k)) ∧ Below w.heap.size w wr)
    (fun _ i _ => n - (intOf i).toNat)
  case atStart => exact ⟨0, [], _, _, Nat.zero_le _, rfl, rfl, Lib.hid (OwnD.new _ _ (Nat.le_refl _) _ rfl), Lib.hid rfl, by repeat' (first | assumption | (with_reducible exact Below.refl _ _) | (with_reducible refine Below.drew ?_) | (with_reducible refine Below.alloc ?_ ?_ _) | (with_reducible refine Below.setCell ?_ ?_ _) | omega | (simp; done) | (simp; omega))⟩
  case round =>
    obtain ⟨k, M, g, c', hk, rfl, rfl, hO, hM, hB⟩ := hrel
    by_cases hlt : k < n
    · obtain ⟨b, off, x, y, d, rfl, hb, hcx, hcy, hcd, hv⟩ := RdD_at (Rd.below hr hB) (k := k) (by rw [HZ.out]; exact hlt)
      have HR := Lib.hid hr
      clear hr
      obtain ⟨hok, hsr, -⟩ := srt_inv (L.take k)
      rw [← hM.out] at hok hsr
      have hM128 := srt_small hsr hok
      have HOK := Lib.hid hok
      have HSR := Lib.hid hsr
      clear hok hsr
      have hgw := (hO.out.lt g rfl).2
      have hgb : w.heap.size ≤ g := (hO.out.lt g rfl).1
      have hsz := hB.size
      have hkn2 : (k : Int) < (n : Int) := by omega
      go_wp2_with (go_at_call 17; fail)
      refine (implDom_any _ _ _ _).mono ?_
      rintro e wa ⟨rfl, hba⟩
      have hza := hba.size
      simp at hza
      have hOa := Lib.hid (OwnD.below (OwnD.alloc hO.out _) hba)
      have hxa : wa.cell? ⟨wr.heap.size, 0, none⟩ = some (.int .i64 x) := (hba.cell (p := ⟨wr.heap.size, 0, none⟩) (by simp)).trans (by go_simp)
      have hya : wa.cell? ⟨wr.heap.size, 1, none⟩ = some (.int .i64 y) := (hba.cell (p := ⟨wr.heap.size, 1, none⟩) (by simp)).trans (by go_simp)
      have hda : wa.cell? ⟨wr.heap.size, 2, none⟩ = some (.bool d) := (hba.cell (p := ⟨wr.heap.size, 2, none⟩) (by simp)).trans (by go_simp)
      have hBa : Below w.heap.size w wa := below_step hba (by first | omega | (simp; done) | (simp; omega)) (by repeat' (first | assumption | (with_reducible exact Below.refl _ _) | (with_reducible refine Below.drew ?_) | (with_reducible refine Below.alloc ?_ ?_ _) | (with_reducible refine Below.setCell ?_ ?_ _) | omega | (simp; done) | (simp; omega)))
      clear hba hcx hcy hcd
      obtain ⟨bd, hbd⟩ : ∃ bd, bd = wr.heap.size := ⟨_, rfl⟩
      rw [← hbd] at hxa hya hda hza hgw ⊢
      have hgbd : ¬ g = bd := by omega
      have hgbd2 : ¬ bd = g := by omega
      have hbda : bd < wa.heap.size := by omega
      have hbdw : w.heap.size ≤ bd := by omega
      clear hbd
      by_cases hd : domB x y d = true
      · have HO2 := Lib.hid (fun W : World => order_any x y d W (domB_ok hd).1)
        obtain ⟨o2, ho2⟩ : ∃ o2, o2 = ordI x y d := ⟨_, rfl⟩
        have HO2E := Lib.hid ho2
        rw [← ho2] at HO2
        go_wp2_with fail
        go_loopw [6] (fun s wq => ∃ j : Nat, j ≤ M.length ∧ s = .int .i64 j ∧ Hid (∀ q ∈ M.drop j, ordP (x, y, d) < ordP q) ∧ Below wa.heap.size wa wq) (fun s _ => (intOf s).toNat)
        case atStart => exact ⟨M.length, Nat.le_refl _, rfl, Lib.hid (by simp), Below.refl _ _⟩
        case round =>
          obtain ⟨j, hj, rfl, hHi, hbq⟩ := hrel
          have hzq := hbq.size
          have HBq : Below w.heap.size w wr := hBa.trans (hbq.mono (by omega))
          have hgq : g < wr.heap.size := by omega
          have hbdq : bd < wr.heap.size := by omega
          by_cases hjl : 0 < j
          · obtain ⟨i, hij⟩ : ∃ i, j = i + 1 := ⟨j - 1, by omega⟩
            have hi : i < M.length := by omega
            obtain ⟨b9, off9, x', y', d', hgg, hb9, hqx, hqy, hqd, hv'⟩ := RdD_at (OwnD.rd (OwnD.below hOa.out hbq) rfl) hi
            injection hgg with hgg
            injection hgg with hg1 hg2
            subst hg1 hg2
            rw [Nat.zero_add] at hqx hqy hqd
            have hd' : domB x' y' d' = true := HOK.out _ (List.mem_of_getElem? hv'.out)
            have HO1 := Lib.hid (fun W : World => order_any x' y' d' W (domB_ok hd').1)
            obtain ⟨o1, ho1⟩ : ∃ o1, o1 = ordI x' y' d' := ⟨_, rfl⟩
            rw [← ho1] at HO1
            have hcx2 := (hbq.cell (p := ⟨bd, 0, none⟩) (by first | omega | (simp; done) | (simp; omega))).trans hxa
            have hcy2 := (hbq.cell (p := ⟨bd, 1, none⟩) (by first | omega | (simp; done) | (simp; omega))).trans hya
            have hcd2 := (hbq.cell (p := ⟨bd, 2, none⟩) (by first | omega | (simp; done) | (simp; omega))).trans hda
            have ej : IntKind.i64.wrap ((j : Int) - 1) = (i : Int) := by rw [IntKind.wrap_i64]; omega
            have hj0 : (0 : Int) < (j : Int) := by omega
            have hiM : (i : Int) < (M.length : Int) := by omega
            have hi2 : g < wr.heap.size := by omega
            have hb2 : bd < wr.heap.size := by omega
            have HIJ := Lib.hid hij
            have tokA : True := trivial
            by_cases hgt : o2 < o1
            · have HHi2 : Hid (∀ q ∈ M.drop i, ordP (x, y, d) < ordP q) := Lib.hid (by
                intro q hq
                rw [List.drop_eq_getElem_cons hi, List.mem_cons] at hq
                rcases hq with hq | hq
                · have e := hv'.out
                  rw [List.getElem?_eq_getElem hi] at e
                  rw [hq, Option.some.inj e]; simp only [ordP]; omega
                · exact hHi.out q (by rw [hij]; exact hq))
              clear hij ho1
              go_wp2_with fail
              refine hold_start (S := (fun w' => w'.cell? ⟨g, i * 3, none⟩ = some (.int .i64 x') ∧ w'.cell? ⟨g, i * 3 + 1, none⟩ = some (.int .i64 y') ∧ w'.cell? ⟨g, i * 3 + 2, none⟩ = some (.bool d') ∧ w'.cell? ⟨bd, 0, none⟩ = some (.int .i64 x) ∧ w'.cell? ⟨bd, 1, none⟩ = some (.int .i64 y) ∧ w'.cell? ⟨bd, 2, none⟩ = some (.bool d) ∧ Below wa.heap.size wa w' ∧ Below w.heap.size w w' ∧ wr.heap.size + 0 ≤ w'.heap.size)) (by kernel_rfl) (by kernel_rfl) (by intro _ _ d _ _ h; cases d <;> exact h) ?_ (fun hHC hH0 => ?_)
              · (first | (go_keep; done) | ((try go_split_ands); (repeat' apply And.intro) <;> first | assumption | (with_reducible refine Rd.below ?_ hb1; assumption) | (with_reducible refine Rd.drew ?_; repeat' (first | assumption | (with_reducible refine Rd.alloc ?_ _))) | (refine (hb1.cell (by first | omega | (simp; done) | (simp; omega))).trans ?_; first | assumption | simp) | (exact below_step hb1 (by first | omega | (simp; done) | (simp; omega)) (by assumption)) | (have hz' := hb1.size; (try simp at hz'); omega) | ((repeat' (first | assumption | (with_reducible exact Below.refl _ _) | (with_reducible refine Below.drew ?_) | (with_reducible refine Below.alloc ?_ ?_ _) | (with_reducible refine Below.setCell ?_ ?_ _) | omega | (simp; done) | (simp; omega))); done) | go_simp | (simp; done) | (simp; omega)))
              refine hold_plain 0 (v := ?_) hHC hH0 (by simp only [List.getElem?_toArray, List.getElem?_cons_succ, List.getElem?_cons_zero]; rfl) rfl (by kernel_rfl) ?_ ?_
              rotate_left 1
              · (intro w hSw; (try dsimp only at hSw); go_simp; try with_reducible rfl)
              try simp only [Act.put, List.setIfInBounds_toArray, List.set_cons_zero, List.set_cons_succ]
              refine hold_plain 1 (v := ?_) hHC hH0 (by simp only [List.getElem?_toArray, List.getElem?_cons_succ, List.getElem?_cons_zero]; rfl) rfl (by kernel_rfl) ?_ ?_
              rotate_left 1
              · (intro w hSw; (try dsimp only at hSw); go_simp; try with_reducible rfl)
              try simp only [Act.put, List.setIfInBounds_toArray, List.set_cons_zero, List.set_cons_succ]
              refine hold_plain 2 (v := ?_) hHC hH0 (by simp only [List.getElem?_toArray, List.getElem?_cons_succ, List.getElem?_cons_zero]; rfl) rfl (by kernel_rfl) ?_ ?_
              rotate_left 1
              · (intro w hSw; (try dsimp only at hSw); go_simp; try with_reducible rfl)
              try simp only [Act.put, List.setIfInBounds_toArray, List.set_cons_zero, List.set_cons_succ]
              refine hold_yes 3 (v := ?_) hHC hH0 (by simp only [List.getElem?_toArray, List.getElem?_cons_succ, List.getElem?_cons_zero]; rfl) rfl (by kernel_rfl) (by kernel_rfl) ?_ ?_
              rotate_left 1
              · (intro w hSw; (try dsimp only at hSw); go_simp; try with_reducible rfl)
              try simp only [Act.put, List.setIfInBounds_toArray, List.set_cons_zero, List.set_cons_succ]
              refine hold_yes 4 (v := ?_) hHC hH0 (by simp only [List.getElem?_toArray, List.getElem?_cons_succ, List.getElem?_cons_zero]; rfl) rfl (by kernel_rfl) (by kernel_rfl) ?_ ?_
              rotate_left 1
              · (intro w hSw; (try dsimp only at hSw); go_simp; try with_reducible rfl)
              try simp only [Act.put, List.setIfInBounds_toArray, List.set_cons_zero, List.set_cons_succ]
              refine hold_yes 5 (v := ?_) hHC hH0 (by simp only [List.getElem?_toArray, List.getElem?_cons_succ, List.getElem?_cons_zero]; rfl) rfl (by kernel_rfl) (by kernel_rfl) ?_ ?_
              rotate_left 1
              · (intro w hSw; (try dsimp only at hSw); go_simp; try with_reducible rfl)
              try simp only [Act.put, List.setIfInBounds_toArray, List.set_cons_zero, List.set_cons_succ]
              refine hold_yes 6 (v := ?_) hHC hH0 (by simp only [List.getElem?_toArray, List.getElem?_cons_succ, List.getElem?_cons_zero]; rfl) rfl (by kernel_rfl) (by kernel_rfl) ?_ ?_
              rotate_left 1
              · (intro w hSw; (try dsimp only at hSw); go_simp; try with_reducible rfl)
              try simp only [Act.put, List.setIfInBounds_toArray, List.set_cons_zero, List.set_cons_succ]
              refine hold_yes 7 (v := ?_) hHC hH0 (by simp only [List.getElem?_toArray, List.getElem?_cons_succ, List.getElem?_cons_zero]; rfl) rfl (by kernel_rfl) (by kernel_rfl) ?_ ?_
              rotate_left 1
              · (intro w hSw; (try dsimp only at hSw); go_simp; try with_reducible rfl)
              try simp only [Act.put, List.setIfInBounds_toArray, List.set_cons_zero, List.set_cons_succ]
              refine hold_yes 9 (v := ?_) hHC hH0 (by simp only [List.getElem?_toArray, List.getElem?_cons_succ, List.getElem?_cons_zero]; rfl) rfl (by kernel_rfl) (by kernel_rfl) ?_ ?_
              rotate_left 1
              · (intro w hSw; (try dsimp only at hSw); go_simp; try with_reducible rfl)
              try simp only [Act.put, List.setIfInBounds_toArray, List.set_cons_zero, List.set_cons_succ]
              refine hold_call1 8 (by simp only [List.getElem?_toArray, List.getElem?_cons_succ, List.getElem?_cons_zero]; rfl) rfl (by kernel_rfl) (by kernel_rfl) (fun K hK => ?_)
              go_simp
              obtain ⟨_, _, _, _, _, _, hs1, _, _⟩ := id hH0; first | (have _t := tokA; (go_at_call 18; refine (HO1.out _).mono ?_; rintro e w1 ⟨rfl, hb1⟩); clear tokA) | (go_at_call 18; refine (HO2.out _).mono ?_; rintro e w1 ⟨rfl, hb1⟩)
              refine hK.out _ _ ?_ (fun hH1 => ?_)
              · (first | (go_keep; done) | ((try go_split_ands); (repeat' apply And.intro) <;> first | assumption | (with_reducible refine Rd.below ?_ hb1; assumption) | (with_reducible refine Rd.drew ?_; repeat' (first | assumption | (with_reducible refine Rd.alloc ?_ _))) | (refine (hb1.cell (by first | omega | (simp; done) | (simp; omega))).trans ?_; first | assumption | simp) | (exact below_step hb1 (by first | omega | (simp; done) | (simp; omega)) (by assumption)) | (have hz' := hb1.size; (try simp at hz'); omega) | ((repeat' (first | assumption | (with_reducible exact Below.refl _ _) | (with_reducible refine Below.drew ?_) | (with_reducible refine Below.alloc ?_ ?_ _) | (with_reducible refine Below.setCell ?_ ?_ _) | omega | (simp; done) | (simp; omega))); done) | go_simp | (simp; done) | (simp; omega)))
              clear hK K hH0
              try simp only [Act.put, List.setIfInBounds_toArray, List.set_cons_zero, List.set_cons_succ]
              refine hold_call1 10 (by simp only [List.getElem?_toArray, List.getElem?_cons_succ, List.getElem?_cons_zero]; rfl) rfl (by kernel_rfl) (by kernel_rfl) (fun K hK => ?_)
              go_simp
              obtain ⟨_, _, _, _, _, _, hs1, _, _⟩ := id hH1; first | (have _t := tokA; (go_at_call 18; refine (HO1.out _).mono ?_; rintro e w1 ⟨rfl, hb1⟩); clear tokA) | (go_at_call 18; refine (HO2.out _).mono ?_; rintro e w1 ⟨rfl, hb1⟩)
              refine hK.out _ _ ?_ (fun hH2 => ?_)
              · (first | (go_keep; done) | ((try go_split_ands); (repeat' apply And.intro) <;> first | assumption | (with_reducible refine Rd.below ?_ hb1; assumption) | (with_reducible refine Rd.drew ?_; repeat' (first | assumption | (with_reducible refine Rd.alloc ?_ _))) | (refine (hb1.cell (by first | omega | (simp; done) | (simp; omega))).trans ?_; first | assumption | simp) | (exact below_step hb1 (by first | omega | (simp; done) | (simp; omega)) (by assumption)) | (have hz' := hb1.size; (try simp at hz'); omega) | ((repeat' (first | assumption | (with_reducible exact Below.refl _ _) | (with_reducible refine Below.drew ?_) | (with_reducible refine Below.alloc ?_ ?_ _) | (with_reducible refine Below.setCell ?_ ?_ _) | omega | (simp; done) | (simp; omega))); done) | go_simp | (simp; done) | (simp; omega)))
              clear hK K hH1
              try simp only [Act.put, List.setIfInBounds_toArray, List.set_cons_zero, List.set_cons_succ]
              refine hold_yes 11 (v := ?_) hHC hH2 (by simp only [List.getElem?_toArray, List.getElem?_cons_succ, List.getElem?_cons_zero]; rfl) rfl (by kernel_rfl) (by kernel_rfl) ?_ ?_
              rotate_left 1
              · (intro w hSw; (try dsimp only at hSw); go_simp; try with_reducible rfl)
              try simp only [Act.put, List.setIfInBounds_toArray, List.set_cons_zero, List.set_cons_succ]
              refine hold_plain 12 (v := ?_) hHC hH2 (by simp only [List.getElem?_toArray, List.getElem?_cons_succ, List.getElem?_cons_zero]; rfl) rfl (by kernel_rfl) ?_ ?_
              rotate_left 1
              · (intro w hSw; (try dsimp only at hSw); go_simp; try with_reducible rfl)
              try simp only [Act.put, List.setIfInBounds_toArray, List.set_cons_zero, List.set_cons_succ]
              refine wpAnyH_done (by kernel_rfl) ?_ _
              (try dsimp only at hH2)
              go_split_ands
              clear hHC
              go_wp2
              go_roundw
              case rel => exact ⟨i, by omega, by go_num, HHi2, by assumption⟩
              case measure => have := HIJ.out; simp [intOf]; omega
            · have hgt0 : o1 ≤ o2 := by omega
              have hgt2 : decide (o2 < o1) = false := decide_eq_false hgt
              rw [ho1, HO2E.out] at hgt
              clear hij ho1
              go_wp2_with fail
              refine hold_start (S := (fun w' => w'.cell? ⟨g, i * 3, none⟩ = some (.int .i64 x') ∧ w'.cell? ⟨g, i * 3 + 1, none⟩ = some (.int .i64 y') ∧ w'.cell? ⟨g, i * 3 + 2, none⟩ = some (.bool d') ∧ w'.cell? ⟨bd, 0, none⟩ = some (.int .i64 x) ∧ w'.cell? ⟨bd, 1, none⟩ = some (.int .i64 y) ∧ w'.cell? ⟨bd, 2, none⟩ = some (.bool d) ∧ Below wa.heap.size wa w' ∧ Below w.heap.size w w' ∧ wr.heap.size + 0 ≤ w'.heap.size)) (by kernel_rfl) (by kernel_rfl) (by intro _ _ d _ _ h; cases d <;> exact h) ?_ (fun hHC hH0 => ?_)
              · (first | (go_keep; done) | ((try go_split_ands); (repeat' apply And.intro) <;> first | assumption | (with_reducible refine Rd.below ?_ hb1; assumption) | (with_reducible refine Rd.drew ?_; repeat' (first | assumption | (with_reducible refine Rd.alloc ?_ _))) | (refine (hb1.cell (by first | omega | (simp; done) | (simp; omega))).trans ?_; first | assumption | simp) | (exact below_step hb1 (by first | omega | (simp; done) | (simp; omega)) (by assumption)) | (have hz' := hb1.size; (try simp at hz'); omega) | ((repeat' (first | assumption | (with_reducible exact Below.refl _ _) | (with_reducible refine Below.drew ?_) | (with_reducible refine Below.alloc ?_ ?_ _) | (with_reducible refine Below.setCell ?_ ?_ _) | omega | (simp; done) | (simp; omega))); done) | go_simp | (simp; done) | (simp; omega)))
              refine hold_plain 0 (v := ?_) hHC hH0 (by simp only [List.getElem?_toArray, List.getElem?_cons_succ, List.getElem?_cons_zero]; rfl) rfl (by kernel_rfl) ?_ ?_
              rotate_left 1
              · (intro w hSw; (try dsimp only at hSw); go_simp; try with_reducible rfl)
              try simp only [Act.put, List.setIfInBounds_toArray, List.set_cons_zero, List.set_cons_succ]
              refine hold_plain 1 (v := ?_) hHC hH0 (by simp only [List.getElem?_toArray, List.getElem?_cons_succ, List.getElem?_cons_zero]; rfl) rfl (by kernel_rfl) ?_ ?_
              rotate_left 1
              · (intro w hSw; (try dsimp only at hSw); go_simp; try with_reducible rfl)
              try simp only [Act.put, List.setIfInBounds_toArray, List.set_cons_zero, List.set_cons_succ]
              refine hold_plain 2 (v := ?_) hHC hH0 (by simp only [List.getElem?_toArray, List.getElem?_cons_succ, List.getElem?_cons_zero]; rfl) rfl (by kernel_rfl) ?_ ?_
              rotate_left 1
              · (intro w hSw; (try dsimp only at hSw); go_simp; try with_reducible rfl)
              try simp only [Act.put, List.setIfInBounds_toArray, List.set_cons_zero, List.set_cons_succ]
              refine hold_yes 3 (v := ?_) hHC hH0 (by simp only [List.getElem?_toArray, List.getElem?_cons_succ, List.getElem?_cons_zero]; rfl) rfl (by kernel_rfl) (by kernel_rfl) ?_ ?_
              rotate_left 1
              · (intro w hSw; (try dsimp only at hSw); go_simp; try with_reducible rfl)
              try simp only [Act.put, List.setIfInBounds_toArray, List.set_cons_zero, List.set_cons_succ]
              refine hold_yes 4 (v := ?_) hHC hH0 (by simp only [List.getElem?_toArray, List.getElem?_cons_succ, List.getElem?_cons_zero]; rfl) rfl (by kernel_rfl) (by kernel_rfl) ?_ ?_
              rotate_left 1
              · (intro w hSw; (try dsimp only at hSw); go_simp; try with_reducible rfl)
              try simp only [Act.put, List.setIfInBounds_toArray, List.set_cons_zero, List.set_cons_succ]
              refine hold_yes 5 (v := ?_) hHC hH0 (by simp only [List.getElem?_toArray, List.getElem?_cons_succ, List.getElem?_cons_zero]; rfl) rfl (by kernel_rfl) (by kernel_rfl) ?_ ?_
              rotate_left 1
              · (intro w hSw; (try dsimp only at hSw); go_simp; try with_reducible rfl)
              try simp only [Act.put, List.setIfInBounds_toArray, List.set_cons_zero, List.set_cons_succ]
              refine hold_yes 6 (v := ?_) hHC hH0 (by simp only [List.getElem?_toArray, List.getElem?_cons_succ, List.getElem?_cons_zero]; rfl) rfl (by kernel_rfl) (by kernel_rfl) ?_ ?_
              rotate_left 1
              · (intro w hSw; (try dsimp only at hSw); go_simp; try with_reducible rfl)
              try simp only [Act.put, List.setIfInBounds_toArray, List.set_cons_zero, List.set_cons_succ]
              refine hold_yes 7 (v := ?_) hHC hH0 (by simp only [List.getElem?_toArray, List.getElem?_cons_succ, List.getElem?_cons_zero]; rfl) rfl (by kernel_rfl) (by kernel_rfl) ?_ ?_
              rotate_left 1
              · (intro w hSw; (try dsimp only at hSw); go_simp; try with_reducible rfl)
              try simp only [Act.put, List.setIfInBounds_toArray, List.set_cons_zero, List.set_cons_succ]
              refine hold_yes 9 (v := ?_) hHC hH0 (by simp only [List.getElem?_toArray, List.getElem?_cons_succ, List.getElem?_cons_zero]; rfl) rfl (by kernel_rfl) (by kernel_rfl) ?_ ?_
              rotate_left 1
              · (intro w hSw; (try dsimp only at hSw); go_simp; try with_reducible rfl)
              try simp only [Act.put, List.setIfInBounds_toArray, List.set_cons_zero, List.set_cons_succ]
              refine hold_call1 8 (by simp only [List.getElem?_toArray, List.getElem?_cons_succ, List.getElem?_cons_zero]; rfl) rfl (by kernel_rfl) (by kernel_rfl) (fun K hK => ?_)
              go_simp
              obtain ⟨_, _, _, _, _, _, hs1, _, _⟩ := id hH0; first | (have _t := tokA; (go_at_call 18; refine (HO1.out _).mono ?_; rintro e w1 ⟨rfl, hb1⟩); clear tokA) | (go_at_call 18; refine (HO2.out _).mono ?_; rintro e w1 ⟨rfl, hb1⟩)
              refine hK.out _ _ ?_ (fun hH1 => ?_)
              · (first | (go_keep; done) | ((try go_split_ands); (repeat' apply And.intro) <;> first | assumption | (with_reducible refine Rd.below ?_ hb1; assumption) | (with_reducible refine Rd.drew ?_; repeat' (first | assumption | (with_reducible refine Rd.alloc ?_ _))) | (refine (hb1.cell (by first | omega | (simp; done) | (simp; omega))).trans ?_; first | assumption | simp) | (exact below_step hb1 (by first | omega | (simp; done) | (simp; omega)) (by assumption)) | (have hz' := hb1.size; (try simp at hz'); omega) | ((repeat' (first | assumption | (with_reducible exact Below.refl _ _) | (with_reducible refine Below.drew ?_) | (with_reducible refine Below.alloc ?_ ?_ _) | (with_reducible refine Below.setCell ?_ ?_ _) | omega | (simp; done) | (simp; omega))); done) | go_simp | (simp; done) | (simp; omega)))
              clear hK K hH0
              try simp only [Act.put, List.setIfInBounds_toArray, List.set_cons_zero, List.set_cons_succ]
              refine hold_call1 10 (by simp only [List.getElem?_toArray, List.getElem?_cons_succ, List.getElem?_cons_zero]; rfl) rfl (by kernel_rfl) (by kernel_rfl) (fun K hK => ?_)
              go_simp
              obtain ⟨_, _, _, _, _, _, hs1, _, _⟩ := id hH1; first | (have _t := tokA; (go_at_call 18; refine (HO1.out _).mono ?_; rintro e w1 ⟨rfl, hb1⟩); clear tokA) | (go_at_call 18; refine (HO2.out _).mono ?_; rintro e w1 ⟨rfl, hb1⟩)
              refine hK.out _ _ ?_ (fun hH2 => ?_)
              · (first | (go_keep; done) | ((try go_split_ands); (repeat' apply And.intro) <;> first | assumption | (with_reducible refine Rd.below ?_ hb1; assumption) | (with_reducible refine Rd.drew ?_; repeat' (first | assumption | (with_reducible refine Rd.alloc ?_ _))) | (refine (hb1.cell (by first | omega | (simp; done) | (simp; omega))).trans ?_; first | assumption | simp) | (exact below_step hb1 (by first | omega | (simp; done) | (simp; omega)) (by assumption)) | (have hz' := hb1.size; (try simp at hz'); omega) | ((repeat' (first | assumption | (with_reducible exact Below.refl _ _) | (with_reducible refine Below.drew ?_) | (with_reducible refine Below.alloc ?_ ?_ _) | (with_reducible refine Below.setCell ?_ ?_ _) | omega | (simp; done) | (simp; omega))); done) | go_simp | (simp; done) | (simp; omega)))
              clear hK K hH1
              try simp only [Act.put, List.setIfInBounds_toArray, List.set_cons_zero, List.set_cons_succ]
              refine hold_yes 11 (v := ?_) hHC hH2 (by simp only [List.getElem?_toArray, List.getElem?_cons_succ, List.getElem?_cons_zero]; rfl) rfl (by kernel_rfl) (by kernel_rfl) ?_ ?_
              rotate_left 1
              · (intro w hSw; (try dsimp only at hSw); go_simp; try with_reducible rfl)
              try simp only [Act.put, List.setIfInBounds_toArray, List.set_cons_zero, List.set_cons_succ]
              refine hold_plain 12 (v := ?_) hHC hH2 (by simp only [List.getElem?_toArray, List.getElem?_cons_succ, List.getElem?_cons_zero]; rfl) rfl (by kernel_rfl) ?_ ?_
              rotate_left 1
              · (intro w hSw; (try dsimp only at hSw); go_simp; try with_reducible rfl)
              try simp only [Act.put, List.setIfInBounds_toArray, List.set_cons_zero, List.set_cons_succ]
              refine wpAnyH_done (by kernel_rfl) ?_ _
              (try dsimp only at hH2)
              go_split_ands
              clear hHC
              have hbq' : Below wa.heap.size wa w1 := by assumption
              have hs1' : wr.heap.size ≤ w1.heap.size := by omega
              go_wp2_with fail
              by_cases hq : (x', y', d') = (x, y, d)
              · have HM2 : Hid (M = srtL (L.take (k + 1))) := Lib.hid (by rw [srt_yes hv.out hd, ← hM.out]; exact (ins_skip (by rw [← hq]; exact hv'.out)).symm)
                obtain ⟨rfl, rfl, rfl⟩ : x' = x ∧ y' = y ∧ d' = d := by simpa using hq
                have HOw := Lib.hid (OwnD.below hOa.out hbq')
                have HBw : Below w.heap.size w w1 := hBa.trans (hbq'.mono (by omega))
                refine hold_start (S := (fun w' => w'.cell? ⟨g, i * 3, none⟩ = some (.int .i64 x') ∧ w'.cell? ⟨g, i * 3 + 1, none⟩ = some (.int .i64 y') ∧ w'.cell? ⟨g, i * 3 + 2, none⟩ = some (.bool d') ∧ w'.cell? ⟨bd, 0, none⟩ = some (.int .i64 x') ∧ w'.cell? ⟨bd, 1, none⟩ = some (.int .i64 y') ∧ w'.cell? ⟨bd, 2, none⟩ = some (.bool d') ∧ Below w.heap.size w w' ∧ w1.heap.size + 0 ≤ w'.heap.size)) (by kernel_rfl) (by kernel_rfl) (by intro _ _ d _ _ h; cases d <;> exact h) ?_ (fun hHC hH0 => ?_)
                · (first | (go_keep; done) | ((try go_split_ands); (repeat' apply And.intro) <;> first | assumption | (with_reducible refine Rd.below ?_ hb1; assumption) | (with_reducible refine Rd.drew ?_; repeat' (first | assumption | (with_reducible refine Rd.alloc ?_ _))) | (refine (hb1.cell (by first | omega | (simp; done) | (simp; omega))).trans ?_; first | assumption | simp) | (exact below_step hb1 (by first | omega | (simp; done) | (simp; omega)) (by assumption)) | (have hz' := hb1.size; (try simp at hz'); omega) | ((repeat' (first | assumption | (with_reducible exact Below.refl _ _) | (with_reducible refine Below.drew ?_) | (with_reducible refine Below.alloc ?_ ?_ _) | (with_reducible refine Below.setCell ?_ ?_ _) | omega | (simp; done) | (simp; omega))); done) | go_simp | (simp; done) | (simp; omega)))
                refine hold_plain 0 (v := ?_) hHC hH0 (by simp only [List.getElem?_toArray, List.getElem?_cons_succ, List.getElem?_cons_zero]; rfl) rfl (by kernel_rfl) ?_ ?_
                rotate_left 1
                · (intro w hSw; (try dsimp only at hSw); go_simp; try with_reducible rfl)
                try simp only [Act.put, List.setIfInBounds_toArray, List.set_cons_zero, List.set_cons_succ]
                refine hold_plain 1 (v := ?_) hHC hH0 (by simp only [List.getElem?_toArray, List.getElem?_cons_succ, List.getElem?_cons_zero]; rfl) rfl (by kernel_rfl) ?_ ?_
                rotate_left 1
                · (intro w hSw; (try dsimp only at hSw); go_simp; try with_reducible rfl)
                try simp only [Act.put, List.setIfInBounds_toArray, List.set_cons_zero, List.set_cons_succ]
                refine hold_plain 2 (v := ?_) hHC hH0 (by simp only [List.getElem?_toArray, List.getElem?_cons_succ, List.getElem?_cons_zero]; rfl) rfl (by kernel_rfl) ?_ ?_
                rotate_left 1
                · (intro w hSw; (try dsimp only at hSw); go_simp; try with_reducible rfl)
                try simp only [Act.put, List.setIfInBounds_toArray, List.set_cons_zero, List.set_cons_succ]
                refine hold_yes 3 (v := ?_) hHC hH0 (by simp only [List.getElem?_toArray, List.getElem?_cons_succ, List.getElem?_cons_zero]; rfl) rfl (by kernel_rfl) (by kernel_rfl) ?_ ?_
                rotate_left 1
                · (intro w hSw; (try dsimp only at hSw); go_simp; try with_reducible rfl)
                try simp only [Act.put, List.setIfInBounds_toArray, List.set_cons_zero, List.set_cons_succ]
                refine hold_yes 4 (v := ?_) hHC hH0 (by simp only [List.getElem?_toArray, List.getElem?_cons_succ, List.getElem?_cons_zero]; rfl) rfl (by kernel_rfl) (by kernel_rfl) ?_ ?_
                rotate_left 1
                · (intro w hSw; (try dsimp only at hSw); go_simp; try with_reducible rfl)
                try simp only [Act.put, List.setIfInBounds_toArray, List.set_cons_zero, List.set_cons_succ]
                refine hold_yes 5 (v := ?_) hHC hH0 (by simp only [List.getElem?_toArray, List.getElem?_cons_succ, List.getElem?_cons_zero]; rfl) rfl (by kernel_rfl) (by kernel_rfl) ?_ ?_
                rotate_left 1
                · (intro w hSw; (try dsimp only at hSw); go_simp; try with_reducible rfl)
                try simp only [Act.put, List.setIfInBounds_toArray, List.set_cons_zero, List.set_cons_succ]
                refine hold_yes 6 (v := ?_) hHC hH0 (by simp only [List.getElem?_toArray, List.getElem?_cons_succ, List.getElem?_cons_zero]; rfl) rfl (by kernel_rfl) (by kernel_rfl) ?_ ?_
                rotate_left 1
                · (intro w hSw; (try dsimp only at hSw); go_simp; try with_reducible rfl)
                try simp only [Act.put, List.setIfInBounds_toArray, List.set_cons_zero, List.set_cons_succ]
                refine hold_yes 7 (v := ?_) hHC hH0 (by simp only [List.getElem?_toArray, List.getElem?_cons_succ, List.getElem?_cons_zero]; rfl) rfl (by kernel_rfl) (by kernel_rfl) ?_ ?_
                rotate_left 1
                · (intro w hSw; (try dsimp only at hSw); go_simp; try with_reducible rfl)
                try simp only [Act.put, List.setIfInBounds_toArray, List.set_cons_zero, List.set_cons_succ]
                refine hold_yes 8 (v := ?_) hHC hH0 (by simp only [List.getElem?_toArray, List.getElem?_cons_succ, List.getElem?_cons_zero]; rfl) rfl (by kernel_rfl) (by kernel_rfl) ?_ ?_
                rotate_left 1
                · (intro w hSw; (try dsimp only at hSw); go_simp; try with_reducible rfl)
                try simp only [Act.put, List.setIfInBounds_toArray, List.set_cons_zero, List.set_cons_succ]
                refine hold_yes 9 (v := ?_) hHC hH0 (by simp only [List.getElem?_toArray, List.getElem?_cons_succ, List.getElem?_cons_zero]; rfl) rfl (by kernel_rfl) (by kernel_rfl) ?_ ?_
                rotate_left 1
                · (intro w hSw; (try dsimp only at hSw); go_simp; try with_reducible rfl)
                try simp only [Act.put, List.setIfInBounds_toArray, List.set_cons_zero, List.set_cons_succ]
                refine hold_plain 10 (v := ?_) hHC hH0 (by simp only [List.getElem?_toArray, List.getElem?_cons_succ, List.getElem?_cons_zero]; rfl) rfl (by kernel_rfl) ?_ ?_
                rotate_left 1
                · (intro w hSw; (try dsimp only at hSw); go_simp; try with_reducible rfl)
                try simp only [Act.put, List.setIfInBounds_toArray, List.set_cons_zero, List.set_cons_succ]
                refine wpAnyH_done (by kernel_rfl) ?_ _
                (try dsimp only at hH0)
                go_split_ands
                clear hHC
                go_wp2
                go_roundw
                case rel => exact ⟨k + 1, M, g, c', by omega, by go_num, rfl, Lib.hid HOw.out, HM2, HBw.drew⟩
                case measure => simp [intOf]; omega
              · have hlt2 : ordP (x', y', d') < ordP (x, y, d) := by
                  rcases Int.lt_or_lt_of_ne (fun e => hq (ord_inj hd' hd e) : ordP (x', y', d') ≠ ordP (x, y, d)) with h | h
                  · exact h
                  · exfalso; simp only [ordP] at h; omega
                have HLo : Hid (∀ q ∈ M.take j, ordP q < ordP (x, y, d)) := Lib.hid (by
                  have hij := HIJ.out
                  intro q hq
                  obtain ⟨i2, hi1, hi2⟩ := List.getElem_of_mem hq
                  rw [List.getElem_take] at hi2
                  rw [List.length_take] at hi1
                  rcases Nat.lt_or_ge i2 i with h0 | h0
                  · have := srt_at HSR.out h0 (List.getElem?_eq_getElem (by omega)) hv'.out
                    rw [hi2] at this
                    omega
                  · have e3 : i2 = i := by omega
                    subst e3
                    have e := hv'.out
                    rw [List.getElem?_eq_getElem hi] at e
                    rw [← hi2, Option.some.inj e]; exact hlt2)
                have hne : ¬ x' = x ∨ ¬ y' = y ∨ ¬ d' = d := by
                  by_cases h1 : x' = x
                  · by_cases h2 : y' = y
                    · exact .inr (.inr (fun h3 => hq (by rw [h1, h2, h3])))
                    · exact .inr (.inl h2)
                  · exact .inl h1
                clear hq
                rcases hne with h3 | h3 | h3
                all_goals (
                  have h4 := beq_eq_false_iff_ne.2 h3
                  refine hold_start (S := (fun w' => w'.cell? ⟨g, i * 3, none⟩ = some (.int .i64 x') ∧ w'.cell? ⟨g, i * 3 + 1, none⟩ = some (.int .i64 y') ∧ w'.cell? ⟨g, i * 3 + 2, none⟩ = some (.bool d') ∧ w'.cell? ⟨bd, 0, none⟩ = some (.int .i64 x) ∧ w'.cell? ⟨bd, 1, none⟩ = some (.int .i64 y) ∧ w'.cell? ⟨bd, 2, none⟩ = some (.bool d) ∧ Below w.heap.size w w' ∧ w1.heap.size + 0 ≤ w'.heap.size)) (by kernel_rfl) (by kernel_rfl) (by intro _ _ d _ _ h; cases d <;> exact h) ?_ (fun hHC hH0 => ?_)
                  · (first | (go_keep; done) | ((try go_split_ands); (repeat' apply And.intro) <;> first | assumption | (with_reducible refine Rd.below ?_ hb1; assumption) | (with_reducible refine Rd.drew ?_; repeat' (first | assumption | (with_reducible refine Rd.alloc ?_ _))) | (refine (hb1.cell (by first | omega | (simp; done) | (simp; omega))).trans ?_; first | assumption | simp) | (exact below_step hb1 (by first | omega | (simp; done) | (simp; omega)) (by assumption)) | (have hz' := hb1.size; (try simp at hz'); omega) | ((repeat' (first | assumption | (with_reducible exact Below.refl _ _) | (with_reducible refine Below.drew ?_) | (with_reducible refine Below.alloc ?_ ?_ _) | (with_reducible refine Below.setCell ?_ ?_ _) | omega | (simp; done) | (simp; omega))); done) | go_simp | (simp; done) | (simp; omega)))
                  refine hold_plain 0 (v := ?_) hHC hH0 (by simp only [List.getElem?_toArray, List.getElem?_cons_succ, List.getElem?_cons_zero]; rfl) rfl (by kernel_rfl) ?_ ?_
                  rotate_left 1
                  · (intro w hSw; (try dsimp only at hSw); go_simp; try with_reducible rfl)
                  try simp only [Act.put, List.setIfInBounds_toArray, List.set_cons_zero, List.set_cons_succ]
                  refine hold_plain 1 (v := ?_) hHC hH0 (by simp only [List.getElem?_toArray, List.getElem?_cons_succ, List.getElem?_cons_zero]; rfl) rfl (by kernel_rfl) ?_ ?_
                  rotate_left 1
                  · (intro w hSw; (try dsimp only at hSw); go_simp; try with_reducible rfl)
                  try simp only [Act.put, List.setIfInBounds_toArray, List.set_cons_zero, List.set_cons_succ]
                  refine hold_plain 2 (v := ?_) hHC hH0 (by simp only [List.getElem?_toArray, List.getElem?_cons_succ, List.getElem?_cons_zero]; rfl) rfl (by kernel_rfl) ?_ ?_
                  rotate_left 1
                  · (intro w hSw; (try dsimp only at hSw); go_simp; try with_reducible rfl)
                  try simp only [Act.put, List.setIfInBounds_toArray, List.set_cons_zero, List.set_cons_succ]
                  refine hold_yes 3 (v := ?_) hHC hH0 (by simp only [List.getElem?_toArray, List.getElem?_cons_succ, List.getElem?_cons_zero]; rfl) rfl (by kernel_rfl) (by kernel_rfl) ?_ ?_
                  rotate_left 1
                  · (intro w hSw; (try dsimp only at hSw); go_simp; try with_reducible rfl)
                  try simp only [Act.put, List.setIfInBounds_toArray, List.set_cons_zero, List.set_cons_succ]
                  refine hold_yes 4 (v := ?_) hHC hH0 (by simp only [List.getElem?_toArray, List.getElem?_cons_succ, List.getElem?_cons_zero]; rfl) rfl (by kernel_rfl) (by kernel_rfl) ?_ ?_
                  rotate_left 1
                  · (intro w hSw; (try dsimp only at hSw); go_simp; try with_reducible rfl)
                  try simp only [Act.put, List.setIfInBounds_toArray, List.set_cons_zero, List.set_cons_succ]
                  refine hold_yes 5 (v := ?_) hHC hH0 (by simp only [List.getElem?_toArray, List.getElem?_cons_succ, List.getElem?_cons_zero]; rfl) rfl (by kernel_rfl) (by kernel_rfl) ?_ ?_
                  rotate_left 1
                  · (intro w hSw; (try dsimp only at hSw); go_simp; try with_reducible rfl)
                  try simp only [Act.put, List.setIfInBounds_toArray, List.set_cons_zero, List.set_cons_succ]
                  refine hold_yes 6 (v := ?_) hHC hH0 (by simp only [List.getElem?_toArray, List.getElem?_cons_succ, List.getElem?_cons_zero]; rfl) rfl (by kernel_rfl) (by kernel_rfl) ?_ ?_
                  rotate_left 1
                  · (intro w hSw; (try dsimp only at hSw); go_simp; try with_reducible rfl)
                  try simp only [Act.put, List.setIfInBounds_toArray, List.set_cons_zero, List.set_cons_succ]
                  refine hold_yes 7 (v := ?_) hHC hH0 (by simp only [List.getElem?_toArray, List.getElem?_cons_succ, List.getElem?_cons_zero]; rfl) rfl (by kernel_rfl) (by kernel_rfl) ?_ ?_
                  rotate_left 1
                  · (intro w hSw; (try dsimp only at hSw); go_simp; try with_reducible rfl)
                  try simp only [Act.put, List.setIfInBounds_toArray, List.set_cons_zero, List.set_cons_succ]
                  refine hold_yes 8 (v := ?_) hHC hH0 (by simp only [List.getElem?_toArray, List.getElem?_cons_succ, List.getElem?_cons_zero]; rfl) rfl (by kernel_rfl) (by kernel_rfl) ?_ ?_
                  rotate_left 1
                  · (intro w hSw; (try dsimp only at hSw); go_simp; try with_reducible rfl)
                  try simp only [Act.put, List.setIfInBounds_toArray, List.set_cons_zero, List.set_cons_succ]
                  refine hold_yes 9 (v := ?_) hHC hH0 (by simp only [List.getElem?_toArray, List.getElem?_cons_succ, List.getElem?_cons_zero]; rfl) rfl (by kernel_rfl) (by kernel_rfl) ?_ ?_
                  rotate_left 1
                  · (intro w hSw; (try dsimp only at hSw); go_simp; try with_reducible rfl)
                  try simp only [Act.put, List.setIfInBounds_toArray, List.set_cons_zero, List.set_cons_succ]
                  refine hold_plain 10 (v := ?_) hHC hH0 (by simp only [List.getElem?_toArray, List.getElem?_cons_succ, List.getElem?_cons_zero]; rfl) rfl (by kernel_rfl) ?_ ?_
                  rotate_left 1
                  · (intro w hSw; (try dsimp only at hSw); go_simp; try with_reducible rfl)
                  try simp only [Act.put, List.setIfInBounds_toArray, List.set_cons_zero, List.set_cons_succ]
                  refine wpAnyH_done (by kernel_rfl) ?_ _
                  (try dsimp only at hH0)
                  go_split_ands
                  clear hHC
                  obtain ⟨wz, hwz⟩ : ∃ wz, wz = w1.drew := ⟨_, rfl⟩
                  have hbz : Below wa.heap.size wa wz := by rw [hwz]; exact hbq'.drew
                  rw [← hwz]
                  clear hwz
                  have hxz : True := trivial
                  have hzz := hbz.size
                  have hOz := Lib.hid (OwnD.below hOa.out hbz)
                  have hgz := (hOz.out.lt g rfl).2
                  have hBz : Below w.heap.size w wz := hBa.trans (hbz.mono (by omega))
                  replace hxz : wz.cell? ⟨bd, 0, none⟩ = some (.int .i64 x) := (hbz.cell (p := ⟨bd, 0, none⟩) (by first | omega | (simp; done) | (simp; omega))).trans hxa
                  have hyz : wz.cell? ⟨bd, 1, none⟩ = some (.int .i64 y) := (hbz.cell (p := ⟨bd, 1, none⟩) (by first | omega | (simp; done) | (simp; omega))).trans hya
                  have hdz : wz.cell? ⟨bd, 2, none⟩ = some (.bool d) := (hbz.cell (p := ⟨bd, 2, none⟩) (by first | omega | (simp; done) | (simp; omega))).trans hda
                  have hbdz : bd < wz.heap.size := by omega
                  go_wp2_with (at_builtin; go_must (refine wpList_append_own_at _ rfl _ _ 27 rfl w.heap.size 34 i0 (.agg #[.int .i64 0, .int .i64 0, .bool false]) 3 24 Tryd.underlying27 hinf hz0 hz1 hz2 rfl (by decide) (.slice (some ⟨g, 0, none⟩) M.length c') M.length (flatD M) (by rfl) (OwnD.alloc hOz.out _) ⟨wz.heap.size, 0, none⟩ 1 1 [.int .i64 0, .int .i64 0, .bool false] (by rfl) rfl (dom_three_new _ _ _ _ _) (by intro u hu; simp at hu; rcases hu with rfl | rfl | rfl <;> rfl) (by unfold maxLen; omega) (by omega) (by simp; omega) ?_); intro v3 w3 hown3 hgrow3 hnil3 hat3; go_must (obtain ⟨g3, c3, rfl, hg3, hg3', hc3⟩ := own_some hown3 (fun h => by have := (hnil3.1 h).1; cases this); have hx3 : w3.cell? ⟨bd, 0, none⟩ = some (.int .i64 x) := (World.cell?_of_block (a := ⟨bd, 0, none⟩) (hgrow3.block bd (by simp; omega) (by simp [Value.ownBlock]; omega))).trans (by go_simp); have hy3 : w3.cell? ⟨bd, 1, none⟩ = some (.int .i64 y) := (World.cell?_of_block (a := ⟨bd, 1, none⟩) (hgrow3.block bd (by simp; omega) (by simp [Value.ownBlock]; omega))).trans (by go_simp); have hd3 : w3.cell? ⟨bd, 2, none⟩ = some (.bool d) := (World.cell?_of_block (a := ⟨bd, 2, none⟩) (hgrow3.block bd (by simp; omega) (by simp [Value.ownBlock]; omega))).trans (by go_simp); have hB3 : Below w.heap.size w w3 := Below.trans (by repeat' (first | assumption | (with_reducible exact Below.refl _ _) | (with_reducible refine Below.drew ?_) | (with_reducible refine Below.alloc ?_ ?_ _) | (with_reducible refine Below.setCell ?_ ?_ _) | omega | (simp; done) | (simp; omega))) ((Below.refl w.heap.size _).grown hgrow3 (by simp; omega) (fun k h => by simp [Value.ownBlock] at h; omega)); have hne3 : ¬ g3 = bd := (by simp [Value.ownBlock] at hat3; omega); have HO3 : Hid (OwnD w3 w.heap.size (.slice (some ⟨g3, 0, none⟩) (M.length + 1) c3) (M ++ [(0, 0, false)])) := Lib.hid (by unfold OwnD; rw [flatD_app, List.length_append]; exact hown3); have hbd3 : bd < w3.heap.size := (by have := hgrow3.size; simp at this; omega)); clear hown3 hgrow3 hnil3 hat3)
                  have hne3b : ¬ bd = g3 := fun h => hne3 h.symm
                  have hcI : (M.length : Int) + 1 ≤ (c3 : Int) := by omega
                  have hjI : (j : Int) ≤ (M.length : Int) := by omega
                  have hgz3 := (HO3.out.lt g3 rfl).2
                  obtain ⟨q, hq⟩ : ∃ q, q = j + 1 := ⟨_, rfl⟩
                  have hr4 : ∃ v4 w4, (Builtin.copy_ #[27, 27] 3 #[.slice (if c3 = q then some ⟨g3, 0, none⟩ else some ⟨g3, q * 3, none⟩) (M.length + 1 - q) (c3 - q), .slice (some ⟨g3, j * 3, none⟩) (M.length + 1 - j) (c3 - j)]).run Tryd.prog w3.drew = .ok v4 w4 ∧ OwnD w4 w.heap.size (.slice (some ⟨g3, 0, none⟩) (M.length + 1) c3) ((M ++ [(0, 0, false)]).take (j + 1) ++ ((M ++ [(0, 0, false)]).drop j).take (M.length - j)) ∧ w4.heap.size = w3.heap.size ∧ (∀ b o, b ≠ g3 → w4.cell? ⟨b, o, none⟩ = w3.cell? ⟨b, o, none⟩) ∧ Below w.heap.size w3.drew w4 := by
                    by_cases hjm : j < M.length
                    · obtain ⟨v4, w4, h1, h2, h3, h4, h5⟩ := copy_own (w := w3.drew) (dc := c3 - (j + 1)) (sc := c3 - j) 3 (show OwnD w3.drew w.heap.size (.slice (some ⟨g3, 0, none⟩) (M.length + 1) c3) (M ++ [(0, 0, false)]) from HO3.out) (by simp) hjm
                      refine ⟨v4, w4, ?_, h2, h3, h4, h5.mono (by omega)⟩
                      rw [if_neg (by omega), hq, show M.length + 1 - (j + 1) = M.length - j by omega]
                      exact h1
                    · have e : j = M.length := by omega
                      refine ⟨goInt 0, w3.drew, ?_, ?_, rfl, fun _ _ _ => rfl, Below.refl _ _⟩
                      · rw [show M.length + 1 - q = 0 by omega]
                        split <;> exact run_copy0 _ _ _ _ 34 _ _ _ _ _ Tryd.underlying27 (by kernel_rfl)
                      · have e2 : ((M ++ [(0, 0, false)]).take (j + 1) ++ ((M ++ [(0, 0, false)]).drop j).take (M.length - j)) = M ++ [(0, 0, false)] := by rw [e, Nat.sub_self, List.take_zero, List.append_nil, List.take_of_length_le (by simp)]
                        rw [e2]
                        exact HO3.out
                  obtain ⟨v4, w4, hr4, hO4, hz4, hcell4, hbel4⟩ := hr4
                  have HO4 : Hid (OwnD w4 w.heap.size (.slice (some ⟨g3, 0, none⟩) (M.length + 1) c3) ((M ++ [(0, 0, false)]).take (j + 1) ++ ((M ++ [(0, 0, false)]).drop j).take (M.length - j))) := Lib.hid hO4
                  clear hO4
                  have hx4 : w4.cell? ⟨bd, 0, none⟩ = some (.int .i64 x) := (hcell4 bd 0 hne3b).trans hx3
                  have hy4 : w4.cell? ⟨bd, 1, none⟩ = some (.int .i64 y) := (hcell4 bd 1 hne3b).trans hy3
                  have hd4 : w4.cell? ⟨bd, 2, none⟩ = some (.bool d) := (hcell4 bd 2 hne3b).trans hd3
                  have hB4 : Below w.heap.size w w4 := hB3.drew.trans hbel4
                  have hs4 : w3.heap.size ≤ w4.heap.size := by omega
                  have HHR := Lib.hid hr4
                  have ew1 : IntKind.i64.wrap ((j : Int) + 1) = (q : Int) := by rw [IntKind.wrap_i64]; omega
                  have hqI : (q : Int) ≤ (M.length : Int) + 1 := by omega
                  have hjI2 : (j : Int) ≤ (M.length : Int) + 1 := by omega
                  have hjI3 : (j : Int) < (M.length : Int) + 1 := by omega
                  have hcj : ¬ c3 = j := by omega
                  have hj8 : j ≤ M.length := by omega
                  clear hq hr4 hcell4 hbel4 hz4
                  refine hold_start (S := (fun w' => w'.cell? ⟨bd, 0, none⟩ = some (.int .i64 x) ∧ w'.cell? ⟨bd, 1, none⟩ = some (.int .i64 y) ∧ w'.cell? ⟨bd, 2, none⟩ = some (.bool d) ∧ Below w.heap.size w w' ∧ w3.heap.size ≤ w'.heap.size)) (by kernel_rfl) (by kernel_rfl) (by intro _ _ d _ _ h; cases d <;> exact h) ?_ (fun hHC hH0 => ?_)
                  · (first | (go_keep; done) | ((try go_split_ands); (repeat' apply And.intro) <;> first | assumption | (with_reducible refine Rd.below ?_ hb1; assumption) | (with_reducible refine Rd.drew ?_; repeat' (first | assumption | (with_reducible refine Rd.alloc ?_ _))) | (refine (hb1.cell (by first | omega | (simp; done) | (simp; omega))).trans ?_; first | assumption | simp) | (exact below_step hb1 (by first | omega | (simp; done) | (simp; omega)) (by assumption)) | (have hz' := hb1.size; (try simp at hz'); omega) | ((repeat' (first | assumption | (with_reducible exact Below.refl _ _) | (with_reducible refine Below.drew ?_) | (with_reducible refine Below.alloc ?_ ?_ _) | (with_reducible refine Below.setCell ?_ ?_ _) | omega | (simp; done) | (simp; omega))); done) | go_simp | (simp; done) | (simp; omega)))
                  refine hold_plain 0 (v := ?_) hHC hH0 (by simp only [List.getElem?_toArray, List.getElem?_cons_succ, List.getElem?_cons_zero]; rfl) rfl (by kernel_rfl) ?_ ?_
                  rotate_left 1
                  · (intro w hSw; (try dsimp only at hSw); go_simp; try with_reducible rfl)
                  try simp only [Act.put, List.setIfInBounds_toArray, List.set_cons_zero, List.set_cons_succ]
                  refine hold_plain 1 (v := ?_) hHC hH0 (by simp only [List.getElem?_toArray, List.getElem?_cons_succ, List.getElem?_cons_zero]; rfl) rfl (by kernel_rfl) ?_ ?_
                  rotate_left 1
                  · (intro w hSw; (try dsimp only at hSw); go_simp; try with_reducible rfl)
                  try simp only [Act.put, List.setIfInBounds_toArray, List.set_cons_zero, List.set_cons_succ]
                  refine hold_plain 2 (v := ?_) hHC hH0 (by simp only [List.getElem?_toArray, List.getElem?_cons_succ, List.getElem?_cons_zero]; rfl) rfl (by kernel_rfl) ?_ ?_
                  rotate_left 1
                  · (intro w hSw; (try dsimp only at hSw); go_simp; try with_reducible rfl)
                  try simp only [Act.put, List.setIfInBounds_toArray, List.set_cons_zero, List.set_cons_succ]
                  refine hold_plain 3 (v := ?_) hHC hH0 (by simp only [List.getElem?_toArray, List.getElem?_cons_succ, List.getElem?_cons_zero]; rfl) rfl (by kernel_rfl) ?_ ?_
                  rotate_left 1
                  · (intro w hSw; (try dsimp only at hSw); go_simp; try with_reducible rfl)
                  try simp only [Act.put, List.setIfInBounds_toArray, List.set_cons_zero, List.set_cons_succ]
                  refine hold_plain 4 (v := ?_) hHC hH0 (by simp only [List.getElem?_toArray, List.getElem?_cons_succ, List.getElem?_cons_zero]; rfl) rfl (by kernel_rfl) ?_ ?_
                  rotate_left 1
                  · (intro w hSw; (try dsimp only at hSw); go_simp; try with_reducible rfl)
                  try simp only [Act.put, List.setIfInBounds_toArray, List.set_cons_zero, List.set_cons_succ]
                  refine hold_plain 5 (v := ?_) hHC hH0 (by simp only [List.getElem?_toArray, List.getElem?_cons_succ, List.getElem?_cons_zero]; rfl) rfl (by kernel_rfl) ?_ ?_
                  rotate_left 1
                  · (intro w hSw; (try dsimp only at hSw); go_simp; try with_reducible rfl)
                  try simp only [Act.put, List.setIfInBounds_toArray, List.set_cons_zero, List.set_cons_succ]
                  refine hold_plain 6 (v := ?_) hHC hH0 (by simp only [List.getElem?_toArray, List.getElem?_cons_succ, List.getElem?_cons_zero]; rfl) rfl (by kernel_rfl) ?_ ?_
                  rotate_left 1
                  · (intro w hSw; (try dsimp only at hSw); go_simp; try with_reducible rfl)
                  try simp only [Act.put, List.setIfInBounds_toArray, List.set_cons_zero, List.set_cons_succ]
                  refine hold_call0 7 (by simp only [List.getElem?_toArray, List.getElem?_cons_succ, List.getElem?_cons_zero]; rfl) rfl (by kernel_rfl) (fun K hK => ?_)
                  refine wp_copy3 _ _ _ _ _ rfl (.slice (if c3 = q then some ⟨g3, 0, none⟩ else some ⟨g3, q * 3, none⟩) (M.length + 1 - q) (c3 - q)) (.slice (some ⟨g3, j * 3, none⟩) (M.length + 1 - j) (c3 - j)) rfl rfl HHR.out ?_
                  refine hK.out _ _ ?_ (fun hH1 => ?_)
                  · (first | (go_keep; done) | ((try go_split_ands); (repeat' apply And.intro) <;> first | assumption | (with_reducible refine Rd.below ?_ hb1; assumption) | (with_reducible refine Rd.drew ?_; repeat' (first | assumption | (with_reducible refine Rd.alloc ?_ _))) | (refine (hb1.cell (by first | omega | (simp; done) | (simp; omega))).trans ?_; first | assumption | simp) | (exact below_step hb1 (by first | omega | (simp; done) | (simp; omega)) (by assumption)) | (have hz' := hb1.size; (try simp at hz'); omega) | ((repeat' (first | assumption | (with_reducible exact Below.refl _ _) | (with_reducible refine Below.drew ?_) | (with_reducible refine Below.alloc ?_ ?_ _) | (with_reducible refine Below.setCell ?_ ?_ _) | omega | (simp; done) | (simp; omega))); done) | go_simp | (simp; done) | (simp; omega)))
                  clear hK K hH0
                  try simp only [Act.put, List.setIfInBounds_toArray, List.set_cons_zero, List.set_cons_succ]
                  refine wpAnyH_done (by kernel_rfl) ?_ _
                  (try dsimp only at hH1)
                  go_split_ands
                  clear hHC
                  have hl4 : ((M ++ [(0, 0, false)]).take (j + 1) ++ ((M ++ [(0, 0, false)]).drop j).take (M.length - j)).length = M.length + 1 := by simp; omega
                  obtain ⟨kx, ky, kd⟩ : (w4.cell? ⟨g3, j * 3, none⟩).isSome = true ∧ (w4.cell? ⟨g3, j * 3 + 1, none⟩).isSome = true ∧ (w4.cell? ⟨g3, j * 3 + 2, none⟩).isSome = true := OwnD.some3 HO4.out hl4 (by omega)
                  obtain ⟨z0, kx⟩ := Option.isSome_iff_exists.1 kx
                  obtain ⟨z1, ky⟩ := Option.isSome_iff_exists.1 ky
                  obtain ⟨z2, kd⟩ := Option.isSome_iff_exists.1 kd
                  have f0 : w4.frozen? ⟨g3, j * 3, none⟩ = false := OwnD.frozen_ HO4.out hl4 _
                  have f1 : w4.frozen? ⟨g3, j * 3 + 1, none⟩ = false := OwnD.frozen_ HO4.out hl4 _
                  have f2 : w4.frozen? ⟨g3, j * 3 + 2, none⟩ = false := OwnD.frozen_ HO4.out hl4 _
                  have HL4 := Lib.hid hl4
                  clear hl4
                  have hg4 : g3 < w4.heap.size := by omega
                  go_wp2_with fail
                  have HO5 := Lib.hid (OwnD.set3_ HO4.out HL4.out (by omega : j < M.length + 1) x y d)
                  rw [ins_end hj8] at HO5
                  have hB5 := ((hB4.setCell (p := ⟨g3, j * 3, none⟩) (by simp; omega) (.int .i64 x)).setCell (p := ⟨g3, j * 3 + 1, none⟩) (by simp; omega) (.int .i64 y)).setCell (p := ⟨g3, j * 3 + 2, none⟩) (by simp; omega) (.bool d)
                  have HNN : Hid (M.length + 1 = (M.take j ++ (x, y, d) :: M.drop j).length) := Lib.hid (by simp; omega)
                  go_roundw
                  case rel => exact ⟨k + 1, M.take j ++ (x, y, d) :: M.drop j, g3, c3, by omega, by go_num, by rw [← HNN.out], Lib.hid (by rw [← HNN.out]; exact HO5.out), Lib.hid (by rw [srt_yes hv.out hd, ← hM.out]; exact (ins_at HLo.out hHi.out).symm), hB5⟩
                  case measure => simp [intOf]; omega
                  )
          · have hj0 : j = 0 := by omega
            have HLo : Hid (∀ q ∈ M.take j, ordP q < ordP (x, y, d)) := Lib.hid (by rw [hj0]; simp)
            have hnl : ¬ (0 : Int) < (j : Int) := by omega
            have hnl2 : decide ((0 : Int) < (j : Int)) = false := decide_eq_false hnl
            have hnl3 : decide (0 < j) = false := decide_eq_false hjl
            have HJ0 := Lib.hid hj0
            clear hj0
            go_wp2_with fail
            refine hold_start (S := (fun w' => wa.heap.size ≤ w'.heap.size ∧ Below w.heap.size w w' ∧ wr.heap.size + 0 ≤ w'.heap.size)) (by kernel_rfl) (by kernel_rfl) (by intro _ _ d _ _ h; cases d <;> exact h) ?_ (fun hHC hH0 => ?_)
            · (first | (go_keep; done) | ((try go_split_ands); (repeat' apply And.intro) <;> first | assumption | (with_reducible refine Rd.below ?_ hb1; assumption) | (with_reducible refine Rd.drew ?_; repeat' (first | assumption | (with_reducible refine Rd.alloc ?_ _))) | (refine (hb1.cell (by first | omega | (simp; done) | (simp; omega))).trans ?_; first | assumption | simp) | (exact below_step hb1 (by first | omega | (simp; done) | (simp; omega)) (by assumption)) | (have hz' := hb1.size; (try simp at hz'); omega) | ((repeat' (first | assumption | (with_reducible exact Below.refl _ _) | (with_reducible refine Below.drew ?_) | (with_reducible refine Below.alloc ?_ ?_ _) | (with_reducible refine Below.setCell ?_ ?_ _) | omega | (simp; done) | (simp; omega))); done) | go_simp | (simp; done) | (simp; omega)))
            refine hold_plain 0 (v := ?_) hHC hH0 (by simp only [List.getElem?_toArray, List.getElem?_cons_succ, List.getElem?_cons_zero]; rfl) rfl (by kernel_rfl) ?_ ?_
            rotate_left 1
            · (intro w hSw; (try dsimp only at hSw); go_simp; try with_reducible rfl)
            try simp only [Act.put, List.setIfInBounds_toArray, List.set_cons_zero, List.set_cons_succ]
            refine hold_plain 1 (v := ?_) hHC hH0 (by simp only [List.getElem?_toArray, List.getElem?_cons_succ, List.getElem?_cons_zero]; rfl) rfl (by kernel_rfl) ?_ ?_
            rotate_left 1
            · (intro w hSw; (try dsimp only at hSw); go_simp; try with_reducible rfl)
            try simp only [Act.put, List.setIfInBounds_toArray, List.set_cons_zero, List.set_cons_succ]
            refine hold_plain 2 (v := ?_) hHC hH0 (by simp only [List.getElem?_toArray, List.getElem?_cons_succ, List.getElem?_cons_zero]; rfl) rfl (by kernel_rfl) ?_ ?_
            rotate_left 1
            · (intro w hSw; (try dsimp only at hSw); go_simp; try with_reducible rfl)
            try simp only [Act.put, List.setIfInBounds_toArray, List.set_cons_zero, List.set_cons_succ]
            refine hold_no 3 hHC hH0 (by simp only [List.getElem?_toArray, List.getElem?_cons_succ, List.getElem?_cons_zero]; rfl) rfl (by kernel_rfl) (by kernel_rfl) ?_
            try simp only [Act.put, List.setIfInBounds_toArray, List.set_cons_zero, List.set_cons_succ]
            refine hold_no 4 hHC hH0 (by simp only [List.getElem?_toArray, List.getElem?_cons_succ, List.getElem?_cons_zero]; rfl) rfl (by kernel_rfl) (by kernel_rfl) ?_
            try simp only [Act.put, List.setIfInBounds_toArray, List.set_cons_zero, List.set_cons_succ]
            refine hold_no 5 hHC hH0 (by simp only [List.getElem?_toArray, List.getElem?_cons_succ, List.getElem?_cons_zero]; rfl) rfl (by kernel_rfl) (by kernel_rfl) ?_
            try simp only [Act.put, List.setIfInBounds_toArray, List.set_cons_zero, List.set_cons_succ]
            refine hold_no 6 hHC hH0 (by simp only [List.getElem?_toArray, List.getElem?_cons_succ, List.getElem?_cons_zero]; rfl) rfl (by kernel_rfl) (by kernel_rfl) ?_
            try simp only [Act.put, List.setIfInBounds_toArray, List.set_cons_zero, List.set_cons_succ]
            refine hold_no 7 hHC hH0 (by simp only [List.getElem?_toArray, List.getElem?_cons_succ, List.getElem?_cons_zero]; rfl) rfl (by kernel_rfl) (by kernel_rfl) ?_
            try simp only [Act.put, List.setIfInBounds_toArray, List.set_cons_zero, List.set_cons_succ]
            refine hold_no 8 hHC hH0 (by simp only [List.getElem?_toArray, List.getElem?_cons_succ, List.getElem?_cons_zero]; rfl) rfl (by kernel_rfl) (by kernel_rfl) ?_
            try simp only [Act.put, List.setIfInBounds_toArray, List.set_cons_zero, List.set_cons_succ]
            refine hold_no 9 hHC hH0 (by simp only [List.getElem?_toArray, List.getElem?_cons_succ, List.getElem?_cons_zero]; rfl) rfl (by kernel_rfl) (by kernel_rfl) ?_
            try simp only [Act.put, List.setIfInBounds_toArray, List.set_cons_zero, List.set_cons_succ]
            refine hold_no 10 hHC hH0 (by simp only [List.getElem?_toArray, List.getElem?_cons_succ, List.getElem?_cons_zero]; rfl) rfl (by kernel_rfl) (by kernel_rfl) ?_
            try simp only [Act.put, List.setIfInBounds_toArray, List.set_cons_zero, List.set_cons_succ]
            refine hold_no 11 hHC hH0 (by simp only [List.getElem?_toArray, List.getElem?_cons_succ, List.getElem?_cons_zero]; rfl) rfl (by kernel_rfl) (by kernel_rfl) ?_
            try simp only [Act.put, List.setIfInBounds_toArray, List.set_cons_zero, List.set_cons_succ]
            refine hold_plain 12 (v := ?_) hHC hH0 (by simp only [List.getElem?_toArray, List.getElem?_cons_succ, List.getElem?_cons_zero]; rfl) rfl (by kernel_rfl) ?_ ?_
            rotate_left 1
            · (intro w hSw; (try dsimp only at hSw); go_simp; try with_reducible rfl)
            try simp only [Act.put, List.setIfInBounds_toArray, List.set_cons_zero, List.set_cons_succ]
            refine wpAnyH_done (by kernel_rfl) ?_ _
            (try dsimp only at hH0)
            go_split_ands
            clear hHC
            go_wp2_with fail
            refine hold_start (S := (fun w' => wa.heap.size ≤ w'.heap.size ∧ Below w.heap.size w w' ∧ wr.heap.size + 0 ≤ w'.heap.size)) (by kernel_rfl) (by kernel_rfl) (by intro _ _ d _ _ h; cases d <;> exact h) ?_ (fun hHC hH0 => ?_)
            · (first | (go_keep; done) | ((try go_split_ands); (repeat' apply And.intro) <;> first | assumption | (with_reducible refine Rd.below ?_ hb1; assumption) | (with_reducible refine Rd.drew ?_; repeat' (first | assumption | (with_reducible refine Rd.alloc ?_ _))) | (refine (hb1.cell (by first | omega | (simp; done) | (simp; omega))).trans ?_; first | assumption | simp) | (exact below_step hb1 (by first | omega | (simp; done) | (simp; omega)) (by assumption)) | (have hz' := hb1.size; (try simp at hz'); omega) | ((repeat' (first | assumption | (with_reducible exact Below.refl _ _) | (with_reducible refine Below.drew ?_) | (with_reducible refine Below.alloc ?_ ?_ _) | (with_reducible refine Below.setCell ?_ ?_ _) | omega | (simp; done) | (simp; omega))); done) | go_simp | (simp; done) | (simp; omega)))
            refine hold_plain 0 (v := ?_) hHC hH0 (by simp only [List.getElem?_toArray, List.getElem?_cons_succ, List.getElem?_cons_zero]; rfl) rfl (by kernel_rfl) ?_ ?_
            rotate_left 1
            · (intro w hSw; (try dsimp only at hSw); go_simp; try with_reducible rfl)
            try simp only [Act.put, List.setIfInBounds_toArray, List.set_cons_zero, List.set_cons_succ]
            refine hold_plain 1 (v := ?_) hHC hH0 (by simp only [List.getElem?_toArray, List.getElem?_cons_succ, List.getElem?_cons_zero]; rfl) rfl (by kernel_rfl) ?_ ?_
            rotate_left 1
            · (intro w hSw; (try dsimp only at hSw); go_simp; try with_reducible rfl)
            try simp only [Act.put, List.setIfInBounds_toArray, List.set_cons_zero, List.set_cons_succ]
            refine hold_plain 2 (v := ?_) hHC hH0 (by simp only [List.getElem?_toArray, List.getElem?_cons_succ, List.getElem?_cons_zero]; rfl) rfl (by kernel_rfl) ?_ ?_
            rotate_left 1
            · (intro w hSw; (try dsimp only at hSw); go_simp; try with_reducible rfl)
            try simp only [Act.put, List.setIfInBounds_toArray, List.set_cons_zero, List.set_cons_succ]
            refine hold_no 3 hHC hH0 (by simp only [List.getElem?_toArray, List.getElem?_cons_succ, List.getElem?_cons_zero]; rfl) rfl (by kernel_rfl) (by kernel_rfl) ?_
            try simp only [Act.put, List.setIfInBounds_toArray, List.set_cons_zero, List.set_cons_succ]
            refine hold_no 4 hHC hH0 (by simp only [List.getElem?_toArray, List.getElem?_cons_succ, List.getElem?_cons_zero]; rfl) rfl (by kernel_rfl) (by kernel_rfl) ?_
            try simp only [Act.put, List.setIfInBounds_toArray, List.set_cons_zero, List.set_cons_succ]
            refine hold_no 5 hHC hH0 (by simp only [List.getElem?_toArray, List.getElem?_cons_succ, List.getElem?_cons_zero]; rfl) rfl (by kernel_rfl) (by kernel_rfl) ?_
            try simp only [Act.put, List.setIfInBounds_toArray, List.set_cons_zero, List.set_cons_succ]
            refine hold_no 6 hHC hH0 (by simp only [List.getElem?_toArray, List.getElem?_cons_succ, List.getElem?_cons_zero]; rfl) rfl (by kernel_rfl) (by kernel_rfl) ?_
            try simp only [Act.put, List.setIfInBounds_toArray, List.set_cons_zero, List.set_cons_succ]
            refine hold_no 7 hHC hH0 (by simp only [List.getElem?_toArray, List.getElem?_cons_succ, List.getElem?_cons_zero]; rfl) rfl (by kernel_rfl) (by kernel_rfl) ?_
            try simp only [Act.put, List.setIfInBounds_toArray, List.set_cons_zero, List.set_cons_succ]
            refine hold_no 8 hHC hH0 (by simp only [List.getElem?_toArray, List.getElem?_cons_succ, List.getElem?_cons_zero]; rfl) rfl (by kernel_rfl) (by kernel_rfl) ?_
            try simp only [Act.put, List.setIfInBounds_toArray, List.set_cons_zero, List.set_cons_succ]
            refine hold_no 9 hHC hH0 (by simp only [List.getElem?_toArray, List.getElem?_cons_succ, List.getElem?_cons_zero]; rfl) rfl (by kernel_rfl) (by kernel_rfl) ?_
            try simp only [Act.put, List.setIfInBounds_toArray, List.set_cons_zero, List.set_cons_succ]
            refine hold_plain 10 (v := ?_) hHC hH0 (by simp only [List.getElem?_toArray, List.getElem?_cons_succ, List.getElem?_cons_zero]; rfl) rfl (by kernel_rfl) ?_ ?_
            rotate_left 1
            · (intro w hSw; (try dsimp only at hSw); go_simp; try with_reducible rfl)
            try simp only [Act.put, List.setIfInBounds_toArray, List.set_cons_zero, List.set_cons_succ]
            refine wpAnyH_done (by kernel_rfl) ?_ _
            (try dsimp only at hH0)
            go_split_ands
            clear hHC
            obtain ⟨wz, hwz⟩ : ∃ wz, wz = wr.drew.drew := ⟨_, rfl⟩
            have hbz : Below wa.heap.size wa wz := by rw [hwz]; exact hbq.drew.drew
            rw [← hwz]
            clear hwz hnl hnl2 hnl3
            have hxz : True := trivial
            have hzz := hbz.size
            have hOz := Lib.hid (OwnD.below hOa.out hbz)
            have hgz := (hOz.out.lt g rfl).2
            have hBz : Below w.heap.size w wz := hBa.trans (hbz.mono (by omega))
            replace hxz : wz.cell? ⟨bd, 0, none⟩ = some (.int .i64 x) := (hbz.cell (p := ⟨bd, 0, none⟩) (by first | omega | (simp; done) | (simp; omega))).trans hxa
            have hyz : wz.cell? ⟨bd, 1, none⟩ = some (.int .i64 y) := (hbz.cell (p := ⟨bd, 1, none⟩) (by first | omega | (simp; done) | (simp; omega))).trans hya
            have hdz : wz.cell? ⟨bd, 2, none⟩ = some (.bool d) := (hbz.cell (p := ⟨bd, 2, none⟩) (by first | omega | (simp; done) | (simp; omega))).trans hda
            have hbdz : bd < wz.heap.size := by omega
            go_wp2_with (at_builtin; go_must (refine wpList_append_own_at _ rfl _ _ 27 rfl w.heap.size 34 i0 (.agg #[.int .i64 0, .int .i64 0, .bool false]) 3 24 Tryd.underlying27 hinf hz0 hz1 hz2 rfl (by decide) (.slice (some ⟨g, 0, none⟩) M.length c') M.length (flatD M) (by rfl) (OwnD.alloc hOz.out _) ⟨wz.heap.size, 0, none⟩ 1 1 [.int .i64 0, .int .i64 0, .bool false] (by rfl) rfl (dom_three_new _ _ _ _ _) (by intro u hu; simp at hu; rcases hu with rfl | rfl | rfl <;> rfl) (by unfold maxLen; omega) (by omega) (by simp; omega) ?_); intro v3 w3 hown3 hgrow3 hnil3 hat3; go_must (obtain ⟨g3, c3, rfl, hg3, hg3', hc3⟩ := own_some hown3 (fun h => by have := (hnil3.1 h).1; cases this); have hx3 : w3.cell? ⟨bd, 0, none⟩ = some (.int .i64 x) := (World.cell?_of_block (a := ⟨bd, 0, none⟩) (hgrow3.block bd (by simp; omega) (by simp [Value.ownBlock]; omega))).trans (by go_simp); have hy3 : w3.cell? ⟨bd, 1, none⟩ = some (.int .i64 y) := (World.cell?_of_block (a := ⟨bd, 1, none⟩) (hgrow3.block bd (by simp; omega) (by simp [Value.ownBlock]; omega))).trans (by go_simp); have hd3 : w3.cell? ⟨bd, 2, none⟩ = some (.bool d) := (World.cell?_of_block (a := ⟨bd, 2, none⟩) (hgrow3.block bd (by simp; omega) (by simp [Value.ownBlock]; omega))).trans (by go_simp); have hB3 : Below w.heap.size w w3 := Below.trans (by repeat' (first | assumption | (with_reducible exact Below.refl _ _) | (with_reducible refine Below.drew ?_) | (with_reducible refine Below.alloc ?_ ?_ _) | (with_reducible refine Below.setCell ?_ ?_ _) | omega | (simp; done) | (simp; omega))) ((Below.refl w.heap.size _).grown hgrow3 (by simp; omega) (fun k h => by simp [Value.ownBlock] at h; omega)); have hne3 : ¬ g3 = bd := (by simp [Value.ownBlock] at hat3; omega); have HO3 : Hid (OwnD w3 w.heap.size (.slice (some ⟨g3, 0, none⟩) (M.length + 1) c3) (M ++ [(0, 0, false)])) := Lib.hid (by unfold OwnD; rw [flatD_app, List.length_append]; exact hown3); have hbd3 : bd < w3.heap.size := (by have := hgrow3.size; simp at this; omega)); clear hown3 hgrow3 hnil3 hat3)
            have hne3b : ¬ bd = g3 := fun h => hne3 h.symm
            have hcI : (M.length : Int) + 1 ≤ (c3 : Int) := by omega
            have hjI : (j : Int) ≤ (M.length : Int) := by omega
            have hgz3 := (HO3.out.lt g3 rfl).2
            obtain ⟨q, hq⟩ : ∃ q, q = j + 1 := ⟨_, rfl⟩
            have hr4 : ∃ v4 w4, (Builtin.copy_ #[27, 27] 3 #[.slice (if c3 = q then some ⟨g3, 0, none⟩ else some ⟨g3, q * 3, none⟩) (M.length + 1 - q) (c3 - q), .slice (some ⟨g3, j * 3, none⟩) (M.length + 1 - j) (c3 - j)]).run Tryd.prog w3.drew = .ok v4 w4 ∧ OwnD w4 w.heap.size (.slice (some ⟨g3, 0, none⟩) (M.length + 1) c3) ((M ++ [(0, 0, false)]).take (j + 1) ++ ((M ++ [(0, 0, false)]).drop j).take (M.length - j)) ∧ w4.heap.size = w3.heap.size ∧ (∀ b o, b ≠ g3 → w4.cell? ⟨b, o, none⟩ = w3.cell? ⟨b, o, none⟩) ∧ Below w.heap.size w3.drew w4 := by
              by_cases hjm : j < M.length
              · obtain ⟨v4, w4, h1, h2, h3, h4, h5⟩ := copy_own (w := w3.drew) (dc := c3 - (j + 1)) (sc := c3 - j) 3 (show OwnD w3.drew w.heap.size (.slice (some ⟨g3, 0, none⟩) (M.length + 1) c3) (M ++ [(0, 0, false)]) from HO3.out) (by simp) hjm
                refine ⟨v4, w4, ?_, h2, h3, h4, h5.mono (by omega)⟩
                rw [if_neg (by omega), hq, show M.length + 1 - (j + 1) = M.length - j by omega]
                exact h1
              · have e : j = M.length := by omega
                refine ⟨goInt 0, w3.drew, ?_, ?_, rfl, fun _ _ _ => rfl, Below.refl _ _⟩
                · rw [show M.length + 1 - q = 0 by omega]
                  split <;> exact run_copy0 _ _ _ _ 34 _ _ _ _ _ Tryd.underlying27 (by kernel_rfl)
                · have e2 : ((M ++ [(0, 0, false)]).take (j + 1) ++ ((M ++ [(0, 0, false)]).drop j).take (M.length - j)) = M ++ [(0, 0, false)] := by rw [e, Nat.sub_self, List.take_zero, List.append_nil, List.take_of_length_le (by simp)]
                  rw [e2]
                  exact HO3.out
            obtain ⟨v4, w4, hr4, hO4, hz4, hcell4, hbel4⟩ := hr4
            have HO4 : Hid (OwnD w4 w.heap.size (.slice (some ⟨g3, 0, none⟩) (M.length + 1) c3) ((M ++ [(0, 0, false)]).take (j + 1) ++ ((M ++ [(0, 0, false)]).drop j).take (M.length - j))) := Lib.hid hO4
            clear hO4
            have hx4 : w4.cell? ⟨bd, 0, none⟩ = some (.int .i64 x) := (hcell4 bd 0 hne3b).trans hx3
            have hy4 : w4.cell? ⟨bd, 1, none⟩ = some (.int .i64 y) := (hcell4 bd 1 hne3b).trans hy3
            have hd4 : w4.cell? ⟨bd, 2, none⟩ = some (.bool d) := (hcell4 bd 2 hne3b).trans hd3
            have hB4 : Below w.heap.size w w4 := hB3.drew.trans hbel4
            have hs4 : w3.heap.size ≤ w4.heap.size := by omega
            have HHR := Lib.hid hr4
            have ew1 : IntKind.i64.wrap ((j : Int) + 1) = (q : Int) := by rw [IntKind.wrap_i64]; omega
            have hqI : (q : Int) ≤ (M.length : Int) + 1 := by omega
            have hjI2 : (j : Int) ≤ (M.length : Int) + 1 := by omega
            have hjI3 : (j : Int) < (M.length : Int) + 1 := by omega
            have hcj : ¬ c3 = j := by omega
            have hj8 : j ≤ M.length := by omega
            clear hq hr4 hcell4 hbel4 hz4
            refine hold_start (S := (fun w' => w'.cell? ⟨bd, 0, none⟩ = some (.int .i64 x) ∧ w'.cell? ⟨bd, 1, none⟩ = some (.int .i64 y) ∧ w'.cell? ⟨bd, 2, none⟩ = some (.bool d) ∧ Below w.heap.size w w' ∧ w3.heap.size ≤ w'.heap.size)) (by kernel_rfl) (by kernel_rfl) (by intro _ _ d _ _ h; cases d <;> exact h) ?_ (fun hHC hH0 => ?_)
            · (first | (go_keep; done) | ((try go_split_ands); (repeat' apply And.intro) <;> first | assumption | (with_reducible refine Rd.below ?_ hb1; assumption) | (with_reducible refine Rd.drew ?_; repeat' (first | assumption | (with_reducible refine Rd.alloc ?_ _))) | (refine (hb1.cell (by first | omega | (simp; done) | (simp; omega))).trans ?_; first | assumption | simp) | (exact below_step hb1 (by first | omega | (simp; done) | (simp; omega)) (by assumption)) | (have hz' := hb1.size; (try simp at hz'); omega) | ((repeat' (first | assumption | (with_reducible exact Below.refl _ _) | (with_reducible refine Below.drew ?_) | (with_reducible refine Below.alloc ?_ ?_ _) | (with_reducible refine Below.setCell ?_ ?_ _) | omega | (simp; done) | (simp; omega))); done) | go_simp | (simp; done) | (simp; omega)))
            refine hold_plain 0 (v := ?_) hHC hH0 (by simp only [List.getElem?_toArray, List.getElem?_cons_succ, List.getElem?_cons_zero]; rfl) rfl (by kernel_rfl) ?_ ?_
            rotate_left 1
            · (intro w hSw; (try dsimp only at hSw); go_simp; try with_reducible rfl)
            try simp only [Act.put, List.setIfInBounds_toArray, List.set_cons_zero, List.set_cons_succ]
            refine hold_plain 1 (v := ?_) hHC hH0 (by simp only [List.getElem?_toArray, List.getElem?_cons_succ, List.getElem?_cons_zero]; rfl) rfl (by kernel_rfl) ?_ ?_
            rotate_left 1
            · (intro w hSw; (try dsimp only at hSw); go_simp; try with_reducible rfl)
            try simp only [Act.put, List.setIfInBounds_toArray, List.set_cons_zero, List.set_cons_succ]
            refine hold_plain 2 (v := ?_) hHC hH0 (by simp only [List.getElem?_toArray, List.getElem?_cons_succ, List.getElem?_cons_zero]; rfl) rfl (by kernel_rfl) ?_ ?_
            rotate_left 1
            · (intro w hSw; (try dsimp only at hSw); go_simp; try with_reducible rfl)
            try simp only [Act.put, List.setIfInBounds_toArray, List.set_cons_zero, List.set_cons_succ]
            refine hold_plain 3 (v := ?_) hHC hH0 (by simp only [List.getElem?_toArray, List.getElem?_cons_succ, List.getElem?_cons_zero]; rfl) rfl (by kernel_rfl) ?_ ?_
            rotate_left 1
            · (intro w hSw; (try dsimp only at hSw); go_simp; try with_reducible rfl)
            try simp only [Act.put, List.setIfInBounds_toArray, List.set_cons_zero, List.set_cons_succ]
            refine hold_plain 4 (v := ?_) hHC hH0 (by simp only [List.getElem?_toArray, List.getElem?_cons_succ, List.getElem?_cons_zero]; rfl) rfl (by kernel_rfl) ?_ ?_
            rotate_left 1
            · (intro w hSw; (try dsimp only at hSw); go_simp; try with_reducible rfl)
            try simp only [Act.put, List.setIfInBounds_toArray, List.set_cons_zero, List.set_cons_succ]
            refine hold_plain 5 (v := ?_) hHC hH0 (by simp only [List.getElem?_toArray, List.getElem?_cons_succ, List.getElem?_cons_zero]; rfl) rfl (by kernel_rfl) ?_ ?_
            rotate_left 1
            · (intro w hSw; (try dsimp only at hSw); go_simp; try with_reducible rfl)
            try simp only [Act.put, List.setIfInBounds_toArray, List.set_cons_zero, List.set_cons_succ]
            refine hold_plain 6 (v := ?_) hHC hH0 (by simp only [List.getElem?_toArray, List.getElem?_cons_succ, List.getElem?_cons_zero]; rfl) rfl (by kernel_rfl) ?_ ?_
            rotate_left 1
            · (intro w hSw; (try dsimp only at hSw); go_simp; try with_reducible rfl)
            try simp only [Act.put, List.setIfInBounds_toArray, List.set_cons_zero, List.set_cons_succ]
            refine hold_call0 7 (by simp only [List.getElem?_toArray, List.getElem?_cons_succ, List.getElem?_cons_zero]; rfl) rfl (by kernel_rfl) (fun K hK => ?_)
            refine wp_copy3 _ _ _ _ _ rfl (.slice (if c3 = q then some ⟨g3, 0, none⟩ else some ⟨g3, q * 3, none⟩) (M.length + 1 - q) (c3 - q)) (.slice (some ⟨g3, j * 3, none⟩) (M.length + 1 - j) (c3 - j)) rfl rfl HHR.out ?_
            refine hK.out _ _ ?_ (fun hH1 => ?_)
            · (first | (go_keep; done) | ((try go_split_ands); (repeat' apply And.intro) <;> first | assumption | (with_reducible refine Rd.below ?_ hb1; assumption) | (with_reducible refine Rd.drew ?_; repeat' (first | assumption | (with_reducible refine Rd.alloc ?_ _))) | (refine (hb1.cell (by first | omega | (simp; done) | (simp; omega))).trans ?_; first | assumption | simp) | (exact below_step hb1 (by first | omega | (simp; done) | (simp; omega)) (by assumption)) | (have hz' := hb1.size; (try simp at hz'); omega) | ((repeat' (first | assumption | (with_reducible exact Below.refl _ _) | (with_reducible refine Below.drew ?_) | (with_reducible refine Below.alloc ?_ ?_ _) | (with_reducible refine Below.setCell ?_ ?_ _) | omega | (simp; done) | (simp; omega))); done) | go_simp | (simp; done) | (simp; omega)))
            clear hK K hH0
            try simp only [Act.put, List.setIfInBounds_toArray, List.set_cons_zero, List.set_cons_succ]
            refine wpAnyH_done (by kernel_rfl) ?_ _
            (try dsimp only at hH1)
            go_split_ands
            clear hHC
            have hl4 : ((M ++ [(0, 0, false)]).take (j + 1) ++ ((M ++ [(0, 0, false)]).drop j).take (M.length - j)).length = M.length + 1 := by simp; omega
            obtain ⟨kx, ky, kd⟩ : (w4.cell? ⟨g3, j * 3, none⟩).isSome = true ∧ (w4.cell? ⟨g3, j * 3 + 1, none⟩).isSome = true ∧ (w4.cell? ⟨g3, j * 3 + 2, none⟩).isSome = true := OwnD.some3 HO4.out hl4 (by omega)
            obtain ⟨z0, kx⟩ := Option.isSome_iff_exists.1 kx
            obtain ⟨z1, ky⟩ := Option.isSome_iff_exists.1 ky
            obtain ⟨z2, kd⟩ := Option.isSome_iff_exists.1 kd
            have f0 : w4.frozen? ⟨g3, j * 3, none⟩ = false := OwnD.frozen_ HO4.out hl4 _
            have f1 : w4.frozen? ⟨g3, j * 3 + 1, none⟩ = false := OwnD.frozen_ HO4.out hl4 _
            have f2 : w4.frozen? ⟨g3, j * 3 + 2, none⟩ = false := OwnD.frozen_ HO4.out hl4 _
            have HL4 := Lib.hid hl4
            clear hl4
            have hg4 : g3 < w4.heap.size := by omega
            go_wp2_with fail
            have HO5 := Lib.hid (OwnD.set3_ HO4.out HL4.out (by omega : j < M.length + 1) x y d)
            rw [ins_end hj8] at HO5
            have hB5 := ((hB4.setCell (p := ⟨g3, j * 3, none⟩) (by simp; omega) (.int .i64 x)).setCell (p := ⟨g3, j * 3 + 1, none⟩) (by simp; omega) (.int .i64 y)).setCell (p := ⟨g3, j * 3 + 2, none⟩) (by simp; omega) (.bool d)
            have HNN : Hid (M.length + 1 = (M.take j ++ (x, y, d) :: M.drop j).length) := Lib.hid (by simp; omega)
            go_roundw
            case rel => exact ⟨k + 1, M.take j ++ (x, y, d) :: M.drop j, g3, c3, by omega, by go_num, by rw [← HNN.out], Lib.hid (by rw [← HNN.out]; exact HO5.out), Lib.hid (by rw [srt_yes hv.out hd, ← hM.out]; exact (ins_at HLo.out hHi.out).symm), hB5⟩
            case measure => simp [intOf]; omega
      · have hd' : domB x y d = false := by simpa using hd
        have HM2 : Hid (M = srtL (L.take (k + 1))) := Lib.hid (by rw [srt_no hv.out hd']; exact hM.out)
        go_wp2
        go_roundw
        case rel => exact ⟨k + 1, M, g, c', by omega, by go_num, rfl, hOa, HM2, hBa⟩
        case measure => simp [intOf]; omega
    · have hkn : k = n := by omega
      have HL : Hid (M = srtL L) := Lib.hid (by rw [hM.out, hkn, ← HZ.out, List.take_length])
      clear hkn hM hr
      go_wp2
      go_ret
      exact ⟨_, c', (by show Ending.returned (Value.slice (some ⟨g, 0, none⟩) M.length c') = _; rw [HL.out]), by rw [← HL.out]; exact hO.out, hB⟩
end Go.Proofs.YtbkoignjagobaaaDoor
