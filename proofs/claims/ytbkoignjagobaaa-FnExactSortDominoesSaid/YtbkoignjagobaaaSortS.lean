/-
  The reference sorts dominoes.
-/
import Derived.Test.YtbkoignjagobaaaSort
import Derived.Test.YtbkoignjagobaaaList
import Derived.Test.YtbkoignjagobaaaRegI
import Derived.Maps.AppendAt
namespace Go.Proofs.Ytbkoignjagobaaa
open Go.RowKit
set_option linter.unusedVariables false
set_option linter.unusedSimpArgs false

theorem own_some {w : World} {B e s n : Nat} {v : Value} {xs : List Value} (h : w.ownsRow B e s v n xs) (hn : v ≠ .slice none 0 0) : ∃ g c, v = .slice (some ⟨g, 0, none⟩) n c ∧ B ≤ g ∧ g < w.heap.size ∧ n ≤ c := by
  rcases h.2 with ⟨hv, -⟩ | ⟨g, cap, cur, hv, hg, hh, hc, r⟩
  · exact absurd hv hn
  · exact ⟨g, cap, hv, hg, (Array.getElem?_eq_some_iff.1 hh).1, hc⟩
theorem OwnD.below {w w' : World} {B : Nat} {v : Value} {L : List DomI} (h : OwnD w B v L) (hb : Below w.heap.size w w') : OwnD w' B v L := own_below h hb
theorem OwnD.cap {w : World} {B g n c : Nat} {L : List DomI} (h : OwnD w B (.slice (some ⟨g, 0, none⟩) n c) L) : L.length ≤ c := by
  rcases h.2 with ⟨hv, -⟩ | ⟨g, cap, cur, hv, hg, hh, hc, r⟩
  · cases hv
  · injection hv with _ _ h3; rw [h3]; exact hc
theorem OwnD.cell_ {w : World} {B g c : Nat} {L : List DomI} (h : OwnD w B (.slice (some ⟨g, 0, none⟩) L.length c) L) (i : Nat) (hi : i < L.length * 3) : w.cell? ⟨g, i, none⟩ = (flatD L)[i]? := h.cellAt i (by omega)
theorem flatD_one (L : List DomI) : ∀ u ∈ flatD L, u.oneCell' = true := by
  intro u hu
  simp only [flatD, List.mem_flatMap] at hu
  obtain ⟨p, -, hp⟩ := hu
  simp at hp
  rcases hp with rfl | rfl | rfl <;> rfl
theorem OwnD.src_take {w : World} {B g c : Nat} {L : List DomI} (h : OwnD w B (.slice (some ⟨g, 0, none⟩) L.length c) L) (j : Nat) : ∀ i u, (flatD (L.take j))[i]? = some u → w.cell? ((⟨g, 0, none⟩ : Addr).add i) = some u := by
  intro i u hu
  have hl := lt_of_at hu
  rw [← flatD_take, List.getElem?_take] at hu
  rw [show ((⟨g, 0, none⟩ : Addr).add i) = ⟨g, i, none⟩ by unfold Addr.add; split <;> simp_all]
  split at hu
  · have h3 := lt_of_at hu
    rw [flatD_len] at h3
    rw [h.cell_ i h3]; exact hu
  · cases hu
theorem OwnD.src_drop {w : World} {B g c : Nat} {L : List DomI} (h : OwnD w B (.slice (some ⟨g, 0, none⟩) L.length c) L) (j : Nat) : ∀ i u, (flatD (L.drop j))[i]? = some u → w.cell? ((⟨g, j * 3, none⟩ : Addr).add i) = some u := by
  intro i u hu
  rw [← flatD_drop, List.getElem?_drop] at hu
  rw [show ((⟨g, j * 3, none⟩ : Addr).add i) = ⟨g, j * 3 + i, none⟩ by unfold Addr.add; split <;> simp_all]
  have h3 := lt_of_at hu
  rw [flatD_len] at h3
  rw [h.cell_ _ h3]; exact hu
theorem src_none {w : World} {ad : Addr} {xs : List Value} (h : xs.length = 0) : ∀ i u, xs[i]? = some u → w.cell? (ad.add i) = some u := by
  intro i u hu
  have := lt_of_at hu
  omega

set_option maxHeartbeats 3200000 in
set_option maxRecDepth 100000 in
theorem specSort_any (a : Option Addr) (n c : Nat) (L : List DomI) (w : World) (hz : L.length = n) (hn : n ≤ 1048576) (hr : RdD w a L) :
    Calls Try.prog 10 #[.slice a n c] w fun e w' => ∃ a' c', e = .returned (.slice a' (srtL L).length c') ∧ OwnD w' w.heap.size (.slice a' (srtL L).length c') (srtL L) ∧ Below w.heap.size w w' := by
  obtain ⟨i0, hi, hz0, hz1, hz2⟩ := info_parts domInfo
  have HZ := Lib.hid hz
  clear hz
  go_enter Try.func10, Try.ntmps10
  go_wp2_with fail
  go_loopw [3, 4] (fun v i wr => ∃ (k : Nat) (M : List DomI) (g c' : Nat), k ≤ n ∧ i = .int .i64 k ∧ v = .slice (some ⟨g, 0, none⟩) M.length c' ∧ Hid (OwnD wr w.heap.size (.slice (some ⟨g, 0, none⟩) M.length c') M) ∧ Hid (M = srtL (L.take k)) ∧ Below w.heap.size w wr)
    (fun _ i _ => n - (intOf i).toNat)
  case atStart => exact ⟨0, [], _, _, Nat.zero_le _, rfl, rfl, Lib.hid (OwnD.new _ _ (Nat.le_refl _) _ rfl), Lib.hid rfl, by repeat' (first | assumption | (with_reducible exact Below.refl _ _) | (with_reducible refine Below.drew ?_) | (with_reducible refine Below.alloc ?_ ?_ _) | (with_reducible refine Below.setCell ?_ ?_ _) | omega | (simp; done) | (simp; omega))⟩
  case round =>
    obtain ⟨k, M, g, c', hk, rfl, rfl, hO, hM, hB⟩ := hrel
    by_cases hlt : k < n
    · obtain ⟨b, off, x, y, d, rfl, hb, hcx, hcy, hcd, hv⟩ := RdD_at (Rd.below hr hB) (k := k) (by rw [HZ.out]; exact hlt)
      have HR := Lib.hid hr
      clear hr
      obtain ⟨hok, hsr, -⟩ := srt_inv (L.take k)
      rw [← hM.out] at hok hsr
      have hM128 := srt_small hsr hok
      have HOK := Lib.hid hok
      have HSR := Lib.hid hsr
      clear hok hsr
      have hgw := (hO.out.lt g rfl).2
      have hgb : w.heap.size ≤ g := (hO.out.lt g rfl).1
      have hsz := hB.size
      go_wp2_with (go_at_call 35; fail)
      refine (specDom_any _ _ _ _).mono ?_
      rintro e wa ⟨rfl, hba⟩
      have hza := hba.size
      have hOa := Lib.hid (hO.out.below hba)
      have hcx' := (hba.cell (p := ⟨b, off + k * 3, none⟩) hb).trans hcx
      have hcy' := (hba.cell (p := ⟨b, off + k * 3 + 1, none⟩) hb).trans hcy
      have hcd' := (hba.cell (p := ⟨b, off + k * 3 + 2, none⟩) hb).trans hcd
      have hBa : Below w.heap.size w wa := hB.trans (hba.mono hsz)
      clear hba hcx hcy hcd
      by_cases hd : domB x y d = true
      · go_wp2_with fail
        go_loopw [5] (fun s wq => ∃ j : Nat, j ≤ M.length ∧ s = .int .i64 j ∧ Hid (∀ q ∈ M.take j, ordP q < ordP (x, y, d)) ∧ Below wa.heap.size wa wq) (fun s _ => M.length - (intOf s).toNat)
        case atStart => exact ⟨0, Nat.zero_le _, rfl, Lib.hid (by simp), Below.refl _ _⟩
        case round =>
          obtain ⟨j, hj, rfl, hLo, hbq⟩ := hrel
          have hzq := hbq.size
          by_cases hjl : j < M.length
          · obtain ⟨b9, off9, x', y', d', hgg, hb9, hqx, hqy, hqd, hv'⟩ := RdD_at (OwnD.rd (OwnD.below hOa.out hbq) rfl) hjl
            injection hgg with hgg
            injection hgg with hg1 hg2
            subst hg1 hg2
            rw [Nat.zero_add] at hqx hqy hqd
            have hd' : domB x' y' d' = true := HOK.out _ (List.mem_of_getElem? hv'.out)
            have hcx2 := (hbq.cell (p := ⟨b, off + k * 3, none⟩) (by simp; omega)).trans hcx'
            have hcy2 := (hbq.cell (p := ⟨b, off + k * 3 + 1, none⟩) (by simp; omega)).trans hcy'
            have hcd2 := (hbq.cell (p := ⟨b, off + k * 3 + 2, none⟩) (by simp; omega)).trans hcd'
            have hbq2 : b < wr.heap.size := by omega
            have hgq2 : g < wr.heap.size := by omega
            have hjl2 : (j : Int) < (M.length : Int) := by omega
            have hkn2 : (k : Int) < (n : Int) := by omega
            have HBq : Below w.heap.size w wr := hBa.trans (hbq.mono (by omega))
            by_cases hbf : befB x' y' d' x y d = true
            · have HLo2 : Hid (∀ q ∈ M.take (j + 1), ordP q < ordP (x, y, d)) := Lib.hid (by
                intro q hq
                rw [take_one hv'.out, List.mem_append] at hq
                rcases hq with hq | hq
                · exact hLo.out q hq
                · simp at hq; subst hq
                  have h := hbf; rw [befB_yes hd' hd] at h; exact of_decide_eq_true h)
              go_wp2_with fail
              refine hold_start (S := (fun w' => w'.cell? ⟨g, j * 3, none⟩ = some (.int .i64 x') ∧ w'.cell? ⟨g, j * 3 + 1, none⟩ = some (.int .i64 y') ∧ w'.cell? ⟨g, j * 3 + 2, none⟩ = some (.bool d') ∧ w'.cell? ⟨b, off + k * 3, none⟩ = some (.int .i64 x) ∧ w'.cell? ⟨b, off + k * 3 + 1, none⟩ = some (.int .i64 y) ∧ w'.cell? ⟨b, off + k * 3 + 2, none⟩ = some (.bool d) ∧ Below wa.heap.size wa w' ∧ Below w.heap.size w w' ∧ wr.heap.size + 0 ≤ w'.heap.size)) (by kernel_rfl) (by kernel_rfl) (by intro _ _ d _ _ h; cases d <;> exact h) ?_ (fun hHC hH0 => ?_)
              · (first | (go_keep; done) | ((try go_split_ands); (repeat' apply And.intro) <;> first | assumption | (with_reducible refine Rd.below ?_ hb1; assumption) | (with_reducible refine Rd.drew ?_; repeat' (first | assumption | (with_reducible refine Rd.alloc ?_ _))) | (refine (hb1.cell (by first | omega | (simp; done) | (simp; omega))).trans ?_; first | assumption | simp) | (exact below_step hb1 (by first | omega | (simp; done) | (simp; omega)) (by assumption)) | (have hz' := hb1.size; (try simp at hz'); omega) | ((repeat' (first | assumption | (with_reducible exact Below.refl _ _) | (with_reducible refine Below.drew ?_) | (with_reducible refine Below.alloc ?_ ?_ _) | (with_reducible refine Below.setCell ?_ ?_ _) | omega | (simp; done) | (simp; omega))); done) | go_simp | (simp; done) | (simp; omega)))
              refine hold_plain 0 (v := ?_) hHC hH0 (by simp only [List.getElem?_toArray, List.getElem?_cons_succ, List.getElem?_cons_zero]; rfl) rfl (by kernel_rfl) ?_ ?_
              rotate_left 1
              · (intro w hSw; (try dsimp only at hSw); go_simp; try with_reducible rfl)
              try simp only [Act.put, List.setIfInBounds_toArray, List.set_cons_zero, List.set_cons_succ]
              refine hold_plain 1 (v := ?_) hHC hH0 (by simp only [List.getElem?_toArray, List.getElem?_cons_succ, List.getElem?_cons_zero]; rfl) rfl (by kernel_rfl) ?_ ?_
              rotate_left 1
              · (intro w hSw; (try dsimp only at hSw); go_simp; try with_reducible rfl)
              try simp only [Act.put, List.setIfInBounds_toArray, List.set_cons_zero, List.set_cons_succ]
              refine hold_plain 2 (v := ?_) hHC hH0 (by simp only [List.getElem?_toArray, List.getElem?_cons_succ, List.getElem?_cons_zero]; rfl) rfl (by kernel_rfl) ?_ ?_
              rotate_left 1
              · (intro w hSw; (try dsimp only at hSw); go_simp; try with_reducible rfl)
              try simp only [Act.put, List.setIfInBounds_toArray, List.set_cons_zero, List.set_cons_succ]
              refine hold_plain 3 (v := ?_) hHC hH0 (by simp only [List.getElem?_toArray, List.getElem?_cons_succ, List.getElem?_cons_zero]; rfl) rfl (by kernel_rfl) ?_ ?_
              rotate_left 1
              · (intro w hSw; (try dsimp only at hSw); go_simp; try with_reducible rfl)
              try simp only [Act.put, List.setIfInBounds_toArray, List.set_cons_zero, List.set_cons_succ]
              refine hold_plain 4 (v := ?_) hHC hH0 (by simp only [List.getElem?_toArray, List.getElem?_cons_succ, List.getElem?_cons_zero]; rfl) rfl (by kernel_rfl) ?_ ?_
              rotate_left 1
              · (intro w hSw; (try dsimp only at hSw); go_simp; try with_reducible rfl)
              try simp only [Act.put, List.setIfInBounds_toArray, List.set_cons_zero, List.set_cons_succ]
              refine hold_yes 5 (v := ?_) hHC hH0 (by simp only [List.getElem?_toArray, List.getElem?_cons_succ, List.getElem?_cons_zero]; rfl) rfl (by kernel_rfl) (by kernel_rfl) ?_ ?_
              rotate_left 1
              · (intro w hSw; (try dsimp only at hSw); go_simp; try with_reducible rfl)
              try simp only [Act.put, List.setIfInBounds_toArray, List.set_cons_zero, List.set_cons_succ]
              refine hold_yes 6 (v := ?_) hHC hH0 (by simp only [List.getElem?_toArray, List.getElem?_cons_succ, List.getElem?_cons_zero]; rfl) rfl (by kernel_rfl) (by kernel_rfl) ?_ ?_
              rotate_left 1
              · (intro w hSw; (try dsimp only at hSw); go_simp; try with_reducible rfl)
              try simp only [Act.put, List.setIfInBounds_toArray, List.set_cons_zero, List.set_cons_succ]
              refine hold_yes 7 (v := ?_) hHC hH0 (by simp only [List.getElem?_toArray, List.getElem?_cons_succ, List.getElem?_cons_zero]; rfl) rfl (by kernel_rfl) (by kernel_rfl) ?_ ?_
              rotate_left 1
              · (intro w hSw; (try dsimp only at hSw); go_simp; try with_reducible rfl)
              try simp only [Act.put, List.setIfInBounds_toArray, List.set_cons_zero, List.set_cons_succ]
              refine hold_yes 8 (v := ?_) hHC hH0 (by simp only [List.getElem?_toArray, List.getElem?_cons_succ, List.getElem?_cons_zero]; rfl) rfl (by kernel_rfl) (by kernel_rfl) ?_ ?_
              rotate_left 1
              · (intro w hSw; (try dsimp only at hSw); go_simp; try with_reducible rfl)
              try simp only [Act.put, List.setIfInBounds_toArray, List.set_cons_zero, List.set_cons_succ]
              refine hold_yes 9 (v := ?_) hHC hH0 (by simp only [List.getElem?_toArray, List.getElem?_cons_succ, List.getElem?_cons_zero]; rfl) rfl (by kernel_rfl) (by kernel_rfl) ?_ ?_
              rotate_left 1
              · (intro w hSw; (try dsimp only at hSw); go_simp; try with_reducible rfl)
              try simp only [Act.put, List.setIfInBounds_toArray, List.set_cons_zero, List.set_cons_succ]
              refine hold_yes 10 (v := ?_) hHC hH0 (by simp only [List.getElem?_toArray, List.getElem?_cons_succ, List.getElem?_cons_zero]; rfl) rfl (by kernel_rfl) (by kernel_rfl) ?_ ?_
              rotate_left 1
              · (intro w hSw; (try dsimp only at hSw); go_simp; try with_reducible rfl)
              try simp only [Act.put, List.setIfInBounds_toArray, List.set_cons_zero, List.set_cons_succ]
              refine hold_yes 11 (v := ?_) hHC hH0 (by simp only [List.getElem?_toArray, List.getElem?_cons_succ, List.getElem?_cons_zero]; rfl) rfl (by kernel_rfl) (by kernel_rfl) ?_ ?_
              rotate_left 1
              · (intro w hSw; (try dsimp only at hSw); go_simp; try with_reducible rfl)
              try simp only [Act.put, List.setIfInBounds_toArray, List.set_cons_zero, List.set_cons_succ]
              refine hold_yes 12 (v := ?_) hHC hH0 (by simp only [List.getElem?_toArray, List.getElem?_cons_succ, List.getElem?_cons_zero]; rfl) rfl (by kernel_rfl) (by kernel_rfl) ?_ ?_
              rotate_left 1
              · (intro w hSw; (try dsimp only at hSw); go_simp; try with_reducible rfl)
              try simp only [Act.put, List.setIfInBounds_toArray, List.set_cons_zero, List.set_cons_succ]
              refine hold_call1 13 (by simp only [List.getElem?_toArray, List.getElem?_cons_succ, List.getElem?_cons_zero]; rfl) rfl (by kernel_rfl) (by kernel_rfl) (fun K hK => ?_)
              go_simp
              obtain ⟨_, _, _, _, _, _, hs1, hs2⟩ := id hH0; (go_at_call 36; refine (specBef_any _ _ _ _ _ _ _).mono ?_; rintro e w1 ⟨rfl, hb1⟩)
              refine hK.out _ _ ?_ (fun hH1 => ?_)
              · (first | (go_keep; done) | ((try go_split_ands); (repeat' apply And.intro) <;> first | assumption | (with_reducible refine Rd.below ?_ hb1; assumption) | (with_reducible refine Rd.drew ?_; repeat' (first | assumption | (with_reducible refine Rd.alloc ?_ _))) | (refine (hb1.cell (by first | omega | (simp; done) | (simp; omega))).trans ?_; first | assumption | simp) | (exact below_step hb1 (by first | omega | (simp; done) | (simp; omega)) (by assumption)) | (have hz' := hb1.size; (try simp at hz'); omega) | ((repeat' (first | assumption | (with_reducible exact Below.refl _ _) | (with_reducible refine Below.drew ?_) | (with_reducible refine Below.alloc ?_ ?_ _) | (with_reducible refine Below.setCell ?_ ?_ _) | omega | (simp; done) | (simp; omega))); done) | go_simp | (simp; done) | (simp; omega)))
              clear hK K hH0
              try simp only [Act.put, List.setIfInBounds_toArray, List.set_cons_zero, List.set_cons_succ]
              refine hold_plain 14 (v := ?_) hHC hH1 (by simp only [List.getElem?_toArray, List.getElem?_cons_succ, List.getElem?_cons_zero]; rfl) rfl (by kernel_rfl) ?_ ?_
              rotate_left 1
              · (intro w hSw; (try dsimp only at hSw); go_simp; try with_reducible rfl)
              try simp only [Act.put, List.setIfInBounds_toArray, List.set_cons_zero, List.set_cons_succ]
              refine wpAnyH_done (by kernel_rfl) ?_ _
              (try dsimp only at hH1)
              go_split_ands
              clear hHC
              go_wp2
              go_roundw
              case rel => exact ⟨j + 1, by omega, by go_num, HLo2, by assumption⟩
              case measure => simp [intOf]; omega
            · have hbf' : befB x' y' d' x y d = false := by simpa using hbf
              have hge : ordP (x, y, d) ≤ ordP (x', y', d') := by
                have h := hbf'; rw [befB_yes hd' hd] at h; have := of_decide_eq_false h; simp only [ordP]; omega
              go_wp2_with fail
              refine hold_start (S := (fun w' => w'.cell? ⟨g, j * 3, none⟩ = some (.int .i64 x') ∧ w'.cell? ⟨g, j * 3 + 1, none⟩ = some (.int .i64 y') ∧ w'.cell? ⟨g, j * 3 + 2, none⟩ = some (.bool d') ∧ w'.cell? ⟨b, off + k * 3, none⟩ = some (.int .i64 x) ∧ w'.cell? ⟨b, off + k * 3 + 1, none⟩ = some (.int .i64 y) ∧ w'.cell? ⟨b, off + k * 3 + 2, none⟩ = some (.bool d) ∧ Below wa.heap.size wa w' ∧ Below w.heap.size w w' ∧ wr.heap.size + 0 ≤ w'.heap.size)) (by kernel_rfl) (by kernel_rfl) (by intro _ _ d _ _ h; cases d <;> exact h) ?_ (fun hHC hH0 => ?_)
              · (first | (go_keep; done) | ((try go_split_ands); (repeat' apply And.intro) <;> first | assumption | (with_reducible refine Rd.below ?_ hb1; assumption) | (with_reducible refine Rd.drew ?_; repeat' (first | assumption | (with_reducible refine Rd.alloc ?_ _))) | (refine (hb1.cell (by first | omega | (simp; done) | (simp; omega))).trans ?_; first | assumption | simp) | (exact below_step hb1 (by first | omega | (simp; done) | (simp; omega)) (by assumption)) | (have hz' := hb1.size; (try simp at hz'); omega) | ((repeat' (first | assumption | (with_reducible exact Below.refl _ _) | (with_reducible refine Below.drew ?_) | (with_reducible refine Below.alloc ?_ ?_ _) | (with_reducible refine Below.setCell ?_ ?_ _) | omega | (simp; done) | (simp; omega))); done) | go_simp | (simp; done) | (simp; omega)))
              refine hold_plain 0 (v := ?_) hHC hH0 (by simp only [List.getElem?_toArray, List.getElem?_cons_succ, List.getElem?_cons_zero]; rfl) rfl (by kernel_rfl) ?_ ?_
              rotate_left 1
              · (intro w hSw; (try dsimp only at hSw); go_simp; try with_reducible rfl)
              try simp only [Act.put, List.setIfInBounds_toArray, List.set_cons_zero, List.set_cons_succ]
              refine hold_plain 1 (v := ?_) hHC hH0 (by simp only [List.getElem?_toArray, List.getElem?_cons_succ, List.getElem?_cons_zero]; rfl) rfl (by kernel_rfl) ?_ ?_
              rotate_left 1
              · (intro w hSw; (try dsimp only at hSw); go_simp; try with_reducible rfl)
              try simp only [Act.put, List.setIfInBounds_toArray, List.set_cons_zero, List.set_cons_succ]
              refine hold_plain 2 (v := ?_) hHC hH0 (by simp only [List.getElem?_toArray, List.getElem?_cons_succ, List.getElem?_cons_zero]; rfl) rfl (by kernel_rfl) ?_ ?_
              rotate_left 1
              · (intro w hSw; (try dsimp only at hSw); go_simp; try with_reducible rfl)
              try simp only [Act.put, List.setIfInBounds_toArray, List.set_cons_zero, List.set_cons_succ]
              refine hold_plain 3 (v := ?_) hHC hH0 (by simp only [List.getElem?_toArray, List.getElem?_cons_succ, List.getElem?_cons_zero]; rfl) rfl (by kernel_rfl) ?_ ?_
              rotate_left 1
              · (intro w hSw; (try dsimp only at hSw); go_simp; try with_reducible rfl)
              try simp only [Act.put, List.setIfInBounds_toArray, List.set_cons_zero, List.set_cons_succ]
              refine hold_plain 4 (v := ?_) hHC hH0 (by simp only [List.getElem?_toArray, List.getElem?_cons_succ, List.getElem?_cons_zero]; rfl) rfl (by kernel_rfl) ?_ ?_
              rotate_left 1
              · (intro w hSw; (try dsimp only at hSw); go_simp; try with_reducible rfl)
              try simp only [Act.put, List.setIfInBounds_toArray, List.set_cons_zero, List.set_cons_succ]
              refine hold_yes 5 (v := ?_) hHC hH0 (by simp only [List.getElem?_toArray, List.getElem?_cons_succ, List.getElem?_cons_zero]; rfl) rfl (by kernel_rfl) (by kernel_rfl) ?_ ?_
              rotate_left 1
              · (intro w hSw; (try dsimp only at hSw); go_simp; try with_reducible rfl)
              try simp only [Act.put, List.setIfInBounds_toArray, List.set_cons_zero, List.set_cons_succ]
              refine hold_yes 6 (v := ?_) hHC hH0 (by simp only [List.getElem?_toArray, List.getElem?_cons_succ, List.getElem?_cons_zero]; rfl) rfl (by kernel_rfl) (by kernel_rfl) ?_ ?_
              rotate_left 1
              · (intro w hSw; (try dsimp only at hSw); go_simp; try with_reducible rfl)
              try simp only [Act.put, List.setIfInBounds_toArray, List.set_cons_zero, List.set_cons_succ]
              refine hold_yes 7 (v := ?_) hHC hH0 (by simp only [List.getElem?_toArray, List.getElem?_cons_succ, List.getElem?_cons_zero]; rfl) rfl (by kernel_rfl) (by kernel_rfl) ?_ ?_
              rotate_left 1
              · (intro w hSw; (try dsimp only at hSw); go_simp; try with_reducible rfl)
              try simp only [Act.put, List.setIfInBounds_toArray, List.set_cons_zero, List.set_cons_succ]
              refine hold_yes 8 (v := ?_) hHC hH0 (by simp only [List.getElem?_toArray, List.getElem?_cons_succ, List.getElem?_cons_zero]; rfl) rfl (by kernel_rfl) (by kernel_rfl) ?_ ?_
              rotate_left 1
              · (intro w hSw; (try dsimp only at hSw); go_simp; try with_reducible rfl)
              try simp only [Act.put, List.setIfInBounds_toArray, List.set_cons_zero, List.set_cons_succ]
              refine hold_yes 9 (v := ?_) hHC hH0 (by simp only [List.getElem?_toArray, List.getElem?_cons_succ, List.getElem?_cons_zero]; rfl) rfl (by kernel_rfl) (by kernel_rfl) ?_ ?_
              rotate_left 1
              · (intro w hSw; (try dsimp only at hSw); go_simp; try with_reducible rfl)
              try simp only [Act.put, List.setIfInBounds_toArray, List.set_cons_zero, List.set_cons_succ]
              refine hold_yes 10 (v := ?_) hHC hH0 (by simp only [List.getElem?_toArray, List.getElem?_cons_succ, List.getElem?_cons_zero]; rfl) rfl (by kernel_rfl) (by kernel_rfl) ?_ ?_
              rotate_left 1
              · (intro w hSw; (try dsimp only at hSw); go_simp; try with_reducible rfl)
              try simp only [Act.put, List.setIfInBounds_toArray, List.set_cons_zero, List.set_cons_succ]
              refine hold_yes 11 (v := ?_) hHC hH0 (by simp only [List.getElem?_toArray, List.getElem?_cons_succ, List.getElem?_cons_zero]; rfl) rfl (by kernel_rfl) (by kernel_rfl) ?_ ?_
              rotate_left 1
              · (intro w hSw; (try dsimp only at hSw); go_simp; try with_reducible rfl)
              try simp only [Act.put, List.setIfInBounds_toArray, List.set_cons_zero, List.set_cons_succ]
              refine hold_yes 12 (v := ?_) hHC hH0 (by simp only [List.getElem?_toArray, List.getElem?_cons_succ, List.getElem?_cons_zero]; rfl) rfl (by kernel_rfl) (by kernel_rfl) ?_ ?_
              rotate_left 1
              · (intro w hSw; (try dsimp only at hSw); go_simp; try with_reducible rfl)
              try simp only [Act.put, List.setIfInBounds_toArray, List.set_cons_zero, List.set_cons_succ]
              refine hold_call1 13 (by simp only [List.getElem?_toArray, List.getElem?_cons_succ, List.getElem?_cons_zero]; rfl) rfl (by kernel_rfl) (by kernel_rfl) (fun K hK => ?_)
              go_simp
              obtain ⟨_, _, _, _, _, _, hs1, hs2⟩ := id hH0; (go_at_call 36; refine (specBef_any _ _ _ _ _ _ _).mono ?_; rintro e w1 ⟨rfl, hb1⟩)
              refine hK.out _ _ ?_ (fun hH1 => ?_)
              · (first | (go_keep; done) | ((try go_split_ands); (repeat' apply And.intro) <;> first | assumption | (with_reducible refine Rd.below ?_ hb1; assumption) | (with_reducible refine Rd.drew ?_; repeat' (first | assumption | (with_reducible refine Rd.alloc ?_ _))) | (refine (hb1.cell (by first | omega | (simp; done) | (simp; omega))).trans ?_; first | assumption | simp) | (exact below_step hb1 (by first | omega | (simp; done) | (simp; omega)) (by assumption)) | (have hz' := hb1.size; (try simp at hz'); omega) | ((repeat' (first | assumption | (with_reducible exact Below.refl _ _) | (with_reducible refine Below.drew ?_) | (with_reducible refine Below.alloc ?_ ?_ _) | (with_reducible refine Below.setCell ?_ ?_ _) | omega | (simp; done) | (simp; omega))); done) | go_simp | (simp; done) | (simp; omega)))
              clear hK K hH0
              try simp only [Act.put, List.setIfInBounds_toArray, List.set_cons_zero, List.set_cons_succ]
              refine hold_plain 14 (v := ?_) hHC hH1 (by simp only [List.getElem?_toArray, List.getElem?_cons_succ, List.getElem?_cons_zero]; rfl) rfl (by kernel_rfl) ?_ ?_
              rotate_left 1
              · (intro w hSw; (try dsimp only at hSw); go_simp; try with_reducible rfl)
              try simp only [Act.put, List.setIfInBounds_toArray, List.set_cons_zero, List.set_cons_succ]
              refine wpAnyH_done (by kernel_rfl) ?_ _
              (try dsimp only at hH1)
              go_split_ands
              clear hHC
              have hbq' : Below wa.heap.size wa w1 := by assumption
              have hs1' : wr.heap.size ≤ w1.heap.size := by omega
              go_wp2_with fail
              by_cases hq : (x', y', d') = (x, y, d)
              · have HM2 : Hid (M = srtL (L.take (k + 1))) := Lib.hid (by rw [srt_yes hv.out hd, ← hM.out]; exact (ins_skip (by rw [← hq]; exact hv'.out)).symm)
                obtain ⟨rfl, rfl, rfl⟩ : x' = x ∧ y' = y ∧ d' = d := by simpa using hq
                have HOw := Lib.hid (OwnD.below hOa.out hbq')
                have HBw : Below w.heap.size w w1 := hBa.trans (hbq'.mono (by omega))
                refine hold_start (S := (fun w' => w'.cell? ⟨g, j * 3, none⟩ = some (.int .i64 x') ∧ w'.cell? ⟨g, j * 3 + 1, none⟩ = some (.int .i64 y') ∧ w'.cell? ⟨g, j * 3 + 2, none⟩ = some (.bool d') ∧ w'.cell? ⟨b, off + k * 3, none⟩ = some (.int .i64 x') ∧ w'.cell? ⟨b, off + k * 3 + 1, none⟩ = some (.int .i64 y') ∧ w'.cell? ⟨b, off + k * 3 + 2, none⟩ = some (.bool d') ∧ Below w.heap.size w w' ∧ w1.heap.size + 0 ≤ w'.heap.size)) (by kernel_rfl) (by kernel_rfl) (by intro _ _ d _ _ h; cases d <;> exact h) ?_ (fun hHC hH0 => ?_)
                · (first | (go_keep; done) | ((try go_split_ands); (repeat' apply And.intro) <;> first | assumption | (with_reducible refine Rd.below ?_ hb1; assumption) | (with_reducible refine Rd.drew ?_; repeat' (first | assumption | (with_reducible refine Rd.alloc ?_ _))) | (refine (hb1.cell (by first | omega | (simp; done) | (simp; omega))).trans ?_; first | assumption | simp) | (exact below_step hb1 (by first | omega | (simp; done) | (simp; omega)) (by assumption)) | (have hz' := hb1.size; (try simp at hz'); omega) | ((repeat' (first | assumption | (with_reducible exact Below.refl _ _) | (with_reducible refine Below.drew ?_) | (with_reducible refine Below.alloc ?_ ?_ _) | (with_reducible refine Below.setCell ?_ ?_ _) | omega | (simp; done) | (simp; omega))); done) | go_simp | (simp; done) | (simp; omega)))
                refine hold_plain 0 (v := ?_) hHC hH0 (by simp only [List.getElem?_toArray, List.getElem?_cons_succ, List.getElem?_cons_zero]; rfl) rfl (by kernel_rfl) ?_ ?_
                rotate_left 1
                · (intro w hSw; (try dsimp only at hSw); go_simp; try with_reducible rfl)
                try simp only [Act.put, List.setIfInBounds_toArray, List.set_cons_zero, List.set_cons_succ]
                refine hold_plain 1 (v := ?_) hHC hH0 (by simp only [List.getElem?_toArray, List.getElem?_cons_succ, List.getElem?_cons_zero]; rfl) rfl (by kernel_rfl) ?_ ?_
                rotate_left 1
                · (intro w hSw; (try dsimp only at hSw); go_simp; try with_reducible rfl)
                try simp only [Act.put, List.setIfInBounds_toArray, List.set_cons_zero, List.set_cons_succ]
                refine hold_plain 2 (v := ?_) hHC hH0 (by simp only [List.getElem?_toArray, List.getElem?_cons_succ, List.getElem?_cons_zero]; rfl) rfl (by kernel_rfl) ?_ ?_
                rotate_left 1
                · (intro w hSw; (try dsimp only at hSw); go_simp; try with_reducible rfl)
                try simp only [Act.put, List.setIfInBounds_toArray, List.set_cons_zero, List.set_cons_succ]
                refine hold_plain 3 (v := ?_) hHC hH0 (by simp only [List.getElem?_toArray, List.getElem?_cons_succ, List.getElem?_cons_zero]; rfl) rfl (by kernel_rfl) ?_ ?_
                rotate_left 1
                · (intro w hSw; (try dsimp only at hSw); go_simp; try with_reducible rfl)
                try simp only [Act.put, List.setIfInBounds_toArray, List.set_cons_zero, List.set_cons_succ]
                refine hold_plain 4 (v := ?_) hHC hH0 (by simp only [List.getElem?_toArray, List.getElem?_cons_succ, List.getElem?_cons_zero]; rfl) rfl (by kernel_rfl) ?_ ?_
                rotate_left 1
                · (intro w hSw; (try dsimp only at hSw); go_simp; try with_reducible rfl)
                try simp only [Act.put, List.setIfInBounds_toArray, List.set_cons_zero, List.set_cons_succ]
                refine hold_yes 5 (v := ?_) hHC hH0 (by simp only [List.getElem?_toArray, List.getElem?_cons_succ, List.getElem?_cons_zero]; rfl) rfl (by kernel_rfl) (by kernel_rfl) ?_ ?_
                rotate_left 1
                · (intro w hSw; (try dsimp only at hSw); go_simp; try with_reducible rfl)
                try simp only [Act.put, List.setIfInBounds_toArray, List.set_cons_zero, List.set_cons_succ]
                refine hold_yes 6 (v := ?_) hHC hH0 (by simp only [List.getElem?_toArray, List.getElem?_cons_succ, List.getElem?_cons_zero]; rfl) rfl (by kernel_rfl) (by kernel_rfl) ?_ ?_
                rotate_left 1
                · (intro w hSw; (try dsimp only at hSw); go_simp; try with_reducible rfl)
                try simp only [Act.put, List.setIfInBounds_toArray, List.set_cons_zero, List.set_cons_succ]
                refine hold_yes 7 (v := ?_) hHC hH0 (by simp only [List.getElem?_toArray, List.getElem?_cons_succ, List.getElem?_cons_zero]; rfl) rfl (by kernel_rfl) (by kernel_rfl) ?_ ?_
                rotate_left 1
                · (intro w hSw; (try dsimp only at hSw); go_simp; try with_reducible rfl)
                try simp only [Act.put, List.setIfInBounds_toArray, List.set_cons_zero, List.set_cons_succ]
                refine hold_yes 8 (v := ?_) hHC hH0 (by simp only [List.getElem?_toArray, List.getElem?_cons_succ, List.getElem?_cons_zero]; rfl) rfl (by kernel_rfl) (by kernel_rfl) ?_ ?_
                rotate_left 1
                · (intro w hSw; (try dsimp only at hSw); go_simp; try with_reducible rfl)
                try simp only [Act.put, List.setIfInBounds_toArray, List.set_cons_zero, List.set_cons_succ]
                refine hold_yes 9 (v := ?_) hHC hH0 (by simp only [List.getElem?_toArray, List.getElem?_cons_succ, List.getElem?_cons_zero]; rfl) rfl (by kernel_rfl) (by kernel_rfl) ?_ ?_
                rotate_left 1
                · (intro w hSw; (try dsimp only at hSw); go_simp; try with_reducible rfl)
                try simp only [Act.put, List.setIfInBounds_toArray, List.set_cons_zero, List.set_cons_succ]
                refine hold_yes 10 (v := ?_) hHC hH0 (by simp only [List.getElem?_toArray, List.getElem?_cons_succ, List.getElem?_cons_zero]; rfl) rfl (by kernel_rfl) (by kernel_rfl) ?_ ?_
                rotate_left 1
                · (intro w hSw; (try dsimp only at hSw); go_simp; try with_reducible rfl)
                try simp only [Act.put, List.setIfInBounds_toArray, List.set_cons_zero, List.set_cons_succ]
                refine hold_yes 11 (v := ?_) hHC hH0 (by simp only [List.getElem?_toArray, List.getElem?_cons_succ, List.getElem?_cons_zero]; rfl) rfl (by kernel_rfl) (by kernel_rfl) ?_ ?_
                rotate_left 1
                · (intro w hSw; (try dsimp only at hSw); go_simp; try with_reducible rfl)
                try simp only [Act.put, List.setIfInBounds_toArray, List.set_cons_zero, List.set_cons_succ]
                refine hold_yes 12 (v := ?_) hHC hH0 (by simp only [List.getElem?_toArray, List.getElem?_cons_succ, List.getElem?_cons_zero]; rfl) rfl (by kernel_rfl) (by kernel_rfl) ?_ ?_
                rotate_left 1
                · (intro w hSw; (try dsimp only at hSw); go_simp; try with_reducible rfl)
                try simp only [Act.put, List.setIfInBounds_toArray, List.set_cons_zero, List.set_cons_succ]
                refine hold_yes 13 (v := ?_) hHC hH0 (by simp only [List.getElem?_toArray, List.getElem?_cons_succ, List.getElem?_cons_zero]; rfl) rfl (by kernel_rfl) (by kernel_rfl) ?_ ?_
                rotate_left 1
                · (intro w hSw; (try dsimp only at hSw); go_simp; try with_reducible rfl)
                try simp only [Act.put, List.setIfInBounds_toArray, List.set_cons_zero, List.set_cons_succ]
                refine hold_plain 14 (v := ?_) hHC hH0 (by simp only [List.getElem?_toArray, List.getElem?_cons_succ, List.getElem?_cons_zero]; rfl) rfl (by kernel_rfl) ?_ ?_
                rotate_left 1
                · (intro w hSw; (try dsimp only at hSw); go_simp; try with_reducible rfl)
                try simp only [Act.put, List.setIfInBounds_toArray, List.set_cons_zero, List.set_cons_succ]
                refine wpAnyH_done (by kernel_rfl) ?_ _
                (try dsimp only at hH0)
                go_split_ands
                clear hHC
                go_wp2
                go_roundw
                case rel => exact ⟨k + 1, M, g, c', by omega, by go_num, rfl, Lib.hid HOw.out, HM2, HBw.drew⟩
                case measure => simp [intOf]; omega
              · have hlt2 : ordP (x, y, d) < ordP (x', y', d') := by
                  rcases Int.lt_or_lt_of_ne (fun e => hq (ord_inj hd' hd e) : ordP (x', y', d') ≠ ordP (x, y, d)) with h | h
                  · omega
                  · exact h
                have HHi : Hid (∀ q ∈ M.drop j, ordP (x, y, d) < ordP q) := Lib.hid (by
                  intro q hq
                  obtain ⟨i, hi1, hi2⟩ := List.getElem_of_mem hq
                  rw [List.getElem_drop] at hi2
                  rw [List.length_drop] at hi1
                  rcases Nat.eq_zero_or_pos i with h0 | h0
                  · subst h0
                    have e := hv'.out
                    rw [List.getElem?_eq_getElem hjl] at e
                    simp only [Nat.add_zero] at hi2
                    rw [← hi2, Option.some.inj e]; exact hlt2
                  · have := srt_at HSR.out (by omega : j < j + i) hv'.out (List.getElem?_eq_getElem (by omega))
                    rw [hi2] at this
                    omega)
                have hne : ¬ x' = x ∨ ¬ y' = y ∨ ¬ d' = d := by
                  by_cases h1 : x' = x
                  · by_cases h2 : y' = y
                    · exact .inr (.inr (fun h3 => hq (by rw [h1, h2, h3])))
                    · exact .inr (.inl h2)
                  · exact .inl h1
                clear hq
                rcases hne with h3 | h3 | h3
                all_goals (
                  have h4 := beq_eq_false_iff_ne.2 h3
                  refine hold_start (S := (fun w' => w'.cell? ⟨g, j * 3, none⟩ = some (.int .i64 x') ∧ w'.cell? ⟨g, j * 3 + 1, none⟩ = some (.int .i64 y') ∧ w'.cell? ⟨g, j * 3 + 2, none⟩ = some (.bool d') ∧ w'.cell? ⟨b, off + k * 3, none⟩ = some (.int .i64 x) ∧ w'.cell? ⟨b, off + k * 3 + 1, none⟩ = some (.int .i64 y) ∧ w'.cell? ⟨b, off + k * 3 + 2, none⟩ = some (.bool d) ∧ Below w.heap.size w w' ∧ w1.heap.size + 0 ≤ w'.heap.size)) (by kernel_rfl) (by kernel_rfl) (by intro _ _ d _ _ h; cases d <;> exact h) ?_ (fun hHC hH0 => ?_)
                  · (first | (go_keep; done) | ((try go_split_ands); (repeat' apply And.intro) <;> first | assumption | (with_reducible refine Rd.below ?_ hb1; assumption) | (with_reducible refine Rd.drew ?_; repeat' (first | assumption | (with_reducible refine Rd.alloc ?_ _))) | (refine (hb1.cell (by first | omega | (simp; done) | (simp; omega))).trans ?_; first | assumption | simp) | (exact below_step hb1 (by first | omega | (simp; done) | (simp; omega)) (by assumption)) | (have hz' := hb1.size; (try simp at hz'); omega) | ((repeat' (first | assumption | (with_reducible exact Below.refl _ _) | (with_reducible refine Below.drew ?_) | (with_reducible refine Below.alloc ?_ ?_ _) | (with_reducible refine Below.setCell ?_ ?_ _) | omega | (simp; done) | (simp; omega))); done) | go_simp | (simp; done) | (simp; omega)))
                  refine hold_plain 0 (v := ?_) hHC hH0 (by simp only [List.getElem?_toArray, List.getElem?_cons_succ, List.getElem?_cons_zero]; rfl) rfl (by kernel_rfl) ?_ ?_
                  rotate_left 1
                  · (intro w hSw; (try dsimp only at hSw); go_simp; try with_reducible rfl)
                  try simp only [Act.put, List.setIfInBounds_toArray, List.set_cons_zero, List.set_cons_succ]
                  refine hold_plain 1 (v := ?_) hHC hH0 (by simp only [List.getElem?_toArray, List.getElem?_cons_succ, List.getElem?_cons_zero]; rfl) rfl (by kernel_rfl) ?_ ?_
                  rotate_left 1
                  · (intro w hSw; (try dsimp only at hSw); go_simp; try with_reducible rfl)
                  try simp only [Act.put, List.setIfInBounds_toArray, List.set_cons_zero, List.set_cons_succ]
                  refine hold_plain 2 (v := ?_) hHC hH0 (by simp only [List.getElem?_toArray, List.getElem?_cons_succ, List.getElem?_cons_zero]; rfl) rfl (by kernel_rfl) ?_ ?_
                  rotate_left 1
                  · (intro w hSw; (try dsimp only at hSw); go_simp; try with_reducible rfl)
                  try simp only [Act.put, List.setIfInBounds_toArray, List.set_cons_zero, List.set_cons_succ]
                  refine hold_plain 3 (v := ?_) hHC hH0 (by simp only [List.getElem?_toArray, List.getElem?_cons_succ, List.getElem?_cons_zero]; rfl) rfl (by kernel_rfl) ?_ ?_
                  rotate_left 1
                  · (intro w hSw; (try dsimp only at hSw); go_simp; try with_reducible rfl)
                  try simp only [Act.put, List.setIfInBounds_toArray, List.set_cons_zero, List.set_cons_succ]
                  refine hold_plain 4 (v := ?_) hHC hH0 (by simp only [List.getElem?_toArray, List.getElem?_cons_succ, List.getElem?_cons_zero]; rfl) rfl (by kernel_rfl) ?_ ?_
                  rotate_left 1
                  · (intro w hSw; (try dsimp only at hSw); go_simp; try with_reducible rfl)
                  try simp only [Act.put, List.setIfInBounds_toArray, List.set_cons_zero, List.set_cons_succ]
                  refine hold_yes 5 (v := ?_) hHC hH0 (by simp only [List.getElem?_toArray, List.getElem?_cons_succ, List.getElem?_cons_zero]; rfl) rfl (by kernel_rfl) (by kernel_rfl) ?_ ?_
                  rotate_left 1
                  · (intro w hSw; (try dsimp only at hSw); go_simp; try with_reducible rfl)
                  try simp only [Act.put, List.setIfInBounds_toArray, List.set_cons_zero, List.set_cons_succ]
                  refine hold_yes 6 (v := ?_) hHC hH0 (by simp only [List.getElem?_toArray, List.getElem?_cons_succ, List.getElem?_cons_zero]; rfl) rfl (by kernel_rfl) (by kernel_rfl) ?_ ?_
                  rotate_left 1
                  · (intro w hSw; (try dsimp only at hSw); go_simp; try with_reducible rfl)
                  try simp only [Act.put, List.setIfInBounds_toArray, List.set_cons_zero, List.set_cons_succ]
                  refine hold_yes 7 (v := ?_) hHC hH0 (by simp only [List.getElem?_toArray, List.getElem?_cons_succ, List.getElem?_cons_zero]; rfl) rfl (by kernel_rfl) (by kernel_rfl) ?_ ?_
                  rotate_left 1
                  · (intro w hSw; (try dsimp only at hSw); go_simp; try with_reducible rfl)
                  try simp only [Act.put, List.setIfInBounds_toArray, List.set_cons_zero, List.set_cons_succ]
                  refine hold_yes 8 (v := ?_) hHC hH0 (by simp only [List.getElem?_toArray, List.getElem?_cons_succ, List.getElem?_cons_zero]; rfl) rfl (by kernel_rfl) (by kernel_rfl) ?_ ?_
                  rotate_left 1
                  · (intro w hSw; (try dsimp only at hSw); go_simp; try with_reducible rfl)
                  try simp only [Act.put, List.setIfInBounds_toArray, List.set_cons_zero, List.set_cons_succ]
                  refine hold_yes 9 (v := ?_) hHC hH0 (by simp only [List.getElem?_toArray, List.getElem?_cons_succ, List.getElem?_cons_zero]; rfl) rfl (by kernel_rfl) (by kernel_rfl) ?_ ?_
                  rotate_left 1
                  · (intro w hSw; (try dsimp only at hSw); go_simp; try with_reducible rfl)
                  try simp only [Act.put, List.setIfInBounds_toArray, List.set_cons_zero, List.set_cons_succ]
                  refine hold_yes 10 (v := ?_) hHC hH0 (by simp only [List.getElem?_toArray, List.getElem?_cons_succ, List.getElem?_cons_zero]; rfl) rfl (by kernel_rfl) (by kernel_rfl) ?_ ?_
                  rotate_left 1
                  · (intro w hSw; (try dsimp only at hSw); go_simp; try with_reducible rfl)
                  try simp only [Act.put, List.setIfInBounds_toArray, List.set_cons_zero, List.set_cons_succ]
                  refine hold_yes 11 (v := ?_) hHC hH0 (by simp only [List.getElem?_toArray, List.getElem?_cons_succ, List.getElem?_cons_zero]; rfl) rfl (by kernel_rfl) (by kernel_rfl) ?_ ?_
                  rotate_left 1
                  · (intro w hSw; (try dsimp only at hSw); go_simp; try with_reducible rfl)
                  try simp only [Act.put, List.setIfInBounds_toArray, List.set_cons_zero, List.set_cons_succ]
                  refine hold_yes 12 (v := ?_) hHC hH0 (by simp only [List.getElem?_toArray, List.getElem?_cons_succ, List.getElem?_cons_zero]; rfl) rfl (by kernel_rfl) (by kernel_rfl) ?_ ?_
                  rotate_left 1
                  · (intro w hSw; (try dsimp only at hSw); go_simp; try with_reducible rfl)
                  try simp only [Act.put, List.setIfInBounds_toArray, List.set_cons_zero, List.set_cons_succ]
                  refine hold_yes 13 (v := ?_) hHC hH0 (by simp only [List.getElem?_toArray, List.getElem?_cons_succ, List.getElem?_cons_zero]; rfl) rfl (by kernel_rfl) (by kernel_rfl) ?_ ?_
                  rotate_left 1
                  · (intro w hSw; (try dsimp only at hSw); go_simp; try with_reducible rfl)
                  try simp only [Act.put, List.setIfInBounds_toArray, List.set_cons_zero, List.set_cons_succ]
                  refine hold_plain 14 (v := ?_) hHC hH0 (by simp only [List.getElem?_toArray, List.getElem?_cons_succ, List.getElem?_cons_zero]; rfl) rfl (by kernel_rfl) ?_ ?_
                  rotate_left 1
                  · (intro w hSw; (try dsimp only at hSw); go_simp; try with_reducible rfl)
                  try simp only [Act.put, List.setIfInBounds_toArray, List.set_cons_zero, List.set_cons_succ]
                  refine wpAnyH_done (by kernel_rfl) ?_ _
                  (try dsimp only at hH0)
                  go_split_ands
                  clear hHC
                  obtain ⟨wz, hwz⟩ : ∃ wz, wz = w1.drew := ⟨_, rfl⟩
                  have hbz : Below wa.heap.size wa wz := by rw [hwz]; exact hbq'.drew
                  have hzz := hbz.size
                  rw [← hwz]
                  clear hwz
                  have hOz := Lib.hid (OwnD.below hOa.out hbz)
                  have hgz := (hOz.out.lt g rfl).2
                  have hjn : (j : Int) ≤ (M.length : Int) := by omega
                  have hcM : M.length ≤ c' := OwnD.cap hOz.out
                  have hjc : j ≤ c' := by omega
                  have hjc2 : (j : Int) ≤ (c' : Int) := by omega
                  have hcM2 : (M.length : Int) ≤ (c' : Int) := by omega
                  have HL1 : Hid ((flatD (M.take j)).length = j * 3) := Lib.hid (by rw [flatD_len, List.length_take]; omega)
                  have HL3 : Hid ((flatD (M.drop j)).length = (M.length - j) * 3) := Lib.hid (by rw [flatD_len, List.length_drop])
                  have HQX := Lib.hid ((hbz.cell (p := ⟨b, off + k * 3, none⟩) (by simp; omega)).trans hcx')
                  have HQY := Lib.hid ((hbz.cell (p := ⟨b, off + k * 3 + 1, none⟩) (by simp; omega)).trans hcy')
                  have HQD := Lib.hid ((hbz.cell (p := ⟨b, off + k * 3 + 2, none⟩) (by simp; omega)).trans hcd')
                  have hbz2 : b < wz.heap.size := by omega
                  have HBZ := Lib.hid (hBa.trans (hbz.mono (by have := hBa.size; omega)))
                  have tokA : True := trivial
                  have tokB : True := trivial
                  by_cases hcj : c' = j
                  all_goals first | (exfalso; omega; done) | (
                    go_wp2_with (first
                      | (have _t := tokA
                         at_builtin
                         refine wpList_append_own_at _ rfl _ _ 24 rfl wz.heap.size 51 i0 (.agg #[.int .i64 0, .int .i64 0, .bool false]) 3 24 Try.underlying24 hi hz0 hz1 hz2 rfl (by decide) (.slice (some ⟨wz.heap.size, 0, none⟩) 0 0) 0 [] (by rfl) (OwnD.new wz wz.heap.size (Nat.le_refl _) _ rfl) ⟨g, 0, none⟩ j _ (flatD (M.take j)) (by rfl) HL1.out (OwnD.src_take (OwnD.alloc hOz.out _) j) (flatD_one _) (by unfold maxLen; omega) (by omega) (by simp) ?_
                         intro v3 w3 hown3 hgrow3 hnil3 hat3
                         obtain ⟨g3, c3, rfl, hg3, hg3', hc3⟩ := own_some hown3 (fun h => by have := (hnil3.1 h).1; cases this)
                         have hG3 : Below wz.heap.size wz w3 := ((Below.refl _ _).alloc (Nat.le_refl _) _).grown hgrow3 (by simp) (fun k h => by simp [Value.ownBlock] at h; omega)
                         have hO3 := Lib.hid (own_below hOz.out hG3)
                         have hN3 := Lib.hid hown3
                         have hx3 := (hG3.cell (p := ⟨b, off + k * 3, none⟩) hbz2).trans HQX.out
                         have hy3 := (hG3.cell (p := ⟨b, off + k * 3 + 1, none⟩) hbz2).trans HQY.out
                         have hd3 := (hG3.cell (p := ⟨b, off + k * 3 + 2, none⟩) hbz2).trans HQD.out
                         have hs3 := hG3.size
                         have HG3 := Lib.hid hG3
                         have hb3 : b < w3.heap.size := by omega
                         clear hown3 hgrow3 hnil3 hat3 hG3 tokA)
                      | (have _t := tokB
                         at_builtin
                         refine wpList_append_own_at _ rfl _ _ 24 rfl wz.heap.size 51 i0 (.agg #[.int .i64 0, .int .i64 0, .bool false]) 3 24 Try.underlying24 hi hz0 hz1 hz2 rfl (by decide) (.slice (some ⟨g3, 0, none⟩) (0 + j) c3) (0 + j) ([] ++ flatD (M.take j)) (by first | rfl | (simp; rfl)) (World.ownsRow.alloc hN3.out _) ⟨w3.heap.size, 0, none⟩ 1 1 [.int .i64 x, .int .i64 y, .bool d] (by rfl) rfl (dom_three_new _ _ _ _ _) (by intro u hu; simp at hu; rcases hu with rfl | rfl | rfl <;> rfl) (by unfold maxLen; omega) (by omega) (by simp; omega) ?_
                         intro v4 w4 hown4 hgrow4 hnil4 hat4
                         obtain ⟨g4, c4, rfl, hg4, hg4', hc4⟩ := own_some hown4 (fun h => by have := (hnil4.1 h).1; cases this)
                         have hG4 : Below wz.heap.size wz w4 := (HG3.out.alloc hs3 _).grown hgrow4 (by simp; omega) (fun k h => by simp [Value.ownBlock] at h; omega)
                         have hO4 := Lib.hid (own_below hOz.out hG4)
                         have hN4 := Lib.hid hown4
                         have hs4 := hG4.size
                         have HG4 := Lib.hid hG4
                         clear hown4 hgrow4 hnil4 hat4 hG4 hx3 hy3 hd3 hO3 hN3 HG3 tokB)
                      | (at_builtin
                         first
                           | refine wpList_append_own_at _ rfl _ _ 24 rfl wz.heap.size 51 i0 (.agg #[.int .i64 0, .int .i64 0, .bool false]) 3 24 Try.underlying24 hi hz0 hz1 hz2 rfl (by decide) (.slice (some ⟨g4, 0, none⟩) (0 + j + 1) c4) (0 + j + 1) ([] ++ flatD (M.take j) ++ [.int .i64 x, .int .i64 y, .bool d]) (by first | rfl | (simp; rfl)) hN4.out ⟨g, j * 3, none⟩ (M.length - j) _ (flatD (M.drop j)) (by rfl) HL3.out (OwnD.src_drop hO4.out j) (flatD_one _) (by unfold maxLen; omega) (by omega) (by omega) ?_
                           | refine wpList_append_own_at _ rfl _ _ 24 rfl wz.heap.size 51 i0 (.agg #[.int .i64 0, .int .i64 0, .bool false]) 3 24 Try.underlying24 hi hz0 hz1 hz2 rfl (by decide) (.slice (some ⟨g4, 0, none⟩) (0 + j + 1) c4) (0 + j + 1) ([] ++ flatD (M.take j) ++ [.int .i64 x, .int .i64 y, .bool d]) (by first | rfl | (simp; rfl)) hN4.out ⟨g, 0, none⟩ (M.length - j) _ (flatD (M.drop j)) (by rfl) HL3.out (src_none (by have h := HL3.out; omega)) (flatD_one _) (by unfold maxLen; omega) (by omega) (by omega) ?_
                         intro v5 w5 hown5 hgrow5 hnil5 hat5
                         obtain ⟨g5, c5, rfl, hg5, hg5', hc5⟩ := own_some hown5 (fun h => by have := (hnil5.1 h).1; cases this)
                         have hG5 : Below wz.heap.size wz w5 := HG4.out.grown hgrow5 hs4 (fun k h => by simp [Value.ownBlock] at h; omega)
                         have hNN : 0 + j + 1 + (M.length - j) = (M.take j ++ (x, y, d) :: M.drop j).length := by simp; omega
                         have HNN := Lib.hid hNN
                         have HO5 : Hid (OwnD w5 w.heap.size (.slice (some ⟨g5, 0, none⟩) (M.take j ++ (x, y, d) :: M.drop j).length c5) (M.take j ++ (x, y, d) :: M.drop j)) := Lib.hid (by
                           unfold OwnD
                           rw [flatD_append, flatD_cons]
                           rw [hNN] at hown5
                           refine own_base ?_ (show w.heap.size ≤ wz.heap.size by omega)
                           simpa using hown5)
                         have HB5 : Below w.heap.size w w5 := HBZ.out.trans (hG5.mono HBZ.out.size)
                         clear hown5 hgrow5 hnil5 hat5 hG5 hNN))
                    go_roundw
                    case rel => exact ⟨k + 1, M.take j ++ (x, y, d) :: M.drop j, g5, c5, by omega, by go_num, by rw [← HNN.out]; first | rfl | (congr 1; omega) | simp, HO5, Lib.hid (by rw [srt_yes hv.out hd, ← hM.out]; exact (ins_at hLo.out HHi.out).symm), HB5⟩
                    case measure => simp [intOf]; omega
                    )
                  )
          · have hjm : j = M.length := by omega
            have HHi : Hid (∀ q ∈ M.drop j, ordP (x, y, d) < ordP q) := Lib.hid (by rw [hjm, List.drop_length]; simp)
            have hnl : ¬ (j : Int) < (M.length : Int) := by omega
            have hnl2 : decide ((j : Int) < (M.length : Int)) = false := decide_eq_false hnl
            have hnl3 : decide (j < M.length) = false := decide_eq_false hjl
            have HBq : Below w.heap.size w wr := hBa.trans (hbq.mono (by omega))
            have HJM := Lib.hid hjm
            clear hjm
            go_wp2_with fail
            refine hold_start (S := (fun w' => wa.heap.size ≤ w'.heap.size ∧ Below w.heap.size w w' ∧ wr.heap.size + 0 ≤ w'.heap.size)) (by kernel_rfl) (by kernel_rfl) (by intro _ _ d _ _ h; cases d <;> exact h) ?_ (fun hHC hH0 => ?_)
            · (first | (go_keep; done) | ((try go_split_ands); (repeat' apply And.intro) <;> first | assumption | (with_reducible refine Rd.below ?_ hb1; assumption) | (with_reducible refine Rd.drew ?_; repeat' (first | assumption | (with_reducible refine Rd.alloc ?_ _))) | (refine (hb1.cell (by first | omega | (simp; done) | (simp; omega))).trans ?_; first | assumption | simp) | (exact below_step hb1 (by first | omega | (simp; done) | (simp; omega)) (by assumption)) | (have hz' := hb1.size; (try simp at hz'); omega) | ((repeat' (first | assumption | (with_reducible exact Below.refl _ _) | (with_reducible refine Below.drew ?_) | (with_reducible refine Below.alloc ?_ ?_ _) | (with_reducible refine Below.setCell ?_ ?_ _) | omega | (simp; done) | (simp; omega))); done) | go_simp | (simp; done) | (simp; omega)))
            refine hold_plain 0 (v := ?_) hHC hH0 (by simp only [List.getElem?_toArray, List.getElem?_cons_succ, List.getElem?_cons_zero]; rfl) rfl (by kernel_rfl) ?_ ?_
            rotate_left 1
            · (intro w hSw; (try dsimp only at hSw); go_simp; try with_reducible rfl)
            try simp only [Act.put, List.setIfInBounds_toArray, List.set_cons_zero, List.set_cons_succ]
            refine hold_plain 1 (v := ?_) hHC hH0 (by simp only [List.getElem?_toArray, List.getElem?_cons_succ, List.getElem?_cons_zero]; rfl) rfl (by kernel_rfl) ?_ ?_
            rotate_left 1
            · (intro w hSw; (try dsimp only at hSw); go_simp; try with_reducible rfl)
            try simp only [Act.put, List.setIfInBounds_toArray, List.set_cons_zero, List.set_cons_succ]
            refine hold_plain 2 (v := ?_) hHC hH0 (by simp only [List.getElem?_toArray, List.getElem?_cons_succ, List.getElem?_cons_zero]; rfl) rfl (by kernel_rfl) ?_ ?_
            rotate_left 1
            · (intro w hSw; (try dsimp only at hSw); go_simp; try with_reducible rfl)
            try simp only [Act.put, List.setIfInBounds_toArray, List.set_cons_zero, List.set_cons_succ]
            refine hold_plain 3 (v := ?_) hHC hH0 (by simp only [List.getElem?_toArray, List.getElem?_cons_succ, List.getElem?_cons_zero]; rfl) rfl (by kernel_rfl) ?_ ?_
            rotate_left 1
            · (intro w hSw; (try dsimp only at hSw); go_simp; try with_reducible rfl)
            try simp only [Act.put, List.setIfInBounds_toArray, List.set_cons_zero, List.set_cons_succ]
            refine hold_plain 4 (v := ?_) hHC hH0 (by simp only [List.getElem?_toArray, List.getElem?_cons_succ, List.getElem?_cons_zero]; rfl) rfl (by kernel_rfl) ?_ ?_
            rotate_left 1
            · (intro w hSw; (try dsimp only at hSw); go_simp; try with_reducible rfl)
            try simp only [Act.put, List.setIfInBounds_toArray, List.set_cons_zero, List.set_cons_succ]
            refine hold_no 5 hHC hH0 (by simp only [List.getElem?_toArray, List.getElem?_cons_succ, List.getElem?_cons_zero]; rfl) rfl (by kernel_rfl) (by kernel_rfl) ?_
            try simp only [Act.put, List.setIfInBounds_toArray, List.set_cons_zero, List.set_cons_succ]
            refine hold_no 6 hHC hH0 (by simp only [List.getElem?_toArray, List.getElem?_cons_succ, List.getElem?_cons_zero]; rfl) rfl (by kernel_rfl) (by kernel_rfl) ?_
            try simp only [Act.put, List.setIfInBounds_toArray, List.set_cons_zero, List.set_cons_succ]
            refine hold_no 7 hHC hH0 (by simp only [List.getElem?_toArray, List.getElem?_cons_succ, List.getElem?_cons_zero]; rfl) rfl (by kernel_rfl) (by kernel_rfl) ?_
            try simp only [Act.put, List.setIfInBounds_toArray, List.set_cons_zero, List.set_cons_succ]
            refine hold_no 8 hHC hH0 (by simp only [List.getElem?_toArray, List.getElem?_cons_succ, List.getElem?_cons_zero]; rfl) rfl (by kernel_rfl) (by kernel_rfl) ?_
            try simp only [Act.put, List.setIfInBounds_toArray, List.set_cons_zero, List.set_cons_succ]
            refine hold_no 9 hHC hH0 (by simp only [List.getElem?_toArray, List.getElem?_cons_succ, List.getElem?_cons_zero]; rfl) rfl (by kernel_rfl) (by kernel_rfl) ?_
            try simp only [Act.put, List.setIfInBounds_toArray, List.set_cons_zero, List.set_cons_succ]
            refine hold_no 10 hHC hH0 (by simp only [List.getElem?_toArray, List.getElem?_cons_succ, List.getElem?_cons_zero]; rfl) rfl (by kernel_rfl) (by kernel_rfl) ?_
            try simp only [Act.put, List.setIfInBounds_toArray, List.set_cons_zero, List.set_cons_succ]
            refine hold_no 11 hHC hH0 (by simp only [List.getElem?_toArray, List.getElem?_cons_succ, List.getElem?_cons_zero]; rfl) rfl (by kernel_rfl) (by kernel_rfl) ?_
            try simp only [Act.put, List.setIfInBounds_toArray, List.set_cons_zero, List.set_cons_succ]
            refine hold_no 12 hHC hH0 (by simp only [List.getElem?_toArray, List.getElem?_cons_succ, List.getElem?_cons_zero]; rfl) rfl (by kernel_rfl) (by kernel_rfl) ?_
            try simp only [Act.put, List.setIfInBounds_toArray, List.set_cons_zero, List.set_cons_succ]
            refine hold_no 13 hHC hH0 (by simp only [List.getElem?_toArray, List.getElem?_cons_succ, List.getElem?_cons_zero]; rfl) rfl (by kernel_rfl) (by kernel_rfl) ?_
            try simp only [Act.put, List.setIfInBounds_toArray, List.set_cons_zero, List.set_cons_succ]
            refine hold_plain 14 (v := ?_) hHC hH0 (by simp only [List.getElem?_toArray, List.getElem?_cons_succ, List.getElem?_cons_zero]; rfl) rfl (by kernel_rfl) ?_ ?_
            rotate_left 1
            · (intro w hSw; (try dsimp only at hSw); go_simp; try with_reducible rfl)
            try simp only [Act.put, List.setIfInBounds_toArray, List.set_cons_zero, List.set_cons_succ]
            refine wpAnyH_done (by kernel_rfl) ?_ _
            (try dsimp only at hH0)
            go_split_ands
            clear hHC
            go_wp2_with fail
            refine hold_start (S := (fun w' => wa.heap.size ≤ w'.heap.size ∧ Below w.heap.size w w' ∧ wr.heap.size + 0 ≤ w'.heap.size)) (by kernel_rfl) (by kernel_rfl) (by intro _ _ d _ _ h; cases d <;> exact h) ?_ (fun hHC hH0 => ?_)
            · (first | (go_keep; done) | ((try go_split_ands); (repeat' apply And.intro) <;> first | assumption | (with_reducible refine Rd.below ?_ hb1; assumption) | (with_reducible refine Rd.drew ?_; repeat' (first | assumption | (with_reducible refine Rd.alloc ?_ _))) | (refine (hb1.cell (by first | omega | (simp; done) | (simp; omega))).trans ?_; first | assumption | simp) | (exact below_step hb1 (by first | omega | (simp; done) | (simp; omega)) (by assumption)) | (have hz' := hb1.size; (try simp at hz'); omega) | ((repeat' (first | assumption | (with_reducible exact Below.refl _ _) | (with_reducible refine Below.drew ?_) | (with_reducible refine Below.alloc ?_ ?_ _) | (with_reducible refine Below.setCell ?_ ?_ _) | omega | (simp; done) | (simp; omega))); done) | go_simp | (simp; done) | (simp; omega)))
            refine hold_plain 0 (v := ?_) hHC hH0 (by simp only [List.getElem?_toArray, List.getElem?_cons_succ, List.getElem?_cons_zero]; rfl) rfl (by kernel_rfl) ?_ ?_
            rotate_left 1
            · (intro w hSw; (try dsimp only at hSw); go_simp; try with_reducible rfl)
            try simp only [Act.put, List.setIfInBounds_toArray, List.set_cons_zero, List.set_cons_succ]
            refine hold_plain 1 (v := ?_) hHC hH0 (by simp only [List.getElem?_toArray, List.getElem?_cons_succ, List.getElem?_cons_zero]; rfl) rfl (by kernel_rfl) ?_ ?_
            rotate_left 1
            · (intro w hSw; (try dsimp only at hSw); go_simp; try with_reducible rfl)
            try simp only [Act.put, List.setIfInBounds_toArray, List.set_cons_zero, List.set_cons_succ]
            refine hold_plain 2 (v := ?_) hHC hH0 (by simp only [List.getElem?_toArray, List.getElem?_cons_succ, List.getElem?_cons_zero]; rfl) rfl (by kernel_rfl) ?_ ?_
            rotate_left 1
            · (intro w hSw; (try dsimp only at hSw); go_simp; try with_reducible rfl)
            try simp only [Act.put, List.setIfInBounds_toArray, List.set_cons_zero, List.set_cons_succ]
            refine hold_plain 3 (v := ?_) hHC hH0 (by simp only [List.getElem?_toArray, List.getElem?_cons_succ, List.getElem?_cons_zero]; rfl) rfl (by kernel_rfl) ?_ ?_
            rotate_left 1
            · (intro w hSw; (try dsimp only at hSw); go_simp; try with_reducible rfl)
            try simp only [Act.put, List.setIfInBounds_toArray, List.set_cons_zero, List.set_cons_succ]
            refine hold_plain 4 (v := ?_) hHC hH0 (by simp only [List.getElem?_toArray, List.getElem?_cons_succ, List.getElem?_cons_zero]; rfl) rfl (by kernel_rfl) ?_ ?_
            rotate_left 1
            · (intro w hSw; (try dsimp only at hSw); go_simp; try with_reducible rfl)
            try simp only [Act.put, List.setIfInBounds_toArray, List.set_cons_zero, List.set_cons_succ]
            refine hold_no 5 hHC hH0 (by simp only [List.getElem?_toArray, List.getElem?_cons_succ, List.getElem?_cons_zero]; rfl) rfl (by kernel_rfl) (by kernel_rfl) ?_
            try simp only [Act.put, List.setIfInBounds_toArray, List.set_cons_zero, List.set_cons_succ]
            refine hold_no 6 hHC hH0 (by simp only [List.getElem?_toArray, List.getElem?_cons_succ, List.getElem?_cons_zero]; rfl) rfl (by kernel_rfl) (by kernel_rfl) ?_
            try simp only [Act.put, List.setIfInBounds_toArray, List.set_cons_zero, List.set_cons_succ]
            refine hold_no 7 hHC hH0 (by simp only [List.getElem?_toArray, List.getElem?_cons_succ, List.getElem?_cons_zero]; rfl) rfl (by kernel_rfl) (by kernel_rfl) ?_
            try simp only [Act.put, List.setIfInBounds_toArray, List.set_cons_zero, List.set_cons_succ]
            refine hold_no 8 hHC hH0 (by simp only [List.getElem?_toArray, List.getElem?_cons_succ, List.getElem?_cons_zero]; rfl) rfl (by kernel_rfl) (by kernel_rfl) ?_
            try simp only [Act.put, List.setIfInBounds_toArray, List.set_cons_zero, List.set_cons_succ]
            refine hold_no 9 hHC hH0 (by simp only [List.getElem?_toArray, List.getElem?_cons_succ, List.getElem?_cons_zero]; rfl) rfl (by kernel_rfl) (by kernel_rfl) ?_
            try simp only [Act.put, List.setIfInBounds_toArray, List.set_cons_zero, List.set_cons_succ]
            refine hold_no 10 hHC hH0 (by simp only [List.getElem?_toArray, List.getElem?_cons_succ, List.getElem?_cons_zero]; rfl) rfl (by kernel_rfl) (by kernel_rfl) ?_
            try simp only [Act.put, List.setIfInBounds_toArray, List.set_cons_zero, List.set_cons_succ]
            refine hold_no 11 hHC hH0 (by simp only [List.getElem?_toArray, List.getElem?_cons_succ, List.getElem?_cons_zero]; rfl) rfl (by kernel_rfl) (by kernel_rfl) ?_
            try simp only [Act.put, List.setIfInBounds_toArray, List.set_cons_zero, List.set_cons_succ]
            refine hold_no 12 hHC hH0 (by simp only [List.getElem?_toArray, List.getElem?_cons_succ, List.getElem?_cons_zero]; rfl) rfl (by kernel_rfl) (by kernel_rfl) ?_
            try simp only [Act.put, List.setIfInBounds_toArray, List.set_cons_zero, List.set_cons_succ]
            refine hold_no 13 hHC hH0 (by simp only [List.getElem?_toArray, List.getElem?_cons_succ, List.getElem?_cons_zero]; rfl) rfl (by kernel_rfl) (by kernel_rfl) ?_
            try simp only [Act.put, List.setIfInBounds_toArray, List.set_cons_zero, List.set_cons_succ]
            refine hold_plain 14 (v := ?_) hHC hH0 (by simp only [List.getElem?_toArray, List.getElem?_cons_succ, List.getElem?_cons_zero]; rfl) rfl (by kernel_rfl) ?_ ?_
            rotate_left 1
            · (intro w hSw; (try dsimp only at hSw); go_simp; try with_reducible rfl)
            try simp only [Act.put, List.setIfInBounds_toArray, List.set_cons_zero, List.set_cons_succ]
            refine wpAnyH_done (by kernel_rfl) ?_ _
            (try dsimp only at hH0)
            go_split_ands
            clear hHC
            obtain ⟨wz, hwz⟩ : ∃ wz, wz = wr.drew.drew := ⟨_, rfl⟩
            have hbz : Below wa.heap.size wa wz := by rw [hwz]; exact hbq.drew.drew
            have hzz := hbz.size
            rw [← hwz]
            have hj2 : j ≤ M.length := hj
            clear hwz hnl hnl2 hnl3
            have hOz := Lib.hid (OwnD.below hOa.out hbz)
            have hgz := (hOz.out.lt g rfl).2
            have hjn : (j : Int) ≤ (M.length : Int) := by omega
            have hcM : M.length ≤ c' := OwnD.cap hOz.out
            have hjc : j ≤ c' := by omega
            have hjc2 : (j : Int) ≤ (c' : Int) := by omega
            have hcM2 : (M.length : Int) ≤ (c' : Int) := by omega
            have HL1 : Hid ((flatD (M.take j)).length = j * 3) := Lib.hid (by rw [flatD_len, List.length_take]; omega)
            have HL3 : Hid ((flatD (M.drop j)).length = (M.length - j) * 3) := Lib.hid (by rw [flatD_len, List.length_drop])
            have HQX := Lib.hid ((hbz.cell (p := ⟨b, off + k * 3, none⟩) (by simp; omega)).trans hcx')
            have HQY := Lib.hid ((hbz.cell (p := ⟨b, off + k * 3 + 1, none⟩) (by simp; omega)).trans hcy')
            have HQD := Lib.hid ((hbz.cell (p := ⟨b, off + k * 3 + 2, none⟩) (by simp; omega)).trans hcd')
            have hbz2 : b < wz.heap.size := by omega
            have HBZ := Lib.hid (hBa.trans (hbz.mono (by have := hBa.size; omega)))
            have tokA : True := trivial
            have tokB : True := trivial
            by_cases hcj : c' = j
            all_goals first | (exfalso; omega; done) | (
              go_wp2_with (first
                | (have _t := tokA
                   at_builtin
                   refine wpList_append_own_at _ rfl _ _ 24 rfl wz.heap.size 51 i0 (.agg #[.int .i64 0, .int .i64 0, .bool false]) 3 24 Try.underlying24 hi hz0 hz1 hz2 rfl (by decide) (.slice (some ⟨wz.heap.size, 0, none⟩) 0 0) 0 [] (by rfl) (OwnD.new wz wz.heap.size (Nat.le_refl _) _ rfl) ⟨g, 0, none⟩ j _ (flatD (M.take j)) (by rfl) HL1.out (OwnD.src_take (OwnD.alloc hOz.out _) j) (flatD_one _) (by unfold maxLen; omega) (by omega) (by simp) ?_
                   intro v3 w3 hown3 hgrow3 hnil3 hat3
                   obtain ⟨g3, c3, rfl, hg3, hg3', hc3⟩ := own_some hown3 (fun h => by have := (hnil3.1 h).1; cases this)
                   have hG3 : Below wz.heap.size wz w3 := ((Below.refl _ _).alloc (Nat.le_refl _) _).grown hgrow3 (by simp) (fun k h => by simp [Value.ownBlock] at h; omega)
                   have hO3 := Lib.hid (own_below hOz.out hG3)
                   have hN3 := Lib.hid hown3
                   have hx3 := (hG3.cell (p := ⟨b, off + k * 3, none⟩) hbz2).trans HQX.out
                   have hy3 := (hG3.cell (p := ⟨b, off + k * 3 + 1, none⟩) hbz2).trans HQY.out
                   have hd3 := (hG3.cell (p := ⟨b, off + k * 3 + 2, none⟩) hbz2).trans HQD.out
                   have hs3 := hG3.size
                   have HG3 := Lib.hid hG3
                   have hb3 : b < w3.heap.size := by omega
                   clear hown3 hgrow3 hnil3 hat3 hG3 tokA)
                | (have _t := tokB
                   at_builtin
                   refine wpList_append_own_at _ rfl _ _ 24 rfl wz.heap.size 51 i0 (.agg #[.int .i64 0, .int .i64 0, .bool false]) 3 24 Try.underlying24 hi hz0 hz1 hz2 rfl (by decide) (.slice (some ⟨g3, 0, none⟩) (0 + j) c3) (0 + j) ([] ++ flatD (M.take j)) (by first | rfl | (simp; rfl)) (World.ownsRow.alloc hN3.out _) ⟨w3.heap.size, 0, none⟩ 1 1 [.int .i64 x, .int .i64 y, .bool d] (by rfl) rfl (dom_three_new _ _ _ _ _) (by intro u hu; simp at hu; rcases hu with rfl | rfl | rfl <;> rfl) (by unfold maxLen; omega) (by omega) (by simp; omega) ?_
                   intro v4 w4 hown4 hgrow4 hnil4 hat4
                   obtain ⟨g4, c4, rfl, hg4, hg4', hc4⟩ := own_some hown4 (fun h => by have := (hnil4.1 h).1; cases this)
                   have hG4 : Below wz.heap.size wz w4 := (HG3.out.alloc hs3 _).grown hgrow4 (by simp; omega) (fun k h => by simp [Value.ownBlock] at h; omega)
                   have hO4 := Lib.hid (own_below hOz.out hG4)
                   have hN4 := Lib.hid hown4
                   have hs4 := hG4.size
                   have HG4 := Lib.hid hG4
                   clear hown4 hgrow4 hnil4 hat4 hG4 hx3 hy3 hd3 hO3 hN3 HG3 tokB)
                | (at_builtin
                   first
                     | refine wpList_append_own_at _ rfl _ _ 24 rfl wz.heap.size 51 i0 (.agg #[.int .i64 0, .int .i64 0, .bool false]) 3 24 Try.underlying24 hi hz0 hz1 hz2 rfl (by decide) (.slice (some ⟨g4, 0, none⟩) (0 + j + 1) c4) (0 + j + 1) ([] ++ flatD (M.take j) ++ [.int .i64 x, .int .i64 y, .bool d]) (by first | rfl | (simp; rfl)) hN4.out ⟨g, j * 3, none⟩ (M.length - j) _ (flatD (M.drop j)) (by rfl) HL3.out (OwnD.src_drop hO4.out j) (flatD_one _) (by unfold maxLen; omega) (by omega) (by omega) ?_
                     | refine wpList_append_own_at _ rfl _ _ 24 rfl wz.heap.size 51 i0 (.agg #[.int .i64 0, .int .i64 0, .bool false]) 3 24 Try.underlying24 hi hz0 hz1 hz2 rfl (by decide) (.slice (some ⟨g4, 0, none⟩) (0 + j + 1) c4) (0 + j + 1) ([] ++ flatD (M.take j) ++ [.int .i64 x, .int .i64 y, .bool d]) (by first | rfl | (simp; rfl)) hN4.out ⟨g, 0, none⟩ (M.length - j) _ (flatD (M.drop j)) (by rfl) HL3.out (src_none (by have h := HL3.out; omega)) (flatD_one _) (by unfold maxLen; omega) (by omega) (by omega) ?_
                   intro v5 w5 hown5 hgrow5 hnil5 hat5
                   obtain ⟨g5, c5, rfl, hg5, hg5', hc5⟩ := own_some hown5 (fun h => by have := (hnil5.1 h).1; cases this)
                   have hG5 : Below wz.heap.size wz w5 := HG4.out.grown hgrow5 hs4 (fun k h => by simp [Value.ownBlock] at h; omega)
                   have hNN : 0 + j + 1 + (M.length - j) = (M.take j ++ (x, y, d) :: M.drop j).length := by simp; omega
                   have HNN := Lib.hid hNN
                   have HO5 : Hid (OwnD w5 w.heap.size (.slice (some ⟨g5, 0, none⟩) (M.take j ++ (x, y, d) :: M.drop j).length c5) (M.take j ++ (x, y, d) :: M.drop j)) := Lib.hid (by
                     unfold OwnD
                     rw [flatD_append, flatD_cons]
                     rw [hNN] at hown5
                     refine own_base ?_ (show w.heap.size ≤ wz.heap.size by omega)
                     simpa using hown5)
                   have HB5 : Below w.heap.size w w5 := HBZ.out.trans (hG5.mono HBZ.out.size)
                   clear hown5 hgrow5 hnil5 hat5 hG5 hNN))
              go_roundw
              case rel => exact ⟨k + 1, M.take j ++ (x, y, d) :: M.drop j, g5, c5, by omega, by go_num, by rw [← HNN.out]; first | rfl | (congr 1; omega) | simp, HO5, Lib.hid (by rw [srt_yes hv.out hd, ← hM.out]; exact (ins_at hLo.out HHi.out).symm), HB5⟩
              case measure => simp [intOf]; omega
              )
      · have hd' : domB x y d = false := by simpa using hd
        have HM2 : Hid (M = srtL (L.take (k + 1))) := Lib.hid (by rw [srt_no hv.out hd']; exact hM.out)
        go_wp2
        go_roundw
        case rel => exact ⟨k + 1, M, g, c', by omega, by go_num, rfl, hOa, HM2, hBa⟩
        case measure => simp [intOf]; omega
    · have hkn : k = n := by omega
      have HL : Hid (M = srtL L) := Lib.hid (by rw [hM.out, hkn, ← HZ.out, List.take_length])
      clear hkn hM hr
      go_wp2
      go_ret
      exact ⟨_, c', (by show Ending.returned (Value.slice (some ⟨g, 0, none⟩) M.length c') = _; rw [HL.out]), by rw [← HL.out]; exact hO.out, hB⟩
end Go.Proofs.Ytbkoignjagobaaa
