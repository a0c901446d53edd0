/-
  The draw of dominoes laid greedily in a region.
-/
import Derived.Test.YtbkoignjagobaaaDoorGre
import Derived.Test.YtbkoignjagobaaaDoorDat
import Derived.Test.YtbkoignjagobaaaDoorDomB
import Derived.Test.YtbkoignjagobaaaDoorCount
import Derived.Test.YtbkoignjagobaaaDoorSortS
import Derived.Deep.DeepCutAuto
import Derived.Maps.AppendAt
namespace Go.Proofs.YtbkoignjagobaaaDoor
open Go.RowKit
set_option linter.unusedVariables false
set_option linter.unusedSimpArgs false

set_option maxHeartbeats 6400000 in
set_option maxRecDepth 100000 in
theorem greedy_at {w0 w1 : World} {a : Option Addr} {n g c : Nat} {cs : List Int} (K : CodeOk w0 a n cs) (h : At w0 w1 g a n c) (b m0 d0 : Nat) (rs : List Int) (hok : rokB rs = true) (hlen : rs.length = m0) (hm : m0 ≤ 9) (hrd : RdI w1 (some ⟨b, 0, none⟩) rs) (hbg : b ≠ g) (hbl0 : b < w1.heap.size) :
    Calls Tryd.prog 16 #[.pointer (some ⟨g, 0, none⟩), .agg #[.slice (some ⟨b, 0, none⟩) m0 d0]] w1 fun e w2 => ∃ (o d' : Nat) (G : List DomI), e = .returned (.slice (some ⟨o, 0, none⟩) G.length d') ∧ accTo (setS rs) G G.length = true ∧ G.length ≤ 64 ∧ OwnD w2 w1.heap.size (.slice (some ⟨o, 0, none⟩) G.length d') G ∧ At w0 w2 g a n c ∧ w1.grownBy w2 (some g) := by
  obtain ⟨i0, hinf, hz0, hz1, hz2⟩ := info_parts domInfo
  have HK := Lib.hid K
  have hgl := h.lt
  have hw0 : w0.heap.size ≤ w1.heap.size := h.1.size
  have HZ := Lib.hid hlen
  have HOK := Lib.hid hok
  have HCo := Lib.hid (fun (W : World) (h : RdI W (some ⟨b, 0, none⟩) rs) => specCellsOf_any (some ⟨b, 0, none⟩) m0 d0 rs W HZ.out (by omega) h)
  have HHas := Lib.hid (fun (W : World) (x y : Int) (h : RdI W (some ⟨b, 0, none⟩) rs) => specHas_any (some ⟨b, 0, none⟩) m0 d0 rs x y W HZ.out (by omega) h)
  have hM64 := coL_len rs
  obtain ⟨M, hM⟩ : ∃ M, M = coL rs := ⟨_, rfl⟩
  rw [← hM] at HCo hM64
  have HM := Lib.hid hM
  have HA := Lib.hid ((h.alloc (.cells #[.slice (some ⟨b, 0, none⟩) m0 d0] 26)).alloc (.cells #[] 34))
  have HG : Hid (w1.grownBy ((w1.alloc (.cells #[.slice (some ⟨b, 0, none⟩) m0 d0] 26)).alloc (.cells #[] 34)) (some g)) := Lib.hid (gc_alloc (gc_alloc (World.grownBy.refl _ _) _) _)
  have HP := Lib.hid ((Box1.new w1 (.slice (some ⟨b, 0, none⟩) m0 d0) 26).below (Below.alloc (Below.refl _ _) (Nat.le_refl _) (.cells #[] 34)))
  have HO : Hid (OwnD ((w1.alloc (.cells #[.slice (some ⟨b, 0, none⟩) m0 d0] 26)).alloc (.cells #[] 34)) w1.heap.size (.slice (some ⟨w1.heap.size + 1, 0, none⟩) 0 0) []) := Lib.hid (by simpa using OwnD.new (w1.alloc (.cells #[.slice (some ⟨b, 0, none⟩) m0 d0] 26)) w1.heap.size (by simp) _ rfl)
  have HRD : Hid (RdI ((w1.alloc (.cells #[.slice (some ⟨b, 0, none⟩) m0 d0] 26)).alloc (.cells #[] 34)) (some ⟨b, 0, none⟩) rs) := Lib.hid (Rd.alloc (Rd.alloc hrd _) _)
  clear hM hok hlen hrd K h
  go_enter Tryd.func16, Tryd.ntmps16
  go_wp2_with (go_at_call 28; fail)
  refine (HCo.out _ HRD.out).mono ?_
  rintro e wl ⟨al, c1, rfl, hOl, hbl⟩
  have HS : Hid (GrS w0 w1 wl g a n c (some ⟨b, 0, none⟩) rs al M w1.heap.size (.slice (some ⟨b, 0, none⟩) m0 d0) (w1.heap.size + 1) 0 0 []) := Lib.hid
    ⟨HA.out.below hbl, gr_below HG.out hbl, own_below HO.out hbl, rfl, Rd.below HRD.out hbl, Rd.of_own hOl, by omega,
      fun b' off e => by
        have h1 := hOl.lt b' (by rw [e]; rfl)
        simp at h1
        omega,
      fun b' off e => by cases e; exact ⟨hbg, hbl0⟩, hw0, HP.out.below hbl, by omega, by omega⟩
  obtain ⟨p, hp⟩ : ∃ p, p = w1.heap.size := ⟨_, rfl⟩
  obtain ⟨o0, ho0⟩ : ∃ o0, o0 = w1.heap.size + 1 := ⟨_, rfl⟩
  rw [← ho0] at HS ⊢
  rw [← hp] at HS ⊢
  clear hp ho0 hOl hbl HA HG HP HO HRD HCo
  go_wp2_with fail
  go_loopw [5, 7] (fun v i wr => ∃ (k o d : Nat) (G : List DomI), k ≤ M.length ∧ i = .int .i64 (k : Int) ∧ v = .slice (some ⟨o, 0, none⟩) G.length d ∧ Hid (GrS w0 w1 wr g a n c (some ⟨b, 0, none⟩) rs al M p (.slice (some ⟨b, 0, none⟩) m0 d0) o G.length d G) ∧ Hid (GI (setS rs) M k G))
    (fun _ i _ => M.length - (intOf i).toNat)
  case atStart => exact ⟨0, o0, 0, [], Nat.zero_le _, rfl, rfl, HS, Lib.hid (GI.zero _ _)⟩
  case round =>
    clear HS
    obtain ⟨k, o, d, G, hk, rfl, rfl, HS, HGI⟩ := hrel
    have hG64 : G.length ≤ 64 := Nat.le_trans HGI.out.2.2 (Nat.le_trans hk hM64)
    by_cases hlt : k < M.length
    · have hltI : (k : Int) < (M.length : Int) := by omega
      obtain ⟨bl, off, x, y, hal, hbl, hcx, hcy, hv⟩ := RdC_at HS.out.ls hlt
      subst hal
      have hblg : bl ≠ g := (HS.out.nl bl off rfl).1
      have hDat := Lib.hid (fun (x y : Int) (W : World) (h : RdD W (some ⟨o, 0, none⟩) G) => specDat_any (some ⟨o, 0, none⟩) G.length d G x y W rfl (by omega) h)
      obtain ⟨t, ht⟩ : ∃ t, t = dat G x y := ⟨_, rfl⟩
      have HT := Lib.hid ht
      have hDat1 := Lib.hid (fun (W : World) (h : RdD W (some ⟨o, 0, none⟩) G) => (by have g0 := hDat.out x y W h; rw [← HT.out] at g0; exact g0 : Calls Tryd.prog 34 #[.slice (some ⟨o, 0, none⟩) G.length d, .agg #[.int .i64 x, .int .i64 y]] W (fun e w' => e = .returned (.int .i64 t) ∧ Below W.heap.size W w')))
      clear ht
      by_cases hin : t < 0
      · have hge : ¬ t ≥ 0 := by omega
        have hge2 : ¬ 0 ≤ t := by omega
        go_wp2_with (go_at_call 34; fail)
        refine (hDat1.out _ HS.out.rdD).mono ?_
        rintro e w2 ⟨rfl, hb⟩
        have S2 := Lib.hid (HS.out.below hb)
        have hx2 : w2.cell? ⟨bl, off + k * 2, none⟩ = some (.int .i64 x) := (hb.cell (p := ⟨bl, off + k * 2, none⟩) hbl).trans hcx
        have hy2 : w2.cell? ⟨bl, off + k * 2 + 1, none⟩ = some (.int .i64 y) := (hb.cell (p := ⟨bl, off + k * 2 + 1, none⟩) hbl).trans hcy
        have hbl2 : bl < w2.heap.size := Nat.lt_of_lt_of_le hbl hb.size
        clear hb HS hcx hcy hbl hDat1
        go_upto_region 7 with fail
        have SA := Lib.hid ((S2.out.drewN 1).alloc (.cells #[.int .i64 0, .int .i64 0, .bool false] 34))
        have NA : Hid (Box3 ((w2.drewN 1).alloc (.cells #[.int .i64 0, .int .i64 0, .bool false] 34)) w2.heap.size (.int .i64 0) (.int .i64 0) (.bool false)) := Lib.hid (Box3.new (w2.drewN 1) (.int .i64 0) (.int .i64 0) (.bool false) 34)
        have QA := Lib.hid S2.out.newq
        have wf2 : (Lit.int .i64 2).wf = true := WalkArith.wf_i64 (by omega)
        go_cut [8] (fun pv wx => ∃ (q : Nat) (dn : Bool), pv = .pointer (some ⟨q, 0, none⟩) ∧ Hid (GrS w0 w1 wx g a n c (some ⟨b, 0, none⟩) rs (some ⟨bl, off, none⟩) M p (.slice (some ⟨b, 0, none⟩) m0 d0) o G.length d G) ∧ Hid (Box3 wx q (.int .i64 x) (.int .i64 y) (.bool dn)) ∧ Hid (Qf w1 g o p q (some ⟨bl, off, none⟩)))
        case first =>
          have hqbl : w2.heap.size ≠ bl := by omega
          refine hold_start (S := (fun w' => w'.cell? ⟨bl, off + k * 2, none⟩ = some (.int .i64 x) ∧ w'.cell? ⟨bl, off + k * 2 + 1, none⟩ = some (.int .i64 y) ∧ w2.heap.size ≤ w'.heap.size)) (by kernel_rfl) (by kernel_rfl) (by intro _ _ d _ _ h; cases d <;> exact h) ?_ (fun hHC hH0 => ?_)
          · ((try dsimp only); refine ⟨?_, ?_, ?_⟩ <;> first | (with_reducible assumption) | (exact (World.cell?_alloc_past _ _ _ (by first | omega | (simp; omega))).trans (by with_reducible assumption)) | (exact (World.cell?_setCell_far _ _ _ _ hqbl).trans ((World.cell?_setCell_far _ _ _ _ hqbl).trans ((World.cell?_setCell_far _ _ _ _ hqbl).trans (by with_reducible assumption)))) | omega | (simp; done) | (simp; omega))
          refine hold_plain 0 (v := ?_) hHC hH0 (by simp only [List.getElem?_toArray, List.getElem?_cons_succ, List.getElem?_cons_zero]; rfl) rfl (by kernel_rfl) ?_ ?_
          rotate_left 1
          · (intro w hSw; (try dsimp only at hSw); go_simp; try with_reducible rfl)
          try simp only [Act.put, List.setIfInBounds_toArray, List.set_cons_zero, List.set_cons_succ]
          refine hold_plain 1 (v := ?_) hHC hH0 (by simp only [List.getElem?_toArray, List.getElem?_cons_succ, List.getElem?_cons_zero]; rfl) rfl (by kernel_rfl) ?_ ?_
          rotate_left 1
          · (intro w hSw; (try dsimp only at hSw); go_simp; try with_reducible rfl)
          try simp only [Act.put, List.setIfInBounds_toArray, List.set_cons_zero, List.set_cons_succ]
          refine hold_plain 2 (v := ?_) hHC hH0 (by simp only [List.getElem?_toArray, List.getElem?_cons_succ, List.getElem?_cons_zero]; rfl) rfl (by kernel_rfl) ?_ ?_
          rotate_left 1
          · (intro w hSw; (try dsimp only at hSw); go_simp; try with_reducible rfl)
          try simp only [Act.put, List.setIfInBounds_toArray, List.set_cons_zero, List.set_cons_succ]
          refine hold_plain 3 (v := ?_) hHC hH0 (by simp only [List.getElem?_toArray, List.getElem?_cons_succ, List.getElem?_cons_zero]; rfl) rfl (by kernel_rfl) ?_ ?_
          rotate_left 1
          · (intro w hSw; (try dsimp only at hSw); go_simp; try with_reducible rfl)
          try simp only [Act.put, List.setIfInBounds_toArray, List.set_cons_zero, List.set_cons_succ]
          refine hold_plain 4 (v := ?_) hHC hH0 (by simp only [List.getElem?_toArray, List.getElem?_cons_succ, List.getElem?_cons_zero]; rfl) rfl (by kernel_rfl) ?_ ?_
          rotate_left 1
          · (intro w hSw; (try dsimp only at hSw); go_simp; try with_reducible rfl)
          try simp only [Act.put, List.setIfInBounds_toArray, List.set_cons_zero, List.set_cons_succ]
          refine hold_plain 5 (v := ?_) hHC hH0 (by simp only [List.getElem?_toArray, List.getElem?_cons_succ, List.getElem?_cons_zero]; rfl) rfl (by kernel_rfl) ?_ ?_
          rotate_left 1
          · (intro w hSw; (try dsimp only at hSw); go_simp; try with_reducible rfl)
          try simp only [Act.put, List.setIfInBounds_toArray, List.set_cons_zero, List.set_cons_succ]
          refine hold_plain 6 (v := ?_) hHC hH0 (by simp only [List.getElem?_toArray, List.getElem?_cons_succ, List.getElem?_cons_zero]; rfl) rfl (by kernel_rfl) ?_ ?_
          rotate_left 1
          · (intro w hSw; (try dsimp only at hSw); go_simp; try with_reducible rfl)
          try simp only [Act.put, List.setIfInBounds_toArray, List.set_cons_zero, List.set_cons_succ]
          refine hold_plain 7 (v := ?_) hHC hH0 (by simp only [List.getElem?_toArray, List.getElem?_cons_succ, List.getElem?_cons_zero]; rfl) rfl (by kernel_rfl) ?_ ?_
          rotate_left 1
          · (intro w hSw; (try dsimp only at hSw); go_simp; try with_reducible rfl)
          try simp only [Act.put, List.setIfInBounds_toArray, List.set_cons_zero, List.set_cons_succ]
          refine hold_plain 8 (v := ?_) hHC hH0 (by simp only [List.getElem?_toArray, List.getElem?_cons_succ, List.getElem?_cons_zero]; rfl) rfl (by kernel_rfl) ?_ ?_
          rotate_left 1
          · (intro w hSw; (try dsimp only at hSw); go_simp; try with_reducible rfl)
          try simp only [Act.put, List.setIfInBounds_toArray, List.set_cons_zero, List.set_cons_succ]
          refine hold_plain 9 (v := ?_) hHC hH0 (by simp only [List.getElem?_toArray, List.getElem?_cons_succ, List.getElem?_cons_zero]; rfl) rfl (by kernel_rfl) ?_ ?_
          rotate_left 1
          · (intro w hSw; (try dsimp only at hSw); go_simp; try with_reducible rfl)
          try simp only [Act.put, List.setIfInBounds_toArray, List.set_cons_zero, List.set_cons_succ]
          refine hold_plain 10 (v := ?_) hHC hH0 (by simp only [List.getElem?_toArray, List.getElem?_cons_succ, List.getElem?_cons_zero]; rfl) rfl (by kernel_rfl) ?_ ?_
          rotate_left 1
          · (intro w hSw; (try dsimp only at hSw); go_simp; try with_reducible rfl)
          try simp only [Act.put, List.setIfInBounds_toArray, List.set_cons_zero, List.set_cons_succ]
          refine hold_two 11 13 (by simp only [List.getElem?_toArray, List.getElem?_cons_succ, List.getElem?_cons_zero]; rfl) rfl (by simp only [List.getElem?_toArray, List.getElem?_cons_succ, List.getElem?_cons_zero]; rfl) rfl (by kernel_rfl) (fun K hK => ?_) (fun K hK => ?_)
          focus
            go_simp
            (first | (have _t := hH0; go_at_call 33; refine (once_at HK.out (S2.out.drewN 1).at_ 2 wf2).mono ?_; rintro e w3 ⟨dn, rfl, hat, hgw⟩; have hx3 := (far_of hgw bl (off + k * 2) hbl2 hblg).trans hx2; have hy3 := (far_of hgw bl (off + k * 2 + 1) hbl2 hblg).trans hy2; have hs3 : w2.heap.size ≤ w3.heap.size := hgw.size; have hbl3 : bl < w3.heap.size := Nat.lt_of_lt_of_le hbl2 hs3; have S3 := Lib.hid ((S2.out.drewN 1).draw hat hgw); clear hat hgw) | (go_at_call 33; refine (once_at HK.out SA.out.at_ 2 wf2).mono ?_; rintro e w3 ⟨dn, rfl, hat, hgw⟩; have hx3 : w3.cell? ⟨bl, off + k * 2, none⟩ = some (.int .i64 x) := (far_of hgw bl (off + k * 2) (by simp; omega) hblg).trans ((World.cell?_alloc_past _ _ _ hbl2).trans hx2); have hy3 : w3.cell? ⟨bl, off + k * 2 + 1, none⟩ = some (.int .i64 y) := (far_of hgw bl (off + k * 2 + 1) (by simp; omega) hblg).trans ((World.cell?_alloc_past _ _ _ hbl2).trans hy2); have hs3 : w2.heap.size ≤ w3.heap.size := Nat.le_trans (by simp) hgw.size; have S3 := Lib.hid (SA.out.draw hat hgw); have N3 := Lib.hid (NA.out.grown hgw QA.out.ng); obtain ⟨hN0, ⟨n0, n1, n2⟩, f0, f1, f2⟩ := id N3.out; clear hat hgw))
            refine hK.out _ _ ?_ (fun hH1 => ?_)
            · ((try dsimp only); refine ⟨?_, ?_, ?_⟩ <;> first | (with_reducible assumption) | (exact (World.cell?_alloc_past _ _ _ (by first | omega | (simp; omega))).trans (by with_reducible assumption)) | (exact (World.cell?_setCell_far _ _ _ _ hqbl).trans ((World.cell?_setCell_far _ _ _ _ hqbl).trans ((World.cell?_setCell_far _ _ _ _ hqbl).trans (by with_reducible assumption)))) | omega | (simp; done) | (simp; omega))
            clear hK K hH0
            try simp only [Act.put, List.setIfInBounds_toArray, List.set_cons_zero, List.set_cons_succ]
            refine hold_plain 12 (v := ?_) hHC hH1 (by simp only [List.getElem?_toArray, List.getElem?_cons_succ, List.getElem?_cons_zero]; rfl) rfl (by kernel_rfl) ?_ ?_
            rotate_left 1
            · (intro w hSw; (try dsimp only at hSw); go_simp; try with_reducible rfl)
            try simp only [Act.put, List.setIfInBounds_toArray, List.set_cons_zero, List.set_cons_succ]
            refine hold_call0 13 (by simp only [List.getElem?_toArray, List.getElem?_cons_succ, List.getElem?_cons_zero]; rfl) rfl (by kernel_rfl) (fun K hK => ?_)
            go_simp
            refine hK.out _ _ ?_ (fun hH2 => ?_)
            · ((try dsimp only); refine ⟨?_, ?_, ?_⟩ <;> first | (with_reducible assumption) | (exact (World.cell?_alloc_past _ _ _ (by first | omega | (simp; omega))).trans (by with_reducible assumption)) | (exact (World.cell?_setCell_far _ _ _ _ hqbl).trans ((World.cell?_setCell_far _ _ _ _ hqbl).trans ((World.cell?_setCell_far _ _ _ _ hqbl).trans (by with_reducible assumption)))) | omega | (simp; done) | (simp; omega))
            clear hK K hH1
            try simp only [Act.put, List.setIfInBounds_toArray, List.set_cons_zero, List.set_cons_succ]
            refine hold_call0 14 (by simp only [List.getElem?_toArray, List.getElem?_cons_succ, List.getElem?_cons_zero]; rfl) rfl (by kernel_rfl) (fun K hK => ?_)
            go_simp
            refine hK.out _ _ ?_ (fun hH3 => ?_)
            · ((try dsimp only); refine ⟨?_, ?_, ?_⟩ <;> first | (with_reducible assumption) | (exact (World.cell?_alloc_past _ _ _ (by first | omega | (simp; omega))).trans (by with_reducible assumption)) | (exact (World.cell?_setCell_far _ _ _ _ hqbl).trans ((World.cell?_setCell_far _ _ _ _ hqbl).trans ((World.cell?_setCell_far _ _ _ _ hqbl).trans (by with_reducible assumption)))) | omega | (simp; done) | (simp; omega))
            clear hK K hH2
            try simp only [Act.put, List.setIfInBounds_toArray, List.set_cons_zero, List.set_cons_succ]
            refine wpAnyH_done (by kernel_rfl) ?_ _
            (try dsimp only at hH3)
            go_split_ands
            clear hHC
          rotate_left 1
          focus
            go_simp
            refine hK.out _ _ ?_ (fun hH1 => ?_)
            · ((try dsimp only); refine ⟨?_, ?_, ?_⟩ <;> first | (with_reducible assumption) | (exact (World.cell?_alloc_past _ _ _ (by first | omega | (simp; omega))).trans (by with_reducible assumption)) | (exact (World.cell?_setCell_far _ _ _ _ hqbl).trans ((World.cell?_setCell_far _ _ _ _ hqbl).trans ((World.cell?_setCell_far _ _ _ _ hqbl).trans (by with_reducible assumption)))) | omega | (simp; done) | (simp; omega))
            clear hK K hH0
            try simp only [Act.put, List.setIfInBounds_toArray, List.set_cons_zero, List.set_cons_succ]
            refine hold_call0 11 (by simp only [List.getElem?_toArray, List.getElem?_cons_succ, List.getElem?_cons_zero]; rfl) rfl (by kernel_rfl) (fun K hK => ?_)
            go_simp
            (first | (have _t := hH0; go_at_call 33; refine (once_at HK.out (S2.out.drewN 1).at_ 2 wf2).mono ?_; rintro e w3 ⟨dn, rfl, hat, hgw⟩; have hx3 := (far_of hgw bl (off + k * 2) hbl2 hblg).trans hx2; have hy3 := (far_of hgw bl (off + k * 2 + 1) hbl2 hblg).trans hy2; have hs3 : w2.heap.size ≤ w3.heap.size := hgw.size; have hbl3 : bl < w3.heap.size := Nat.lt_of_lt_of_le hbl2 hs3; have S3 := Lib.hid ((S2.out.drewN 1).draw hat hgw); clear hat hgw) | (go_at_call 33; refine (once_at HK.out SA.out.at_ 2 wf2).mono ?_; rintro e w3 ⟨dn, rfl, hat, hgw⟩; have hx3 : w3.cell? ⟨bl, off + k * 2, none⟩ = some (.int .i64 x) := (far_of hgw bl (off + k * 2) (by simp; omega) hblg).trans ((World.cell?_alloc_past _ _ _ hbl2).trans hx2); have hy3 : w3.cell? ⟨bl, off + k * 2 + 1, none⟩ = some (.int .i64 y) := (far_of hgw bl (off + k * 2 + 1) (by simp; omega) hblg).trans ((World.cell?_alloc_past _ _ _ hbl2).trans hy2); have hs3 : w2.heap.size ≤ w3.heap.size := Nat.le_trans (by simp) hgw.size; have S3 := Lib.hid (SA.out.draw hat hgw); have N3 := Lib.hid (NA.out.grown hgw QA.out.ng); obtain ⟨hN0, ⟨n0, n1, n2⟩, f0, f1, f2⟩ := id N3.out; clear hat hgw))
            refine hK.out _ _ ?_ (fun hH2 => ?_)
            · ((try dsimp only); refine ⟨?_, ?_, ?_⟩ <;> first | (with_reducible assumption) | (exact (World.cell?_alloc_past _ _ _ (by first | omega | (simp; omega))).trans (by with_reducible assumption)) | (exact (World.cell?_setCell_far _ _ _ _ hqbl).trans ((World.cell?_setCell_far _ _ _ _ hqbl).trans ((World.cell?_setCell_far _ _ _ _ hqbl).trans (by with_reducible assumption)))) | omega | (simp; done) | (simp; omega))
            clear hK K hH1
            try simp only [Act.put, List.setIfInBounds_toArray, List.set_cons_zero, List.set_cons_succ]
            refine hold_plain 12 (v := ?_) hHC hH2 (by simp only [List.getElem?_toArray, List.getElem?_cons_succ, List.getElem?_cons_zero]; rfl) rfl (by kernel_rfl) ?_ ?_
            rotate_left 1
            · (intro w hSw; (try dsimp only at hSw); go_simp; try with_reducible rfl)
            try simp only [Act.put, List.setIfInBounds_toArray, List.set_cons_zero, List.set_cons_succ]
            refine hold_call0 14 (by simp only [List.getElem?_toArray, List.getElem?_cons_succ, List.getElem?_cons_zero]; rfl) rfl (by kernel_rfl) (fun K hK => ?_)
            go_simp
            refine hK.out _ _ ?_ (fun hH3 => ?_)
            · ((try dsimp only); refine ⟨?_, ?_, ?_⟩ <;> first | (with_reducible assumption) | (exact (World.cell?_alloc_past _ _ _ (by first | omega | (simp; omega))).trans (by with_reducible assumption)) | (exact (World.cell?_setCell_far _ _ _ _ hqbl).trans ((World.cell?_setCell_far _ _ _ _ hqbl).trans ((World.cell?_setCell_far _ _ _ _ hqbl).trans (by with_reducible assumption)))) | omega | (simp; done) | (simp; omega))
            clear hK K hH2
            try simp only [Act.put, List.setIfInBounds_toArray, List.set_cons_zero, List.set_cons_succ]
            refine wpAnyH_done (by kernel_rfl) ?_ _
            (try dsimp only at hH3)
            go_split_ands
            clear hHC
          all_goals (
            go_wp2_with fail
            go_meet
            first
              | exact ⟨w2.heap.size, dn, rfl, Lib.hid (S3.out.three QA.out N3.out _ _ _).1, Lib.hid (S3.out.three QA.out N3.out _ _ _).2, QA⟩
              | exact ⟨w3.heap.size, dn, rfl, Lib.hid (S3.out.alloc _), Lib.hid (Box3.new w3 _ _ _ _), Lib.hid S3.out.newq⟩)
        case rest =>
          obtain ⟨q, dn, rfl, SC, NC, QC⟩ := hcut
          clear SA NA QA S2 hx2 hy2 hbl2 wf2
          go_wp2_with fail
          go_loopw [5, 9] (fun v i wq => ∃ (j : Nat) (dj : Bool), j ≤ 2 ∧ i = .int .i64 (j : Int) ∧ v = .slice (some ⟨o, 0, none⟩) G.length d ∧ Hid (GrS w0 w1 wq g a n c (some ⟨b, 0, none⟩) rs (some ⟨bl, off, none⟩) M p (.slice (some ⟨b, 0, none⟩) m0 d0) o G.length d G) ∧ Hid (Box3 wq q (.int .i64 x) (.int .i64 y) (.bool dj))) (fun _ i _ => 2 - (intOf i).toNat)
          case atStart => exact ⟨0, dn, by omega, rfl, rfl, SC, NC⟩
          case round =>
            clear SC NC
            obtain ⟨j, dj, hj, rfl, rfl, SJ, NJ⟩ := hrel
            by_cases hj2 : j < 2
            · have hjI : (j : Int) < 2 := by omega
              obtain ⟨sx, hsx⟩ : ∃ sx, sx = secX x dj := ⟨_, rfl⟩
              obtain ⟨sy, hsy⟩ : ∃ sy, sy = secY y dj := ⟨_, rfl⟩
              obtain ⟨bd, hbd⟩ : ∃ bd, bd = domB x y dj := ⟨_, rfl⟩
              obtain ⟨bh, hbh⟩ : ∃ bh, bh = hcB rs sx sy := ⟨_, rfl⟩
              obtain ⟨t2, ht2⟩ : ∃ t2, t2 = dat G sx sy := ⟨_, rfl⟩
              have HSEC := Lib.hid (fun (W : World) => (by have g0 := second_any x y dj W; rw [← hsx, ← hsy] at g0; exact g0 : Calls Tryd.prog 24 #[.agg #[.int .i64 x, .int .i64 y, .bool dj]] W (fun e w' => e = .returned (.agg #[.int .i64 sx, .int .i64 sy]) ∧ Below W.heap.size W w')))
              have HDO := Lib.hid (fun (W : World) => (by have g0 := specDom_any x y dj W; rw [← hbd] at g0; exact g0 : Calls Tryd.prog 23 #[.agg #[.int .i64 x, .int .i64 y, .bool dj]] W (fun e w' => e = .returned (.bool bd) ∧ Below W.heap.size W w')))
              have HH := Lib.hid (fun (W : World) (h : RdI W (some ⟨b, 0, none⟩) rs) => (by have g0 := HHas.out W sx sy h; rw [← hbh] at g0; exact g0 : Calls Tryd.prog 35 #[.agg #[.slice (some ⟨b, 0, none⟩) m0 d0], .agg #[.int .i64 sx, .int .i64 sy]] W (fun e w' => e = .returned (.bool bh) ∧ Below W.heap.size W w')))
              have HDA := Lib.hid (fun (W : World) (h : RdD W (some ⟨o, 0, none⟩) G) => (by have g0 := hDat.out sx sy W h; rw [← ht2] at g0; exact g0 : Calls Tryd.prog 34 #[.slice (some ⟨o, 0, none⟩) G.length d, .agg #[.int .i64 sx, .int .i64 sy]] W (fun e w' => e = .returned (.int .i64 t2) ∧ Below W.heap.size W w')))
              have HSX := Lib.hid hsx
              have HSY := Lib.hid hsy
              have HBD := Lib.hid hbd
              have HBH := Lib.hid hbh
              have HT2 := Lib.hid ht2
              clear hsx hsy hbd hbh ht2
              obtain ⟨hN0, ⟨n0, n1, n2⟩, f0, f1, f2⟩ := id NJ.out
              go_wp2_with (go_at_call 24; fail)
              refine (HSEC.out _).mono ?_
              rintro e w4 ⟨rfl, hb⟩
              have S4 := Lib.hid (SJ.out.below hb)
              have N4 := Lib.hid (NJ.out.below hb)
              clear hb SJ NJ hN0 n0 n1 n2 f0 f1 f2
              obtain ⟨hN0, ⟨n0, n1, n2⟩, f0, f1, f2⟩ := id N4.out
              go_wp2_with (go_at_call 23; fail)
              obtain ⟨r, hr⟩ : ∃ r, r = w4.heap.size := ⟨_, rfl⟩
              have S5 := Lib.hid (S4.out.alloc (.cells #[.int .i64 sx, .int .i64 sy] 36))
              have N5 := Lib.hid (N4.out.below (Below.alloc (Below.refl _ _) (Nat.le_refl _) (.cells #[.int .i64 sx, .int .i64 sy] 36)))
              have r05 : (w4.alloc (.cells #[.int .i64 sx, .int .i64 sy] 36)).cell? ⟨r, 0, none⟩ = some (.int .i64 sx) := by rw [hr]; simp
              have r15 : (w4.alloc (.cells #[.int .i64 sx, .int .i64 sy] 36)).cell? ⟨r, 1, none⟩ = some (.int .i64 sy) := by rw [hr]; simp
              have hr5 : r < (w4.alloc (.cells #[.int .i64 sx, .int .i64 sy] 36)).heap.size := by rw [hr]; simp
              rw [← hr]
              obtain ⟨w5, hw5⟩ : ∃ w5, w5 = w4.alloc (.cells #[.int .i64 sx, .int .i64 sy] 36) := ⟨_, rfl⟩
              rw [← hw5] at S5 N5 r05 r15 hr5 ⊢
              clear hw5 hr S4 N4 hN0 n0 n1 n2 f0 f1 f2
              refine (HDO.out _).mono ?_
              rintro e w6 ⟨rfl, hb⟩
              have S6 := Lib.hid (S5.out.below hb)
              have N6 := Lib.hid (N5.out.below hb)
              have r06 : w6.cell? ⟨r, 0, none⟩ = some (.int .i64 sx) := (hb.cell (p := ⟨r, 0, none⟩) hr5).trans r05
              have r16 : w6.cell? ⟨r, 1, none⟩ = some (.int .i64 sy) := (hb.cell (p := ⟨r, 1, none⟩) hr5).trans r15
              have hr6 : r < w6.heap.size := Nat.lt_of_lt_of_le hr5 hb.size
              obtain ⟨hN0, ⟨n0, n1, n2⟩, f0, f1, f2⟩ := id N6.out
              have hp6 := S6.out.bp.2.1
              clear hb S5 N5 r05 r15 hr5
              cases bd
              · have S9 := Lib.hid (S6.out.set1 QC.out 2 (.bool !dj))
                have N9 := Lib.hid (N6.out.put2 (.bool !dj))
                clear S6 N6
                go_wp2_with fail
                go_roundw
                case rel => exact ⟨j + 1, !dj, by omega, by go_num, rfl, S9, N9⟩
                case measure => simp [intOf]; omega
              · go_wp2_with (go_at_call 35; fail)
                refine (HH.out _ S6.out.rd).mono ?_
                rintro e w7 ⟨rfl, hb⟩
                have S7 := Lib.hid (S6.out.below hb)
                have N7 := Lib.hid (N6.out.below hb)
                have r07 : w7.cell? ⟨r, 0, none⟩ = some (.int .i64 sx) := (hb.cell (p := ⟨r, 0, none⟩) hr6).trans r06
                have r17 : w7.cell? ⟨r, 1, none⟩ = some (.int .i64 sy) := (hb.cell (p := ⟨r, 1, none⟩) hr6).trans r16
                have hr7 : r < w7.heap.size := Nat.lt_of_lt_of_le hr6 hb.size
                obtain ⟨hN0, ⟨n0, n1, n2⟩, f0, f1, f2⟩ := id N7.out
                have hp7 := S7.out.bp.2.1
                clear hb S6 N6 r06 r16 hr6
                cases bh
                · have S9 := Lib.hid (S7.out.set1 QC.out 2 (.bool !dj))
                  have N9 := Lib.hid (N7.out.put2 (.bool !dj))
                  clear S7 N7
                  go_wp2_with fail
                  go_roundw
                  case rel => exact ⟨j + 1, !dj, by omega, by go_num, rfl, S9, N9⟩
                  case measure => simp [intOf]; omega
                · go_wp2_with (go_at_call 34; fail)
                  refine (HDA.out _ S7.out.rdD).mono ?_
                  rintro e w8 ⟨rfl, hb⟩
                  have S8 := Lib.hid (S7.out.below hb)
                  have N8 := Lib.hid (N7.out.below hb)
                  have r08 : w8.cell? ⟨r, 0, none⟩ = some (.int .i64 sx) := (hb.cell (p := ⟨r, 0, none⟩) hr7).trans r07
                  have r18 : w8.cell? ⟨r, 1, none⟩ = some (.int .i64 sy) := (hb.cell (p := ⟨r, 1, none⟩) hr7).trans r17
                  have hr8 : r < w8.heap.size := Nat.lt_of_lt_of_le hr7 hb.size
                  obtain ⟨hN0, ⟨n0, n1, n2⟩, f0, f1, f2⟩ := id N8.out
                  have hp8 := S8.out.bp.2.1
                  clear hb S7 N7 r07 r17 hr7
                  by_cases ht2 : t2 < 0
                  · have hs8 : w1.heap.size ≤ w8.heap.size := S8.out.gr.size
                    go_wp2_with (at_builtin; go_must (refine wpList_append_own_at _ rfl _ _ 27 rfl w1.heap.size 34 i0 (.agg #[.int .i64 0, .int .i64 0, .bool false]) 3 24 Tryd.underlying27 hinf hz0 hz1 hz2 rfl (by decide) (.slice (some ⟨o, 0, none⟩) G.length d) G.length (flatD G) (by rfl) (OwnD.alloc S8.out.own _) ⟨w8.heap.size, 0, none⟩ 1 1 [.int .i64 x, .int .i64 y, .bool dj] (by rfl) rfl (dom_three_new _ _ _ _ _) (by intro u hu; simp at hu; rcases hu with rfl | rfl | rfl <;> rfl) (by unfold maxLen; omega) (by omega) (by simp; omega) ?_); intro v3 w9 hown hgrow hnil hat)
                    obtain ⟨o', d', hv3, S9⟩ := GrS.app (S8.out.alloc _) hown hgrow (hat.imp id (fun h => ⟨_, h, by simp⟩))
                    subst hv3
                    have HADD := Lib.hid (GI.add HOK.out HM.out HGI.out hv.out (by rw [← HT.out]; exact hin) HBD.out.symm (by rw [← HSX.out, ← HSY.out]; exact HBH.out.symm) (by rw [← HSX.out, ← HSY.out, ← HT2.out]; exact ht2))
                    have S10 : Hid (GrS w0 w1 w9 g a n c (some ⟨b, 0, none⟩) rs (some ⟨bl, off, none⟩) M p (.slice (some ⟨b, 0, none⟩) m0 d0) o' (G ++ [(x, y, dj)]).length d' (G ++ [(x, y, dj)])) := Lib.hid (by rw [List.length_append]; exact S9)
                    clear S8 N8 S9 hown hgrow hat hnil
                    go_simp
                    go_wp2_with fail
                    go_roundw
                    case rel => exact ⟨k + 1, by omega, by omega, o', d', G ++ [(x, y, dj)], ⟨rfl, by rw [List.length_append]; rfl, rfl⟩, S10, HADD⟩
                    case measure => simp [intOf]; omega
                  · have S9 := Lib.hid (S8.out.set1 QC.out 2 (.bool !dj))
                    have N9 := Lib.hid (N8.out.put2 (.bool !dj))
                    clear S8 N8
                    go_wp2_with fail
                    go_roundw
                    case rel => exact ⟨j + 1, !dj, by omega, by go_num, rfl, S9, N9⟩
                    case measure => simp [intOf]; omega
            · have hjI : ¬ (j : Int) < 2 := by omega
              go_wp2_with fail
              go_roundw
              case rel => exact ⟨k + 1, o, d, G, by omega, by go_num, rfl, SJ, Lib.hid HGI.out.skip⟩
              case measure => simp [intOf]; omega
      · have hge : t ≥ 0 := by omega
        have hge2 : 0 ≤ t := by omega
        go_wp2_with (go_at_call 34; fail)
        refine (hDat1.out _ HS.out.rdD).mono ?_
        rintro e w2 ⟨rfl, hb⟩
        have S2 := Lib.hid (HS.out.below hb)
        clear hb HS hcx hcy hbl hDat1
        go_wp2_with fail
        go_roundw
        case rel => exact ⟨k + 1, o, d, G, by omega, by go_num, rfl, S2, Lib.hid HGI.out.skip⟩
        case measure => simp [intOf]; omega
    · have hltI : ¬ (k : Int) < (M.length : Int) := by omega
      have HEND := Lib.hid (HS.out)
      have HACC := Lib.hid HGI.out.acc
      clear HS HGI
      go_wp2_with fail
      go_ret
      exact ⟨o, d, G, rfl, HACC.out, hG64, HEND.out.own, HEND.out.at_, HEND.out.gr⟩
end Go.Proofs.YtbkoignjagobaaaDoor
