/-
  The draw of a region with dominoes in it.
-/
import Derived.Test.YtbkoignjagobaaaDoorGreW
namespace Go.Proofs.YtbkoignjagobaaaDoor
open Go.RowKit
set_option linter.unusedVariables false
set_option linter.unusedSimpArgs false

set_option maxHeartbeats 1600000 in
set_option maxRecDepth 100000 in
theorem drawPar_any (a : Option Addr) (n c : Nat) (zs : List Int) (w : World) (K : CodeOk w a n zs) :
    Calls Tryd.prog 5 #[.slice a n c] w fun e w' => ∃ (b m d : Nat) (rs : List Int) (o d' : Nat) (G : List DomI), e = .returned (.tuple #[.agg #[.slice (some ⟨b, 0, none⟩) m d], .slice (some ⟨o, 0, none⟩) G.length d']) ∧ rs.length = m ∧ m ≤ 5 ∧ rokB rs = true ∧ accTo (setS rs) G G.length = true ∧ G.length ≤ 64 ∧ RdI w' (some ⟨b, 0, none⟩) rs ∧ RdD w' (some ⟨o, 0, none⟩) G ∧ Below w.heap.size w w' := by
  have HK := Lib.hid K
  have e0 : Below w.heap.size w (w.alloc (.cells #[.slice none 0 0] 26)) := Below.alloc (Below.refl _ _) (Nat.le_refl _) _
  have HE0 := Lib.hid e0
  have HP := Lib.hid (Box1.new w (.slice none 0 0) 26)
  clear K e0
  go_enter Tryd.func5, Tryd.ntmps5
  go_wp2_with (go_at_call 14; fail)
  refine (l01New_any a n c zs _ HK.out.len HK.out.le HK.out.bytes (Rd.below HK.out.rd HE0.out)).mono ?_
  rintro e w2 ⟨g, rfl, hg, hc, hb⟩
  simp at hg
  have hs2 := hb.size
  simp at hs2
  have P2 := Lib.hid (HP.out.below hb)
  have H2 : Hid (At w w2 g a n c) := Lib.hid ⟨HE0.out.trans (hb.mono (by simp)), hc, by omega⟩
  have hpg : w.heap.size ≠ g := by omega
  clear hb hc HP HE0 hg
  go_wp2_with (go_at_call 15; fail)
  refine (l03Region_at HK.out H2.out).mono ?_
  rintro e w4 ⟨b, m, d, rs, rfl, hok, hlen, hm1, hm5, hbg, hO, hat, hgw⟩
  obtain ⟨hb1, hb2⟩ := World.ownsRow.lt hO b rfl
  have P4 := Lib.hid (P2.out.grown hgw hpg)
  have H4 := Lib.hid hat
  have hs4 := hgw.size
  have R4 : Hid (RdI w4 (some ⟨b, 0, none⟩) rs) := Lib.hid (Rd.of_own (B := w2.heap.size) (by have := hO; unfold OwnI at this; rw [hlen] at this; exact this))
  have HOK := Lib.hid hok
  have HL := Lib.hid hlen
  clear hO hat hgw hok hlen P2 H2
  go_wp2_with fail
  obtain ⟨q, hq⟩ : ∃ q, q = w4.heap.size := ⟨_, rfl⟩
  have e1 : Below w4.heap.size w4 (w4.alloc (.cells #[.slice (some ⟨b, 0, none⟩) m d] 26)) := Below.alloc (Below.refl _ _) (Nat.le_refl _) _
  have P5 := Lib.hid (P4.out.below e1)
  have H5 := Lib.hid (H4.out.below e1)
  have R5 := Lib.hid (Rd.below R4.out e1)
  have hgl : g < w4.heap.size := H4.out.lt
  have hq5 : (w4.alloc (.cells #[.slice (some ⟨b, 0, none⟩) m d] 26)).cell? ⟨q, 0, none⟩ = some (.slice (some ⟨b, 0, none⟩) m d) := by rw [hq]; simp
  have hql : q < (w4.alloc (.cells #[.slice (some ⟨b, 0, none⟩) m d] 26)).heap.size := by rw [hq]; simp
  have hbl : b < (w4.alloc (.cells #[.slice (some ⟨b, 0, none⟩) m d] 26)).heap.size := by simp; omega
  have hpl : w.heap.size < (w4.alloc (.cells #[.slice (some ⟨b, 0, none⟩) m d] 26)).heap.size := by simp; omega
  have hqg : q ≠ g := by omega
  have hpq : w.heap.size ≠ q := by omega
  have hbp : b ≠ w.heap.size := by omega
  rw [← hq]
  obtain ⟨w5, hw5⟩ : ∃ w5, w5 = w4.alloc (.cells #[.slice (some ⟨b, 0, none⟩) m d] 26) := ⟨_, rfl⟩
  rw [← hw5] at P5 H5 R5 hq5 hql hbl hpl ⊢
  clear hw5 e1 P4 H4 R4 hq hgl hb2 hs4 hs2 hb1
  refine hold_start (S := (fun w' => w'.cell? ⟨q, 0, none⟩ = some (.slice (some ⟨b, 0, none⟩) m d) ∧ w5.heap.size ≤ w'.heap.size)) (by kernel_rfl) (by kernel_rfl) (by intro _ _ d _ _ h; cases d <;> exact h) ?_ (fun hHC hH0 => ?_)
  · ((try dsimp only); refine ⟨?_, ?_⟩ <;> first | (with_reducible assumption) | (exact (World.cell?_setCell_far _ _ _ _ hpq).trans (by with_reducible assumption)) | omega | (simp; done) | (simp; omega))
  refine hold_plain 0 (v := ?_) hHC hH0 (by simp only [List.getElem?_toArray, List.getElem?_cons_succ, List.getElem?_cons_zero]; rfl) rfl (by kernel_rfl) ?_ ?_
  rotate_left 1
  · (intro w hSw; (try dsimp only at hSw); go_simp; try with_reducible rfl)
  try simp only [Act.put, List.setIfInBounds_toArray, List.set_cons_zero, List.set_cons_succ]
  refine hold_plain 1 (v := ?_) hHC hH0 (by simp only [List.getElem?_toArray, List.getElem?_cons_succ, List.getElem?_cons_zero]; rfl) rfl (by kernel_rfl) ?_ ?_
  rotate_left 1
  · (intro w hSw; (try dsimp only at hSw); go_simp; try with_reducible rfl)
  try simp only [Act.put, List.setIfInBounds_toArray, List.set_cons_zero, List.set_cons_succ]
  refine hold_plain 2 (v := ?_) hHC hH0 (by simp only [List.getElem?_toArray, List.getElem?_cons_succ, List.getElem?_cons_zero]; rfl) rfl (by kernel_rfl) ?_ ?_
  rotate_left 1
  · (intro w hSw; (try dsimp only at hSw); go_simp; try with_reducible rfl)
  try simp only [Act.put, List.setIfInBounds_toArray, List.set_cons_zero, List.set_cons_succ]
  refine hold_call0 3 (by simp only [List.getElem?_toArray, List.getElem?_cons_succ, List.getElem?_cons_zero]; rfl) rfl (by kernel_rfl) (fun K hK => ?_)
  go_simp
  (go_at_call 16; refine (greedy_at HK.out (H5.out.drewN 1) b m d rs HOK.out HL.out (by omega) R5.out hbg hbl).mono ?_; rintro e w6 ⟨o, d', G, rfl, hacc, hG64, hO, hat, hgw⟩; have hq6 : w6.cell? ⟨q, 0, none⟩ = some (.slice (some ⟨b, 0, none⟩) m d) := (far_of hgw q 0 hql hqg).trans hq5; have hs6 : w5.heap.size ≤ w6.heap.size := hgw.size; have P6 := Lib.hid (P5.out.grown (w := w5.drewN 1) hgw hpg); obtain ⟨p1, p2, p3⟩ := id P6.out; have hol : w5.heap.size ≤ o := (World.ownsRow.lt hO o rfl).1; have R6 := Lib.hid (Rd.grown (w := w5.drewN 1) R5.out hgw (fun b' off e k => by cases e; exact hbg (by cases k; rfl))); have D6 := Lib.hid (OwnD.rd hO rfl); have H6 := Lib.hid hat; have HACC := Lib.hid hacc; clear hO hat hgw hacc)
  refine hK.out _ _ ?_ (fun hH1 => ?_)
  · ((try dsimp only); refine ⟨?_, ?_⟩ <;> first | (with_reducible assumption) | (exact (World.cell?_setCell_far _ _ _ _ hpq).trans (by with_reducible assumption)) | omega | (simp; done) | (simp; omega))
  clear hK K hH0
  try simp only [Act.put, List.setIfInBounds_toArray, List.set_cons_zero, List.set_cons_succ]
  refine hold_call0 4 (by simp only [List.getElem?_toArray, List.getElem?_cons_succ, List.getElem?_cons_zero]; rfl) rfl (by kernel_rfl) (fun K hK => ?_)
  go_simp
  refine hK.out _ _ ?_ (fun hH2 => ?_)
  · ((try dsimp only); refine ⟨?_, ?_⟩ <;> first | (with_reducible assumption) | (exact (World.cell?_setCell_far _ _ _ _ hpq).trans (by with_reducible assumption)) | omega | (simp; done) | (simp; omega))
  clear hK K hH1
  try simp only [Act.put, List.setIfInBounds_toArray, List.set_cons_zero, List.set_cons_succ]
  refine hold_plain 5 (v := ?_) hHC hH2 (by simp only [List.getElem?_toArray, List.getElem?_cons_succ, List.getElem?_cons_zero]; rfl) rfl (by kernel_rfl) ?_ ?_
  rotate_left 1
  · (intro w hSw; (try dsimp only at hSw); go_simp; try with_reducible rfl)
  try simp only [Act.put, List.setIfInBounds_toArray, List.set_cons_zero, List.set_cons_succ]
  refine wpAnyH_done (by kernel_rfl) ?_ _
  (try dsimp only at hH2)
  go_split_ands
  clear hHC
  have hpc : (w6.setCell ⟨w.heap.size, 0, none⟩ (.slice (some ⟨b, 0, none⟩) m d)).cell? ⟨w.heap.size, 0, none⟩ = some (.slice (some ⟨b, 0, none⟩) m d) := World.cell?_setCell_same _ _ _ p2
  have R7 := Lib.hid (rd_far (i := 0) R6.out (fun b' off e => by cases e; exact hbp) (.slice (some ⟨b, 0, none⟩) m d))
  have D7 := Lib.hid (rd_far (q := w.heap.size) (i := 0) D6.out (fun b' off e => by have e2 : o = b' := by { injection e with e; injection e }; omega) (.slice (some ⟨b, 0, none⟩) m d))
  have HB7 : Hid (Below w.heap.size w (w6.setCell ⟨w.heap.size, 0, none⟩ (.slice (some ⟨b, 0, none⟩) m d))) := Lib.hid (H6.out.1.setCell (p := ⟨w.heap.size, 0, none⟩) (Nat.le_refl _) _)
  clear p1 p2 p3 P6 R6 D6 H6
  go_wp2_with fail
  exact bodyPost_ret (v := .tuple #[.agg #[.slice (some ⟨b, 0, none⟩) m d], .slice (some ⟨o, 0, none⟩) G.length d']) (by simp [results, Tryd.results5, go_sem, hpc]) rfl ⟨b, m, d, rs, o, d', G, rfl, HL.out, hm5, HOK.out, HACC.out, hG64, R7.out, D7.out, HB7.out⟩
end Go.Proofs.YtbkoignjagobaaaDoor
