/-
  The draw of a region that can be tiled.
-/
import Derived.Test.YtfjkjnhmlljefaaDrawReg
import Derived.Test.YtfjkjnhmlljefaaCntP
namespace Go.Proofs.Ytfjkjnhmlljefaa
open Go.RowKit
set_option linter.unusedVariables false
set_option linter.unusedSimpArgs false

/-- Rectangles of two or four columns and two to four rows have tilings (the count by the least free cell, evaluated). -/
theorem rect_some : ∀ (a : Fin 2) (b : Fin 3), 1 ≤ Tl.tl 64 (fun j => decide (j % 8 < 2 + 2 * a.val) && decide (j / 8 < 2 + b.val)) := by decide +kernel
theorem rect_bits {W H : Nat} (hW : W ≤ 8) (hH : H ≤ 8) : ∀ j, j < 64 → (setS (List.replicate H (2 ^ W - 1))).testBit j = (decide (j % 8 < W) && decide (j / 8 < H)) := by
  have : ∀ (w h : Fin 9), ∀ j : Fin 64, (setS (List.replicate h.val (2 ^ w.val - 1))).testBit j.val = (decide (j.val % 8 < w.val) && decide (j.val / 8 < h.val)) := by decide +kernel
  intro j hj
  exact this ⟨W, by omega⟩ ⟨H, by omega⟩ ⟨j, hj⟩
theorem rect_at8 {W H : Nat} (hW : W ≤ 8) (hH : H ≤ 8) : Tl.at8 (sxy (setS (List.replicate H (2 ^ W - 1)))) = fun j => decide (j % 8 < W) && decide (j / 8 < H) && decide (j < 64) := by
  funext j
  rw [at_sxy]
  by_cases h : j < 64
  · rw [rect_bits hW hH j h]
    simp [h]
  · simp [h]
theorem rect_okT {W H : Nat} (h1 : 1 ≤ W) (hW : W ≤ 8) (hH : H ≤ 8) : rokB (List.replicate H (2 ^ W - 1)) = true := by
  refine rok_iff.2 ⟨by simp; exact hH, fun v hv => ?_⟩
  rw [List.mem_replicate] at hv
  rw [hv.2]
  exact rect_val h1 hW
theorem rect_tile {a b : Nat} (ha : a < 2) (hb : b < 3) : 1 ≤ tilN (List.replicate (2 + b) (2 ^ (2 + 2 * a) - 1)) := by
  rw [til_tiles (rect_okT (by omega) (by omega) (by omega))]
  unfold Tl.tiles
  rw [rect_at8 (by omega) (by omega)]
  have h := rect_some ⟨a, ha⟩ ⟨b, hb⟩
  have e : (fun j => decide (j % 8 < 2 + 2 * a) && decide (j / 8 < 2 + b) && decide (j < 64)) = (fun j => decide (j % 8 < 2 + 2 * a) && decide (j / 8 < 2 + b)) := by
    funext j
    by_cases h64 : j < 64
    · simp [h64]
    · have : ¬ j / 8 < 2 + b := by omega
      simp [h64, this]
  rw [e]
  simp only at h
  omega
theorem rd_farT {w : World} {ad : Option Addr} {rs : List Int} {p : Nat} (h : RdI w ad rs) (hp : Box1 w p (.slice none 0 0)) (u : Value) : RdI (w.setCell ⟨p, 0, none⟩ u) ad rs := by
  rcases h with h | ⟨b, off, e, h2, h3⟩
  · exact .inl h
  · refine .inr ⟨b, off, e, by simpa [World.setCell] using h2, fun j hj => ?_⟩
    have h4 := h3 j hj
    rw [← h4]
    apply World.cell?_setCell_other
    intro e2
    have e3 : b = p ∧ off + j = 0 := by simp at e2; omega
    rw [e3.1, e3.2, hp.2.1] at h4
    rw [List.getElem?_map] at h4
    cases hx : rs[j]? with
    | none => rw [hx] at h4; simp at h4
    | some z => rw [hx] at h4; simp at h4
theorem rd_own {w : World} {B b m d : Nat} {rs : List Int} (h : OwnI w B (.slice (some ⟨b, 0, none⟩) m d) rs) (hm : rs.length = m) : RdI w (some ⟨b, 0, none⟩) rs := by
  subst hm
  exact Rd.of_own h
set_option maxHeartbeats 3200000 in
set_option maxRecDepth 100000 in
theorem l08Region_at {w0 w1 : World} {a : Option Addr} {n g c : Nat} {zs : List Int} (K : CodeOk w0 a n zs) (h : At w0 w1 g a n c) :
    Calls Try.prog 48 #[.pointer (some ⟨g, 0, none⟩)] w1 fun e w2 => ∃ (ad : Option Addr) (m d : Nat) (rs : List Int), e = .returned (.agg #[.slice ad m d]) ∧ rs.length = m ∧ rokB rs = true ∧ 1 ≤ tilN rs ∧ RdI w2 ad rs ∧ Below w0.heap.size w0 w2 ∧ w1.grownBy w2 (some g) := by
  have HK := Lib.hid K
  have hgl := h.lt
  have hw0 : w0.heap.size ≤ w1.heap.size := h.1.size
  have hpg : w1.heap.size ≠ g := by omega
  have HA := Lib.hid (h.alloc (.cells #[.slice none 0 0] 29))
  have HP := Lib.hid (Box1.new w1 (.slice none 0 0) 29)
  have HG : Hid (w1.grownBy (w1.alloc (.cells #[.slice none 0 0] 29)) (some g)) := Lib.hid (gc_alloc (World.grownBy.refl _ _) _)
  clear K h
  go_enter Try.func48, Try.ntmps48
  go_wp2_with fail
  go_loopw [3] (fun kv wr => ∃ k : Nat, k ≤ 6 ∧ kv = .int .i64 (k : Int) ∧ Hid (At w0 wr g a n c) ∧ Hid (Box1 wr w1.heap.size (.slice none 0 0)) ∧ w1.heap.size < wr.heap.size ∧ Hid (w1.grownBy wr (some g))) (fun kv _ => 6 - (intOf kv).toNat)
  case atStart => exact ⟨0, by omega, rfl, HA, HP, by simp, HG⟩
  case round =>
    clear HA HP HG
    obtain ⟨k, hk, rfl, HA, HP, hsz, HG⟩ := hrel
    by_cases hlt : k < 6
    · have hkI : (k : Int) < 6 := by omega
      go_wp2_with (go_at_call 68; fail)
      refine (l03Region_at HK.out HA.out).mono ?_
      rintro e w2 ⟨b, m, d, rs, rfl, hok, hlen, hm1, hm5, hbg, hO, hat, hgw⟩
      have P2 := Lib.hid (HP.out.grown hgw hpg)
      have A2 := Lib.hid hat
      have G2 := Lib.hid (gc_step HG.out hgw)
      have R2 := Lib.hid (rd_own hO hlen)
      have hs2 : w1.heap.size < w2.heap.size := Nat.lt_of_lt_of_le hsz hgw.size
      have HL := Lib.hid (fun (W : World) (h : RdI W (some ⟨b, 0, none⟩) rs) => l07_any (some ⟨b, 0, none⟩) m d rs W hlen hok h)
      obtain ⟨v, hv⟩ : ∃ v, v = dpCount (sxy (setS rs)) := ⟨_, rfl⟩
      rw [← hv] at HL
      have HV : Hid (tilN rs = v) := Lib.hid (by unfold tilN; rw [if_pos hok, hv])
      have HOK := Lib.hid hok
      have HLN := Lib.hid hlen
      clear hO hat hgw hv hok hlen HA HP HG
      go_wp2_with (go_at_call 28; fail)
      refine (HL.out _ (Rd.alloc R2.out _)).mono ?_
      rintro e w3 ⟨rfl, hb⟩
      have e1 : Below w2.heap.size w2 w3 := Below.trans (Below.alloc (Below.refl _ _) (Nat.le_refl _) _) (hb.mono (by simp))
      have P3 := Lib.hid (P2.out.below e1)
      have A3 := Lib.hid (A2.out.below e1)
      have G3 := Lib.hid (gr_below G2.out e1)
      have R3 := Lib.hid (Rd.below R2.out e1)
      have hq : w3.cell? ⟨w2.heap.size, 0, none⟩ = some (.slice (some ⟨b, 0, none⟩) m d) := (hb.cell (p := ⟨w2.heap.size, 0, none⟩) (by first | omega | (simp; done) | (simp; omega))).trans (by go_simp)
      have hql : w2.heap.size < w3.heap.size := Nat.lt_of_lt_of_le (by simp) hb.size
      clear hb e1 P2 A2 R2 HL G2
      go_wp2_with (go_at_call 27; fail)
      refine (specIn_any _ _ _ _).mono ?_
      rintro e w' ⟨rfl, rfl⟩
      rcases Bool.eq_false_or_eq_true (inB v 1 300) with hin | hin
      · obtain ⟨v0, v1⟩ := inB_iff.1 hin
        rw [hin]
        have HR := Lib.hid (rd_farT R3.out P3.out (.slice (some ⟨b, 0, none⟩) m d))
        have HBB : Hid (Below w0.heap.size w0 (w3.setCell ⟨w1.heap.size, 0, none⟩ (.slice (some ⟨b, 0, none⟩) m d))) := Lib.hid (A3.out.1.setCell (p := ⟨w1.heap.size, 0, none⟩) hw0 _)
        have GZ : Hid (w1.grownBy (w3.setCell ⟨w1.heap.size, 0, none⟩ (.slice (some ⟨b, 0, none⟩) m d)) (some g)) := Lib.hid (gr_new G3.out (Nat.le_refl _) _ _)
        have hpc : (w3.setCell ⟨w1.heap.size, 0, none⟩ (.slice (some ⟨b, 0, none⟩) m d)).cell? ⟨w1.heap.size, 0, none⟩ = some (.slice (some ⟨b, 0, none⟩) m d) := World.cell?_setCell_same _ _ _ P3.out.2.1
        obtain ⟨p1, p2, p3⟩ := P3.out
        go_wp2_with fail
        exact bodyPost_ret (v := .agg #[.slice (some ⟨b, 0, none⟩) m d]) (by simp [results, Try.results48, go_sem, hpc]) rfl ⟨_, _, _, rs, rfl, HLN.out, HOK.out, by rw [HV.out]; exact v0, HR.out, HBB.out, GZ.out⟩
      · rw [hin]
        go_wp2_with fail
        go_roundw
        case rel => exact ⟨k + 1, by omega, by go_num, A3, P3, by omega, G3⟩
        case measure => simp [intOf]; omega
    · have hkI : ¬ (k : Int) < 6 := by omega
      go_wp2_with (go_at_call 69; fail)
      refine (below_at HK.out HA.out 2 (WalkArith.wf_i64 (by omega))).mono ?_
      rintro e w4 ⟨v, rfl, ⟨hv0, hv1, -⟩, hat, hgw⟩
      have hv2 := hv1 (by omega)
      have P4 := Lib.hid (HP.out.grown hgw hpg)
      have A4 := Lib.hid hat
      have G4 := Lib.hid (gc_step HG.out hgw)
      clear hv1 hat hgw HA HP HG
      go_wp2_with (go_at_call 69; fail)
      refine (below_at HK.out A4.out 3 (WalkArith.wf_i64 (by omega))).mono ?_
      rintro e w5 ⟨u, rfl, ⟨hu0, hu1, -⟩, hat, hgw⟩
      have hu2 := hu1 (by omega)
      have P5 := Lib.hid (P4.out.grown hgw hpg)
      have A5 := Lib.hid hat
      have G5 := Lib.hid (gc_step G4.out hgw)
      clear hu1 hat hgw A4 P4 G4
      obtain ⟨i, rfl⟩ : ∃ i : Nat, v = i := ⟨v.toNat, by omega⟩
      obtain ⟨j, rfl⟩ : ∃ j : Nat, u = j := ⟨u.toNat, by omega⟩
      have HT := Lib.hid (rect_tile (a := i) (b := j) (by omega) (by omega))
      go_wp2_with (go_at_call 29; fail)
      refine (rect_at (2 + 2 * i) (2 + j) _ _ _ (by omega) (by omega) (by omega) (by omega) (by omega) (by omega)).mono ?_
      rintro e w6 ⟨b, d, rs, rfl, hO, hlen, hval, hrs, hb⟩
      have P6 := Lib.hid (P5.out.below hb)
      have A6 := Lib.hid (A5.out.below hb)
      have R6 := Lib.hid (rd_own hO hlen)
      have HOK : Hid (rokB rs = true) := Lib.hid (rok_iff.2 ⟨by rw [hlen]; omega, hval⟩)
      have HLN := Lib.hid hlen
      have HTT : Hid (1 ≤ tilN rs) := Lib.hid (by rw [hrs]; exact HT.out)
      have GZ : Hid (w1.grownBy (w6.setCell ⟨w1.heap.size, 0, none⟩ (.slice (some ⟨b, 0, none⟩) (2 + j) d)) (some g)) := Lib.hid (gr_new (gr_below G5.out hb) (Nat.le_refl _) _ _)
      have HR := Lib.hid (rd_farT R6.out P6.out (.slice (some ⟨b, 0, none⟩) (2 + j) d))
      have HBB : Hid (Below w0.heap.size w0 (w6.setCell ⟨w1.heap.size, 0, none⟩ (.slice (some ⟨b, 0, none⟩) (2 + j) d))) := Lib.hid (A6.out.1.setCell (p := ⟨w1.heap.size, 0, none⟩) hw0 _)
      have hpc : (w6.setCell ⟨w1.heap.size, 0, none⟩ (.slice (some ⟨b, 0, none⟩) (2 + j) d)).cell? ⟨w1.heap.size, 0, none⟩ = some (.slice (some ⟨b, 0, none⟩) (2 + j) d) := World.cell?_setCell_same _ _ _ P6.out.2.1
      obtain ⟨p1, p2, p3⟩ := P6.out
      clear hO hlen hval hrs hb HT P5 A5 G5
      go_wp2_with fail
      exact bodyPost_ret (v := .agg #[.slice (some ⟨b, 0, none⟩) (2 + j) d]) (by simp [results, Try.results48, go_sem, hpc]) rfl ⟨_, _, _, rs, rfl, HLN.out, HOK.out, HTT.out, HR.out, HBB.out, GZ.out⟩
end Go.Proofs.Ytfjkjnhmlljefaa
