/-
  The draw of a tileable region; a number taken from the code.
-/
import Derived.Test.YtfjkjnhmlljefaaDrawTil
namespace Go.Proofs.Ytfjkjnhmlljefaa
open Go.RowKit
set_option linter.unusedVariables false
set_option linter.unusedSimpArgs false

set_option maxHeartbeats 3200000 in
set_option maxRecDepth 100000 in
theorem at_any (a : Option Addr) (n c k : Nat) (zs : List Int) (w : World) (K : CodeOk w a n zs) (hk : k ≤ 2) :
    Calls Try.prog 26 #[.slice a n c, .int .i64 (k : Int)] w fun e w' => ∃ v : Int, e = .returned (.int .i64 v) ∧ 0 ≤ v ∧ v ≤ 255 ∧ Below w.heap.size w w' := by
  have hle := K.le
  have hlen := K.len
  by_cases h0 : n = 0
  · subst h0
    clear K hlen
    go_enter Try.func26, Try.ntmps26
    go_wp2
    go_ret
    exact ⟨0, rfl, by omega, by omega, Below.refl _ _⟩
  · have hmI : ((k : Int) * 5 + 1) % (n : Int) = (((k * 5 + 1) % n : Nat) : Int) := by push_cast; rfl
    have hml : (k * 5 + 1) % n < n := Nat.mod_lt _ (by omega)
    obtain ⟨i, hi⟩ : ∃ i, i = (k * 5 + 1) % n := ⟨_, rfl⟩
    rw [← hi] at hmI hml
    obtain ⟨b, off, u, hab, hb, hcell, hv⟩ := Rd.at_ K.rd (k := i) (by simp [hlen]; omega)
    rw [List.getElem?_map, Option.map_eq_some_iff] at hv
    obtain ⟨v, hv1, rfl⟩ := hv
    have hvb := K.bytes v (List.mem_of_getElem? hv1)
    obtain ⟨hv0, hv255⟩ := hvb
    subst hab
    have hnI : ¬ ((n : Int) = 0) := by omega
    have hn0 : ((n : Int) == 0) = false := by rw [beq_eq_false_iff_ne]; exact hnI
    have e1 : Int.tmod ((k : Int) * 5 + 1) (n : Int) = (i : Int) := by rw [Int.tmod_eq_emod_of_nonneg (by omega)]; exact hmI
    clear K hv1 hi hlen hmI
    go_enter Try.func26, Try.ntmps26
    go_wp2
    go_ret
    exact ⟨v, rfl, hv0, hv255, Below.refl _ _⟩
theorem drawTil_any (a : Option Addr) (n c : Nat) (zs : List Int) (w : World) (K : CodeOk w a n zs) :
    Calls Try.prog 24 #[.slice a n c] w fun e w' => ∃ (ad : Option Addr) (m d : Nat) (rs : List Int), e = .returned (.agg #[.slice ad m d]) ∧ rs.length = m ∧ rokB rs = true ∧ 1 ≤ tilN rs ∧ RdI w' ad rs ∧ Below w.heap.size w w' := by
  have HK := Lib.hid K
  have e0 : Below w.heap.size w (w.alloc (.cells #[.slice none 0 0] 29)) := Below.alloc (Below.refl _ _) (Nat.le_refl _) _
  have HE0 := Lib.hid e0
  have HP := Lib.hid (Box1.new w (.slice none 0 0) 29)
  clear K e0
  go_enter Try.func24, Try.ntmps24
  go_wp2_with (go_at_call 49; fail)
  refine (l01New_any a n c zs _ HK.out.len HK.out.le HK.out.bytes (Rd.below HK.out.rd HE0.out)).mono ?_
  rintro e w2 ⟨g, rfl, hg, hc, hb⟩
  simp at hg
  have hs2 := hb.size
  simp at hs2
  have P2 := Lib.hid (HP.out.below hb)
  have H2 : Hid (At w w2 g a n c) := Lib.hid ⟨HE0.out.trans (hb.mono (by simp)), hc, by omega⟩
  have hpg : w.heap.size ≠ g := by omega
  clear hb hc HP HE0 hg
  go_wp2_with (go_at_call 48; fail)
  refine (l08Region_at HK.out H2.out).mono ?_
  rintro e w4 ⟨ad, m, d, rs, rfl, hlen, hok, htl, hrd, hB4, hgw⟩
  have P4 := P2.out.grown hgw hpg
  have HR4 := Lib.hid (rd_farT hrd P4 (.slice ad m d))
  have HB4 : Hid (Below w.heap.size w (w4.setCell ⟨w.heap.size, 0, none⟩ (.slice ad m d))) := Lib.hid (hB4.setCell (p := ⟨w.heap.size, 0, none⟩) (Nat.le_refl _) _)
  have HL4 := Lib.hid hlen
  have HOK := Lib.hid hok
  have HTL := Lib.hid htl
  have hpc : (w4.setCell ⟨w.heap.size, 0, none⟩ (.slice ad m d)).cell? ⟨w.heap.size, 0, none⟩ = some (.slice ad m d) := World.cell?_setCell_same _ _ _ P4.2.1
  obtain ⟨p1, p2, p3⟩ := P4
  clear hrd hB4 hlen hok htl hgw H2 P2
  go_wp2_with fail
  exact bodyPost_ret (v := .agg #[.slice ad m d]) (by simp [results, Try.results24, go_sem, hpc]) rfl ⟨_, _, _, rs, rfl, HL4.out, HOK.out, HTL.out, HR4.out, HB4.out⟩
end Go.Proofs.Ytfjkjnhmlljefaa
