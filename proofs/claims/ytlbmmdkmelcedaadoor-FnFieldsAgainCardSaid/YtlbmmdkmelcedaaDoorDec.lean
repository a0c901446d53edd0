/-
  Decimal texts: the reference's FormatInt.
-/
import Derived.Test.YtlbmmdkmelcedaaDoorHex
import Derived.Lib.ItoaNum
import Derived.Lib.ItoaLen
namespace Go.Proofs.YtlbmmdkmelcedaaDoor
open Go.RowKit
set_option linter.unusedVariables false
set_option linter.unusedSimpArgs false

/-- What of a number is still to be written. -/
def decT (n : Int) : List UInt8 := if n = 0 then [] else Lib.decDigits n.natAbs
theorem hexD_dec {d : Nat} (h : d < 10) : hexD d = UInt8.ofNat (48 + d) := by unfold hexD; rw [if_pos h]
theorem decT_step {n q : Int} {d : Nat} (h0 : n ≠ 0) (hq : q.natAbs = n.natAbs / 10) (hd : d = n.natAbs % 10) : decT n = decT q ++ [hexD d] := by
  have hd10 : d < 10 := by omega
  rw [hexD_dec hd10]
  unfold decT
  rw [if_neg h0]
  by_cases h : n.natAbs < 10
  · have : q = 0 := by omega
    rw [if_pos this, Lib.decDigits, dif_pos h, hd, Nat.mod_eq_of_lt h]
    rfl
  · have : q ≠ 0 := by omega
    rw [if_neg this, Lib.decDigits, dif_neg h, hq, hd]
def strD (L : List UInt8) : ByteArray := ⟨L.toArray⟩
theorem strD_app (L M : List UInt8) : strD L ++ strD M = strD (L ++ M) := by
  apply ByteArray.ext
  simp [strD]
theorem strD_size (L : List UInt8) : (strD L).size = L.length := by simp [strD, ByteArray.size]
theorem dec_len {n : Int} (h0 : -9223372036854775808 ≤ n) (h1 : n ≤ 9223372036854775807) : (Lib.decDigits n.natAbs).length ≤ 21 := by
  have h := Lib.itoa_length_le n h0 h1
  unfold Lib.itoa at h
  split at h
  · simp at h; omega
  · rwa [show n.natAbs = n.toNat by omega]
theorem conv_one (w : World) (b : UInt8) :
    (convert 25 9 (.slice (some ⟨w.heap.size, 0, none⟩) 1 1)).run Tryd.prog (w.alloc (.cells #[.int .u8 (b.toNat : Int)] 5)) = .ok (.string (strD [b])) (w.alloc (.cells #[.int .u8 (b.toNat : Int)] 5)) :=
  conv_back (a := ⟨w.heap.size, 0, none⟩) (c := 1) (L := [b]) (fun j hj => by
    have : j = 0 := by simpa using hj
    subst this
    show (w.alloc (.cells #[.int .u8 (b.toNat : Int)] 5)).cell? ⟨w.heap.size, 0, none⟩ = _
    rw [World.cell?_alloc_new]
    rfl)
set_option maxHeartbeats 1600000 in
set_option maxRecDepth 100000 in
theorem specFmt_any (n0 : Int) (w : World) (h0 : -9223372036854775808 ≤ n0) (h1 : n0 ≤ 9223372036854775807) :
    Calls Tryd.prog 16 #[.int .i64 n0] w fun e w' => e = .returned (.string (strD (Lib.itoa n0))) ∧ Below w.heap.size w w' := by
  by_cases hz : n0 = 0
  · subst hz
    go_enter Tryd.func16, Tryd.ntmps16
    go_wp2
    go_ret
    exact ⟨by simp [strD, Lib.itoa, Lib.decDigits], by repeat' (first | assumption | (with_reducible exact Below.refl _ _) | (with_reducible refine Below.drew ?_) | (with_reducible refine Below.alloc ?_ ?_ _) | (with_reducible refine Below.setCell ?_ ?_ _) | omega | (simp; done) | (simp; omega))⟩
  · have hzb : (n0 == 0) = false := by rw [beq_eq_false_iff_ne]; exact hz
    go_enter Tryd.func16, Tryd.ntmps16
    go_wp2_with fail
    go_loopw [0, 4] (fun nv sv wr => ∃ (n : Int) (L : List UInt8), nv = .int .i64 n ∧ sv = .string (strD L) ∧ -9223372036854775808 ≤ n ∧ n ≤ 9223372036854775807 ∧ Hid (Lib.decDigits n0.natAbs = decT n ++ L) ∧ Below w.heap.size w wr) (fun nv _ _ => (intOf nv).natAbs)
    case atStart => exact ⟨n0, [], rfl, rfl, h0, h1, Lib.hid (by unfold decT; rw [if_neg hz, List.append_nil]), by repeat' (first | assumption | (with_reducible exact Below.refl _ _) | (with_reducible refine Below.drew ?_) | (with_reducible refine Below.alloc ?_ ?_ _) | (with_reducible refine Below.setCell ?_ ?_ _) | omega | (simp; done) | (simp; omega))⟩
    case round =>
      obtain ⟨n, L, rfl, rfl, hn0, hn1, hL, hB⟩ := hrel
      have hl : (strD L).size ≤ 21 := by have h := dec_len h0 h1; rw [hL.out, List.length_append] at h; rw [strD_size]; omega
      by_cases hn : n = 0
      · subst hn
        by_cases hg : n0 < 0
        · have hT : strD (Lib.itoa n0) = strD [45] ++ strD L := by
            have := hL.out
            unfold decT at this
            rw [if_pos rfl, List.nil_append] at this
            unfold Lib.itoa
            rw [if_pos hg, strD_app, this]
            rfl
          have HT := Lib.hid hT
          clear hT
          go_wp2_with fail
          go_ret
          exact ⟨by rw [HT.out]; rfl, hB⟩
        · go_wp2_with fail
          go_ret
          have hT : Lib.itoa n0 = L := by
            have := hL.out
            unfold decT at this
            rw [if_pos rfl, List.nil_append] at this
            unfold Lib.itoa
            rw [if_neg (by omega), ← this]
            congr 1
            omega
          exact ⟨by rw [hT]; rfl, hB⟩
      · have hnb : (n == 0) = false := by rw [beq_eq_false_iff_ne]; exact hn
        obtain ⟨d, hd⟩ : ∃ d : Nat, d = n.natAbs % 10 := ⟨_, rfl⟩
        obtain ⟨q, hq⟩ : ∃ q : Int, q = n.tdiv 10 := ⟨_, rfl⟩
        have hd9 : d < 10 := by omega
        have hqa : q.natAbs = n.natAbs / 10 := by rw [hq, Int.natAbs_tdiv]; rfl
        have HT := Lib.hid (decT_step hn hqa hd)
        have hq1 : n.tdiv 10 = q := hq.symm
        have hqb : -9223372036854775808 ≤ q ∧ q ≤ 9223372036854775807 := by omega
        obtain ⟨hq2, hq3⟩ := hqb
        have hqm : q.natAbs < n.natAbs := by omega
        have HQM := Lib.hid hqm
        have hta : (n.tmod 10).natAbs = d := by rw [hd, Int.natAbs_tmod]; rfl
        have HL := Lib.hid (fun W : World => l01Figure_any d (d : Int) W rfl (by omega))
        clear hqa hq hd hqm
        have hsz := hB.size
        by_cases hs : n.tmod 10 < 0
        · have hm : n.tmod 10 = -(d : Int) := by omega
          clear hta
          have hs' : -(d : Int) < 0 := by omega
          go_wp2_with (go_at_call 46; fail)
          refine (HL.out _).mono ?_
          rintro e w1 ⟨rfl, hb⟩
          have hB1 := below_step hb (by first | omega | (simp; done) | (simp; omega)) hB
          have hzz1 := hb.size
          have hcv := conv_one w1 (hexD d)
          have HE := Lib.hid (strD_app [hexD d] L)
          have hl1 : (strD [hexD d]).size = 1 := strD_size _
          have HLN : Hid (Lib.decDigits n0.natAbs = decT q ++ ([hexD d] ++ L)) := Lib.hid (by rw [hL.out, HT.out, List.append_assoc])
          clear hb
          go_wp2_with fail
          go_roundw
          case rel => exact ⟨q, [hexD d] ++ L, by rfl, by rw [← HE.out], by omega, by omega, HLN, by repeat' (first | assumption | (with_reducible exact Below.refl _ _) | (with_reducible refine Below.drew ?_) | (with_reducible refine Below.alloc ?_ ?_ _) | (with_reducible refine Below.setCell ?_ ?_ _) | omega | (simp; done) | (simp; omega))⟩
          case measure => simp [intOf]; exact HQM.out
        · have hm : n.tmod 10 = (d : Int) := by omega
          clear hta
          have hs' : ¬ (d : Int) < 0 := by omega
          go_wp2_with (go_at_call 46; fail)
          refine (HL.out _).mono ?_
          rintro e w1 ⟨rfl, hb⟩
          have hB1 := below_step hb (by first | omega | (simp; done) | (simp; omega)) hB
          have hzz1 := hb.size
          have hcv := conv_one w1 (hexD d)
          have HE := Lib.hid (strD_app [hexD d] L)
          have hl1 : (strD [hexD d]).size = 1 := strD_size _
          have HLN : Hid (Lib.decDigits n0.natAbs = decT q ++ ([hexD d] ++ L)) := Lib.hid (by rw [hL.out, HT.out, List.append_assoc])
          clear hb
          go_wp2_with fail
          go_roundw
          case rel => exact ⟨q, [hexD d] ++ L, by rfl, by rw [← HE.out], by omega, by omega, HLN, by repeat' (first | assumption | (with_reducible exact Below.refl _ _) | (with_reducible refine Below.drew ?_) | (with_reducible refine Below.alloc ?_ ?_ _) | (with_reducible refine Below.setCell ?_ ?_ _) | omega | (simp; done) | (simp; omega))⟩
          case measure => simp [intOf]; exact HQM.out
end Go.Proofs.YtlbmmdkmelcedaaDoor
