/-
  The walk of the law FnNumbers.
-/
import Derived.Test.YtlbmmdkmelcedaaDoorPun
import Derived.Test.YtlbmmdkmelcedaaDoorDrawFmt
namespace Go.Proofs.YtlbmmdkmelcedaaDoor.fnNumbers
open Go.RowKit
set_option linter.unusedVariables false
set_option linter.unusedSimpArgs false

set_option maxHeartbeats 1600000 in
set_option maxRecDepth 100000 in
theorem walk (a0 : Option Addr) (len0 cap0 : Nat) (z0 : List Int) (w : World) (w0 : IsRow .u8 w a0 len0 cap0 z0) (hT : Tab5 w) :
    Calls Tryd.prog 4 #[.slice a0 len0 cap0] w fun e w' => e = .returned (.bool true) ∧ Below w.heap.size w w' := by
  have HB := Lib.hid (big_any a0 len0 cap0 w w0.max_)
  have HT := Lib.hid hT
  clear hT
  by_cases hbig : 1048576 < len0
  · clear w0
    go_enter Tryd.func4, Tryd.ntmps4
    go_wp2_with (go_at_call 13; refine (HB.out).mono ?_; rintro e w1 ⟨rfl, hb⟩; simp only [hbig, decide_true])
    go_ret
    exact ⟨rfl, hb⟩
  · have HK := Lib.hid (w0.code hbig)
    clear w0
    go_enter Tryd.func4, Tryd.ntmps4
    go_wp2_with (first | (go_at_call 13; refine (HB.out).mono ?_; rintro e w1 ⟨rfl, hb⟩; simp only [hbig, decide_false]) | (go_at_call 14; fail))
    refine (drawFmt_any a0 len0 cap0 _ w1 (HK.out.below hb)).mono ?_
    rintro e w2 ⟨n, rfl, hw, hb2⟩
    obtain ⟨n0, n1⟩ := wf_bd hw
    have hB2 : Below w.heap.size w w2 := below_step hb2 hb.size hb
    have HI := Lib.hid (fun (W : World) (h : TabB W) => implFmt_any n W n0 n1 h)
    have hsz : (strD (Lib.itoa n)).size ≤ 1048576 := by rw [strD_size]; have := Lib.itoa_length_le n n0 n1; omega
    have HP := Lib.hid (fun (W : World) (h : Tab5 W) => implPun_any (strD (Lib.itoa n)) W hsz h)
    obtain ⟨p1, p2⟩ := pok_itoa n
    rw [p1] at HP
    have hne : (strD (Lib.itoa n)).toList ≠ [] := by rw [ByteArray.toList_eq]; intro e; exact itoa_ne n (ByteArray.ext (Array.toList_inj.1 (e.trans rfl)))
    have hne2 : (strD (Lib.itoa n)).toList.isEmpty = false := by rw [Bool.eq_false_iff]; intro e; exact hne (List.isEmpty_iff.1 e)
    have HV := Lib.hid p2
    obtain ⟨v, hv⟩ : ∃ v, v = puV (strD (Lib.itoa n)) := ⟨_, rfl⟩
    rw [← hv] at HP HV
    obtain ⟨t, ht⟩ : ∃ t, t = strD (Lib.itoa n) := ⟨_, rfl⟩
    rw [← ht] at HI HP hne hne2
    clear hb hb2 hw HB HK p1 p2 ht hv hsz
    by_cases c0 : 0 ≤ n
    · by_cases c1 : n ≤ 1000000000
      · have hvn : v = n := HV.out c0 c1
        subst hvn
        have hd : (decide (0 ≤ v) && decide (v ≤ 1000000000)) = true := by simp [c0, c1]
        rw [hd] at HP
        clear hd HV
        go_wp2_with (go_at_call 15; fail)
        refine (HI.out _ (HT.out.next hB2).1).mono ?_
        rintro e w3 ⟨rfl, hb3⟩
        have hB3 : Below w.heap.size w w3 := below_step hb3 hB2.size hB2
        clear hb3
        go_wp2_with (go_at_call 12; fail)
        refine (HP.out _ (HT.out.next hB3)).mono ?_
        rintro e w4 ⟨rfl, hb4⟩
        have hB4 : Below w.heap.size w w4 := below_step hb4 hB3.size hB3
        clear hb4
        go_wp2_with fail
        go_ret
        exact ⟨rfl, hB4⟩
      · have hd : (decide (0 ≤ n) && decide (n ≤ 1000000000)) = false := by simp [c0, c1]
        rw [hd] at HP
        clear hd HV
        go_wp2_with (go_at_call 15; fail)
        refine (HI.out _ (HT.out.next hB2).1).mono ?_
        rintro e w3 ⟨rfl, hb3⟩
        have hB3 : Below w.heap.size w w3 := below_step hb3 hB2.size hB2
        clear hb3
        go_wp2_with (go_at_call 12; fail)
        refine (HP.out _ (HT.out.next hB3)).mono ?_
        rintro e w4 ⟨rfl, hb4⟩
        have hB4 : Below w.heap.size w w4 := below_step hb4 hB3.size hB3
        clear hb4
        go_wp2_with fail
        go_ret
        exact ⟨rfl, hB4⟩
    · have hd : (decide (0 ≤ n) && decide (n ≤ 1000000000)) = false := by simp [c0]
      rw [hd] at HP
      clear hd HV
      go_wp2_with (go_at_call 15; fail)
      refine (HI.out _ (HT.out.next hB2).1).mono ?_
      rintro e w3 ⟨rfl, hb3⟩
      have hB3 : Below w.heap.size w w3 := below_step hb3 hB2.size hB2
      clear hb3
      go_wp2_with (go_at_call 12; fail)
      refine (HP.out _ (HT.out.next hB3)).mono ?_
      rintro e w4 ⟨rfl, hb4⟩
      have hB4 : Below w.heap.size w w4 := below_step hb4 hB3.size hB3
      clear hb4
      go_wp2_with fail
      go_ret
      exact ⟨rfl, hB4⟩
end Go.Proofs.YtlbmmdkmelcedaaDoor.fnNumbers
