/-
  The walk of the law FnFieldsAgain.
-/
import Derived.Test.YtlbmmdkmelcedaaDoorDrawSpl
import Derived.Test.YtlbmmdkmelcedaaDoorSplI
import Derived.Test.YtlbmmdkmelcedaaDoorSplJ
import Derived.Test.YtlbmmdkmelcedaaDoorDoorB
import Derived.Test.YtlbmmdkmelcedaaDoorPunP
namespace Go.Proofs.YtlbmmdkmelcedaaDoor.fnFieldsAgain
open Go.RowKit
set_option linter.unusedVariables false
set_option linter.unusedSimpArgs false

set_option maxRecDepth 100000 in
theorem sameTexts_same (a b : Option Addr) (n c d : Nat) (X : List ByteArray) (w : World) (hz : X.length = n) (hn : n ≤ 1048576) (hr : RdT w a X) (hs : RdT w b X) :
    Calls Tryd.prog 26 #[.slice a n c, .slice b n d] w fun e w' => e = .returned (.bool true) ∧ Below w.heap.size w w' := by
  have HZ := Lib.hid hz
  clear hz
  go_enter Tryd.func26, Tryd.ntmps26
  go_wp2
  go_loopw [5] (fun i wr => ∃ k : Nat, k ≤ n ∧ i = .int .i64 k ∧ Below w.heap.size w wr) (fun i _ => n - (intOf i).toNat)
  case atStart => exact ⟨0, Nat.zero_le _, rfl, Below.refl _ _⟩
  case round =>
    obtain ⟨k, hk, rfl, hB⟩ := hrel
    by_cases hlt : k < n
    · obtain ⟨b1, off1, v, rfl, hb1, hcell1, hv1⟩ := RdT.at_ (Rd.below hr hB) (k := k) (by rw [HZ.out]; exact hlt)
      obtain ⟨b2, off2, v', rfl, hb2, hcell2, hv2⟩ := RdT.at_ (Rd.below hs hB) (k := k) (by rw [HZ.out]; exact hlt)
      obtain rfl : v = v' := by have h1 := hv1.out; rw [hv2.out] at h1; exact (Option.some.inj h1).symm
      have HR := Lib.hid hr
      have HS := Lib.hid hs
      clear hr hs hv2
      go_wp2
      go_quiet (fail)
      go_wp2
      go_roundw
      case rel => exact ⟨k + 1, by omega, by go_num, below_drewN hB _⟩
      case measure => simp [intOf]; omega
    · clear hr hs
      go_wp2
      go_ret
      exact ⟨rfl, hB⟩
theorem minus3 : strD (Lib.itoa (-3)) = ⟨#[45, 51]⟩ := by
  unfold Lib.itoa
  rw [if_pos (by omega), show ((-3 : Int)).natAbs = 3 from rfl, Lib.decDigits_one (by omega)]
  rfl
set_option maxHeartbeats 1600000 in
set_option maxRecDepth 100000 in
theorem walk (a0 : Option Addr) (len0 cap0 : Nat) (z0 : List Int) (w : World) (w0 : IsRow .u8 w a0 len0 cap0 z0) (hT : TabB w) :
    Calls Tryd.prog 8 #[.slice a0 len0 cap0] w fun e w' => e = .returned (.bool true) ∧ Below w.heap.size w w' := by
  have HB := Lib.hid (big_any a0 len0 cap0 w w0.max_)
  have HT := Lib.hid hT
  clear hT
  by_cases hbig : 1048576 < len0
  · clear w0
    go_enter Tryd.func8, Tryd.ntmps8
    go_wp2_with (go_at_call 13; refine (HB.out).mono ?_; rintro e w1 ⟨rfl, hb⟩; simp only [hbig, decide_true])
    go_ret
    exact ⟨rfl, hb⟩
  · have HK := Lib.hid (w0.code hbig)
    clear w0
    go_enter Tryd.func8, Tryd.ntmps8
    go_wp2_with (first | (go_at_call 13; refine (HB.out).mono ?_; rintro e w1 ⟨rfl, hb⟩; simp only [hbig, decide_false]) | (go_at_call 23; fail))
    refine (drawSpl_any a0 len0 cap0 _ w1 (HK.out.below hb)).mono ?_
    rintro e w2 ⟨s, rfl, hs, hb2⟩
    have hB2 : Below w.heap.size w w2 := below_step hb2 hb.size hb
    clear hb hb2 HB HK
    have HI := Lib.hid (fun W : World => implSplit_any s W (by omega))
    have HS := Lib.hid (fun W : World => specSplit_any s W (by omega))
    rcases Bool.eq_false_or_eq_true (fokB s) with hok | hok
    · have hL24 := fldR_len s
      obtain ⟨ff, -, -⟩ := fld_facts hok
      have HAG := Lib.hid (fun h => fok_again hok h)
      rw [fldR_yes hok] at hL24
      rw [hok, fldR_yes hok] at HI HS
      have HFF := Lib.hid ff
      obtain ⟨L, hL⟩ : ∃ L, L = fldE s := ⟨_, rfl⟩
      rw [← hL] at HI HS hL24 HFF HAG
      clear hok hL ff
      go_wp2_with (go_at_call 24; fail)
      refine (HI.out _).mono ?_
      rintro e w3 ⟨a1, c1, rfl, hO1, hb3⟩
      have hr1 : RdT w3 a1 L := Rd.of_own hO1
      have hB3 : Below w.heap.size w w3 := below_step hb3 hB2.size hB2
      clear hb3 hO1
      go_wp2_with (go_at_call 25; fail)
      refine (HS.out _).mono ?_
      rintro e w4 ⟨a2, c2, rfl, -, hb4⟩
      have HR4 : Hid (RdT w4 a1 L) := Lib.hid (Rd.below hr1 hb4)
      have hB4 : Below w.heap.size w w4 := below_step hb4 hB3.size hB3
      clear hb4 hr1
      go_wp2_with fail
      go_loopw [8, 9] (fun sv iv wr => ∃ (k : Nat) (J : ByteArray), k ≤ L.length ∧ iv = .int .i64 (k : Int) ∧ sv = .string J ∧ Hid (J = strD (jnT (L.take k))) ∧ J.size ≤ 601 * k ∧ w4 = wr) (fun _ iv _ => L.length - (intOf iv).toNat)
      case atStart => exact ⟨0, ⟨#[]⟩, by omega, rfl, rfl, Lib.hid (by simp [jnT, joinW, strD]), by simp [ByteArray.size], rfl⟩
      case round =>
        obtain ⟨k, J, hk, rfl, rfl, HJ, hJ, rfl⟩ := hrel
        by_cases hlt : k < L.length
        · have hkI : (k : Int) < (L.length : Int) := by omega
          obtain ⟨b, off, t, rfl, hb, hcell, ht⟩ := RdT.at_ HR4.out (k := k) hlt
          have ht6 := HFF.out t (List.mem_of_getElem? ht.out)
          have HJ1 : Hid (J ++ t ++ ⟨#[32]⟩ = strD (jnT (L.take (k + 1)))) := Lib.hid (by rw [HJ.out, take_one ht.out]; exact jnT_snoc _ _)
          have hszs : (J ++ t).size = J.size + t.size := ByteArray.size_append
          go_wp2_with fail
          go_roundw
          case rel => exact ⟨k + 1, J ++ t ++ ⟨#[32]⟩, by omega, by go_num, by rfl, HJ1, by rw [ByteArray.size_append, ByteArray.size_append]; have : (⟨#[32]⟩ : ByteArray).size = 1 := rfl; omega, by first | rfl | trivial⟩
          case measure => simp [intOf]; omega
        · have hkI : ¬ (k : Int) < (L.length : Int) := by omega
          have HJL : Hid (J = strD (jnT L)) := Lib.hid (by rw [HJ.out, List.take_of_length_le (by omega)])
          have HI2 := Lib.hid (fun W : World => implSplit_any J W (by omega))
          have hjs : J.size ≤ 20000 := by omega
          clear hk hlt hJ HJ
          by_cases h6 : J.size ≤ 600
          · have h6I : ¬ (600 : Int) < (J.size : Int) := by omega
            have hag := HAG.out (by rw [← HJL.out]; exact h6)
            rw [← HJL.out] at hag
            rw [hag.1, hag.2] at HI2
            clear hag h6 HAG
            go_wp2_with (go_at_call 24; fail)
            refine (HI2.out _).mono ?_
            rintro e w5 ⟨a3, c3, rfl, hO3, hb5⟩
            have hr3 : RdT w5 a3 L := Rd.of_own hO3
            have hr4 : RdT w5 a1 L := Rd.below HR4.out hb5
            have hB5 : Below w.heap.size w w5 := below_step hb5 hB4.size hB4
            have HST := Lib.hid (sameTexts_same a1 a3 L.length c1 c3 L w5 rfl (by omega) hr4 hr3)
            clear hb5 hO3 hr3 hr4
            go_wp2_with (go_at_call 26; fail)
            refine (HST.out).mono ?_
            rintro e w6 ⟨rfl, hb6⟩
            have hB6 : Below w.heap.size w w6 := below_step hb6 hB5.size hB5
            clear hb6
            go_wp2_with fail
            go_ret
            exact ⟨rfl, hB6⟩
          · have h6I : (600 : Int) < (J.size : Int) := by omega
            obtain ⟨R, hR⟩ : ∃ R, R = fldR J := ⟨_, rfl⟩
            obtain ⟨o, ho⟩ : ∃ o, o = fokB J := ⟨_, rfl⟩
            rw [← hR, ← ho] at HI2
            clear hR ho HAG
            go_wp2_with (go_at_call 24; fail)
            refine (HI2.out _).mono ?_
            rintro e w5 ⟨a3, c3, rfl, -, hb5⟩
            have hB5 : Below w.heap.size w w5 := below_step hb5 hB4.size hB4
            clear hb5
            go_wp2_with fail
            go_ret
            exact ⟨rfl, hB5⟩
    · have hLn := fldR_no hok
      rw [hok, hLn] at HI HS
      have HF := Lib.hid (fun (W : World) (h : TabB W) => implFmt_any (-3) W (by omega) (by omega) h)
      rw [minus3] at HF
      clear hok hLn
      go_wp2_with (go_at_call 24; fail)
      refine (HI.out _).mono ?_
      rintro e w3 ⟨a1, c1, rfl, -, hb3⟩
      have hB3 : Below w.heap.size w w3 := below_step hb3 hB2.size hB2
      clear hb3
      go_wp2_with (go_at_call 25; fail)
      refine (HS.out _).mono ?_
      rintro e w4 ⟨a2, c2, rfl, -, hb4⟩
      have hB4 : Below w.heap.size w w4 := below_step hb4 hB3.size hB3
      clear hb4
      go_wp2_with (go_at_call 15; fail)
      refine (HF.out _ (HT.out.next hB4)).mono ?_
      rintro e w5 ⟨rfl, hb5⟩
      have hB5 : Below w.heap.size w w5 := below_step hb5 hB4.size hB4
      clear hb5
      go_wp2_with fail
      go_ret
      exact ⟨rfl, hB5⟩
end Go.Proofs.YtlbmmdkmelcedaaDoor.fnFieldsAgain
