/-
  The draw of a line of fields.
-/
import Derived.Test.YtlbmmdkmelcedaaDoorDrawTxt
import Derived.Test.YtlbmmdkmelcedaaDoorStrL
import Derived.Test.YtlbmmdkmelcedaaDoorDec
namespace Go.Proofs.YtlbmmdkmelcedaaDoor
open Go.RowKit
set_option linter.unusedVariables false
set_option linter.unusedSimpArgs false

set_option maxHeartbeats 1600000 in
set_option maxRecDepth 100000 in
theorem l01Pick_at {w0 w1 : World} {a : Option Addr} {n g c : Nat} {zs : List Int} (K : CodeOk w0 a n zs) (h : At w0 w1 g a n c) (b : Option Addr) (m d : Nat) (X : List ByteArray) (hm0 : 0 < m) (hm : m ≤ 1000) (hX : X.length = m) (hs : ∀ t ∈ X, t.size ≤ 100) (hb : RdT w1 b X) (hbg : ∀ x, b = some x → x.block ≠ g) :
    Calls Tryd.prog 51 #[.pointer (some ⟨g, 0, none⟩), .slice b m d] w1 fun e w2 => ∃ t : ByteArray, e = .returned (.string t) ∧ t.size ≤ 100 ∧ At w0 w2 g a n c := by
  have HK := Lib.hid K
  have HA := Lib.hid h
  have HX := Lib.hid hX
  have HS := Lib.hid hs
  have HBB := Lib.hid hb
  clear K h hX hs hb
  go_enter Tryd.func51, Tryd.ntmps51
  go_wp2_with (go_at_call 43; fail)
  refine (below_at HK.out HA.out m (WalkArith.wf_i64 (by omega))).mono ?_
  rintro e w2 ⟨v, rfl, ⟨hv0, hv1, -⟩, hat, hgw⟩
  have hvm := hv1 (by omega)
  clear hv1
  obtain ⟨k, rfl⟩ := Int.eq_ofNat_of_zero_le hv0
  obtain ⟨b1, off, t, rfl, hb1, hcell, ht⟩ := RdT.at_ (Rd.grown HBB.out hgw (fun b off e h => hbg _ e (by cases h; rfl))) (k := k) (by have := HX.out; omega)
  have H2 := Lib.hid hat
  have HT : Hid (t.size ≤ 100) := Lib.hid (HS.out t (List.mem_of_getElem? ht.out))
  have hkm : k < m := by omega
  have hkI : (k : Int) < (m : Int) := by omega
  clear hat hgw hbg
  go_wp2_with fail
  go_ret
  exact ⟨_, rfl, HT.out, H2.out⟩
theorem long_at {w0 w1 : World} {a : Option Addr} {n g c : Nat} (h : At w0 w1 g a n c) (x : Int) (m : Nat) (hx : x = m) (hm : m ≤ 1000000) :
    Calls Tryd.prog 48 #[.int .i64 x, .int .u8 32] w1 fun e w2 => ∃ s : ByteArray, e = .returned (.string s) ∧ s.size = m ∧ At w0 w2 g a n c := by
  subst hx
  refine (l01Long_any m 32 32 w1 rfl (by omega)).mono ?_
  rintro e w2 ⟨s, he, hs, hb⟩
  exact ⟨s, he, hs, h.below hb⟩
theorem PICKS_le : ∀ t ∈ ([⟨#[32]⟩, ⟨#[32, 32]⟩, ⟨#[9]⟩, ⟨#[10]⟩, ⟨#[127]⟩, ⟨#[233]⟩] : List ByteArray), t.size ≤ 100 := by
  intro t ht
  simp at ht
  rcases ht with rfl | rfl | rfl | rfl | rfl | rfl <;> decide
set_option maxHeartbeats 3200000 in
set_option maxRecDepth 100000 in
theorem drawSpl_any (a : Option Addr) (n c : Nat) (zs : List Int) (w : World) (K : CodeOk w a n zs) :
    Calls Tryd.prog 23 #[.slice a n c] w fun e w' => ∃ s : ByteArray, e = .returned (.string s) ∧ s.size ≤ 10000 ∧ Below w.heap.size w w' := by
  have HK := Lib.hid K
  clear K
  go_enter Tryd.func23, Tryd.ntmps23
  go_wp2_with (go_at_call 41; fail)
  refine (new_at HK.out c (Below.refl _ _)).mono ?_
  rintro e w2 ⟨g, rfl, hat⟩
  have H2 := Lib.hid hat
  clear hat
  go_wp2_with (go_at_call 43; fail)
  refine (below_at HK.out H2.out 9 (WalkArith.wf_i64 (by omega))).mono ?_
  rintro e w3 ⟨v, rfl, ⟨hv0, hv1, -⟩, hat, -⟩
  have hv2 := hv1 (by omega)
  have H3 := Lib.hid hat
  clear hat H2 hv1
  go_wp2_with (go_at_call 42; fail)
  refine (once_at HK.out H3.out 15 (WalkArith.wf_i64 (by omega))).mono ?_
  rintro e w4 ⟨b, rfl, hat, -⟩
  have H4 := Lib.hid hat
  clear hat H3
  have HLOOP : True := trivial
  cases b
  · obtain ⟨m, rfl⟩ : ∃ m : Nat, v = m := ⟨v.toNat, by omega⟩
    have hm : m ≤ 25 := by omega
    have HM := H4
    clear H4 hv2 hv0
    go_wp2_with fail
    go_loopw [5, 6] (fun sv kv wr => ∃ (k : Nat) (s : ByteArray), k ≤ m ∧ kv = .int .i64 (k : Int) ∧ sv = .string s ∧ s.size ≤ 10 * k ∧ Hid (At w wr g a n c)) (fun _ kv _ => m - (intOf kv).toNat)
    case atStart => exact ⟨0, ⟨#[]⟩, by omega, rfl, rfl, by simp [ByteArray.size], HM⟩
    case round =>
      clear HM
      obtain ⟨k, s, hk, rfl, rfl, hs, HA⟩ := hrel
      by_cases hlt : k < m
      · have hkI : (k : Int) < (m : Int) := by omega
        by_cases hk0 : k = 0
        · subst hk0
          obtain ⟨k, hk0⟩ : ∃ k : Nat, k = 0 := ⟨0, rfl⟩
          go_wp2_with (go_at_call 42; fail)
          refine (once_at HK.out HA.out 5 (WalkArith.wf_i64 (by omega))).mono ?_
          rintro e w5 ⟨b, rfl, hat, -⟩
          have HAC := Lib.hid hat
          clear hat HA
          cases b
          · have hskip : True := trivial
            go_wp2_with fail
            go_loopw [5, 7] (fun sv jv wr2 => ∃ (j : Nat) (s2 : ByteArray), j ≤ 5 ∧ jv = .int .i64 (j : Int) ∧ sv = .string s2 ∧ s2.size ≤ 3 + s.size + j ∧ Hid (At w wr2 g a n c)) (fun _ jv _ => 5 - (intOf jv).toNat)
            case atStart => exact ⟨0, _, by omega, rfl, rfl, by omega, HAC⟩
            case round =>
              clear HAC
              obtain ⟨j, s2, hj, rfl, rfl, hs2, HA2⟩ := hrel
              go_wp2_with (go_at_call 43; fail)
              refine (below_at HK.out HA2.out 5 (WalkArith.wf_i64 (by omega))).mono ?_
              rintro e w6 ⟨u, rfl, ⟨hu0, hu1, -⟩, hat, -⟩
              have hu2 := hu1 (by omega)
              have HA3 := Lib.hid hat
              clear hat HA2 hu1
              by_cases hju : (j : Int) ≤ u
              · go_wp2_with (go_at_call 43; fail)
                refine (below_at HK.out HA3.out 94 (WalkArith.wf_i64 (by omega))).mono ?_
                rintro e w7 ⟨z, rfl, ⟨hz0, hz1, -⟩, hat, -⟩
                have hz2 := hz1 (by omega)
                have HA4 := Lib.hid (hat.alloc (.cells #[.int .u8 ((UInt8.ofNat (33 + z).toNat).toNat : Int)] 5))
                have hbw := byte_wrap (v := 33 + z) (by omega) (by omega)
                have hcv := conv_one w7 (UInt8.ofNat (33 + z).toNat)
                obtain ⟨y, hy⟩ : ∃ y, y = UInt8.ofNat (33 + z).toNat := ⟨_, rfl⟩
                rw [← hy] at hbw hcv HA4
                have hone : (strD [y]).size = 1 := strD_size _
                clear hat HA3 hz1 hy
                go_wp2_with fail
                go_roundw
                case rel => exact ⟨j + 1, s2 ++ strD [y], by omega, by go_num, by rfl, by rw [ByteArray.size_append]; omega, HA4⟩
                case measure => simp [intOf]; omega
              · go_wp2_with fail
                go_roundw
                case rel => exact ⟨0 + 1, s2, by omega, by go_num, rfl, by omega, HA3⟩
                case measure => simp [intOf]; omega
          · have hskip : True := trivial
            go_wp2_with (go_at_call 43; fail)
            refine (below_at HK.out HAC.out 2 (WalkArith.wf_i64 (by omega))).mono ?_
            rintro e w8 ⟨p, rfl, ⟨hp0, hp1, -⟩, hat, -⟩
            have hp2 := hp1 (by omega)
            have HA5 := Lib.hid hat
            clear hat HAC hp1
            go_wp2_with (go_at_call 43; fail)
            refine (below_at HK.out HA5.out 3 (WalkArith.wf_i64 (by omega))).mono ?_
            rintro e w9 ⟨q, rfl, ⟨hq0, hq1, -⟩, hat, -⟩
            have hq2 := hq1 (by omega)
            have HA6 := Lib.hid hat
            clear hat HA5 hq1
            have hpq : 0 ≤ p * q ∧ p * q ≤ 2 := by
              have : p = 0 ∨ p = 1 := by omega
              rcases this with rfl | rfl <;> omega
            obtain ⟨hpq0, hpq2⟩ := hpq
            go_wp2_with (go_at_call 48; fail)
            refine (long_at HA6.out _ (1 + p * q).toNat (by omega) (by omega)).mono ?_
            rintro e w10 ⟨l, rfl, hl, hat⟩
            have hl3 : l.size ≤ 3 := by omega
            have HAC := Lib.hid hat
            clear hat HA6 hl
            go_wp2_with fail
            go_loopw [5, 7] (fun sv jv wr2 => ∃ (j : Nat) (s2 : ByteArray), j ≤ 5 ∧ jv = .int .i64 (j : Int) ∧ sv = .string s2 ∧ s2.size ≤ 3 + s.size + j ∧ Hid (At w wr2 g a n c)) (fun _ jv _ => 5 - (intOf jv).toNat)
            case atStart => exact ⟨0, _, by omega, rfl, rfl, by rw [ByteArray.size_append]; omega, HAC⟩
            case round =>
              clear HAC
              obtain ⟨j, s2, hj, rfl, rfl, hs2, HA2⟩ := hrel
              go_wp2_with (go_at_call 43; fail)
              refine (below_at HK.out HA2.out 5 (WalkArith.wf_i64 (by omega))).mono ?_
              rintro e w6 ⟨u, rfl, ⟨hu0, hu1, -⟩, hat, -⟩
              have hu2 := hu1 (by omega)
              have HA3 := Lib.hid hat
              clear hat HA2 hu1
              by_cases hju : (j : Int) ≤ u
              · go_wp2_with (go_at_call 43; fail)
                refine (below_at HK.out HA3.out 94 (WalkArith.wf_i64 (by omega))).mono ?_
                rintro e w7 ⟨z, rfl, ⟨hz0, hz1, -⟩, hat, -⟩
                have hz2 := hz1 (by omega)
                have HA4 := Lib.hid (hat.alloc (.cells #[.int .u8 ((UInt8.ofNat (33 + z).toNat).toNat : Int)] 5))
                have hbw := byte_wrap (v := 33 + z) (by omega) (by omega)
                have hcv := conv_one w7 (UInt8.ofNat (33 + z).toNat)
                obtain ⟨y, hy⟩ : ∃ y, y = UInt8.ofNat (33 + z).toNat := ⟨_, rfl⟩
                rw [← hy] at hbw hcv HA4
                have hone : (strD [y]).size = 1 := strD_size _
                clear hat HA3 hz1 hy
                go_wp2_with fail
                go_roundw
                case rel => exact ⟨j + 1, s2 ++ strD [y], by omega, by go_num, by rfl, by rw [ByteArray.size_append]; omega, HA4⟩
                case measure => simp [intOf]; omega
              · go_wp2_with fail
                go_roundw
                case rel => exact ⟨0 + 1, s2, by omega, by go_num, rfl, by omega, HA3⟩
                case measure => simp [intOf]; omega
        · have hk0I : (0 : Int) < (k : Int) := by omega
          have HAC := HA
          go_wp2_with (go_at_call 43; fail)
          refine (below_at HK.out HAC.out 2 (WalkArith.wf_i64 (by omega))).mono ?_
          rintro e w8 ⟨p, rfl, ⟨hp0, hp1, -⟩, hat, -⟩
          have hp2 := hp1 (by omega)
          have HA5 := Lib.hid hat
          clear hat HAC hp1
          go_wp2_with (go_at_call 43; fail)
          refine (below_at HK.out HA5.out 3 (WalkArith.wf_i64 (by omega))).mono ?_
          rintro e w9 ⟨q, rfl, ⟨hq0, hq1, -⟩, hat, -⟩
          have hq2 := hq1 (by omega)
          have HA6 := Lib.hid hat
          clear hat HA5 hq1
          have hpq : 0 ≤ p * q ∧ p * q ≤ 2 := by
            have : p = 0 ∨ p = 1 := by omega
            rcases this with rfl | rfl <;> omega
          obtain ⟨hpq0, hpq2⟩ := hpq
          go_wp2_with (go_at_call 48; fail)
          refine (long_at HA6.out _ (1 + p * q).toNat (by omega) (by omega)).mono ?_
          rintro e w10 ⟨l, rfl, hl, hat⟩
          have hl3 : l.size ≤ 3 := by omega
          have HAC := Lib.hid hat
          clear hat HA6 hl
          go_wp2_with fail
          go_loopw [5, 7] (fun sv jv wr2 => ∃ (j : Nat) (s2 : ByteArray), j ≤ 5 ∧ jv = .int .i64 (j : Int) ∧ sv = .string s2 ∧ s2.size ≤ 3 + s.size + j ∧ Hid (At w wr2 g a n c)) (fun _ jv _ => 5 - (intOf jv).toNat)
          case atStart => exact ⟨0, _, by omega, rfl, rfl, by rw [ByteArray.size_append]; omega, HAC⟩
          case round =>
            clear HAC
            obtain ⟨j, s2, hj, rfl, rfl, hs2, HA2⟩ := hrel
            go_wp2_with (go_at_call 43; fail)
            refine (below_at HK.out HA2.out 5 (WalkArith.wf_i64 (by omega))).mono ?_
            rintro e w6 ⟨u, rfl, ⟨hu0, hu1, -⟩, hat, -⟩
            have hu2 := hu1 (by omega)
            have HA3 := Lib.hid hat
            clear hat HA2 hu1
            by_cases hju : (j : Int) ≤ u
            · go_wp2_with (go_at_call 43; fail)
              refine (below_at HK.out HA3.out 94 (WalkArith.wf_i64 (by omega))).mono ?_
              rintro e w7 ⟨z, rfl, ⟨hz0, hz1, -⟩, hat, -⟩
              have hz2 := hz1 (by omega)
              have HA4 := Lib.hid (hat.alloc (.cells #[.int .u8 ((UInt8.ofNat (33 + z).toNat).toNat : Int)] 5))
              have hbw := byte_wrap (v := 33 + z) (by omega) (by omega)
              have hcv := conv_one w7 (UInt8.ofNat (33 + z).toNat)
              obtain ⟨y, hy⟩ : ∃ y, y = UInt8.ofNat (33 + z).toNat := ⟨_, rfl⟩
              rw [← hy] at hbw hcv HA4
              have hone : (strD [y]).size = 1 := strD_size _
              clear hat HA3 hz1 hy
              go_wp2_with fail
              go_roundw
              case rel => exact ⟨j + 1, s2 ++ strD [y], by omega, by go_num, by rfl, by rw [ByteArray.size_append]; omega, HA4⟩
              case measure => simp [intOf]; omega
            · go_wp2_with fail
              go_roundw
              case rel => exact ⟨k + 1, s2, by omega, by go_num, rfl, by omega, HA3⟩
              case measure => simp [intOf]; omega
      · have hkI : ¬ (k : Int) < (m : Int) := by omega
        have hs2 : s.size ≤ 250 := by omega
        clear hlt hk hs
        go_wp2_with (go_at_call 43; fail)
        refine (below_at HK.out HA.out 12 (WalkArith.wf_i64 (by omega))).mono ?_
        rintro e w5 ⟨x, rfl, ⟨hx0, hx1, -⟩, hat, -⟩
        have hx2 := hx1 (by omega)
        have HA5 := Lib.hid hat
        clear hat HA hx1
        by_cases hx : x = 0
        · subst hx
          go_wp2_with (go_at_call 51; fail)
          refine (l01Pick_at HK.out (HA5.out.alloc _) _ 6 6 [⟨#[32]⟩, ⟨#[32, 32]⟩, ⟨#[9]⟩, ⟨#[10]⟩, ⟨#[127]⟩, ⟨#[233]⟩] (by omega) (by omega) rfl PICKS_le (.inr ⟨_, 0, rfl, by simp, fun j hj => by simp⟩) (fun x hx => by cases hx; have := HA5.out.lt; simp; omega)).mono ?_
          rintro e w6 ⟨t, rfl, ht, hat⟩
          have HA6 := Lib.hid hat
          clear hat HA5
          go_wp2_with fail
          go_ret
          exact ⟨_, rfl, by rw [ByteArray.size_append]; omega, HA6.out.1⟩
        · by_cases hx1 : x = 1
          · subst hx1
            have hs6 : (s.size : Int) < 600 := by omega
            go_wp2_with (go_at_call 43; fail)
            refine (below_at HK.out HA5.out 2 (WalkArith.wf_i64 (by omega))).mono ?_
            rintro e w6 ⟨p, rfl, ⟨hp0, hp1, -⟩, hat, -⟩
            have hp2 := hp1 (by omega)
            have HA6 := Lib.hid hat
            clear hat HA5 hp1
            go_wp2_with (go_at_call 48; fail)
            refine (long_at HA6.out _ (600 - (s.size : Int) + p).toNat (by omega) (by omega)).mono ?_
            rintro e w7 ⟨l, rfl, hl, hat⟩
            have hl3 : l.size ≤ 700 := by omega
            have HA7 := Lib.hid hat
            clear hat HA6 hl
            go_wp2_with fail
            go_ret
            exact ⟨_, rfl, by rw [ByteArray.size_append]; omega, HA7.out.1⟩
          · have hxa : (x == 0) = false := by rw [beq_eq_false_iff_ne]; exact hx
            have hxb : (x == 1) = false := by rw [beq_eq_false_iff_ne]; exact hx1
            go_wp2_with fail
            go_ret
            exact ⟨_, rfl, by omega, HA5.out.1⟩
  · go_wp2_with (go_at_call 43; fail)
    refine (below_at HK.out H4.out 2 (WalkArith.wf_i64 (by omega))).mono ?_
    rintro e w5 ⟨r, rfl, ⟨hr0, hr1, -⟩, hat, -⟩
    have hr2 := hr1 (by omega)
    have HM := Lib.hid hat
    clear hat H4 hr1 hv2 hv0
    obtain ⟨m, hm0⟩ : ∃ m : Nat, 24 + r = m := ⟨(24 + r).toNat, by omega⟩
    have hm : m ≤ 25 := by omega
    clear hr0 hr2
    go_wp2_with fail
    go_loopw [5, 6] (fun sv kv wr => ∃ (k : Nat) (s : ByteArray), k ≤ m ∧ kv = .int .i64 (k : Int) ∧ sv = .string s ∧ s.size ≤ 10 * k ∧ Hid (At w wr g a n c)) (fun _ kv _ => m - (intOf kv).toNat)
    case atStart => exact ⟨0, ⟨#[]⟩, by omega, rfl, rfl, by simp [ByteArray.size], HM⟩
    case round =>
      clear HM
      obtain ⟨k, s, hk, rfl, rfl, hs, HA⟩ := hrel
      by_cases hlt : k < m
      · have hkI : (k : Int) < (m : Int) := by omega
        by_cases hk0 : k = 0
        · subst hk0
          obtain ⟨k, hk0⟩ : ∃ k : Nat, k = 0 := ⟨0, rfl⟩
          go_wp2_with (go_at_call 42; fail)
          refine (once_at HK.out HA.out 5 (WalkArith.wf_i64 (by omega))).mono ?_
          rintro e w5 ⟨b, rfl, hat, -⟩
          have HAC := Lib.hid hat
          clear hat HA
          cases b
          · have hskip : True := trivial
            go_wp2_with fail
            go_loopw [5, 7] (fun sv jv wr2 => ∃ (j : Nat) (s2 : ByteArray), j ≤ 5 ∧ jv = .int .i64 (j : Int) ∧ sv = .string s2 ∧ s2.size ≤ 3 + s.size + j ∧ Hid (At w wr2 g a n c)) (fun _ jv _ => 5 - (intOf jv).toNat)
            case atStart => exact ⟨0, _, by omega, rfl, rfl, by omega, HAC⟩
            case round =>
              clear HAC
              obtain ⟨j, s2, hj, rfl, rfl, hs2, HA2⟩ := hrel
              go_wp2_with (go_at_call 43; fail)
              refine (below_at HK.out HA2.out 5 (WalkArith.wf_i64 (by omega))).mono ?_
              rintro e w6 ⟨u, rfl, ⟨hu0, hu1, -⟩, hat, -⟩
              have hu2 := hu1 (by omega)
              have HA3 := Lib.hid hat
              clear hat HA2 hu1
              by_cases hju : (j : Int) ≤ u
              · go_wp2_with (go_at_call 43; fail)
                refine (below_at HK.out HA3.out 94 (WalkArith.wf_i64 (by omega))).mono ?_
                rintro e w7 ⟨z, rfl, ⟨hz0, hz1, -⟩, hat, -⟩
                have hz2 := hz1 (by omega)
                have HA4 := Lib.hid (hat.alloc (.cells #[.int .u8 ((UInt8.ofNat (33 + z).toNat).toNat : Int)] 5))
                have hbw := byte_wrap (v := 33 + z) (by omega) (by omega)
                have hcv := conv_one w7 (UInt8.ofNat (33 + z).toNat)
                obtain ⟨y, hy⟩ : ∃ y, y = UInt8.ofNat (33 + z).toNat := ⟨_, rfl⟩
                rw [← hy] at hbw hcv HA4
                have hone : (strD [y]).size = 1 := strD_size _
                clear hat HA3 hz1 hy
                go_wp2_with fail
                go_roundw
                case rel => exact ⟨j + 1, s2 ++ strD [y], by omega, by go_num, by rfl, by rw [ByteArray.size_append]; omega, HA4⟩
                case measure => simp [intOf]; omega
              · go_wp2_with fail
                go_roundw
                case rel => exact ⟨0 + 1, s2, by omega, by go_num, rfl, by omega, HA3⟩
                case measure => simp [intOf]; omega
          · have hskip : True := trivial
            go_wp2_with (go_at_call 43; fail)
            refine (below_at HK.out HAC.out 2 (WalkArith.wf_i64 (by omega))).mono ?_
            rintro e w8 ⟨p, rfl, ⟨hp0, hp1, -⟩, hat, -⟩
            have hp2 := hp1 (by omega)
            have HA5 := Lib.hid hat
            clear hat HAC hp1
            go_wp2_with (go_at_call 43; fail)
            refine (below_at HK.out HA5.out 3 (WalkArith.wf_i64 (by omega))).mono ?_
            rintro e w9 ⟨q, rfl, ⟨hq0, hq1, -⟩, hat, -⟩
            have hq2 := hq1 (by omega)
            have HA6 := Lib.hid hat
            clear hat HA5 hq1
            have hpq : 0 ≤ p * q ∧ p * q ≤ 2 := by
              have : p = 0 ∨ p = 1 := by omega
              rcases this with rfl | rfl <;> omega
            obtain ⟨hpq0, hpq2⟩ := hpq
            go_wp2_with (go_at_call 48; fail)
            refine (long_at HA6.out _ (1 + p * q).toNat (by omega) (by omega)).mono ?_
            rintro e w10 ⟨l, rfl, hl, hat⟩
            have hl3 : l.size ≤ 3 := by omega
            have HAC := Lib.hid hat
            clear hat HA6 hl
            go_wp2_with fail
            go_loopw [5, 7] (fun sv jv wr2 => ∃ (j : Nat) (s2 : ByteArray), j ≤ 5 ∧ jv = .int .i64 (j : Int) ∧ sv = .string s2 ∧ s2.size ≤ 3 + s.size + j ∧ Hid (At w wr2 g a n c)) (fun _ jv _ => 5 - (intOf jv).toNat)
            case atStart => exact ⟨0, _, by omega, rfl, rfl, by rw [ByteArray.size_append]; omega, HAC⟩
            case round =>
              clear HAC
              obtain ⟨j, s2, hj, rfl, rfl, hs2, HA2⟩ := hrel
              go_wp2_with (go_at_call 43; fail)
              refine (below_at HK.out HA2.out 5 (WalkArith.wf_i64 (by omega))).mono ?_
              rintro e w6 ⟨u, rfl, ⟨hu0, hu1, -⟩, hat, -⟩
              have hu2 := hu1 (by omega)
              have HA3 := Lib.hid hat
              clear hat HA2 hu1
              by_cases hju : (j : Int) ≤ u
              · go_wp2_with (go_at_call 43; fail)
                refine (below_at HK.out HA3.out 94 (WalkArith.wf_i64 (by omega))).mono ?_
                rintro e w7 ⟨z, rfl, ⟨hz0, hz1, -⟩, hat, -⟩
                have hz2 := hz1 (by omega)
                have HA4 := Lib.hid (hat.alloc (.cells #[.int .u8 ((UInt8.ofNat (33 + z).toNat).toNat : Int)] 5))
                have hbw := byte_wrap (v := 33 + z) (by omega) (by omega)
                have hcv := conv_one w7 (UInt8.ofNat (33 + z).toNat)
                obtain ⟨y, hy⟩ : ∃ y, y = UInt8.ofNat (33 + z).toNat := ⟨_, rfl⟩
                rw [← hy] at hbw hcv HA4
                have hone : (strD [y]).size = 1 := strD_size _
                clear hat HA3 hz1 hy
                go_wp2_with fail
                go_roundw
                case rel => exact ⟨j + 1, s2 ++ strD [y], by omega, by go_num, by rfl, by rw [ByteArray.size_append]; omega, HA4⟩
                case measure => simp [intOf]; omega
              · go_wp2_with fail
                go_roundw
                case rel => exact ⟨0 + 1, s2, by omega, by go_num, rfl, by omega, HA3⟩
                case measure => simp [intOf]; omega
        · have hk0I : (0 : Int) < (k : Int) := by omega
          have HAC := HA
          go_wp2_with (go_at_call 43; fail)
          refine (below_at HK.out HAC.out 2 (WalkArith.wf_i64 (by omega))).mono ?_
          rintro e w8 ⟨p, rfl, ⟨hp0, hp1, -⟩, hat, -⟩
          have hp2 := hp1 (by omega)
          have HA5 := Lib.hid hat
          clear hat HAC hp1
          go_wp2_with (go_at_call 43; fail)
          refine (below_at HK.out HA5.out 3 (WalkArith.wf_i64 (by omega))).mono ?_
          rintro e w9 ⟨q, rfl, ⟨hq0, hq1, -⟩, hat, -⟩
          have hq2 := hq1 (by omega)
          have HA6 := Lib.hid hat
          clear hat HA5 hq1
          have hpq : 0 ≤ p * q ∧ p * q ≤ 2 := by
            have : p = 0 ∨ p = 1 := by omega
            rcases this with rfl | rfl <;> omega
          obtain ⟨hpq0, hpq2⟩ := hpq
          go_wp2_with (go_at_call 48; fail)
          refine (long_at HA6.out _ (1 + p * q).toNat (by omega) (by omega)).mono ?_
          rintro e w10 ⟨l, rfl, hl, hat⟩
          have hl3 : l.size ≤ 3 := by omega
          have HAC := Lib.hid hat
          clear hat HA6 hl
          go_wp2_with fail
          go_loopw [5, 7] (fun sv jv wr2 => ∃ (j : Nat) (s2 : ByteArray), j ≤ 5 ∧ jv = .int .i64 (j : Int) ∧ sv = .string s2 ∧ s2.size ≤ 3 + s.size + j ∧ Hid (At w wr2 g a n c)) (fun _ jv _ => 5 - (intOf jv).toNat)
          case atStart => exact ⟨0, _, by omega, rfl, rfl, by rw [ByteArray.size_append]; omega, HAC⟩
          case round =>
            clear HAC
            obtain ⟨j, s2, hj, rfl, rfl, hs2, HA2⟩ := hrel
            go_wp2_with (go_at_call 43; fail)
            refine (below_at HK.out HA2.out 5 (WalkArith.wf_i64 (by omega))).mono ?_
            rintro e w6 ⟨u, rfl, ⟨hu0, hu1, -⟩, hat, -⟩
            have hu2 := hu1 (by omega)
            have HA3 := Lib.hid hat
            clear hat HA2 hu1
            by_cases hju : (j : Int) ≤ u
            · go_wp2_with (go_at_call 43; fail)
              refine (below_at HK.out HA3.out 94 (WalkArith.wf_i64 (by omega))).mono ?_
              rintro e w7 ⟨z, rfl, ⟨hz0, hz1, -⟩, hat, -⟩
              have hz2 := hz1 (by omega)
              have HA4 := Lib.hid (hat.alloc (.cells #[.int .u8 ((UInt8.ofNat (33 + z).toNat).toNat : Int)] 5))
              have hbw := byte_wrap (v := 33 + z) (by omega) (by omega)
              have hcv := conv_one w7 (UInt8.ofNat (33 + z).toNat)
              obtain ⟨y, hy⟩ : ∃ y, y = UInt8.ofNat (33 + z).toNat := ⟨_, rfl⟩
              rw [← hy] at hbw hcv HA4
              have hone : (strD [y]).size = 1 := strD_size _
              clear hat HA3 hz1 hy
              go_wp2_with fail
              go_roundw
              case rel => exact ⟨j + 1, s2 ++ strD [y], by omega, by go_num, by rfl, by rw [ByteArray.size_append]; omega, HA4⟩
              case measure => simp [intOf]; omega
            · go_wp2_with fail
              go_roundw
              case rel => exact ⟨k + 1, s2, by omega, by go_num, rfl, by omega, HA3⟩
              case measure => simp [intOf]; omega
      · have hkI : ¬ (k : Int) < (m : Int) := by omega
        have hs2 : s.size ≤ 250 := by omega
        clear hlt hk hs
        go_wp2_with (go_at_call 43; fail)
        refine (below_at HK.out HA.out 12 (WalkArith.wf_i64 (by omega))).mono ?_
        rintro e w5 ⟨x, rfl, ⟨hx0, hx1, -⟩, hat, -⟩
        have hx2 := hx1 (by omega)
        have HA5 := Lib.hid hat
        clear hat HA hx1
        by_cases hx : x = 0
        · subst hx
          go_wp2_with (go_at_call 51; fail)
          refine (l01Pick_at HK.out (HA5.out.alloc _) _ 6 6 [⟨#[32]⟩, ⟨#[32, 32]⟩, ⟨#[9]⟩, ⟨#[10]⟩, ⟨#[127]⟩, ⟨#[233]⟩] (by omega) (by omega) rfl PICKS_le (.inr ⟨_, 0, rfl, by simp, fun j hj => by simp⟩) (fun x hx => by cases hx; have := HA5.out.lt; simp; omega)).mono ?_
          rintro e w6 ⟨t, rfl, ht, hat⟩
          have HA6 := Lib.hid hat
          clear hat HA5
          go_wp2_with fail
          go_ret
          exact ⟨_, rfl, by rw [ByteArray.size_append]; omega, HA6.out.1⟩
        · by_cases hx1 : x = 1
          · subst hx1
            have hs6 : (s.size : Int) < 600 := by omega
            go_wp2_with (go_at_call 43; fail)
            refine (below_at HK.out HA5.out 2 (WalkArith.wf_i64 (by omega))).mono ?_
            rintro e w6 ⟨p, rfl, ⟨hp0, hp1, -⟩, hat, -⟩
            have hp2 := hp1 (by omega)
            have HA6 := Lib.hid hat
            clear hat HA5 hp1
            go_wp2_with (go_at_call 48; fail)
            refine (long_at HA6.out _ (600 - (s.size : Int) + p).toNat (by omega) (by omega)).mono ?_
            rintro e w7 ⟨l, rfl, hl, hat⟩
            have hl3 : l.size ≤ 700 := by omega
            have HA7 := Lib.hid hat
            clear hat HA6 hl
            go_wp2_with fail
            go_ret
            exact ⟨_, rfl, by rw [ByteArray.size_append]; omega, HA7.out.1⟩
          · have hxa : (x == 0) = false := by rw [beq_eq_false_iff_ne]; exact hx
            have hxb : (x == 1) = false := by rw [beq_eq_false_iff_ne]; exact hx1
            go_wp2_with fail
            go_ret
            exact ⟨_, rfl, by omega, HA5.out.1⟩
end Go.Proofs.YtlbmmdkmelcedaaDoor
