/-
  The walk of the law FnHexText.
-/
import Derived.Test.YtlbmmdkmelcedaaDoorDrawTxt
import Derived.Test.YtlbmmdkmelcedaaDoorHexI
import Derived.Test.YtlbmmdkmelcedaaDoorHexDI
import Derived.Test.YtlbmmdkmelcedaaDoorDoorB
namespace Go.Proofs.YtlbmmdkmelcedaaDoor.fnHexText
open Go.RowKit
set_option linter.unusedVariables false
set_option linter.unusedSimpArgs false

theorem hex_at (bs : List UInt8) : ∀ j b, bs[j]? = some b → (hexL bs)[2 * j]? = some (hexD (b.toNat / 16)) ∧ (hexL bs)[2 * j + 1]? = some (hexD (b.toNat % 16)) := by
  induction bs with
  | nil => intro j b h; simp at h
  | cons c bs ih =>
    intro j b h
    have e : hexL (c :: bs) = hexD (c.toNat / 16) :: hexD (c.toNat % 16) :: hexL bs := by simp [hexL]
    cases j with
    | zero =>
      simp at h
      subst h
      rw [e]
      simp
    | succ j =>
      have := ih j b (by simpa using h)
      rw [e, show 2 * (j + 1) = 2 * j + 1 + 1 by omega]
      simpa using this
theorem val_hex {n : Nat} (h : n ≤ 15) : valN (hexD n).toNat = n := by
  have : ∀ m : Fin 16, valN (hexD m.val).toNat = (m.val : Int) := by decide
  exact this ⟨n, by omega⟩
theorem strH_size (s : ByteArray) : (strH s).size = 2 * s.size := by
  have := hexL_len s.data.toList
  have e : (strH s).size = (hexL s.data.toList).length := by simp [strH, ByteArray.size]
  rw [e, this]
  rfl
theorem btN_hex {s : ByteArray} {j : Nat} {b : UInt8} (h : s.data.toList[j]? = some b) : btN (strH s) (2 * j) = (hexD (b.toNat / 16)).toNat ∧ btN (strH s) (2 * j + 1) = (hexD (b.toNat % 16)).toNat := by
  obtain ⟨h1, h2⟩ := hex_at s.data.toList j b h
  have e : (strH s).data.toList = hexL s.data.toList := by simp [strH]
  unfold btN
  rw [e, List.getD, List.getD, h1, h2]
  exact ⟨rfl, rfl⟩
theorem dec_hex {s : ByteArray} {j : Nat} {b : UInt8} (h : s.data.toList[j]? = some b) : okP (strH s) j = true ∧ decD (strH s) j = b := by
  obtain ⟨h1, h2⟩ := btN_hex h
  have hb := b.toNat_lt
  have v1 : valN (btN (strH s) (2 * j)) = ((b.toNat / 16 : Nat) : Int) := by rw [h1]; exact val_hex (by omega)
  have v2 : valN (btN (strH s) (2 * j + 1)) = ((b.toNat % 16 : Nat) : Int) := by rw [h2]; exact val_hex (by omega)
  constructor
  · unfold okP
    rw [v1, v2]
    simp
    omega
  · unfold decD
    rw [v1, v2]
    have : (16 * ((b.toNat / 16 : Nat) : Int) + ((b.toNat % 16 : Nat) : Int)).toNat = b.toNat := by omega
    rw [this]
    exact UInt8.ofNat_toNat
theorem sz_l (s : ByteArray) : s.data.toList.length = s.size := rfl
theorem resB_hex (s : ByteArray) : resB (strH s) = true := resB_yes (fun j hj => by
  rw [strH_size] at hj
  have hl : j < s.data.toList.length := by rw [sz_l]; omega
  exact (dec_hex (List.getElem?_eq_getElem hl)).1)
theorem resS_hex (s : ByteArray) : resS (strH s) = s := by
  unfold resS
  rw [resB_hex, if_pos rfl]
  have : decL (strH s) ((strH s).size / 2) = s.data.toList := by
    rw [strH_size, show 2 * s.size / 2 = s.size by omega]
    apply List.ext_getElem
    · rw [decL_len, sz_l]
    · intro j h1 h2
      have := (dec_hex (List.getElem?_eq_getElem h2)).2
      simp only [decL, List.getElem_map, List.getElem_range]
      exact this
  rw [this]
theorem impl_no (s : ByteArray) (w : World) (hs : 20000 < s.size) (hm : s.size ≤ 1048576) : Calls Tryd.prog 21 #[.string s] w fun e w' => e = .returned (.tuple #[.string ⟨#[]⟩, .bool false]) ∧ Below w.heap.size w w' := by
  have h1 : (20000 : Int) < (s.size : Int) := by omega
  go_enter Tryd.func21, Tryd.ntmps21
  go_wp2
  all_goals exact bodyPost_ret (v := .tuple #[.string ⟨#[]⟩, .bool false]) (by simp [results, Tryd.results21, go_sem]) rfl ⟨rfl, by repeat' (first | assumption | (with_reducible exact Below.refl _ _) | (with_reducible refine Below.drew ?_) | (with_reducible refine Below.alloc ?_ ?_ _) | (with_reducible refine Below.setCell ?_ ?_ _) | omega | (simp; done) | (simp; omega))⟩
theorem ten : strD (Lib.itoa ((10 : Nat) : Int)) = ⟨#[49, 48]⟩ := by
  unfold Lib.itoa
  rw [if_neg (by omega), show ((10 : Nat) : Int).toNat = 10 from rfl, Lib.decDigits_two (by omega) (by omega)]
  rfl
set_option maxHeartbeats 1600000 in
set_option maxRecDepth 100000 in
theorem walk (a0 : Option Addr) (len0 cap0 : Nat) (z0 : List Int) (w : World) (w0 : IsRow .u8 w a0 len0 cap0 z0) (hT : TabB w) :
    Calls Tryd.prog 7 #[.slice a0 len0 cap0] w fun e w' => e = .returned (.bool true) ∧ Below w.heap.size w w' := by
  have HB := Lib.hid (big_any a0 len0 cap0 w w0.max_)
  clear hT
  by_cases hbig : 1048576 < len0
  · clear w0
    go_enter Tryd.func7, Tryd.ntmps7
    go_wp2_with (go_at_call 13; refine (HB.out).mono ?_; rintro e w1 ⟨rfl, hb⟩; simp only [hbig, decide_true])
    go_ret
    exact ⟨rfl, hb⟩
  · have HK := Lib.hid (w0.code hbig)
    clear w0
    go_enter Tryd.func7, Tryd.ntmps7
    go_wp2_with (first | (go_at_call 13; refine (HB.out).mono ?_; rintro e w1 ⟨rfl, hb⟩; simp only [hbig, decide_false]) | (go_at_call 20; fail))
    refine (drawEnc_any a0 len0 cap0 _ w1 (HK.out.below hb)).mono ?_
    rintro e w2 ⟨s, rfl, hs, hb2⟩
    have hB2 : Below w.heap.size w w2 := below_step hb2 hb.size hb
    clear hb hb2 HB HK
    by_cases hc : 20000 < s.size
    · have hcI : (20000 : Int) < (s.size : Int) := by omega
      have HE := Lib.hid (fun W : World => impl_no s W hc (by omega))
      have HF := Lib.hid (fun W : World => implFmt_small 10 W (by omega))
      rw [ten] at HF
      go_wp2_with (go_at_call 21; fail)
      refine (HE.out _).mono ?_
      rintro e w3 ⟨rfl, hb3⟩
      have hB3 : Below w.heap.size w w3 := below_step hb3 hB2.size hB2
      clear hb3
      go_wp2_with (go_at_call 15; fail)
      refine (HF.out _).mono ?_
      rintro e w4 ⟨rfl, hb4⟩
      have hB4 : Below w.heap.size w w4 := below_step hb4 hB3.size hB3
      clear hb4
      go_wp2_with fail
      go_ret
      exact ⟨rfl, hB4⟩
    · have hcI : ¬ (20000 : Int) < (s.size : Int) := by omega
      have HE := Lib.hid (fun W : World => implEnc_any s W (by omega))
      have hsz := strH_size s
      have HD := Lib.hid (fun W : World => implDec_any (strH s) W (by omega) (by omega))
      rw [resB_hex, resS_hex] at HD
      obtain ⟨t, ht⟩ : ∃ t, t = strH s := ⟨_, rfl⟩
      rw [← ht] at HE HD hsz
      clear ht
      go_wp2_with (go_at_call 21; fail)
      refine (HE.out _).mono ?_
      rintro e w3 ⟨rfl, hb3⟩
      have hB3 : Below w.heap.size w w3 := below_step hb3 hB2.size hB2
      clear hb3
      go_wp2_with (go_at_call 22; fail)
      refine (HD.out _).mono ?_
      rintro e w4 ⟨rfl, hb4⟩
      have hB4 : Below w.heap.size w w4 := below_step hb4 hB3.size hB3
      clear hb4
      go_wp2_with fail
      go_ret
      exact ⟨rfl, hB4⟩
end Go.Proofs.YtlbmmdkmelcedaaDoor.fnHexText
