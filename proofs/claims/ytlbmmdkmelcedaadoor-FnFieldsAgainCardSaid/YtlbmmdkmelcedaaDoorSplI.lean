/-
  The fields of a line: the program.
-/
import Derived.Test.YtlbmmdkmelcedaaDoorSplS
namespace Go.Proofs.YtlbmmdkmelcedaaDoor
open Go.RowKit
set_option linter.unusedVariables false
set_option linter.unusedSimpArgs false

set_option maxHeartbeats 1600000 in
set_option maxRecDepth 100000 in
theorem implSplit_any (s : ByteArray) (w : World) (hs : s.size ≤ 1048576) :
    Calls Tryd.prog 24 #[.string s] w fun e w' => ∃ a c, e = .returned (.tuple #[.slice a (fldR s).length c, .bool (fokB s)]) ∧ OwnT w' w.heap.size (.slice a (fldR s).length c) (fldR s) ∧ Below w.heap.size w w' := by
  obtain ⟨i0, hi, hz0, hz1, hz2⟩ := info_parts txInfo
  by_cases hbig : 600 < s.size
  · have HF : Hid (fokB s = false) := Lib.hid (fok_big hbig)
    have HR : Hid (fldR s = []) := Lib.hid (fldR_no HF.out)
    have hbI : (600 : Int) < (s.size : Int) := by omega
    go_enter Tryd.func24, Tryd.ntmps24
    go_wp2
    exact bodyPost_ret (v := .tuple #[.slice none 0 0, .bool false]) (by simp [results, Tryd.results24, go_sem]) rfl ⟨_, _, by rw [HF.out, HR.out]; rfl, by rw [HR.out]; exact OwnT.nil w _, by repeat' (first | assumption | (with_reducible exact Below.refl _ _) | (with_reducible refine Below.drew ?_) | (with_reducible refine Below.alloc ?_ ?_ _) | (with_reducible refine Below.setCell ?_ ?_ _) | omega | (simp; done) | (simp; omega))⟩
  · have hbI : ¬ (600 : Int) < (s.size : Int) := by omega
    have hs6 : s.size ≤ 600 := by omega
    clear hbig hs
    go_enter Tryd.func24, Tryd.ntmps24
    go_wp2_with fail
    go_loopw [4, 5, 13] (fun v fr i wr => ∃ (k b : Nat) (f : Int) (X : List ByteArray) (a : Option Addr) (c : Nat), k ≤ s.size ∧ i = .int .i64 k ∧ fr = .int .i64 f ∧ v = .slice a X.length c ∧ Hid (OwnT wr w.heap.size (.slice a X.length c) X) ∧ Hid (fldK s k = (X, b)) ∧ Hid ((f = -1 ∧ b = k) ∨ (f = b ∧ b < k)) ∧ Hid (∀ j, j < k → 32 ≤ chN s j ∧ chN s j ≤ 126) ∧ Below w.heap.size w wr)
      (fun _ _ i _ => s.size - (intOf i).toNat)
    case atStart => exact ⟨0, 0, -1, [], _, _, Nat.zero_le _, rfl, rfl, rfl, Lib.hid (OwnT.new _ _ (Nat.le_refl _) _ rfl), Lib.hid rfl, Lib.hid (.inl ⟨rfl, rfl⟩), Lib.hid (fun j hj => absurd hj (by omega)), by repeat' (first | assumption | (with_reducible exact Below.refl _ _) | (with_reducible refine Below.drew ?_) | (with_reducible refine Below.alloc ?_ ?_ _) | (with_reducible refine Below.setCell ?_ ?_ _) | omega | (simp; done) | (simp; omega))⟩
    case round =>
      obtain ⟨k, b, f, X, a, c, hk, rfl, rfl, rfl, hO, HE, hFR, hA, hB⟩ := hrel
      have hsz := hB.size
      obtain ⟨hbk, hXk⟩ := fldK_b HE.out
      by_cases hlt : k < s.size
      · have hlk : (k : Int) < (s.size : Int) := by omega
        have hle : (k : Int) ≤ (s.size : Int) := by omega
        obtain ⟨ch, hch⟩ : ∃ ch, s[k] = ch := ⟨_, rfl⟩
        have hcN : chN s k = ch.toNat := by rw [ch_of hlt, hch]
        have HCN := Lib.hid hcN
        clear hcN
        by_cases h32 : ch.toNat < 32
        · have HF : Hid (fokB s = false) := Lib.hid (pln_no hlt (.inl (by rw [HCN.out]; exact h32)))
          have HR : Hid (fldR s = []) := Lib.hid (fldR_no HF.out)
          have h32I : (ch.toNat : Int) < 32 := by omega
          go_wp2_with fail
          exact bodyPost_ret (v := .tuple #[.slice none 0 0, .bool false]) (by simp [results, Tryd.results24, go_sem]) rfl ⟨_, _, by rw [HF.out, HR.out]; rfl, by rw [HR.out]; exact OwnT.nil wr _, by repeat' (first | assumption | (with_reducible exact Below.refl _ _) | (with_reducible refine Below.drew ?_) | (with_reducible refine Below.alloc ?_ ?_ _) | (with_reducible refine Below.setCell ?_ ?_ _) | omega | (simp; done) | (simp; omega))⟩
        · by_cases h126 : 126 < ch.toNat
          · have HF : Hid (fokB s = false) := Lib.hid (pln_no hlt (.inr (by rw [HCN.out]; exact h126)))
            have HR : Hid (fldR s = []) := Lib.hid (fldR_no HF.out)
            have h32I : ¬ (ch.toNat : Int) < 32 := by omega
            have h126I : (126 : Int) < (ch.toNat : Int) := by omega
            go_wp2_with fail
            exact bodyPost_ret (v := .tuple #[.slice none 0 0, .bool false]) (by simp [results, Tryd.results24, go_sem]) rfl ⟨_, _, by rw [HF.out, HR.out]; rfl, by rw [HR.out]; exact OwnT.nil wr _, by repeat' (first | assumption | (with_reducible exact Below.refl _ _) | (with_reducible refine Below.drew ?_) | (with_reducible refine Below.alloc ?_ ?_ _) | (with_reducible refine Below.setCell ?_ ?_ _) | omega | (simp; done) | (simp; omega))⟩
          · have h32I : ¬ (ch.toNat : Int) < 32 := by omega
            have h126I : ¬ (126 : Int) < (ch.toNat : Int) := by omega
            have HA1 := Lib.hid (fun j (hj : j < k + 1) => all_snoc (p := fun j => 32 ≤ chN s j ∧ chN s j ≤ 126) hA.out (by rw [HCN.out]; omega) j hj)
            by_cases hsp : ch.toNat = 32
            · have hspI : ((ch.toNat : Int) == 32) = true := by rw [hsp]; rfl
              have hspI2 : (ch.toNat : Int) = 32 := by omega
              rcases hFR.out with ⟨hf, hbe⟩ | ⟨hf, hbl⟩
              · have HX : Hid (fldK s (k + 1) = (X, k + 1)) := Lib.hid (fldK_sep0 (by rw [HCN.out]; exact hsp) HE.out (by omega))
                clear hsp hbe hFR hspI2
                subst hf
                go_wp2_with fail
                go_roundw
                case rel => exact ⟨k + 1, k + 1, -1, X, a, c, by omega, by go_num, rfl, rfl, hO, HX, Lib.hid (.inl ⟨rfl, rfl⟩), HA1, hB⟩
                case measure => simp [intOf]; omega
              · have HX : Hid (fldK s (k + 1) = (X ++ [s.extract b k], k + 1)) := Lib.hid (fldK_sep1 (by rw [HCN.out]; exact hsp) HE.out hbl)
                have hblE : (b : Int) ≤ (k : Int) := by omega
                obtain ⟨t, ht⟩ : ∃ t, t = s.extract b k := ⟨_, rfl⟩
                rw [← ht] at HX
                have ht' : s.extract b k = t := ht.symm
                clear hsp ht hFR hspI2
                subst hf
                go_wp2_with (at_builtin; refine wpList_append_own _ rfl _ _ 39 rfl w.heap.size 9 i0 (.string ⟨#[]⟩) 1 16 Tryd.underlying39 hi hz0 hz1 hz2 rfl (by decide) _ _ _ rfl (World.ownsRow.alloc hO.out _) ⟨wr.heap.size, 0, none⟩ 1 1 [.string t] rfl rfl (txt_new _ _ _) (by intro u hu; simp at hu; subst hu; rfl) (by unfold maxLen; omega) (by omega) (by simp; omega) ?_; intro v3 w3 hown3 hgrow3 hnil3)
                obtain ⟨a3, c3, hv3, hO3⟩ := OwnT.snoc hown3
                subst hv3
                have HO3 := Lib.hid hO3
                have hB3 : Below w.heap.size w w3 := (hB.alloc hsz _).trans (grown_below (World.ownsRow.alloc hO.out _) hgrow3 (by simp; omega))
                clear hown3 hgrow3 hnil3 hO3
                go_wp2_with fail
                go_roundw
                case rel => exact ⟨k + 1, k + 1, -1, X ++ [t], a3, c3, by omega, by go_num, rfl, by simp, Lib.hid (by simpa using HO3.out), HX, Lib.hid (.inl ⟨rfl, rfl⟩), HA1, hB3⟩
                case measure => simp [intOf]; omega
            · have hspI : ((ch.toNat : Int) == 32) = false := by rw [beq_eq_false_iff_ne]; omega
              have hspI2 : ¬ (ch.toNat : Int) = 32 := by omega
              have HX : Hid (fldK s (k + 1) = (X, b)) := Lib.hid ((fldK_in (by rw [HCN.out]; exact hsp)).trans HE.out)
              rcases hFR.out with ⟨hf, hbe⟩ | ⟨hf, hbl⟩
              · have HB : Hid (b = k) := Lib.hid hbe
                clear hsp hbe hFR hspI2
                subst hf
                go_wp2_with fail
                go_roundw
                case rel => exact ⟨k + 1, b, k, X, a, c, by omega, by go_num, rfl, rfl, hO, HX, Lib.hid (.inr ⟨by rw [HB.out], by rw [HB.out]; omega⟩), HA1, hB⟩
                case measure => simp [intOf]; omega
              · clear hsp hFR hspI2
                subst hf
                have hb0 : ¬ (b : Int) < 0 := by omega
                go_wp2_with fail
                go_roundw
                case rel => exact ⟨k + 1, b, b, X, a, c, by omega, by go_num, rfl, rfl, hO, HX, Lib.hid (.inr ⟨rfl, by omega⟩), HA1, hB⟩
                case measure => simp [intOf]; omega
      · have hlk : ¬ (k : Int) < (s.size : Int) := by omega
        have HKS : Hid (k = s.size) := Lib.hid (by omega)
        have HFE : Hid (fokB s = decide ((fldE s).length ≤ 24)) := Lib.hid (fok_end hs6 (fun j hj => hA.out j (by omega)))
        have hX6 : X.length ≤ 600 := by omega
        rcases hFR.out with ⟨hf, hbe⟩ | ⟨hf, hbl⟩
        · have HX : Hid (fldE s = X) := Lib.hid (fldE_0 HKS.out HE.out (by omega))
          clear hbe hFR hlt hk
          subst hf
          by_cases h24 : 24 < X.length
          · have HF1 : Hid (fokB s = false) := Lib.hid (by rw [HFE.out, HX.out]; simp; omega)
            have HR : Hid (fldR s = []) := Lib.hid (fldR_no HF1.out)
            have h24I : (24 : Int) < (X.length : Int) := by omega
            go_wp2_with fail
            exact bodyPost_ret (v := .tuple #[.slice none 0 0, .bool false]) (by simp [results, Tryd.results24, go_sem]) rfl ⟨_, _, by rw [HF1.out, HR.out]; rfl, by rw [HR.out]; exact OwnT.nil wr _, by repeat' (first | assumption | (with_reducible exact Below.refl _ _) | (with_reducible refine Below.drew ?_) | (with_reducible refine Below.alloc ?_ ?_ _) | (with_reducible refine Below.setCell ?_ ?_ _) | omega | (simp; done) | (simp; omega))⟩
          · have HF1 : Hid (fokB s = true) := Lib.hid (by rw [HFE.out, HX.out]; simp; omega)
            have HR : Hid (fldR s = X) := Lib.hid ((fldR_yes HF1.out).trans HX.out)
            have h24I : ¬ (24 : Int) < (X.length : Int) := by omega
            go_wp2_with fail
            exact bodyPost_ret (v := .tuple #[.slice a X.length c, .bool true]) (by simp [results, Tryd.results24, go_sem]) rfl ⟨_, _, by rw [HF1.out, HR.out], by rw [HR.out]; exact hO.out, hB⟩
        · have HX : Hid (fldE s = X ++ [s.extract b s.size]) := Lib.hid (by rw [← HKS.out]; exact fldE_1 HKS.out HE.out hbl)
          have hblE : (b : Int) ≤ (s.size : Int) := by omega
          obtain ⟨t, ht⟩ : ∃ t, t = s.extract b s.size := ⟨_, rfl⟩
          rw [← ht] at HX
          have ht' : s.extract b s.size = t := ht.symm
          clear ht hFR hlt hk
          subst hf
          go_wp2_with (at_builtin; refine wpList_append_own _ rfl _ _ 39 rfl w.heap.size 9 i0 (.string ⟨#[]⟩) 1 16 Tryd.underlying39 hi hz0 hz1 hz2 rfl (by decide) _ _ _ rfl (World.ownsRow.alloc hO.out _) ⟨wr.heap.size, 0, none⟩ 1 1 [.string t] rfl rfl (txt_new _ _ _) (by intro u hu; simp at hu; subst hu; rfl) (by unfold maxLen; omega) (by omega) (by simp; omega) ?_; intro v3 w3 hown3 hgrow3 hnil3)
          obtain ⟨a3, c3, hv3, hO3⟩ := OwnT.snoc hown3
          subst hv3
          have HO3 := Lib.hid hO3
          have hB3 : Below w.heap.size w w3 := (hB.alloc hsz _).trans (grown_below (World.ownsRow.alloc hO.out _) hgrow3 (by simp; omega))
          have hsz3 := hB3.size
          clear hown3 hgrow3 hnil3 hO3
          obtain ⟨m, hm⟩ : ∃ m, m = X.length + 1 := ⟨_, rfl⟩
          rw [← hm]
          have hm6 : m ≤ 601 := by omega
          have HM := Lib.hid hm
          clear hm
          by_cases h24 : 24 < m
          · have HF1 : Hid (fokB s = false) := Lib.hid (by rw [HFE.out, HX.out]; simp; have := HM.out; omega)
            have HR : Hid (fldR s = []) := Lib.hid (fldR_no HF1.out)
            have h24I : (24 : Int) < (m : Int) := by omega
            go_simp
            go_wp2_with fail
            exact bodyPost_ret (v := .tuple #[.slice none 0 0, .bool false]) (by simp [results, Tryd.results24, go_sem]) rfl ⟨_, _, by rw [HF1.out, HR.out]; rfl, by rw [HR.out]; exact OwnT.nil w3 _, hB3⟩
          · have HF1 : Hid (fokB s = true) := Lib.hid (by rw [HFE.out, HX.out]; simp; have := HM.out; omega)
            have HR : Hid (fldR s = X ++ [t]) := Lib.hid ((fldR_yes HF1.out).trans HX.out)
            have h24I : ¬ (24 : Int) < (m : Int) := by omega
            go_simp
            go_wp2_with fail
            exact bodyPost_ret (v := .tuple #[.slice a3 m c3, .bool true]) (by simp [results, Tryd.results24, go_sem]) rfl ⟨a3, c3, by rw [HF1.out, HR.out, HM.out]; simp, by rw [HR.out]; simpa using HO3.out, hB3⟩
end Go.Proofs.YtlbmmdkmelcedaaDoor
