/-
  The fields of a line: the reference.
-/
import Derived.Test.YtlbmmdkmelcedaaDoorStrL
import Derived.Test.YtlbmmdkmelcedaaDoorSplP
namespace Go.Proofs.YtlbmmdkmelcedaaDoor
open Go.RowKit
set_option linter.unusedVariables false
set_option linter.unusedSimpArgs false

set_option maxHeartbeats 1600000 in
set_option maxRecDepth 100000 in
theorem specSplit_any (s : ByteArray) (w : World) (hs : s.size ≤ 1048576) :
    Calls Tryd.prog 25 #[.string s] w fun e w' => ∃ a c, e = .returned (.tuple #[.slice a (fldR s).length c, .bool (fokB s)]) ∧ OwnT w' w.heap.size (.slice a (fldR s).length c) (fldR s) ∧ Below w.heap.size w w' := by
  obtain ⟨i0, hi, hz0, hz1, hz2⟩ := info_parts txInfo
  by_cases hbig : 600 < s.size
  · have HF : Hid (fokB s = false) := Lib.hid (fok_big hbig)
    have HR : Hid (fldR s = []) := Lib.hid (fldR_no HF.out)
    have hbI : (600 : Int) < (s.size : Int) := by omega
    go_enter Tryd.func25, Tryd.ntmps25
    go_wp2
    exact bodyPost_ret (v := .tuple #[.slice (some ⟨w.heap.size, 0, none⟩) 0 0, .bool false]) (by simp [results, Tryd.results25, go_sem]) rfl ⟨_, _, by rw [HF.out, HR.out]; rfl, by rw [HR.out]; exact OwnT.new w _ (Nat.le_refl _) _ rfl, by repeat' (first | assumption | (with_reducible exact Below.refl _ _) | (with_reducible refine Below.drew ?_) | (with_reducible refine Below.alloc ?_ ?_ _) | (with_reducible refine Below.setCell ?_ ?_ _) | omega | (simp; done) | (simp; omega))⟩
  · have hbI : ¬ (600 : Int) < (s.size : Int) := by omega
    have hs6 : s.size ≤ 600 := by omega
    clear hbig hs
    go_enter Tryd.func25, Tryd.ntmps25
    go_wp2_with fail
    go_loopw [4, 5, 6] (fun v bg i wr => ∃ (k b : Nat) (X : List ByteArray) (a : Option Addr) (c : Nat), k ≤ s.size + 1 ∧ i = .int .i64 k ∧ bg = .int .i64 b ∧ v = .slice a X.length c ∧ X.length ≤ k ∧ Hid (OwnT wr w.heap.size (.slice a X.length c) X) ∧ Hid ((k ≤ s.size ∧ fldK s k = (X, b)) ∨ (k = s.size + 1 ∧ fldE s = X)) ∧ Hid (∀ j, j < k → j < s.size → 32 ≤ chN s j ∧ chN s j ≤ 126) ∧ Below w.heap.size w wr)
      (fun _ _ i _ => s.size + 1 - (intOf i).toNat)
    case atStart => exact ⟨0, 0, [], _, _, Nat.zero_le _, rfl, rfl, rfl, Nat.le_refl _, Lib.hid (OwnT.new _ _ (Nat.le_refl _) _ rfl), Lib.hid (.inl ⟨Nat.zero_le _, rfl⟩), Lib.hid (fun j hj => absurd hj (by omega)), by repeat' (first | assumption | (with_reducible exact Below.refl _ _) | (with_reducible refine Below.drew ?_) | (with_reducible refine Below.alloc ?_ ?_ _) | (with_reducible refine Below.setCell ?_ ?_ _) | omega | (simp; done) | (simp; omega))⟩
    case round =>
      obtain ⟨k, b, X, a, c, hk, rfl, rfl, rfl, hXk, hO, hST, hA, hB⟩ := hrel
      have hsz := hB.size
      by_cases hlt : k < s.size
      · have hE : fldK s k = (X, b) := by rcases hST.out with h | h; exact h.2; omega
        obtain ⟨hbk, -⟩ := fldK_b hE
        have HE := Lib.hid hE
        have hlk : (k : Int) < (s.size : Int) := by omega
        have hle : (k : Int) ≤ (s.size : Int) := by omega
        obtain ⟨ch, hch⟩ : ∃ ch, s[k] = ch := ⟨_, rfl⟩
        have hcN : chN s k = ch.toNat := by rw [ch_of hlt, hch]
        have HCN := Lib.hid hcN
        clear hE hcN
        by_cases h32 : ch.toNat < 32
        · have HF : Hid (fokB s = false) := Lib.hid (pln_no hlt (.inl (by rw [HCN.out]; exact h32)))
          have HR : Hid (fldR s = []) := Lib.hid (fldR_no HF.out)
          have h32I : (ch.toNat : Int) < 32 := by omega
          go_wp2_with fail
          exact bodyPost_ret (v := .tuple #[.slice (some ⟨wr.heap.size, 0, none⟩) 0 0, .bool false]) (by simp [results, Tryd.results25, go_sem]) rfl ⟨_, _, by rw [HF.out, HR.out]; rfl, by rw [HR.out]; exact OwnT.new wr _ hsz _ rfl, by repeat' (first | assumption | (with_reducible exact Below.refl _ _) | (with_reducible refine Below.drew ?_) | (with_reducible refine Below.alloc ?_ ?_ _) | (with_reducible refine Below.setCell ?_ ?_ _) | omega | (simp; done) | (simp; omega))⟩
        · by_cases h126 : 126 < ch.toNat
          · have HF : Hid (fokB s = false) := Lib.hid (pln_no hlt (.inr (by rw [HCN.out]; exact h126)))
            have HR : Hid (fldR s = []) := Lib.hid (fldR_no HF.out)
            have h32I : ¬ (ch.toNat : Int) < 32 := by omega
            have h126I : (126 : Int) < (ch.toNat : Int) := by omega
            go_wp2_with fail
            exact bodyPost_ret (v := .tuple #[.slice (some ⟨wr.heap.size, 0, none⟩) 0 0, .bool false]) (by simp [results, Tryd.results25, go_sem]) rfl ⟨_, _, by rw [HF.out, HR.out]; rfl, by rw [HR.out]; exact OwnT.new wr _ hsz _ rfl, by repeat' (first | assumption | (with_reducible exact Below.refl _ _) | (with_reducible refine Below.drew ?_) | (with_reducible refine Below.alloc ?_ ?_ _) | (with_reducible refine Below.setCell ?_ ?_ _) | omega | (simp; done) | (simp; omega))⟩
          · have h32I : ¬ (ch.toNat : Int) < 32 := by omega
            have h126I : ¬ (126 : Int) < (ch.toNat : Int) := by omega
            have HA1 := Lib.hid (fun j (hj : j < k + 1) => all_snoc (p := fun j => j < s.size → 32 ≤ chN s j ∧ chN s j ≤ 126) hA.out (fun _ => by rw [HCN.out]; omega) j hj)
            by_cases hsp : ch.toNat = 32
            · have hspI : ((ch.toNat : Int) == 32) = true := by rw [hsp]; rfl
              by_cases hbl : b < k
              · have HX : Hid (fldK s (k + 1) = (X ++ [s.extract b k], k + 1)) := Lib.hid (fldK_sep1 (by rw [HCN.out]; exact hsp) HE.out hbl)
                have hblI : (b : Int) < (k : Int) := by omega
                have hblE : (b : Int) ≤ (k : Int) := by omega
                obtain ⟨t, ht⟩ : ∃ t, t = s.extract b k := ⟨_, rfl⟩
                rw [← ht] at HX
                have ht' : s.extract b k = t := ht.symm
                clear hsp ht
                go_wp2_with (at_builtin; refine wpList_append_own _ rfl _ _ 39 rfl w.heap.size 9 i0 (.string ⟨#[]⟩) 1 16 Tryd.underlying39 hi hz0 hz1 hz2 rfl (by decide) _ _ _ rfl (World.ownsRow.alloc hO.out _) ⟨wr.heap.size, 0, none⟩ 1 1 [.string t] rfl rfl (txt_new _ _ _) (by intro u hu; simp at hu; subst hu; rfl) (by unfold maxLen; omega) (by omega) (by simp; omega) ?_; intro v3 w3 hown3 hgrow3 hnil3)
                obtain ⟨a3, c3, hv3, hO3⟩ := OwnT.snoc hown3
                subst hv3
                have HO3 := Lib.hid hO3
                have hB3 : Below w.heap.size w w3 := (hB.alloc hsz _).trans (grown_below (World.ownsRow.alloc hO.out _) hgrow3 (by simp; omega))
                clear hown3 hgrow3 hnil3 hO3
                go_wp2_with fail
                go_roundw
                case rel => exact ⟨k + 1, k + 1, X ++ [t], a3, c3, by omega, by go_num, by go_num, by simp, by simp; omega, Lib.hid (by simpa using HO3.out), Lib.hid (.inl ⟨by omega, HX.out⟩), HA1, hB3⟩
                case measure => simp [intOf]; omega
              · have HX : Hid (fldK s (k + 1) = (X, k + 1)) := Lib.hid (fldK_sep0 (by rw [HCN.out]; exact hsp) HE.out hbl)
                have hblI : ¬ (b : Int) < (k : Int) := by omega
                clear hsp
                go_wp2_with fail
                go_roundw
                case rel => exact ⟨k + 1, k + 1, X, a, c, by omega, by go_num, by go_num, rfl, by omega, hO, Lib.hid (.inl ⟨by omega, HX.out⟩), HA1, hB⟩
                case measure => simp [intOf]; omega
            · have hspI : ((ch.toNat : Int) == 32) = false := by rw [beq_eq_false_iff_ne]; omega
              have HX : Hid (fldK s (k + 1) = (X, b)) := Lib.hid ((fldK_in (by rw [HCN.out]; exact hsp)).trans HE.out)
              clear hsp
              go_wp2_with fail
              go_roundw
              case rel => exact ⟨k + 1, b, X, a, c, by omega, by go_num, rfl, rfl, by omega, hO, Lib.hid (.inl ⟨by omega, HX.out⟩), HA1, hB⟩
              case measure => simp [intOf]; omega
      · have hlk : ¬ (k : Int) < (s.size : Int) := by omega
        by_cases heq : k = s.size
        · have hE : fldK s k = (X, b) := by rcases hST.out with h | h; exact h.2; omega
          obtain ⟨hbk, -⟩ := fldK_b hE
          have HE := Lib.hid hE
          have hle : (k : Int) ≤ (s.size : Int) := by omega
          have hkn : k + 1 = s.size + 1 := by omega
          have HA1 := Lib.hid (fun j (hj : j < k + 1) (hj2 : j < s.size) => hA.out j (by omega) hj2)
          by_cases hbl : b < k
          · have HX : Hid (fldE s = X ++ [s.extract b k]) := Lib.hid (fldE_1 heq HE.out hbl)
            have hblI : (b : Int) < (k : Int) := by omega
            have hblE : (b : Int) ≤ (k : Int) := by omega
            obtain ⟨t, ht⟩ : ∃ t, t = s.extract b k := ⟨_, rfl⟩
            rw [← ht] at HX
            have ht' : s.extract b k = t := ht.symm
            clear heq hkn hE ht
            go_wp2_with (at_builtin; refine wpList_append_own _ rfl _ _ 39 rfl w.heap.size 9 i0 (.string ⟨#[]⟩) 1 16 Tryd.underlying39 hi hz0 hz1 hz2 rfl (by decide) _ _ _ rfl (World.ownsRow.alloc hO.out _) ⟨wr.heap.size, 0, none⟩ 1 1 [.string t] rfl rfl (txt_new _ _ _) (by intro u hu; simp at hu; subst hu; rfl) (by unfold maxLen; omega) (by omega) (by simp; omega) ?_; intro v3 w3 hown3 hgrow3 hnil3)
            obtain ⟨a3, c3, hv3, hO3⟩ := OwnT.snoc hown3
            subst hv3
            have HO3 := Lib.hid hO3
            have hB3 : Below w.heap.size w w3 := (hB.alloc hsz _).trans (grown_below (World.ownsRow.alloc hO.out _) hgrow3 (by simp; omega))
            clear hown3 hgrow3 hnil3 hO3
            go_wp2_with fail
            go_roundw
            case rel => exact ⟨k + 1, k + 1, X ++ [t], a3, c3, by omega, by go_num, by go_num, by simp, by simp; omega, Lib.hid (by simpa using HO3.out), Lib.hid (.inr ⟨by omega, HX.out⟩), HA1, hB3⟩
            case measure => simp [intOf]; omega
          · have HX : Hid (fldE s = X) := Lib.hid (fldE_0 heq HE.out hbl)
            have hblI : ¬ (b : Int) < (k : Int) := by omega
            clear heq hkn hE
            go_wp2_with fail
            go_roundw
            case rel => exact ⟨k + 1, k + 1, X, a, c, by omega, by go_num, by go_num, rfl, by omega, hO, Lib.hid (.inr ⟨by omega, HX.out⟩), HA1, hB⟩
            case measure => simp [intOf]; omega
        · have HX : Hid (fldE s = X) := Lib.hid (by rcases hST.out with h | h; omega; exact h.2)
          have hle : ¬ (k : Int) ≤ (s.size : Int) := by omega
          have HF : Hid (fokB s = decide (X.length ≤ 24)) := Lib.hid (by rw [← HX.out]; exact fok_end hs6 (fun j hj => hA.out j (by omega) hj))
          by_cases h24 : 24 < X.length
          · have HF1 : Hid (fokB s = false) := Lib.hid (by rw [HF.out]; simp; omega)
            have HR : Hid (fldR s = []) := Lib.hid (fldR_no HF1.out)
            have h24I : (24 : Int) < (X.length : Int) := by omega
            go_wp2_with fail
            exact bodyPost_ret (v := .tuple #[.slice (some ⟨wr.heap.size, 0, none⟩) 0 0, .bool false]) (by simp [results, Tryd.results25, go_sem]) rfl ⟨_, _, by rw [HF1.out, HR.out]; rfl, by rw [HR.out]; exact OwnT.new wr _ hsz _ rfl, by repeat' (first | assumption | (with_reducible exact Below.refl _ _) | (with_reducible refine Below.drew ?_) | (with_reducible refine Below.alloc ?_ ?_ _) | (with_reducible refine Below.setCell ?_ ?_ _) | omega | (simp; done) | (simp; omega))⟩
          · have HF1 : Hid (fokB s = true) := Lib.hid (by rw [HF.out]; simp; omega)
            have HR : Hid (fldR s = X) := Lib.hid ((fldR_yes HF1.out).trans HX.out)
            have h24I : ¬ (24 : Int) < (X.length : Int) := by omega
            go_wp2_with fail
            exact bodyPost_ret (v := .tuple #[.slice a X.length c, .bool true]) (by simp [results, Tryd.results25, go_sem]) rfl ⟨_, _, by rw [HF1.out, HR.out], by rw [HR.out]; exact hO.out, hB⟩
end Go.Proofs.YtlbmmdkmelcedaaDoor
