/-
  ParseUint: both sides.
-/
import Derived.Test.YtlbmmdkmelcedaaDoorPunP
import Derived.Test.YtlbmmdkmelcedaaDoorDoorA
import Derived.Test.YtlbmmdkmelcedaaDoorShelfA
import Derived.Test.YtlbmmdkmelcedaaDoorCells
import Derived.Lib.AtoiErrMem
namespace Go.Proofs.YtlbmmdkmelcedaaDoor
open Go.RowKit
set_option linter.unusedVariables false
set_option linter.unusedSimpArgs false

theorem l_at {s : ByteArray} {k : Nat} (h : k < s.size) : s.data.toList[k]? = some s[k] := by simp [ByteArray.getElem_eq_getElem_data, h]
set_option maxHeartbeats 1600000 in
set_option maxRecDepth 100000 in
theorem specPun_any (s : ByteArray) (w : World) (hs : s.size ≤ 1048576) :
    Calls Tryd.prog 11 #[.string s] w fun e w' => e = .returned (.tuple #[.int .i64 (puV s), .bool (pokB s)]) ∧ Below w.heap.size w w' := by
  by_cases hbig : 10 < s.size
  · have HF : Hid (pokB s = false) := Lib.hid (by
      have : decide (s.size ≤ 10) = false := by simpa using hbig
      simp [pokB, this])
    have HV : Hid (puV s = 0) := Lib.hid (puV_no HF.out)
    have hbI : (10 : Int) < (s.size : Int) := by omega
    go_enter Tryd.func11, Tryd.ntmps11
    go_wp2
    exact bodyPost_ret (v := .tuple #[.int .i64 0, .bool false]) (by simp [results, Tryd.results11, go_sem]) rfl ⟨by rw [HF.out, HV.out], by repeat' (first | assumption | (with_reducible exact Below.refl _ _) | (with_reducible refine Below.drew ?_) | (with_reducible refine Below.alloc ?_ ?_ _) | (with_reducible refine Below.setCell ?_ ?_ _) | omega | (simp; done) | (simp; omega))⟩
  · have hbI : ¬ (10 : Int) < (s.size : Int) := by omega
    have hs6 : s.size ≤ 10 := by omega
    clear hbig hs
    go_enter Tryd.func11, Tryd.ntmps11
    go_wp2_with fail
    go_loopw [4, 5] (fun nv i wr => ∃ (k n : Nat), k ≤ s.size ∧ i = .int .i64 k ∧ nv = .int .i64 (n : Int) ∧ n ≤ 9999999999 ∧ Hid (n < 10 ^ k) ∧ Hid (n = dv 0 (s.data.toList.take k)) ∧ Hid (∀ c ∈ s.data.toList.take k, digB c = true) ∧ w = wr)
      (fun _ i _ => s.size - (intOf i).toNat)
    case atStart => exact ⟨0, 0, Nat.zero_le _, rfl, rfl, by omega, Lib.hid (by simp), Lib.hid (by simp [dv]), Lib.hid (by simp), rfl⟩
    case round =>
      obtain ⟨k, n, hk, rfl, rfl, hn, HP, HN, HA, rfl⟩ := hrel
      by_cases hlt : k < s.size
      · have hlk : (k : Int) < (s.size : Int) := by omega
        have hn9 : n ≤ 999999999 := by
          have h1 := HP.out
          have h2 : 10 ^ k ≤ 10 ^ 9 := Nat.pow_le_pow_right (by omega) (by omega)
          omega
        have HCH := Lib.hid (l_at hlt)
        obtain ⟨ch, hch⟩ : ∃ ch, s[k] = ch := ⟨_, rfl⟩
        rw [hch] at HCH
        have hc256 := ch.toNat_lt
        by_cases h48 : ch.toNat < 48
        · have HF : Hid (pokB s = false) := Lib.hid (by
            rw [Bool.eq_false_iff]
            intro hp
            have := (pok_iff.1 hp).2.1 ch (List.mem_of_getElem? HCH.out)
            simp [digB] at this
            omega)
          have HV : Hid (puV s = 0) := Lib.hid (puV_no HF.out)
          have h48I : (ch.toNat : Int) < 48 := by omega
          go_wp2_with fail
          exact bodyPost_ret (v := .tuple #[.int .i64 0, .bool false]) (by simp [results, Tryd.results11, go_sem]) rfl ⟨by rw [HF.out, HV.out], by repeat' (first | assumption | (with_reducible exact Below.refl _ _) | (with_reducible refine Below.drew ?_) | (with_reducible refine Below.alloc ?_ ?_ _) | (with_reducible refine Below.setCell ?_ ?_ _) | omega | (simp; done) | (simp; omega))⟩
        · by_cases h57 : 57 < ch.toNat
          · have HF : Hid (pokB s = false) := Lib.hid (by
              rw [Bool.eq_false_iff]
              intro hp
              have := (pok_iff.1 hp).2.1 ch (List.mem_of_getElem? HCH.out)
              simp [digB] at this
              omega)
            have HV : Hid (puV s = 0) := Lib.hid (puV_no HF.out)
            have h48I : ¬ (ch.toNat : Int) < 48 := by omega
            have h57I : (57 : Int) < (ch.toNat : Int) := by omega
            go_wp2_with fail
            exact bodyPost_ret (v := .tuple #[.int .i64 0, .bool false]) (by simp [results, Tryd.results11, go_sem]) rfl ⟨by rw [HF.out, HV.out], by repeat' (first | assumption | (with_reducible exact Below.refl _ _) | (with_reducible refine Below.drew ?_) | (with_reducible refine Below.alloc ?_ ?_ _) | (with_reducible refine Below.setCell ?_ ?_ _) | omega | (simp; done) | (simp; omega))⟩
          · have h48I : ¬ (ch.toNat : Int) < 48 := by omega
            have h57I : ¬ (57 : Int) < (ch.toNat : Int) := by omega
            have HN1 : Hid (n * 10 + (ch.toNat - 48) = dv 0 (s.data.toList.take (k + 1))) := Lib.hid (by rw [List.take_add_one, HCH.out]; simp only [Option.toList_some]; rw [dv_snoc, ← HN.out])
            have HP1 : Hid (n * 10 + (ch.toNat - 48) < 10 ^ (k + 1)) := Lib.hid (by have := HP.out; rw [Nat.pow_succ]; omega)
            have HA1 : Hid (∀ c ∈ s.data.toList.take (k + 1), digB c = true) := Lib.hid (by
              intro c hc
              rw [List.take_add_one, HCH.out, List.mem_append] at hc
              rcases hc with hc | hc
              · exact HA.out c hc
              · simp at hc
                subst hc
                simp [digB]
                omega)
            obtain ⟨m, hm⟩ : ∃ m, m = n * 10 + (ch.toNat - 48) := ⟨_, rfl⟩
            rw [← hm] at HN1 HP1
            have hmI : 10 * (n : Int) + (ch.toNat : Int) - 48 = (m : Int) := by omega
            have hm9 : m ≤ 9999999999 := by omega
            have HMI := Lib.hid hmI
            clear hm hmI
            go_wp2_with fail
            go_roundw
            case rel => exact ⟨k + 1, m, by omega, by go_num, congrArg (Value.int .i64) HMI.out, hm9, HP1, HN1, HA1, by first | rfl | trivial⟩
            case measure => simp [intOf]; omega
      · have hlk : ¬ (k : Int) < (s.size : Int) := by omega
        have hks : s.data.toList.take k = s.data.toList := List.take_of_length_le (by have : s.data.toList.length = s.size := rfl; omega)
        have HD : Hid (n = dv 0 s.data.toList) := Lib.hid (by rw [HN.out, hks])
        have HAA : Hid (∀ c ∈ s.data.toList, digB c = true) := Lib.hid (by have := HA.out; rwa [hks] at this)
        clear hks hlt hk
        by_cases h9 : 1000000000 < n
        · have HF : Hid (pokB s = false) := Lib.hid (by
            rw [Bool.eq_false_iff]
            intro hp
            have := (pok_iff.1 hp).2.2.1
            rw [← HD.out] at this
            omega)
          have HV : Hid (puV s = 0) := Lib.hid (puV_no HF.out)
          have h9I : (1000000000 : Int) < (n : Int) := by omega
          go_wp2_with fail
          exact bodyPost_ret (v := .tuple #[.int .i64 0, .bool false]) (by simp [results, Tryd.results11, go_sem]) rfl ⟨by rw [HF.out, HV.out], by repeat' (first | assumption | (with_reducible exact Below.refl _ _) | (with_reducible refine Below.drew ?_) | (with_reducible refine Below.alloc ?_ ?_ _) | (with_reducible refine Below.setCell ?_ ?_ _) | omega | (simp; done) | (simp; omega))⟩
        · have h9I : ¬ (1000000000 : Int) < (n : Int) := by omega
          by_cases heq : strD (Lib.itoa (n : Int)) = s
          · have hfmt := specFmt_any (n : Int)
            rw [heq] at hfmt
            have HFMT := Lib.hid hfmt
            have HF := pok_of (n := n) (s := s) (by omega) (by rw [← itoa_nat]; exact strD_eq heq)
            have HF1 : Hid (pokB s = true) := Lib.hid HF.1
            have HV : Hid (puV s = n) := Lib.hid HF.2
            clear hfmt HF heq
            go_wp2_with (go_at_call 16; fail)
            refine (HFMT.out _ (by omega) (by omega)).mono ?_
            rintro e w1 ⟨rfl, hb⟩
            go_wp2_with fail
            exact bodyPost_ret (v := .tuple #[.int .i64 (n : Int), .bool true]) (by simp [results, Tryd.results11, go_sem]) rfl ⟨by rw [HF1.out, HV.out], hb⟩
          · have HFMT := Lib.hid (specFmt_any (n : Int))
            have HF1 : Hid (pokB s = false) := Lib.hid (by
              rw [Bool.eq_false_iff]
              intro hp
              have := (pok_iff.1 hp).2.2.2
              rw [← HD.out, ← itoa_nat] at this
              exact heq (strD_back this.symm))
            have HV : Hid (puV s = 0) := Lib.hid (puV_no HF1.out)
            obtain ⟨t, ht⟩ : ∃ t, t = strD (Lib.itoa (n : Int)) := ⟨_, rfl⟩
            rw [← ht] at heq HFMT
            have heq3 := txt_ne heq
            clear ht
            go_wp2_with (go_at_call 16; fail)
            refine (HFMT.out _ (by omega) (by omega)).mono ?_
            rintro e w1 ⟨rfl, hb⟩
            go_wp2_with fail
            exact bodyPost_ret (v := .tuple #[.int .i64 0, .bool false]) (by simp [results, Tryd.results11, go_sem]) rfl ⟨by rw [HF1.out, HV.out], hb⟩
theorem within_valP (v : Int) (w : World) {b : Bool} (h : inB v 0 1000000000 = b) : Calls Tryd.prog 40 #[.int .i64 v, .int .i64 0, .int .i64 1000000000] w fun e w' => e = .returned (.bool b) ∧ Below w.heap.size w w' := by
  subst h
  exact (within_any v 0 1000000000 w).mono (fun e w' h => ⟨h.1, by rw [← h.2]; exact Below.refl _ _⟩)
theorem atoi_ok (s : ByteArray) (hs : s.size ≤ 10) (v : Int) (h : Lib.atoiAll s.data.toList = .ok v) (w : World) : Calls Tryd.prog 39 #[.string s] w fun e w' => e = .returned (.tuple #[.int .i64 v, .nilIface]) ∧ Below w.heap.size w w' := by
  refine (Tryd.strconv_Atoi_ok s (by omega) v h w).mono ?_
  rintro e w' ⟨he, rfl | ⟨t, rfl⟩⟩
  · exact ⟨he, Below.refl _ _⟩
  · exact ⟨he, (Lib.bytesWorld_below w _ t)⟩
theorem atoi_bad (s : ByteArray) (hs : s.size ≤ 10) (h : ∀ v, Lib.atoiAll s.data.toList ≠ .ok v) (w : World) (hT : Tab5 w) : Calls Tryd.prog 39 #[.string s] w fun e w' => ∃ (x : Int) (N : Nat), e = .returned (.tuple #[.int .i64 x, .iface 102 (.pointer (some ⟨N, 0, none⟩))]) ∧ Below w.heap.size w w' := by
  obtain ⟨-, ⟨t2, p2, h2⟩, t3, p3, h3⟩ := hT
  cases hE : Lib.atoiAll s.data.toList
  · rename_i v
    exact absurd hE (h v)
  · refine (Go.Proofs.Any.strconv_Atoi_syntax_var Tryd.laysC172 s (by omega) hE t2 p2 w h2).mono ?_
    rintro e w' ⟨N, he, -, -, hb⟩
    exact ⟨_, N, he, hb⟩
  · refine (Tryd.strconv_Atoi_range_var s (by omega) hE t3 p3 w h3).mono ?_
    rintro e w' ⟨N, he, -, -, hb⟩
    exact ⟨_, N, he, hb⟩
set_option maxHeartbeats 1600000 in
set_option maxRecDepth 100000 in
theorem implPun_any (s : ByteArray) (w : World) (hs : s.size ≤ 1048576) (hT : Tab5 w) :
    Calls Tryd.prog 12 #[.string s] w fun e w' => e = .returned (.tuple #[.int .i64 (puV s), .bool (pokB s)]) ∧ Below w.heap.size w w' := by
  by_cases hbig : 10 < s.size
  · have HF : Hid (pokB s = false) := Lib.hid (by
      have : decide (s.size ≤ 10) = false := by simpa using hbig
      simp [pokB, this])
    have HV : Hid (puV s = 0) := Lib.hid (puV_no HF.out)
    have hbI : (10 : Int) < (s.size : Int) := by omega
    clear hT
    go_enter Tryd.func12, Tryd.ntmps12
    go_wp2
    exact bodyPost_ret (v := .tuple #[.int .i64 0, .bool false]) (by simp [results, Tryd.results12, go_sem]) rfl ⟨by rw [HF.out, HV.out], by repeat' (first | assumption | (with_reducible exact Below.refl _ _) | (with_reducible refine Below.drew ?_) | (with_reducible refine Below.alloc ?_ ?_ _) | (with_reducible refine Below.setCell ?_ ?_ _) | omega | (simp; done) | (simp; omega))⟩
  · have hbI : ¬ (10 : Int) < (s.size : Int) := by omega
    have hs6 : s.size ≤ 10 := by omega
    have HT := Lib.hid hT
    clear hbig hs hT
    by_cases hok : ∃ v, Lib.atoiAll s.data.toList = .ok v
    · obtain ⟨v, hv⟩ := hok
      have HAT := Lib.hid (fun W => atoi_ok s hs6 v hv W)
      have HVE := Lib.hid hv
      clear hv
      rcases Bool.eq_false_or_eq_true (inB v 0 1000000000) with hin | hin
      · have HW := Lib.hid (fun W => within_valP v W hin)
        obtain ⟨hv0, hv9⟩ := inB_iff.1 hin
        have HFI := Lib.hid (fun (W : World) (h : TabB W) => implFmt_any v W (by omega) (by omega) h)
        by_cases heq : strD (Lib.itoa v) = s
        · rw [heq] at HFI
          obtain ⟨m, hm⟩ : ∃ m : Nat, v = m := ⟨v.toNat, by omega⟩
          have HF := pok_of (n := m) (s := s) (by omega) (by rw [← itoa_nat, ← hm]; exact strD_eq heq)
          have HF1 : Hid (pokB s = true) := Lib.hid HF.1
          have HV : Hid (puV s = v) := Lib.hid (by rw [hm]; exact HF.2)
          clear HF heq hm hin
          go_enter Tryd.func12, Tryd.ntmps12
          go_wp2_with (go_at_call 39; fail)
          refine (HAT.out _).mono ?_
          rintro e w1 ⟨rfl, hb1⟩
          go_wp2_with (go_at_call 40; fail)
          refine (HW.out _).mono ?_
          rintro e w2 ⟨rfl, hb2⟩
          have hB2 : Below w.heap.size w w2 := below_step hb2 hb1.size hb1
          clear hb1 hb2
          go_wp2_with (go_at_call 15; fail)
          refine (HFI.out _ (HT.out.next hB2).1).mono ?_
          rintro e w3 ⟨rfl, hb3⟩
          have hB3 : Below w.heap.size w w3 := below_step hb3 hB2.size hB2
          clear hb3
          go_wp2_with fail
          exact bodyPost_ret (v := .tuple #[.int .i64 v, .bool true]) (by simp [results, Tryd.results12, go_sem]) rfl ⟨by rw [HF1.out, HV.out], hB3⟩
        · have HF1 : Hid (pokB s = false) := Lib.hid (pok_atoi_no (fun n hn h1 h2 => by
            rw [HVE.out] at h1
            have hvn : v = n := by injection h1
            rw [← itoa_nat, ← hvn] at h2
            exact heq (strD_back h2)))
          have HV : Hid (puV s = 0) := Lib.hid (puV_no HF1.out)
          obtain ⟨t, ht⟩ : ∃ t, t = strD (Lib.itoa v) := ⟨_, rfl⟩
          rw [← ht] at heq HFI
          have heq3 := txt_ne heq
          clear ht hin
          go_enter Tryd.func12, Tryd.ntmps12
          go_wp2_with (go_at_call 39; fail)
          refine (HAT.out _).mono ?_
          rintro e w1 ⟨rfl, hb1⟩
          go_wp2_with (go_at_call 40; fail)
          refine (HW.out _).mono ?_
          rintro e w2 ⟨rfl, hb2⟩
          have hB2 : Below w.heap.size w w2 := below_step hb2 hb1.size hb1
          clear hb1 hb2
          go_wp2_with (go_at_call 15; fail)
          refine (HFI.out _ (HT.out.next hB2).1).mono ?_
          rintro e w3 ⟨rfl, hb3⟩
          have hB3 : Below w.heap.size w w3 := below_step hb3 hB2.size hB2
          clear hb3
          go_wp2_with fail
          exact bodyPost_ret (v := .tuple #[.int .i64 0, .bool false]) (by simp [results, Tryd.results12, go_sem]) rfl ⟨by rw [HF1.out, HV.out], hB3⟩
      · have HW := Lib.hid (fun W => within_valP v W hin)
        have HF1 : Hid (pokB s = false) := Lib.hid (pok_atoi_no (fun n hn h1 h2 => by
          rw [HVE.out] at h1
          have hvn : v = n := by injection h1
          have := inB_no.1 hin
          omega))
        have HV : Hid (puV s = 0) := Lib.hid (puV_no HF1.out)
        clear hin
        go_enter Tryd.func12, Tryd.ntmps12
        go_wp2_with (go_at_call 39; fail)
        refine (HAT.out _).mono ?_
        rintro e w1 ⟨rfl, hb1⟩
        go_wp2_with (go_at_call 40; fail)
        refine (HW.out _).mono ?_
        rintro e w2 ⟨rfl, hb2⟩
        have hB2 : Below w.heap.size w w2 := below_step hb2 hb1.size hb1
        clear hb1 hb2
        go_wp2_with fail
        exact bodyPost_ret (v := .tuple #[.int .i64 0, .bool false]) (by simp [results, Tryd.results12, go_sem]) rfl ⟨by rw [HF1.out, HV.out], hB2⟩
    · have HAT := Lib.hid (fun (W : World) (h : Tab5 W) => atoi_bad s hs6 (fun v hv => hok ⟨v, hv⟩) W h)
      have HF1 : Hid (pokB s = false) := Lib.hid (pok_atoi_no (fun n hn h1 h2 => hok ⟨_, h1⟩))
      have HV : Hid (puV s = 0) := Lib.hid (puV_no HF1.out)
      clear hok
      go_enter Tryd.func12, Tryd.ntmps12
      go_wp2_with (go_at_call 39; fail)
      refine (HAT.out _ HT.out).mono ?_
      rintro e w1 ⟨x, N, rfl, hb1⟩
      go_wp2_with fail
      exact bodyPost_ret (v := .tuple #[.int .i64 0, .bool false]) (by simp [results, Tryd.results12, go_sem]) rfl ⟨by rw [HF1.out, HV.out], hb1⟩
end Go.Proofs.YtlbmmdkmelcedaaDoor
