/-
  Decoding of hexadecimal texts: the program.
-/
import Derived.Test.YtlbmmdkmelcedaaDoorHexDS
namespace Go.Proofs.YtlbmmdkmelcedaaDoor
open Go.RowKit
set_option linter.unusedVariables false
set_option linter.unusedSimpArgs false

set_option maxHeartbeats 1600000 in
set_option maxRecDepth 100000 in
theorem implDec_any (s : ByteArray) (w : World) (hs : s.size ≤ 40000) (he : s.size % 2 = 0) :
    Calls Tryd.prog 22 #[.string s] w fun e w' => e = .returned (.tuple #[.string (resS s), .bool (resB s)]) ∧ Below w.heap.size w w' := by
  obtain ⟨i0, hi, hz0, hz1, hz2⟩ := info_parts byteInfo
  have g1 : (s.size : Int) % 2 = 0 := by omega
  have g2 : ¬ (40000 : Int) < (s.size : Int) := by omega
  go_enter Tryd.func22, Tryd.ntmps22
  go_wp2
  go_loopw [4, 5] (fun v i wr => ∃ (m k : Nat) (L : List UInt8) (a : Option Addr) (c : Nat), m ≤ s.size ∧ Hid (m = 2 * k) ∧ i = .int .i64 m ∧ v = .slice a L.length c ∧ Hid (OwnB wr w.heap.size (.slice a L.length c) L) ∧ Hid (L = decL s k) ∧ Hid (∀ j, j < k → okP s j = true) ∧ Below w.heap.size w wr)
    (fun _ i _ => s.size - (intOf i).toNat)
  case atStart => exact ⟨0, 0, [], _, _, Nat.zero_le _, Lib.hid rfl, rfl, rfl, Lib.hid (OwnB.new _ _ (Nat.le_refl _) _ rfl), Lib.hid rfl, Lib.hid (fun j hj => absurd hj (by omega)), by repeat' (first | assumption | (with_reducible exact Below.refl _ _) | (with_reducible refine Below.drew ?_) | (with_reducible refine Below.alloc ?_ ?_ _) | (with_reducible refine Below.setCell ?_ ?_ _) | omega | (simp; done) | (simp; omega))⟩
  case round =>
    obtain ⟨m, k, L, a, c, hm, hmk, rfl, rfl, hO, hL, hA, hB⟩ := hrel
    have hsz := hB.size
    by_cases hlt : m < s.size
    · have hlt2 : m + 1 < s.size := by have := hmk.out; omega
      have hl1 : (m : Int) < (s.size : Int) := by omega
      have hl2 : (m : Int) + 1 < (s.size : Int) := by omega
      have hwm : IntKind.i64.wrap ((m : Int) + 1) = (m : Int) + 1 := by rw [IntKind.wrap_i64]; omega
      have hpm : (0 : Int) ≤ (m : Int) + 1 := by omega
      have hlen : L.length ≤ s.size := by rw [hL.out, decL_len]; have := hmk.out; omega
      obtain ⟨b1, hb1⟩ : ∃ b, s[m] = b := ⟨_, rfl⟩
      obtain ⟨b2, hb2⟩ : ∃ b, s[m + 1] = b := ⟨_, rfl⟩
      have hv1 : btN s (2 * k) = b1.toNat := by rw [← hmk.out, bt_of hlt, hb1]
      have hv2 : btN s (2 * k + 1) = b2.toNat := by rw [← hmk.out, bt_of hlt2, hb2]
      have hbd1 := valN_le b1.toNat
      have hbd2 := valN_le b2.toNat
      have HV := Lib.hid (fun W => index_any b1.toNat b1.toNat_lt W)
      have HV2 := Lib.hid (fun W => index_any b2.toNat b2.toNat_lt W)
      obtain ⟨x, hx⟩ : ∃ x, x = valN b1.toNat := ⟨_, rfl⟩
      obtain ⟨y, hy⟩ : ∃ y, y = valN b2.toNat := ⟨_, rfl⟩
      rw [← hx] at HV hbd1
      rw [← hy] at HV2 hbd2
      have hokP : okP s k = (decide (0 ≤ x) && decide (0 ≤ y)) := by rw [okP, hv1, hv2, ← hx, ← hy]
      have hdec : okP s k = true → ((decD s k).toNat : Int) = 16 * x + y := fun h => by rw [decD_val h, hv1, hv2, ← hx, ← hy]
      have HOK := Lib.hid hokP
      have HD := Lib.hid hdec
      clear hx hy hv1 hv2 hokP hdec
      by_cases hp : 0 ≤ x ∧ 0 ≤ y
      · obtain ⟨hp1, hp2⟩ := hp
        have hok : Hid (okP s k = true) := Lib.hid (by rw [HOK.out]; simp [hp1, hp2])
        have hd := HD.out hok.out
        have HDD := Lib.hid hd
        clear hd
        have hO0 := hO
        have hO : Hid (OwnB wr.drew w.heap.size (.slice a L.length c) L) := Lib.hid hO.out
        go_wp2_with fail
        refine hold_start (S := (fun w' => w.heap.size ≤ w'.heap.size ∧ Below w.heap.size w w' ∧ w.heap.size + 0 ≤ w'.heap.size)) (by kernel_rfl) (by kernel_rfl) (by intro _ _ d _ _ h; cases d <;> exact h) ?_ (fun hHC hH0 => ?_)
        · (first | (go_keep; done) | ((try go_split_ands); (repeat' apply And.intro) <;> first | assumption | (with_reducible refine Rd.below ?_ hb1; assumption) | (with_reducible refine Rd.drew ?_; repeat' (first | assumption | (with_reducible refine Rd.alloc ?_ _))) | (refine (hb1.cell (by first | omega | (simp; done) | (simp; omega))).trans ?_; first | assumption | simp) | (exact below_step hb1 (by first | omega | (simp; done) | (simp; omega)) (by assumption)) | (have hz' := hb1.size; (try simp at hz'); omega) | ((repeat' (first | assumption | (with_reducible exact Below.refl _ _) | (with_reducible refine Below.drew ?_) | (with_reducible refine Below.alloc ?_ ?_ _) | (with_reducible refine Below.setCell ?_ ?_ _) | omega | (simp; done) | (simp; omega))); done) | go_simp | (simp; done) | (simp; omega)))
        refine hold_plain 0 (v := ?_) hHC hH0 (by simp only [List.getElem?_toArray, List.getElem?_cons_succ, List.getElem?_cons_zero]; rfl) rfl (by kernel_rfl) ?_ ?_
        rotate_left 1
        · (intro w hSw; (try dsimp only at hSw); go_simp; try with_reducible rfl)
        try simp only [Act.put, List.setIfInBounds_toArray, List.set_cons_zero, List.set_cons_succ]
        refine hold_plain 1 (v := ?_) hHC hH0 (by simp only [List.getElem?_toArray, List.getElem?_cons_succ, List.getElem?_cons_zero]; rfl) rfl (by kernel_rfl) ?_ ?_
        rotate_left 1
        · (intro w hSw; (try dsimp only at hSw); go_simp; try with_reducible rfl)
        try simp only [Act.put, List.setIfInBounds_toArray, List.set_cons_zero, List.set_cons_succ]
        refine hold_plain 2 (v := ?_) hHC hH0 (by simp only [List.getElem?_toArray, List.getElem?_cons_succ, List.getElem?_cons_zero]; rfl) rfl (by kernel_rfl) ?_ ?_
        rotate_left 1
        · (intro w hSw; (try dsimp only at hSw); go_simp; try with_reducible rfl)
        try simp only [Act.put, List.setIfInBounds_toArray, List.set_cons_zero, List.set_cons_succ]
        refine hold_plain 4 (v := ?_) hHC hH0 (by simp only [List.getElem?_toArray, List.getElem?_cons_succ, List.getElem?_cons_zero]; rfl) rfl (by kernel_rfl) ?_ ?_
        rotate_left 1
        · (intro w hSw; (try dsimp only at hSw); go_simp; try with_reducible rfl)
        try simp only [Act.put, List.setIfInBounds_toArray, List.set_cons_zero, List.set_cons_succ]
        refine hold_plain 5 (v := ?_) hHC hH0 (by simp only [List.getElem?_toArray, List.getElem?_cons_succ, List.getElem?_cons_zero]; rfl) rfl (by kernel_rfl) ?_ ?_
        rotate_left 1
        · (intro w hSw; (try dsimp only at hSw); go_simp; try with_reducible rfl)
        try simp only [Act.put, List.setIfInBounds_toArray, List.set_cons_zero, List.set_cons_succ]
        refine hold_plain 6 (v := ?_) hHC hH0 (by simp only [List.getElem?_toArray, List.getElem?_cons_succ, List.getElem?_cons_zero]; rfl) rfl (by kernel_rfl) ?_ ?_
        rotate_left 1
        · (intro w hSw; (try dsimp only at hSw); go_simp; try with_reducible rfl)
        try simp only [Act.put, List.setIfInBounds_toArray, List.set_cons_zero, List.set_cons_succ]
        refine hold_plain 7 (v := ?_) hHC hH0 (by simp only [List.getElem?_toArray, List.getElem?_cons_succ, List.getElem?_cons_zero]; rfl) rfl (by kernel_rfl) ?_ ?_
        rotate_left 1
        · (intro w hSw; (try dsimp only at hSw); go_simp; try with_reducible rfl)
        try simp only [Act.put, List.setIfInBounds_toArray, List.set_cons_zero, List.set_cons_succ]
        refine hold_call0 3 (by simp only [List.getElem?_toArray, List.getElem?_cons_succ, List.getElem?_cons_zero]; rfl) rfl (by kernel_rfl) (fun K hK => ?_)
        go_simp
        first | (go_at_call 50; with_reducible refine (HV.out _).mono ?_; rintro e w1 ⟨rfl, hb1⟩; have hO := Lib.hid (hO.out.below hb1)) | (go_at_call 50; with_reducible refine (HV2.out _).mono ?_; rintro e w1 ⟨rfl, hb1⟩; have hO := Lib.hid (hO.out.below hb1))
        refine hK.out _ _ ?_ (fun hH1 => ?_)
        · (first | (go_keep; done) | ((try go_split_ands); (repeat' apply And.intro) <;> first | assumption | (with_reducible refine Rd.below ?_ hb1; assumption) | (with_reducible refine Rd.drew ?_; repeat' (first | assumption | (with_reducible refine Rd.alloc ?_ _))) | (refine (hb1.cell (by first | omega | (simp; done) | (simp; omega))).trans ?_; first | assumption | simp) | (exact below_step hb1 (by first | omega | (simp; done) | (simp; omega)) (by assumption)) | (have hz' := hb1.size; (try simp at hz'); omega) | ((repeat' (first | assumption | (with_reducible exact Below.refl _ _) | (with_reducible refine Below.drew ?_) | (with_reducible refine Below.alloc ?_ ?_ _) | (with_reducible refine Below.setCell ?_ ?_ _) | omega | (simp; done) | (simp; omega))); done) | go_simp | (simp; done) | (simp; omega)))
        clear hK K hH0
        try simp only [Act.put, List.setIfInBounds_toArray, List.set_cons_zero, List.set_cons_succ]
        refine hold_call0 8 (by simp only [List.getElem?_toArray, List.getElem?_cons_succ, List.getElem?_cons_zero]; rfl) rfl (by kernel_rfl) (fun K hK => ?_)
        go_simp
        first | (go_at_call 50; with_reducible refine (HV.out _).mono ?_; rintro e w1 ⟨rfl, hb1⟩; have hO := Lib.hid (hO.out.below hb1)) | (go_at_call 50; with_reducible refine (HV2.out _).mono ?_; rintro e w1 ⟨rfl, hb1⟩; have hO := Lib.hid (hO.out.below hb1))
        refine hK.out _ _ ?_ (fun hH2 => ?_)
        · (first | (go_keep; done) | ((try go_split_ands); (repeat' apply And.intro) <;> first | assumption | (with_reducible refine Rd.below ?_ hb1; assumption) | (with_reducible refine Rd.drew ?_; repeat' (first | assumption | (with_reducible refine Rd.alloc ?_ _))) | (refine (hb1.cell (by first | omega | (simp; done) | (simp; omega))).trans ?_; first | assumption | simp) | (exact below_step hb1 (by first | omega | (simp; done) | (simp; omega)) (by assumption)) | (have hz' := hb1.size; (try simp at hz'); omega) | ((repeat' (first | assumption | (with_reducible exact Below.refl _ _) | (with_reducible refine Below.drew ?_) | (with_reducible refine Below.alloc ?_ ?_ _) | (with_reducible refine Below.setCell ?_ ?_ _) | omega | (simp; done) | (simp; omega))); done) | go_simp | (simp; done) | (simp; omega)))
        clear hK K hH1
        try simp only [Act.put, List.setIfInBounds_toArray, List.set_cons_zero, List.set_cons_succ]
        refine hold_plain 9 (v := ?_) hHC hH2 (by simp only [List.getElem?_toArray, List.getElem?_cons_succ, List.getElem?_cons_zero]; rfl) rfl (by kernel_rfl) ?_ ?_
        rotate_left 1
        · (intro w hSw; (try dsimp only at hSw); go_simp; try with_reducible rfl)
        try simp only [Act.put, List.setIfInBounds_toArray, List.set_cons_zero, List.set_cons_succ]
        refine hold_plain 10 (v := ?_) hHC hH2 (by simp only [List.getElem?_toArray, List.getElem?_cons_succ, List.getElem?_cons_zero]; rfl) rfl (by kernel_rfl) ?_ ?_
        rotate_left 1
        · (intro w hSw; (try dsimp only at hSw); go_simp; try with_reducible rfl)
        try simp only [Act.put, List.setIfInBounds_toArray, List.set_cons_zero, List.set_cons_succ]
        refine wpAnyH_done (by kernel_rfl) ?_ _
        (try dsimp only at hH2)
        go_split_ands
        clear hHC
        have O2 := hO
        have B2 : Below w.heap.size w w1 := by assumption
        go_wp2_with (at_builtin; refine wpList_append_own _ rfl _ _ 25 rfl w.heap.size 5 i0 (.int .u8 0) 1 1 Tryd.underlying25 hi hz0 hz1 hz2 rfl (by decide) (.slice a L.length c) L.length (flatB L) rfl (World.ownsRow.alloc O2.out _) ⟨w1.heap.size, 0, none⟩ 1 1 [.int .u8 (16 * x + y)] rfl rfl (dec_one_new _ _ _) (by intro u hu; simp at hu; subst hu; rfl) (by unfold maxLen; omega) (by omega) (by have := B2.size; simp; omega) ?_; intro v3 w3 hown3 hgrow3 hnil3)
        obtain ⟨a3, c3, rfl⟩ := hex_slice hown3
        have B3 : Below w.heap.size w w3 := (B2.alloc B2.size _).trans (hex_grown_below (World.ownsRow.alloc O2.out _) hgrow3 (by have := B2.size; simp; omega))
        have O3 : Hid (OwnB w3 w.heap.size (.slice a3 (L.length + 1) c3) (L ++ [decD s k])) := Lib.hid (by
          unfold OwnB
          rw [flatB_app, List.length_append]
          have e1 : flatB [decD s k] = [.int .u8 (16 * x + y)] := by simp [flatB, HDD.out]
          rw [e1]
          exact hown3)
        clear hown3 hgrow3 hnil3
        go_wp2
        go_roundw
        case rel => exact ⟨m + 2, k + 1, L ++ [decD s k], a3, c3, by omega, Lib.hid (by have := hmk.out; omega), by go_num, by simp, Lib.hid (by simpa using O3.out), Lib.hid (by rw [decL_succ, hL.out]), Lib.hid (fun j hj => by rcases Nat.lt_succ_iff_lt_or_eq.1 hj with h | h; exact hA.out j h; exact h ▸ hok.out), B3⟩
        case measure => simp [intOf]; omega
      · have hk2 : k < s.size / 2 := by have := hmk.out; omega
        have hno : Hid (resB s = false) := Lib.hid (resB_no hk2 (by rw [HOK.out]; simp; omega))
        have hnS : Hid (resS s = ⟨#[]⟩) := Lib.hid (by unfold resS; rw [hno.out]; rfl)
        have hor : x < 0 ∨ y < 0 := by omega
        rcases hor with hor | hor
        · have hO0 := hO
          have hO : Hid (OwnB wr.drew w.heap.size (.slice a L.length c) L) := Lib.hid hO.out
          go_wp2_with fail
          refine hold_start (S := (fun w' => w.heap.size ≤ w'.heap.size ∧ Below w.heap.size w w' ∧ w.heap.size + 0 ≤ w'.heap.size)) (by kernel_rfl) (by kernel_rfl) (by intro _ _ d _ _ h; cases d <;> exact h) ?_ (fun hHC hH0 => ?_)
          · (first | (go_keep; done) | ((try go_split_ands); (repeat' apply And.intro) <;> first | assumption | (with_reducible refine Rd.below ?_ hb1; assumption) | (with_reducible refine Rd.drew ?_; repeat' (first | assumption | (with_reducible refine Rd.alloc ?_ _))) | (refine (hb1.cell (by first | omega | (simp; done) | (simp; omega))).trans ?_; first | assumption | simp) | (exact below_step hb1 (by first | omega | (simp; done) | (simp; omega)) (by assumption)) | (have hz' := hb1.size; (try simp at hz'); omega) | ((repeat' (first | assumption | (with_reducible exact Below.refl _ _) | (with_reducible refine Below.drew ?_) | (with_reducible refine Below.alloc ?_ ?_ _) | (with_reducible refine Below.setCell ?_ ?_ _) | omega | (simp; done) | (simp; omega))); done) | go_simp | (simp; done) | (simp; omega)))
          refine hold_plain 0 (v := ?_) hHC hH0 (by simp only [List.getElem?_toArray, List.getElem?_cons_succ, List.getElem?_cons_zero]; rfl) rfl (by kernel_rfl) ?_ ?_
          rotate_left 1
          · (intro w hSw; (try dsimp only at hSw); go_simp; try with_reducible rfl)
          try simp only [Act.put, List.setIfInBounds_toArray, List.set_cons_zero, List.set_cons_succ]
          refine hold_plain 1 (v := ?_) hHC hH0 (by simp only [List.getElem?_toArray, List.getElem?_cons_succ, List.getElem?_cons_zero]; rfl) rfl (by kernel_rfl) ?_ ?_
          rotate_left 1
          · (intro w hSw; (try dsimp only at hSw); go_simp; try with_reducible rfl)
          try simp only [Act.put, List.setIfInBounds_toArray, List.set_cons_zero, List.set_cons_succ]
          refine hold_plain 2 (v := ?_) hHC hH0 (by simp only [List.getElem?_toArray, List.getElem?_cons_succ, List.getElem?_cons_zero]; rfl) rfl (by kernel_rfl) ?_ ?_
          rotate_left 1
          · (intro w hSw; (try dsimp only at hSw); go_simp; try with_reducible rfl)
          try simp only [Act.put, List.setIfInBounds_toArray, List.set_cons_zero, List.set_cons_succ]
          refine hold_plain 4 (v := ?_) hHC hH0 (by simp only [List.getElem?_toArray, List.getElem?_cons_succ, List.getElem?_cons_zero]; rfl) rfl (by kernel_rfl) ?_ ?_
          rotate_left 1
          · (intro w hSw; (try dsimp only at hSw); go_simp; try with_reducible rfl)
          try simp only [Act.put, List.setIfInBounds_toArray, List.set_cons_zero, List.set_cons_succ]
          refine hold_plain 5 (v := ?_) hHC hH0 (by simp only [List.getElem?_toArray, List.getElem?_cons_succ, List.getElem?_cons_zero]; rfl) rfl (by kernel_rfl) ?_ ?_
          rotate_left 1
          · (intro w hSw; (try dsimp only at hSw); go_simp; try with_reducible rfl)
          try simp only [Act.put, List.setIfInBounds_toArray, List.set_cons_zero, List.set_cons_succ]
          refine hold_plain 6 (v := ?_) hHC hH0 (by simp only [List.getElem?_toArray, List.getElem?_cons_succ, List.getElem?_cons_zero]; rfl) rfl (by kernel_rfl) ?_ ?_
          rotate_left 1
          · (intro w hSw; (try dsimp only at hSw); go_simp; try with_reducible rfl)
          try simp only [Act.put, List.setIfInBounds_toArray, List.set_cons_zero, List.set_cons_succ]
          refine hold_plain 7 (v := ?_) hHC hH0 (by simp only [List.getElem?_toArray, List.getElem?_cons_succ, List.getElem?_cons_zero]; rfl) rfl (by kernel_rfl) ?_ ?_
          rotate_left 1
          · (intro w hSw; (try dsimp only at hSw); go_simp; try with_reducible rfl)
          try simp only [Act.put, List.setIfInBounds_toArray, List.set_cons_zero, List.set_cons_succ]
          refine hold_call0 3 (by simp only [List.getElem?_toArray, List.getElem?_cons_succ, List.getElem?_cons_zero]; rfl) rfl (by kernel_rfl) (fun K hK => ?_)
          go_simp
          first | (go_at_call 50; with_reducible refine (HV.out _).mono ?_; rintro e w1 ⟨rfl, hb1⟩; have hO := Lib.hid (hO.out.below hb1)) | (go_at_call 50; with_reducible refine (HV2.out _).mono ?_; rintro e w1 ⟨rfl, hb1⟩; have hO := Lib.hid (hO.out.below hb1))
          refine hK.out _ _ ?_ (fun hH1 => ?_)
          · (first | (go_keep; done) | ((try go_split_ands); (repeat' apply And.intro) <;> first | assumption | (with_reducible refine Rd.below ?_ hb1; assumption) | (with_reducible refine Rd.drew ?_; repeat' (first | assumption | (with_reducible refine Rd.alloc ?_ _))) | (refine (hb1.cell (by first | omega | (simp; done) | (simp; omega))).trans ?_; first | assumption | simp) | (exact below_step hb1 (by first | omega | (simp; done) | (simp; omega)) (by assumption)) | (have hz' := hb1.size; (try simp at hz'); omega) | ((repeat' (first | assumption | (with_reducible exact Below.refl _ _) | (with_reducible refine Below.drew ?_) | (with_reducible refine Below.alloc ?_ ?_ _) | (with_reducible refine Below.setCell ?_ ?_ _) | omega | (simp; done) | (simp; omega))); done) | go_simp | (simp; done) | (simp; omega)))
          clear hK K hH0
          try simp only [Act.put, List.setIfInBounds_toArray, List.set_cons_zero, List.set_cons_succ]
          refine hold_call0 8 (by simp only [List.getElem?_toArray, List.getElem?_cons_succ, List.getElem?_cons_zero]; rfl) rfl (by kernel_rfl) (fun K hK => ?_)
          go_simp
          first | (go_at_call 50; with_reducible refine (HV.out _).mono ?_; rintro e w1 ⟨rfl, hb1⟩; have hO := Lib.hid (hO.out.below hb1)) | (go_at_call 50; with_reducible refine (HV2.out _).mono ?_; rintro e w1 ⟨rfl, hb1⟩; have hO := Lib.hid (hO.out.below hb1))
          refine hK.out _ _ ?_ (fun hH2 => ?_)
          · (first | (go_keep; done) | ((try go_split_ands); (repeat' apply And.intro) <;> first | assumption | (with_reducible refine Rd.below ?_ hb1; assumption) | (with_reducible refine Rd.drew ?_; repeat' (first | assumption | (with_reducible refine Rd.alloc ?_ _))) | (refine (hb1.cell (by first | omega | (simp; done) | (simp; omega))).trans ?_; first | assumption | simp) | (exact below_step hb1 (by first | omega | (simp; done) | (simp; omega)) (by assumption)) | (have hz' := hb1.size; (try simp at hz'); omega) | ((repeat' (first | assumption | (with_reducible exact Below.refl _ _) | (with_reducible refine Below.drew ?_) | (with_reducible refine Below.alloc ?_ ?_ _) | (with_reducible refine Below.setCell ?_ ?_ _) | omega | (simp; done) | (simp; omega))); done) | go_simp | (simp; done) | (simp; omega)))
          clear hK K hH1
          try simp only [Act.put, List.setIfInBounds_toArray, List.set_cons_zero, List.set_cons_succ]
          refine hold_plain 9 (v := ?_) hHC hH2 (by simp only [List.getElem?_toArray, List.getElem?_cons_succ, List.getElem?_cons_zero]; rfl) rfl (by kernel_rfl) ?_ ?_
          rotate_left 1
          · (intro w hSw; (try dsimp only at hSw); go_simp; try with_reducible rfl)
          try simp only [Act.put, List.setIfInBounds_toArray, List.set_cons_zero, List.set_cons_succ]
          refine hold_plain 10 (v := ?_) hHC hH2 (by simp only [List.getElem?_toArray, List.getElem?_cons_succ, List.getElem?_cons_zero]; rfl) rfl (by kernel_rfl) ?_ ?_
          rotate_left 1
          · (intro w hSw; (try dsimp only at hSw); go_simp; try with_reducible rfl)
          try simp only [Act.put, List.setIfInBounds_toArray, List.set_cons_zero, List.set_cons_succ]
          refine wpAnyH_done (by kernel_rfl) ?_ _
          (try dsimp only at hH2)
          go_split_ands
          clear hHC
          have O2 := hO
          have B2 : Below w.heap.size w w1 := by assumption
          go_wp2
          all_goals exact bodyPost_ret (v := .tuple #[.string ⟨#[]⟩, .bool false]) (by simp [results, Tryd.results22, go_sem]) rfl ⟨by rw [hno.out, hnS.out], B2⟩
        · have hO0 := hO
          have hO : Hid (OwnB wr.drew w.heap.size (.slice a L.length c) L) := Lib.hid hO.out
          go_wp2_with fail
          refine hold_start (S := (fun w' => w.heap.size ≤ w'.heap.size ∧ Below w.heap.size w w' ∧ w.heap.size + 0 ≤ w'.heap.size)) (by kernel_rfl) (by kernel_rfl) (by intro _ _ d _ _ h; cases d <;> exact h) ?_ (fun hHC hH0 => ?_)
          · (first | (go_keep; done) | ((try go_split_ands); (repeat' apply And.intro) <;> first | assumption | (with_reducible refine Rd.below ?_ hb1; assumption) | (with_reducible refine Rd.drew ?_; repeat' (first | assumption | (with_reducible refine Rd.alloc ?_ _))) | (refine (hb1.cell (by first | omega | (simp; done) | (simp; omega))).trans ?_; first | assumption | simp) | (exact below_step hb1 (by first | omega | (simp; done) | (simp; omega)) (by assumption)) | (have hz' := hb1.size; (try simp at hz'); omega) | ((repeat' (first | assumption | (with_reducible exact Below.refl _ _) | (with_reducible refine Below.drew ?_) | (with_reducible refine Below.alloc ?_ ?_ _) | (with_reducible refine Below.setCell ?_ ?_ _) | omega | (simp; done) | (simp; omega))); done) | go_simp | (simp; done) | (simp; omega)))
          refine hold_plain 0 (v := ?_) hHC hH0 (by simp only [List.getElem?_toArray, List.getElem?_cons_succ, List.getElem?_cons_zero]; rfl) rfl (by kernel_rfl) ?_ ?_
          rotate_left 1
          · (intro w hSw; (try dsimp only at hSw); go_simp; try with_reducible rfl)
          try simp only [Act.put, List.setIfInBounds_toArray, List.set_cons_zero, List.set_cons_succ]
          refine hold_plain 1 (v := ?_) hHC hH0 (by simp only [List.getElem?_toArray, List.getElem?_cons_succ, List.getElem?_cons_zero]; rfl) rfl (by kernel_rfl) ?_ ?_
          rotate_left 1
          · (intro w hSw; (try dsimp only at hSw); go_simp; try with_reducible rfl)
          try simp only [Act.put, List.setIfInBounds_toArray, List.set_cons_zero, List.set_cons_succ]
          refine hold_plain 2 (v := ?_) hHC hH0 (by simp only [List.getElem?_toArray, List.getElem?_cons_succ, List.getElem?_cons_zero]; rfl) rfl (by kernel_rfl) ?_ ?_
          rotate_left 1
          · (intro w hSw; (try dsimp only at hSw); go_simp; try with_reducible rfl)
          try simp only [Act.put, List.setIfInBounds_toArray, List.set_cons_zero, List.set_cons_succ]
          refine hold_plain 4 (v := ?_) hHC hH0 (by simp only [List.getElem?_toArray, List.getElem?_cons_succ, List.getElem?_cons_zero]; rfl) rfl (by kernel_rfl) ?_ ?_
          rotate_left 1
          · (intro w hSw; (try dsimp only at hSw); go_simp; try with_reducible rfl)
          try simp only [Act.put, List.setIfInBounds_toArray, List.set_cons_zero, List.set_cons_succ]
          refine hold_plain 5 (v := ?_) hHC hH0 (by simp only [List.getElem?_toArray, List.getElem?_cons_succ, List.getElem?_cons_zero]; rfl) rfl (by kernel_rfl) ?_ ?_
          rotate_left 1
          · (intro w hSw; (try dsimp only at hSw); go_simp; try with_reducible rfl)
          try simp only [Act.put, List.setIfInBounds_toArray, List.set_cons_zero, List.set_cons_succ]
          refine hold_plain 6 (v := ?_) hHC hH0 (by simp only [List.getElem?_toArray, List.getElem?_cons_succ, List.getElem?_cons_zero]; rfl) rfl (by kernel_rfl) ?_ ?_
          rotate_left 1
          · (intro w hSw; (try dsimp only at hSw); go_simp; try with_reducible rfl)
          try simp only [Act.put, List.setIfInBounds_toArray, List.set_cons_zero, List.set_cons_succ]
          refine hold_plain 7 (v := ?_) hHC hH0 (by simp only [List.getElem?_toArray, List.getElem?_cons_succ, List.getElem?_cons_zero]; rfl) rfl (by kernel_rfl) ?_ ?_
          rotate_left 1
          · (intro w hSw; (try dsimp only at hSw); go_simp; try with_reducible rfl)
          try simp only [Act.put, List.setIfInBounds_toArray, List.set_cons_zero, List.set_cons_succ]
          refine hold_call0 3 (by simp only [List.getElem?_toArray, List.getElem?_cons_succ, List.getElem?_cons_zero]; rfl) rfl (by kernel_rfl) (fun K hK => ?_)
          go_simp
          first | (go_at_call 50; with_reducible refine (HV.out _).mono ?_; rintro e w1 ⟨rfl, hb1⟩; have hO := Lib.hid (hO.out.below hb1)) | (go_at_call 50; with_reducible refine (HV2.out _).mono ?_; rintro e w1 ⟨rfl, hb1⟩; have hO := Lib.hid (hO.out.below hb1))
          refine hK.out _ _ ?_ (fun hH1 => ?_)
          · (first | (go_keep; done) | ((try go_split_ands); (repeat' apply And.intro) <;> first | assumption | (with_reducible refine Rd.below ?_ hb1; assumption) | (with_reducible refine Rd.drew ?_; repeat' (first | assumption | (with_reducible refine Rd.alloc ?_ _))) | (refine (hb1.cell (by first | omega | (simp; done) | (simp; omega))).trans ?_; first | assumption | simp) | (exact below_step hb1 (by first | omega | (simp; done) | (simp; omega)) (by assumption)) | (have hz' := hb1.size; (try simp at hz'); omega) | ((repeat' (first | assumption | (with_reducible exact Below.refl _ _) | (with_reducible refine Below.drew ?_) | (with_reducible refine Below.alloc ?_ ?_ _) | (with_reducible refine Below.setCell ?_ ?_ _) | omega | (simp; done) | (simp; omega))); done) | go_simp | (simp; done) | (simp; omega)))
          clear hK K hH0
          try simp only [Act.put, List.setIfInBounds_toArray, List.set_cons_zero, List.set_cons_succ]
          refine hold_call0 8 (by simp only [List.getElem?_toArray, List.getElem?_cons_succ, List.getElem?_cons_zero]; rfl) rfl (by kernel_rfl) (fun K hK => ?_)
          go_simp
          first | (go_at_call 50; with_reducible refine (HV.out _).mono ?_; rintro e w1 ⟨rfl, hb1⟩; have hO := Lib.hid (hO.out.below hb1)) | (go_at_call 50; with_reducible refine (HV2.out _).mono ?_; rintro e w1 ⟨rfl, hb1⟩; have hO := Lib.hid (hO.out.below hb1))
          refine hK.out _ _ ?_ (fun hH2 => ?_)
          · (first | (go_keep; done) | ((try go_split_ands); (repeat' apply And.intro) <;> first | assumption | (with_reducible refine Rd.below ?_ hb1; assumption) | (with_reducible refine Rd.drew ?_; repeat' (first | assumption | (with_reducible refine Rd.alloc ?_ _))) | (refine (hb1.cell (by first | omega | (simp; done) | (simp; omega))).trans ?_; first | assumption | simp) | (exact below_step hb1 (by first | omega | (simp; done) | (simp; omega)) (by assumption)) | (have hz' := hb1.size; (try simp at hz'); omega) | ((repeat' (first | assumption | (with_reducible exact Below.refl _ _) | (with_reducible refine Below.drew ?_) | (with_reducible refine Below.alloc ?_ ?_ _) | (with_reducible refine Below.setCell ?_ ?_ _) | omega | (simp; done) | (simp; omega))); done) | go_simp | (simp; done) | (simp; omega)))
          clear hK K hH1
          try simp only [Act.put, List.setIfInBounds_toArray, List.set_cons_zero, List.set_cons_succ]
          refine hold_plain 9 (v := ?_) hHC hH2 (by simp only [List.getElem?_toArray, List.getElem?_cons_succ, List.getElem?_cons_zero]; rfl) rfl (by kernel_rfl) ?_ ?_
          rotate_left 1
          · (intro w hSw; (try dsimp only at hSw); go_simp; try with_reducible rfl)
          try simp only [Act.put, List.setIfInBounds_toArray, List.set_cons_zero, List.set_cons_succ]
          refine hold_plain 10 (v := ?_) hHC hH2 (by simp only [List.getElem?_toArray, List.getElem?_cons_succ, List.getElem?_cons_zero]; rfl) rfl (by kernel_rfl) ?_ ?_
          rotate_left 1
          · (intro w hSw; (try dsimp only at hSw); go_simp; try with_reducible rfl)
          try simp only [Act.put, List.setIfInBounds_toArray, List.set_cons_zero, List.set_cons_succ]
          refine wpAnyH_done (by kernel_rfl) ?_ _
          (try dsimp only at hH2)
          go_split_ands
          clear hHC
          have O2 := hO
          have B2 : Below w.heap.size w w1 := by assumption
          go_wp2
          all_goals exact bodyPost_ret (v := .tuple #[.string ⟨#[]⟩, .bool false]) (by simp [results, Tryd.results22, go_sem]) rfl ⟨by rw [hno.out, hnS.out], B2⟩
    · have hkk : Hid (k = s.size / 2) := Lib.hid (by have := hmk.out; omega)
      have hx : ¬ (m : Int) < (s.size : Int) := by omega
      have hyes : Hid (resB s = true) := Lib.hid (resB_yes (fun j hj => hA.out j (by rw [hkk.out]; exact hj)))
      have hyS : Hid (resS s = ⟨L.toArray⟩) := Lib.hid (by unfold resS; rw [hyes.out, hL.out, hkk.out]; rfl)
      have hcv := conv_own (L := L) hO.out rfl
      clear hlt hm hO hsz
      go_wp2
      exact bodyPost_ret (v := .tuple #[.string ⟨L.toArray⟩, .bool true]) (by simp [results, Tryd.results22, go_sem]) rfl ⟨by rw [hyes.out, hyS.out], hB⟩
end Go.Proofs.YtlbmmdkmelcedaaDoor
