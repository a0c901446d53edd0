/-
  The law's helpers on lists of texts.
-/
import Derived.Test.YtlbmmdkmelcedaaStrL
import Derived.Test.YtlbmmdkmelcedaaMark
import Derived.Test.YtlbmmdkmelcedaaDec
namespace Go.Proofs.Ytlbmmdkmelcedaa
open Go.RowKit
set_option linter.unusedVariables false
set_option linter.unusedSimpArgs false

set_option maxRecDepth 100000 in
theorem eqStringS_same (a b : Option Addr) (n c d : Nat) (X : List ByteArray) (w : World) (hz : X.length = n) (hn : n ≤ 1048576) (hr : RdT w a X) (hs : RdT w b X) :
    Calls Try.prog 7 #[.slice a n c, .slice b n d] w fun e w' => e = .returned (.bool true) ∧ Below w.heap.size w w' := by
  have HZ := Lib.hid hz
  clear hz
  go_enter Try.func7, Try.ntmps7
  go_wp2
  go_loopw [5] (fun i wr => ∃ k : Nat, k ≤ n ∧ i = .int .i64 k ∧ Below w.heap.size w wr) (fun i _ => n - (intOf i).toNat)
  case atStart => exact ⟨0, Nat.zero_le _, rfl, Below.refl _ _⟩
  case round =>
    obtain ⟨k, hk, rfl, hB⟩ := hrel
    by_cases hlt : k < n
    · obtain ⟨b1, off1, v, rfl, hb1, hcell1, hv1⟩ := RdT.at_ (Rd.below hr hB) (k := k) (by rw [HZ.out]; exact hlt)
      obtain ⟨b2, off2, v', rfl, hb2, hcell2, hv2⟩ := RdT.at_ (Rd.below hs hB) (k := k) (by rw [HZ.out]; exact hlt)
      obtain rfl : v = v' := by have h1 := hv1.out; rw [hv2.out] at h1; exact (Option.some.inj h1).symm
      have HR := Lib.hid hr
      have HS := Lib.hid hs
      clear hr hs hv2
      go_wp2
      go_quiet (fail)
      go_wp2
      go_roundw
      case rel => exact ⟨k + 1, by omega, by go_num, below_drewN hB _⟩
      case measure => simp [intOf]; omega
    · clear hr hs
      go_wp2
      go_ret
      exact ⟨rfl, hB⟩
/-- The text that a law writes for the number k. -/
def mkT (k : Nat) : ByteArray := strD (109 :: Lib.decDigits k)
theorem u8_dig {d : Nat} (h : d < 10) : IntKind.u8.wrap (48 + (d : Int)) = ((hexD d).toNat : Int) := by
  have : ∀ m : Fin 10, IntKind.u8.wrap (48 + (m.val : Int)) = ((hexD m.val).toNat : Int) := by decide
  exact this ⟨d, h⟩
theorem dec_nat_len {n : Nat} (h1 : n ≤ 9000000) : (Lib.decDigits n).length ≤ 21 := by
  have := dec_len (n := n) (by omega) (by omega)
  simpa using this
set_option maxHeartbeats 1600000 in
set_option maxRecDepth 100000 in
theorem markText_any (n0 : Nat) (w : World) (h0 : 1 ≤ n0) (h1 : n0 ≤ 9000000) :
    Calls Try.prog 16 #[.int .i64 n0] w fun e w' => e = .returned (.string (mkT n0)) ∧ Below w.heap.size w w' := by
  have hz : ¬ (n0 : Int) ≤ 0 := by omega
  go_enter Try.func16, Try.ntmps16
  go_wp2_with fail
  go_loopw [0, 3] (fun nv sv wr => ∃ (n : Nat) (L : List UInt8), nv = .int .i64 (n : Int) ∧ sv = .string (strD L) ∧ n ≤ 9000000 ∧ Hid (Lib.decDigits n0 = decT n ++ L) ∧ Below w.heap.size w wr) (fun nv _ _ => (intOf nv).natAbs)
  case atStart => exact ⟨n0, [], rfl, rfl, h1, Lib.hid (by unfold decT; rw [if_neg (by omega), List.append_nil]; rfl), by repeat' (first | assumption | (with_reducible exact Below.refl _ _) | (with_reducible refine Below.drew ?_) | (with_reducible refine Below.alloc ?_ ?_ _) | (with_reducible refine Below.setCell ?_ ?_ _) | omega | (simp; done) | (simp; omega))⟩
  case round =>
    obtain ⟨n, L, rfl, rfl, hn1, hL, hB⟩ := hrel
    have hl : (strD L).size ≤ 21 := by have h := dec_nat_len h1; rw [hL.out, List.length_append] at h; rw [strD_size]; omega
    by_cases hn : n = 0
    · subst hn
      have HT : Hid ((⟨#[109]⟩ : ByteArray) ++ strD L = mkT n0) := Lib.hid (by
        have := hL.out
        rw [show decT ((0 : Nat) : Int) = [] by unfold decT; simp, List.nil_append] at this
        unfold mkT
        rw [this]
        exact strD_app [109] L)
      go_wp2_with fail
      go_ret
      exact ⟨by first | rfl | (rw [HT.out]; rfl), hB⟩
    · have hnp : (0 : Int) < (n : Int) := by omega
      obtain ⟨d, hd⟩ : ∃ d : Nat, d = n % 10 := ⟨_, rfl⟩
      obtain ⟨q, hq⟩ : ∃ q : Nat, q = n / 10 := ⟨_, rfl⟩
      have hd9 : d < 10 := by omega
      have HT := Lib.hid (decT_step (n := (n : Int)) (q := (q : Int)) (d := d) (by omega) (by simp; omega) (by simp; omega))
      have hm : (n : Int) % 10 = (d : Int) := by omega
      have hq1 : (n : Int) / 10 = (q : Int) := by omega
      have hqm : q < n := by omega
      have hq9 : q ≤ 9000000 := by omega
      have HQM := Lib.hid hqm
      have hu := u8_dig hd9
      clear hd hq hqm
      have hsz := hB.size
      have hcv := conv_one wr (hexD d)
      have HE := Lib.hid (strD_app [hexD d] L)
      have hl1 : (strD [hexD d]).size = 1 := strD_size _
      have HLN : Hid (Lib.decDigits n0 = decT q ++ ([hexD d] ++ L)) := Lib.hid (by rw [hL.out, HT.out, List.append_assoc])
      go_wp2_with fail
      go_roundw
      case rel => exact ⟨q, [hexD d] ++ L, by rfl, by rw [← HE.out], by omega, HLN, by repeat' (first | assumption | (with_reducible exact Below.refl _ _) | (with_reducible refine Below.drew ?_) | (with_reducible refine Below.alloc ?_ ?_ _) | (with_reducible refine Below.setCell ?_ ?_ _) | omega | (simp; done) | (simp; omega))⟩
      case measure => simp [intOf]; exact HQM.out
def MKT (m : Nat) : List ByteArray := (List.range m).map fun i : Nat => mkT (i + 1)
theorem MKT_len (m : Nat) : (MKT m).length = m := by simp [MKT]
theorem MKT_at {m i : Nat} (h : i < m) : (MKT m)[i]? = some (mkT (i + 1)) := by simp [MKT, h]
theorem MKT_succ (m : Nat) : MKT (m + 1) = MKT m ++ [mkT (m + 1)] := by simp [MKT, List.range_succ]
theorem mkt_set {xs : List Value} {j : Nat} (hj : j < xs.length) (h : xs.take j = (MKT j).map Value.string) : (xs.set j (.string (mkT (j + 1)))).take (j + 1) = (MKT (j + 1)).map Value.string := by
  rw [MKT_succ, List.map_append, ← h, List.take_add_one, List.take_set]
  simp [List.getElem?_set, hj]
  rw [List.set_eq_of_length_le (by rw [List.length_take]; omega)]
set_option maxRecDepth 100000 in
theorem markStringS_any (a : Option Addr) (n c : Nat) (B : Nat) (xs : List Value) (w : World) (hn : n ≤ 1000000) (ho : w.ownsRow B 9 1 (.slice a n c) n xs) :
    Calls Try.prog 8 #[.slice a n c, .int .i64 1] w fun e w' => e = .returned (.int .i64 (1 + (n : Int))) ∧ w'.ownsRow B 9 1 (.slice a n c) n ((MKT n).map Value.string) ∧ w.grownBy w' (Value.slice a n c).ownBlock := by
  go_enter Try.func8, Try.ntmps8
  go_wp2
  go_loopw [1, 5] (fun s i wr => ∃ (k : Nat) (ys : List Value), k ≤ n ∧ i = .int .i64 k ∧ s = .int .i64 (1 + (k : Int)) ∧ wr.ownsRow B 9 1 (.slice a n c) n ys ∧ Hid (ys.take k = (MKT k).map Value.string) ∧ w.grownBy wr (Value.slice a n c).ownBlock) (fun _ i _ => n - (intOf i).toNat)
  case atStart => exact ⟨0, xs, Nat.zero_le _, rfl, rfl, ho, Lib.hid (by simp [MKT]), World.grownBy.refl _ _⟩
  case round =>
    obtain ⟨k, ys, hk, rfl, rfl, hown, hX, hG⟩ := hrel
    have hl := hown.1
    by_cases hlt : k < n
    · obtain ⟨g, rfl⟩ : ∃ g, a = some ⟨g, 0, none⟩ := by
        rcases hown.2 with ⟨hv, h0⟩ | ⟨g, cap, cur, hv, _⟩
        · omega
        · exact ⟨g, by injection hv⟩
      have hk1 : k < ys.length := by omega
      have hglt := (World.ownsRow.lt hown g rfl).2
      have HO := Lib.hid hown
      have HG := Lib.hid hG
      have HK := Lib.hid hk1
      have hkI : (k : Int) < (n : Int) := by omega
      have e1 : (1 : Int) + (k : Int) = ((k + 1 : Nat) : Int) := by omega
      clear hown hl ho hG hk1
      go_wp2_with (go_at_call 16; fail)
      rw [e1]
      refine (markText_any (k + 1) _ (by omega) (by omega)).mono ?_
      rintro e w1 ⟨rfl, hb⟩
      have HO1 := own_below HO.out hb
      have hc := HO1.cellAt k (by have := HK.out; have := HO.out.1; omega)
      have hf := HO1.frozenAt k
      rw [List.getElem?_eq_getElem HK.out] at hc
      obtain ⟨u, hu⟩ : ∃ u, u = ys[k]'HK.out := ⟨_, rfl⟩
      rw [← hu] at hc
      have HST := Lib.hid (HO1.stored k (.string (mkT (k + 1)))).1
      have HX2 := Lib.hid (mkt_set HK.out hX.out)
      have HG1 : Hid (w.grownBy (w1.setCell ⟨g, k, none⟩ (.string (mkT (k + 1)))) (some g)) := Lib.hid (gb_set (gb_step HG.out ⟨hb.os, hb.tape, hb.output, hb.size, fun i hi _ => hb.block i hi⟩) _ _)
      have hzz := hb.size
      clear hb HO1 hu
      go_wp2_with fail
      go_roundw
      case rel => exact ⟨k + 1, _, by omega, by go_num, congrArg (Value.int .i64) (by omega), HST.out, HX2.out, HG1.out⟩
      case measure => simp [intOf]; omega
    · have hkn : k = n := by omega
      have HX : Hid (ys = (MKT n).map Value.string) := Lib.hid (by have h := hX.out; rwa [hkn, List.take_of_length_le (by omega)] at h)
      have HO := Lib.hid hown
      have HK := Lib.hid hkn
      clear hkn hl hown ho
      go_wp2
      go_ret
      exact ⟨ret_i (by rw [HK.out]), by rw [← HX.out]; exact HO.out, hG⟩
set_option maxHeartbeats 1600000 in
set_option maxRecDepth 100000 in
theorem heldStringS_any (a : Option Addr) (n c : Nat) (w : World) (hn : n ≤ 1000000) (hr : RdT w a (MKT n)) :
    Calls Try.prog 9 #[.slice a n c, .int .i64 1] w fun e w' => e = .returned (.int .i64 (1 + (n : Int))) ∧ Below w.heap.size w w' := by
  have HR := Lib.hid hr
  clear hr
  go_enter Try.func9, Try.ntmps9
  go_wp2
  go_loopw [1, 5] (fun s i wr => ∃ k : Nat, k ≤ n ∧ i = .int .i64 k ∧ s = .int .i64 (1 + (k : Int)) ∧ Below w.heap.size w wr) (fun _ i _ => n - (intOf i).toNat)
  case atStart => exact ⟨0, Nat.zero_le _, rfl, rfl, Below.refl _ _⟩
  case round =>
    obtain ⟨k, hk, rfl, rfl, hB⟩ := hrel
    have hsz := hB.size
    by_cases hlt : k < n
    · obtain ⟨b, off, t, rfl, hb, hcell, ht⟩ := RdT.at_ (Rd.below HR.out hB) (k := k) (by rw [MKT_len]; exact hlt)
      have htt : t = mkT (k + 1) := by have h := ht.out; rw [MKT_at hlt] at h; exact (Option.some.inj h).symm
      subst htt
      have e1 : (1 : Int) + (k : Int) = ((k + 1 : Nat) : Int) := by omega
      have hkI : (k : Int) < (n : Int) := by omega
      have HMT := Lib.hid (fun (W : World) (x : Int) (hx : x = ((k + 1 : Nat) : Int)) => (by subst hx; exact markText_any (k + 1) W (by omega) (by omega) : Calls Try.prog 16 #[.int .i64 x] W fun e w' => e = .returned (.string (mkT (k + 1))) ∧ Below W.heap.size W w'))
      obtain ⟨t, htt⟩ : ∃ t, t = mkT (k + 1) := ⟨_, rfl⟩
      rw [← htt] at HMT hcell
      clear ht htt
      have hcell : wr.drew.cell? ⟨b, off + k, none⟩ = some (.string t) := hcell
      go_wp2_with fail
      refine hold_start (S := (fun w' => w'.cell? ⟨b, off + k, none⟩ = some (.string t) ∧ Below w.heap.size w w' ∧ w.heap.size + 0 ≤ w'.heap.size)) (by kernel_rfl) (by kernel_rfl) (by intro _ _ d _ _ h; cases d <;> exact h) ?_ (fun hHC hH0 => ?_)
      · (first | (go_keep; done) | ((try go_split_ands); (repeat' apply And.intro) <;> first | assumption | (with_reducible refine Rd.below ?_ hb1; assumption) | (with_reducible refine Rd.drew ?_; repeat' (first | assumption | (with_reducible refine Rd.alloc ?_ _))) | (refine (hb1.cell (by first | omega | (simp; done) | (simp; omega))).trans ?_; first | assumption | simp) | (exact below_step hb1 (by first | omega | (simp; done) | (simp; omega)) (by assumption)) | (have hz' := hb1.size; (try simp at hz'); omega) | ((repeat' (first | assumption | (with_reducible exact Below.refl _ _) | (with_reducible refine Below.drew ?_) | (with_reducible refine Below.alloc ?_ ?_ _) | (with_reducible refine Below.setCell ?_ ?_ _) | omega | (simp; done) | (simp; omega))); done) | go_simp | (simp; done) | (simp; omega)))
      refine hold_plain 0 (v := ?_) hHC hH0 (by simp only [List.getElem?_toArray, List.getElem?_cons_succ, List.getElem?_cons_zero]; rfl) rfl (by kernel_rfl) ?_ ?_
      rotate_left 1
      · (intro w hSw; (try dsimp only at hSw); go_simp; try with_reducible rfl)
      try simp only [Act.put, List.setIfInBounds_toArray, List.set_cons_zero, List.set_cons_succ]
      refine hold_plain 1 (v := ?_) hHC hH0 (by simp only [List.getElem?_toArray, List.getElem?_cons_succ, List.getElem?_cons_zero]; rfl) rfl (by kernel_rfl) ?_ ?_
      rotate_left 1
      · (intro w hSw; (try dsimp only at hSw); go_simp; try with_reducible rfl)
      try simp only [Act.put, List.setIfInBounds_toArray, List.set_cons_zero, List.set_cons_succ]
      refine hold_plain 2 (v := ?_) hHC hH0 (by simp only [List.getElem?_toArray, List.getElem?_cons_succ, List.getElem?_cons_zero]; rfl) rfl (by kernel_rfl) ?_ ?_
      rotate_left 1
      · (intro w hSw; (try dsimp only at hSw); go_simp; try with_reducible rfl)
      try simp only [Act.put, List.setIfInBounds_toArray, List.set_cons_zero, List.set_cons_succ]
      refine hold_plain 3 (v := ?_) hHC hH0 (by simp only [List.getElem?_toArray, List.getElem?_cons_succ, List.getElem?_cons_zero]; rfl) rfl (by kernel_rfl) ?_ ?_
      rotate_left 1
      · (intro w hSw; (try dsimp only at hSw); go_simp; try with_reducible rfl)
      try simp only [Act.put, List.setIfInBounds_toArray, List.set_cons_zero, List.set_cons_succ]
      refine hold_plain 4 (v := ?_) hHC hH0 (by simp only [List.getElem?_toArray, List.getElem?_cons_succ, List.getElem?_cons_zero]; rfl) rfl (by kernel_rfl) ?_ ?_
      rotate_left 1
      · (intro w hSw; (try dsimp only at hSw); go_simp; try with_reducible rfl)
      try simp only [Act.put, List.setIfInBounds_toArray, List.set_cons_zero, List.set_cons_succ]
      refine hold_call0 5 (by simp only [List.getElem?_toArray, List.getElem?_cons_succ, List.getElem?_cons_zero]; rfl) rfl (by kernel_rfl) (fun K hK => ?_)
      go_simp
      ((go_at_call 16; refine (HMT.out _ _ (by omega)).mono ?_; rintro e w1 ⟨rfl, hb1⟩))
      refine hK.out _ _ ?_ (fun hH1 => ?_)
      · (first | (go_keep; done) | ((try go_split_ands); (repeat' apply And.intro) <;> first | assumption | (with_reducible refine Rd.below ?_ hb1; assumption) | (with_reducible refine Rd.drew ?_; repeat' (first | assumption | (with_reducible refine Rd.alloc ?_ _))) | (refine (hb1.cell (by first | omega | (simp; done) | (simp; omega))).trans ?_; first | assumption | simp) | (exact below_step hb1 (by first | omega | (simp; done) | (simp; omega)) (by assumption)) | (have hz' := hb1.size; (try simp at hz'); omega) | ((repeat' (first | assumption | (with_reducible exact Below.refl _ _) | (with_reducible refine Below.drew ?_) | (with_reducible refine Below.alloc ?_ ?_ _) | (with_reducible refine Below.setCell ?_ ?_ _) | omega | (simp; done) | (simp; omega))); done) | go_simp | (simp; done) | (simp; omega)))
      clear hK K hH0
      try simp only [Act.put, List.setIfInBounds_toArray, List.set_cons_zero, List.set_cons_succ]
      refine hold_plain 6 (v := ?_) hHC hH1 (by simp only [List.getElem?_toArray, List.getElem?_cons_succ, List.getElem?_cons_zero]; rfl) rfl (by kernel_rfl) ?_ ?_
      rotate_left 1
      · (intro w hSw; (try dsimp only at hSw); go_simp; try with_reducible rfl)
      try simp only [Act.put, List.setIfInBounds_toArray, List.set_cons_zero, List.set_cons_succ]
      refine wpAnyH_done (by kernel_rfl) ?_ _
      (try dsimp only at hH1)
      go_split_ands
      clear hHC
      go_wp2
      go_roundw
      case rel => exact ⟨k + 1, by omega, by go_num, congrArg (Value.int .i64) (by omega), by assumption⟩
      case measure => simp [intOf]; omega
    · have hkn : k = n := by omega
      have HK := Lib.hid hkn
      clear hkn
      go_wp2
      go_ret
      exact ⟨ret_i (by rw [HK.out]), hB⟩
end Go.Proofs.Ytlbmmdkmelcedaa
