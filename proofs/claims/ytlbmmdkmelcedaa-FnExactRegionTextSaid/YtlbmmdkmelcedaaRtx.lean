/-
  A region's text: both sides.
-/
import Derived.Test.YtlbmmdkmelcedaaHas
import Derived.Test.YtlbmmdkmelcedaaStrL
import Derived.Test.YtlbmmdkmelcedaaDec
namespace Go.Proofs.Ytlbmmdkmelcedaa
open Go.RowKit
set_option linter.unusedVariables false
set_option linter.unusedSimpArgs false

/-- The first k marks of a row. -/
def rowT (m k : Nat) : List UInt8 := (List.range k).map fun x => if m.testBit x then 35 else 46
theorem rowT_len (m k : Nat) : (rowT m k).length = k := by simp [rowT]
theorem rowT_yes {m k : Nat} (h : m.testBit k = true) : strD (rowT m k) ++ ⟨#[35]⟩ = strD (rowT m (k + 1)) := by
  have e : rowT m (k + 1) = rowT m k ++ [35] := by simp [rowT, List.range_succ, h]
  rw [e, ← strD_app]
  rfl
theorem rowT_no {m k : Nat} (h : m.testBit k = false) : strD (rowT m k) ++ ⟨#[46]⟩ = strD (rowT m (k + 1)) := by
  have e : rowT m (k + 1) = rowT m k ++ [46] := by simp [rowT, List.range_succ, h]
  rw [e, ← strD_app]
  rfl
/-- A region's text. -/
def rtL (zs : List Int) : List ByteArray := if rokB zs then zs.map (fun z => strD (rowT z.toNat 8)) else []
theorem rtL_no {zs : List Int} (h : rokB zs = false) : rtL zs = [] := by simp [rtL, h]
theorem rtL_yes {zs : List Int} (h : rokB zs = true) : rtL zs = zs.map (fun z => strD (rowT z.toNat 8)) := by simp [rtL, h]
theorem rtL_len (zs : List Int) : (rtL zs).length ≤ 8 := by
  unfold rtL
  split
  · rename_i h
    rw [List.length_map]
    exact (rok_iff.1 h).1
  · simp
theorem rtx_step {zs : List Int} {k m : Nat} {X : List ByteArray} (hX : X = (zs.take k).map (fun z => strD (rowT z.toNat 8))) (hv : zs[k]? = some (m : Int)) : X ++ [strD (rowT m 8)] = (zs.take (k + 1)).map (fun z => strD (rowT z.toNat 8)) := by
  rw [take_one hv, List.map_append, ← hX]
  rfl
theorem rok_valT {a : Option Addr} {n c : Nat} {zs : List Int} {w : World} {b : Bool} (hz : zs.length = n) (hn : n ≤ 1048576) (hr : RdI w a zs) (h : rokB zs = b) : Calls Try.prog 18 #[.agg #[.slice a n c]] w fun e w' => e = .returned (.bool b) ∧ Below w.heap.size w w' := by
  subst h
  exact specRok_any a n c zs w hz hn hr
theorem rok_valU {a : Option Addr} {n c : Nat} {zs : List Int} {w : World} {b : Bool} (hz : zs.length = n) (hn : n ≤ 1048576) (hr : RdI w a zs) (h : rokB zs = b) : Calls Try.prog 20 #[.agg #[.slice a n c]] w fun e w' => e = .returned (.bool b) ∧ Below w.heap.size w w' := by
  subst h
  exact implRok_any a n c zs w hz hn hr
theorem has_valT (S : Nat) (x y : Int) (w : World) (hS : Hid (S < 2 ^ 64)) {b : Bool} (h : hasB S x y = b) :
    Calls Try.prog 22 #[.int .u64 (S : Int), .agg #[.int .i64 x, .int .i64 y]] w fun e w' => e = .returned (.bool b) ∧ Below w.heap.size w w' := by
  subst h
  exact has_any S x y w hS
set_option maxHeartbeats 3200000 in
set_option maxRecDepth 100000 in
theorem specRt_any (a : Option Addr) (n c : Nat) (zs : List Int) (w : World) (hz : zs.length = n) (hn : n ≤ 1048576) (hr : RdI w a zs) :
    Calls Try.prog 11 #[.agg #[.slice a n c]] w fun e w' => ∃ a' c', e = .returned (.slice a' (rtL zs).length c') ∧ OwnT w' w.heap.size (.slice a' (rtL zs).length c') (rtL zs) ∧ Below w.heap.size w w' := by
  obtain ⟨i0, hi, hz0, hz1, hz2⟩ := info_parts txInfo
  have HZ := Lib.hid hz
  have HR := Lib.hid hr
  clear hz hr
  rcases Bool.eq_false_or_eq_true (rokB zs) with h1 | h1
  · have HC := Lib.hid (rtL_yes h1)
    have HOK := Lib.hid (fun (W : World) (h : RdI W a zs) => rok_valT (c := c) HZ.out hn h h1)
    have HVB := Lib.hid (rok_iff.1 h1).2
    have hn8 : n ≤ 8 := by rw [← HZ.out]; exact (rok_iff.1 h1).1
    clear h1
    go_enter Try.func11, Try.ntmps11
    go_wp2_with fail
    go_loopw [3, 4] (fun v i wr => ∃ (k : Nat) (X : List ByteArray) (a' : Option Addr) (c' : Nat), k ≤ n ∧ i = .int .i64 k ∧ v = .slice a' X.length c' ∧ X.length ≤ 8 ∧ Hid (OwnT wr (w.heap.size + 1) (.slice a' X.length c') X) ∧ Hid (X = (zs.take k).map (fun z => strD (rowT z.toNat 8))) ∧ wr.cell? ⟨w.heap.size, 0, none⟩ = some (.slice a n c) ∧ w.heap.size + 1 ≤ wr.heap.size ∧ Below w.heap.size w wr)
      (fun _ i _ => n - (intOf i).toNat)
    case atStart => exact ⟨0, [], _, _, Nat.zero_le _, rfl, rfl, by simp, Lib.hid (by first | exact OwnT.new _ _ (by first | omega | (simp; done) | (simp; omega)) _ rfl | (simpa using OwnT.new (w.alloc (.cells #[.slice a n c] 33)) (w.heap.size + 1) (by simp) _ rfl)), Lib.hid (by simp), by simp, by simp, by repeat' (first | assumption | (with_reducible exact Below.refl _ _) | (with_reducible refine Below.drew ?_) | (with_reducible refine Below.alloc ?_ ?_ _) | (with_reducible refine Below.setCell ?_ ?_ _) | omega | (simp; done) | (simp; omega))⟩
    case round =>
      obtain ⟨k, X, a', c', hk, rfl, rfl, hX8, hO, hX, hbox, hsz, hB⟩ := hrel
      by_cases hlt : k < n
      · have hkI : (k : Int) < (n : Int) := by omega
        obtain ⟨b, off, v, rfl, hb, hcell, hv⟩ := RdI.at_ (Rd.below HR.out hB) (k := k) (by rw [HZ.out]; exact hlt)
        have hvb := HVB.out v (List.mem_of_getElem? hv.out)
        obtain ⟨m, rfl⟩ : ∃ m : Nat, v = m := ⟨v.toNat, by omega⟩
        have hm : m < 256 := by omega
        have HX1 := Lib.hid (rtx_step hX.out hv.out)
        clear hvb hv
        go_wp2_with (go_at_call 18; fail)
        refine (HOK.out _ (Rd.below HR.out hB)).mono ?_
        rintro e wa ⟨rfl, hb1⟩
        have hboxa := (hb1.cell (p := ⟨w.heap.size, 0, none⟩) (by first | omega | (simp; done) | (simp; omega))).trans hbox
        have hcella := (hb1.cell (p := ⟨b, off + k, none⟩) hb).trans hcell
        have hOa := Lib.hid (hO.out.below hb1)
        have hBa : Below w.heap.size w wa := below_step hb1 (by first | omega | (simp; done) | (simp; omega)) hB
        have hsza : w.heap.size + 1 ≤ wa.heap.size := Nat.le_trans hsz hb1.size
        clear hb1 hbox hcell hO
        go_wp2_with fail
        go_loopw [5, 6] (fun s j wr2 => ∃ x : Nat, x ≤ 8 ∧ j = .int .i64 (x : Int) ∧ s = .string (strD (rowT m x)) ∧ wa = wr2) (fun _ j _ => 8 - (intOf j).toNat)
        case atStart => exact ⟨0, by omega, rfl, rfl, rfl⟩
        case round =>
          obtain ⟨x, hx, rfl, rfl, rfl⟩ := hrel
          have hrl : (strD (rowT m x)).size = x := by rw [strD_size, rowT_len]
          by_cases hlt2 : x < 8
          · have hxI : (x : Int) < 8 := by omega
            have e1 : bits .and .i64 ((m : Int) / 2 ^ x) 1 = ((m / 2 ^ x % 2 : Nat) : Int) := row_bit hm
            by_cases ht : m.testBit x = true
            · have hr1 := rowT_yes ht
              have hts : ((m : Int) / 2 ^ x % 2 == 1) = true := by rw [bit_test, ← testBit_mod]; exact ht
              clear ht
              go_wp2_with fail
              go_roundw
              case rel => exact ⟨x + 1, by omega, by go_num, by rw [← hr1], by first | rfl | trivial⟩
              case measure => simp [intOf]; omega
            · have ht' : m.testBit x = false := by simpa using ht
              have hr1 := rowT_no ht'
              have hts : ((m : Int) / 2 ^ x % 2 == 1) = false := by rw [bit_test, ← testBit_mod]; exact ht'
              clear ht ht'
              go_wp2_with fail
              go_roundw
              case rel => exact ⟨x + 1, by omega, by go_num, by rw [← hr1], by first | rfl | trivial⟩
              case measure => simp [intOf]; omega
          · have hx8 : x = 8 := by omega
            have hxI : ¬ (x : Int) < 8 := by omega
            obtain ⟨t, ht⟩ : ∃ t, t = strD (rowT m x) := ⟨_, rfl⟩
            rw [← ht] at hrl ⊢
            have HX2 : Hid (X ++ [t] = (zs.take (k + 1)).map (fun z => strD (rowT z.toNat 8))) := Lib.hid (by rw [ht, hx8]; exact HX1.out)
            have hX7 : X.length + 1 ≤ 8 := by
              have h := congrArg List.length HX2.out
              rw [List.length_append, List.length_map, List.length_take] at h
              simp at h
              omega
            clear hx8 hlt2 hx ht HX1
            go_wp2_with (at_builtin; refine wpList_append_own _ rfl _ _ 22 rfl (w.heap.size + 1) 9 i0 (.string ⟨#[]⟩) 1 16 Try.underlying22 hi hz0 hz1 hz2 rfl (by decide) _ _ _ rfl (World.ownsRow.alloc hOa.out _) ⟨wa.heap.size, 0, none⟩ 1 1 [.string t] rfl rfl (txt_new _ _ _) (by intro u hu; simp at hu; subst hu; rfl) (by unfold maxLen; omega) (by omega) (by simp; omega) ?_; intro v3 w3 hown3 hgrow3 hnil3)
            obtain ⟨a3, c3, hv3, hO3⟩ := OwnT.snoc hown3
            subst hv3
            have HO3 := Lib.hid hO3
            have hG : Below (w.heap.size + 1) _ w3 := grown_below (World.ownsRow.alloc hOa.out _) hgrow3 (by simp; omega)
            have hlw : w.heap.size < wa.heap.size := by omega
            have hbox3 : w3.cell? ⟨w.heap.size, 0, none⟩ = some (.slice (some ⟨b, off, none⟩) n c) := (hG.cell (p := ⟨w.heap.size, 0, none⟩) (by simp)).trans (by go_simp)
            have hB3 : Below w.heap.size w w3 := (hBa.alloc (by omega) _).trans (hG.mono (by omega))
            have hz3 := hG.size
            clear hown3 hgrow3 hnil3 hO3
            go_wp2_with fail
            go_roundw
            case rel => exact ⟨k + 1, X ++ [t], a3, c3, by omega, by go_num, by simp, by simp; omega, Lib.hid (by simpa using HO3.out), HX2, hbox3, by simp at hz3; omega, hB3⟩
            case measure => simp [intOf]; omega
      · have hkI : ¬ (k : Int) < (n : Int) := by omega
        have HF : Hid (rtL zs = X) := Lib.hid (by rw [HC.out, hX.out, List.take_of_length_le (by rw [HZ.out]; omega)])
        go_wp2_with fail
        go_ret
        exact ⟨a', c', by rw [HF.out]; rfl, by rw [HF.out]; exact own_base hO.out (by omega), hB⟩
  · have HC := Lib.hid (rtL_no h1)
    have HOK := Lib.hid (fun (W : World) (h : RdI W a zs) => rok_valT (c := c) HZ.out hn h h1)
    have hn0 : 0 < n := by
      rw [← HZ.out]
      cases zs with
      | nil => simp [rokB] at h1
      | cons z zs => simp
    have hnI : (0 : Int) < (n : Int) := by omega
    clear h1
    go_enter Try.func11, Try.ntmps11
    go_wp2_with fail
    go_loopw [3, 4] (fun v i wr => v = .slice (some ⟨w.heap.size + 1, 0, none⟩) 0 0 ∧ i = .int .i64 0 ∧ wr = (w.alloc (.cells #[.slice a n c] 33)).alloc (.cells #[] 9)) (fun _ i _ => 0)
    case atStart => exact ⟨rfl, rfl, by first | rfl | simp⟩
    case round =>
      obtain ⟨rfl, rfl, rfl⟩ := hrel
      go_wp2_with (go_at_call 18; fail)
      refine (HOK.out _ (Rd.alloc (Rd.alloc HR.out _) _)).mono ?_
      rintro e wa ⟨rfl, hb1⟩
      have hOa : OwnT wa w.heap.size (.slice (some ⟨w.heap.size + 1, 0, none⟩) 0 0) [] := by
        refine OwnT.below ?_ hb1
        have h := OwnT.new (w.alloc (.cells #[.slice a n c] 33)) w.heap.size (by simp) _ rfl
        simpa using h
      have HO := Lib.hid hOa
      have hBa : Below w.heap.size w wa := below_step hb1 (by first | omega | (simp; done) | (simp; omega)) (by repeat' (first | assumption | (with_reducible exact Below.refl _ _) | (with_reducible refine Below.drew ?_) | (with_reducible refine Below.alloc ?_ ?_ _) | (with_reducible refine Below.setCell ?_ ?_ _) | omega | (simp; done) | (simp; omega)))
      clear hb1 hOa
      go_wp2_with fail
      go_ret
      exact ⟨_, _, by rw [HC.out]; rfl, by rw [HC.out]; exact HO.out, hBa⟩
set_option maxHeartbeats 3200000 in
set_option maxRecDepth 100000 in
theorem implRt_any (a : Option Addr) (n c : Nat) (zs : List Int) (w : World) (hz : zs.length = n) (hn : n ≤ 1048576) (hr : RdI w a zs) :
    Calls Try.prog 13 #[.agg #[.slice a n c]] w fun e w' => ∃ a' c', e = .returned (.slice a' (rtL zs).length c') ∧ OwnT w' w.heap.size (.slice a' (rtL zs).length c') (rtL zs) ∧ Below w.heap.size w w' := by
  obtain ⟨i0, hi, hz0, hz1, hz2⟩ := info_parts txInfo
  have HZ := Lib.hid hz
  have HR := Lib.hid hr
  clear hz hr
  rcases Bool.eq_false_or_eq_true (rokB zs) with h1 | h1
  · have HC := Lib.hid (rtL_yes h1)
    have HOK := Lib.hid (fun (W : World) (h : RdI W a zs) => rok_valU (c := c) HZ.out hn h h1)
    have HSE := Lib.hid (fun (W : World) (h : RdI W a zs) => set_any a n c zs W HZ.out h1 h)
    have HS64 := Lib.hid (setS_lt h1)
    have HVB := Lib.hid (rok_iff.1 h1).2
    have hn8 : n ≤ 8 := by rw [← HZ.out]; exact (rok_iff.1 h1).1
    have HROW := Lib.hid (fun (x y : Int) (h : okB x y = true) => hasB_row h1 h)
    obtain ⟨S, hS⟩ : ∃ S, S = setS zs := ⟨_, rfl⟩
    rw [← hS] at HSE HS64 HROW
    have HHAS := Lib.hid (fun (W : World) (u v : Int) (b : Bool) (h2 : hasB S u v = b) => has_valT S u v W HS64 h2)
    clear h1 hS
    go_enter Try.func13, Try.ntmps13
    go_wp2_with (go_at_call 20; fail)
    refine (HOK.out _ (Rd.alloc HR.out _)).mono ?_
    rintro e w1 ⟨rfl, hb1⟩
    have hbox1 : w1.cell? ⟨w.heap.size, 0, none⟩ = some (.slice a n c) := (hb1.cell (p := ⟨w.heap.size, 0, none⟩) (by first | omega | (simp; done) | (simp; omega))).trans (by go_simp)
    have hsz1 := hb1.size
    simp at hsz1
    have hlw1 : w.heap.size < w1.heap.size := by omega
    have hB1 : Below w.heap.size w w1 := below_step hb1 (by first | omega | (simp; done) | (simp; omega)) (by repeat' (first | assumption | (with_reducible exact Below.refl _ _) | (with_reducible refine Below.drew ?_) | (with_reducible refine Below.alloc ?_ ?_ _) | (with_reducible refine Below.setCell ?_ ?_ _) | omega | (simp; done) | (simp; omega)))
    clear hb1
    go_wp2_with fail
    go_loopw [3, 14] (fun v i wr => ∃ (k : Nat) (X : List ByteArray) (a' : Option Addr) (c' : Nat), k ≤ n ∧ i = .int .i64 k ∧ v = .slice a' X.length c' ∧ X.length ≤ 8 ∧ Hid (OwnT wr (w.heap.size + 1) (.slice a' X.length c') X) ∧ Hid (X = (zs.take k).map (fun z => strD (rowT z.toNat 8))) ∧ wr.cell? ⟨w.heap.size, 0, none⟩ = some (.slice a n c) ∧ w.heap.size + 1 ≤ wr.heap.size ∧ Below w.heap.size w wr)
      (fun _ i _ => n - (intOf i).toNat)
    case atStart => exact ⟨0, [], _, _, Nat.zero_le _, rfl, rfl, by simp, Lib.hid (OwnT.new _ _ hsz1 _ rfl), Lib.hid (by simp), by first | (simpa using hbox1) | go_simp, by simp; omega, by repeat' (first | assumption | (with_reducible exact Below.refl _ _) | (with_reducible refine Below.drew ?_) | (with_reducible refine Below.alloc ?_ ?_ _) | (with_reducible refine Below.setCell ?_ ?_ _) | omega | (simp; done) | (simp; omega))⟩
    case round =>
      obtain ⟨k, X, a', c', hk, rfl, rfl, hX8, hO, hX, hbox, hsz, hB⟩ := hrel
      clear hbox1 hsz1 hB1
      by_cases hlt : k < n
      · have hkI : (k : Int) < (n : Int) := by omega
        obtain ⟨b, off, v, rfl, hb, hcell, hv⟩ := RdI.at_ (Rd.below HR.out hB) (k := k) (by rw [HZ.out]; exact hlt)
        have hvb := HVB.out v (List.mem_of_getElem? hv.out)
        obtain ⟨m, rfl⟩ : ∃ m : Nat, v = m := ⟨v.toNat, by omega⟩
        have HX1 := Lib.hid (rtx_step hX.out hv.out)
        have HBIT : Hid (∀ x : Nat, x < 8 → hasB S (x : Int) (k : Int) = m.testBit x) := Lib.hid (by
          intro x hx
          rw [HROW.out _ _ (okB_iff.2 (by omega)), HZ.out]
          have := hv.out
          simp [hlt, List.getD_eq_getElem?_getD, this])
        clear hvb hv hcell hb
        go_wp2_with fail
        go_loopw [5, 17] (fun s j wr2 => ∃ x : Nat, x ≤ 8 ∧ j = .int .i64 (x : Int) ∧ s = .string (strD (rowT m x)) ∧ Hid (OwnT wr2 (w.heap.size + 1) (.slice a' X.length c') X) ∧ wr2.cell? ⟨w.heap.size, 0, none⟩ = some (.slice (some ⟨b, off, none⟩) n c) ∧ w.heap.size + 1 ≤ wr2.heap.size ∧ Below w.heap.size w wr2) (fun _ j _ => 8 - (intOf j).toNat)
        case atStart => exact ⟨0, by omega, rfl, rfl, hO, hbox, hsz, hB⟩
        case round =>
          clear hO hbox hsz hB
          obtain ⟨x, hx, rfl, rfl, hO, hbox, hsz, hB⟩ := hrel
          have hrl : (strD (rowT m x)).size = x := by rw [strD_size, rowT_len]
          by_cases hlt2 : x < 8
          · have hxI : (x : Int) < 8 := by omega
            have hbit := HBIT.out x hlt2
            have HRY := Lib.hid (fun h => rowT_yes (m := m) (k := x) h)
            have HRN := Lib.hid (fun h => rowT_no (m := m) (k := x) h)
            obtain ⟨β, hβ⟩ : ∃ β, m.testBit x = β := ⟨_, rfl⟩
            rw [hβ] at hbit HRY HRN
            clear hβ
            go_wp2_with (go_at_call 21; fail)
            refine (HSE.out _ (Rd.below HR.out hB)).mono ?_
            rintro e w2 ⟨rfl, hb2⟩
            have hbox2 := (hb2.cell (p := ⟨w.heap.size, 0, none⟩) (by first | omega | (simp; done) | (simp; omega))).trans hbox
            have hO2 := Lib.hid (hO.out.below hb2)
            have hB2 : Below w.heap.size w w2 := below_step hb2 (by first | omega | (simp; done) | (simp; omega)) hB
            have hsz2 : w.heap.size + 1 ≤ w2.heap.size := Nat.le_trans hsz hb2.size
            clear hb2 hbox hO
            go_wp2_with (go_at_call 22; fail)
            refine (HHAS.out _ _ _ _ hbit).mono ?_
            rintro e w3 ⟨rfl, hb3⟩
            have hbox3 := (hb3.cell (p := ⟨w.heap.size, 0, none⟩) (by first | omega | (simp; done) | (simp; omega))).trans hbox2
            have hO3 := Lib.hid (hO2.out.below hb3)
            have hB3 : Below w.heap.size w w3 := below_step hb3 (by first | omega | (simp; done) | (simp; omega)) hB2
            have hsz3 : w.heap.size + 1 ≤ w3.heap.size := Nat.le_trans hsz2 hb3.size
            clear hb3 hbox2 hO2
            cases β
            · have hr1 := HRN.out rfl
              clear HRY HRN
              go_wp2_with fail
              go_roundw
              case rel => exact ⟨x + 1, by omega, by go_num, by rw [← hr1], hO3, hbox3, hsz3, hB3⟩
              case measure => simp [intOf]; omega
            · have hr1 := HRY.out rfl
              clear HRY HRN
              go_wp2_with fail
              go_roundw
              case rel => exact ⟨x + 1, by omega, by go_num, by rw [← hr1], hO3, hbox3, hsz3, hB3⟩
              case measure => simp [intOf]; omega
          · have hx8 : x = 8 := by omega
            have hxI : ¬ (x : Int) < 8 := by omega
            obtain ⟨t, ht⟩ : ∃ t, t = strD (rowT m x) := ⟨_, rfl⟩
            rw [← ht] at hrl ⊢
            have HX2 : Hid (X ++ [t] = (zs.take (k + 1)).map (fun z => strD (rowT z.toNat 8))) := Lib.hid (by rw [ht, hx8]; exact HX1.out)
            have hX7 : X.length + 1 ≤ 8 := by
              have h := congrArg List.length HX2.out
              rw [List.length_append, List.length_map, List.length_take] at h
              simp at h
              omega
            clear hx8 hlt2 hx ht HX1
            go_wp2_with (at_builtin; refine wpList_append_own _ rfl _ _ 22 rfl (w.heap.size + 1) 9 i0 (.string ⟨#[]⟩) 1 16 Try.underlying22 hi hz0 hz1 hz2 rfl (by decide) _ _ _ rfl (World.ownsRow.alloc hO.out _) ⟨wr.heap.size, 0, none⟩ 1 1 [.string t] rfl rfl (txt_new _ _ _) (by intro u hu; simp at hu; subst hu; rfl) (by unfold maxLen; omega) (by omega) (by simp; omega) ?_; intro v3 w3 hown3 hgrow3 hnil3)
            obtain ⟨a3, c3, hv3, hO3⟩ := OwnT.snoc hown3
            subst hv3
            have HO3 := Lib.hid hO3
            have hG : Below (w.heap.size + 1) _ w3 := grown_below (World.ownsRow.alloc hO.out _) hgrow3 (by simp; omega)
            have hlw : w.heap.size < wr.heap.size := by omega
            have hbox3 : w3.cell? ⟨w.heap.size, 0, none⟩ = some (.slice (some ⟨b, off, none⟩) n c) := (hG.cell (p := ⟨w.heap.size, 0, none⟩) (by simp)).trans (by go_simp)
            have hB3 : Below w.heap.size w w3 := (hB.alloc (by omega) _).trans (hG.mono (by omega))
            have hz3 := hG.size
            clear hown3 hgrow3 hnil3 hO3
            go_wp2_with fail
            go_roundw
            case rel => exact ⟨k + 1, X ++ [t], a3, c3, by omega, by go_num, by simp, by simp; omega, Lib.hid (by simpa using HO3.out), HX2, hbox3, by simp at hz3; omega, hB3⟩
            case measure => simp [intOf]; omega
      · have hkI : ¬ (k : Int) < (n : Int) := by omega
        have HF : Hid (rtL zs = X) := Lib.hid (by rw [HC.out, hX.out, List.take_of_length_le (by rw [HZ.out]; omega)])
        go_wp2_with fail
        go_ret
        exact ⟨a', c', by rw [HF.out]; rfl, by rw [HF.out]; exact own_base hO.out (by omega), hB⟩
  · have HC := Lib.hid (rtL_no h1)
    have HOK := Lib.hid (fun (W : World) (h : RdI W a zs) => rok_valU (c := c) HZ.out hn h h1)
    clear h1
    go_enter Try.func13, Try.ntmps13
    go_wp2_with (go_at_call 20; fail)
    refine (HOK.out _ (Rd.alloc HR.out _)).mono ?_
    rintro e w1 ⟨rfl, hb1⟩
    have hB1 : Below w.heap.size w w1 := below_step hb1 (by first | omega | (simp; done) | (simp; omega)) (by repeat' (first | assumption | (with_reducible exact Below.refl _ _) | (with_reducible refine Below.drew ?_) | (with_reducible refine Below.alloc ?_ ?_ _) | (with_reducible refine Below.setCell ?_ ?_ _) | omega | (simp; done) | (simp; omega)))
    clear hb1
    go_wp2_with fail
    go_ret
    exact ⟨_, _, by rw [HC.out]; rfl, by rw [HC.out]; exact OwnT.nil w1 _, hB1⟩
end Go.Proofs.Ytlbmmdkmelcedaa
