/-
  The draws of texts.
-/
import Derived.Test.YtlbmmdkmelcedaaDoorDrawN
import Derived.Test.YtlbmmdkmelcedaaDoorHex
namespace Go.Proofs.YtlbmmdkmelcedaaDoor
open Go.RowKit
set_option linter.unusedVariables false
set_option linter.unusedSimpArgs false

theorem At.grownR {w0 w1 w2 : World} {g : Nat} {a : Option Addr} {n c : Nat} {r : Option Nat} (h : At w0 w1 g a n c) (hg : w1.grownBy w2 r) (hr : ∀ k, r = some k → w0.heap.size ≤ k ∧ k ≠ g) : At w0 w2 g a n c := by
  obtain ⟨h1, ⟨i, x, h2⟩, h3⟩ := h
  have hb : w2.heap[g]? = w1.heap[g]? := hg.block g h2.lt (fun e => (hr g e.symm).2 rfl)
  have e : ∀ p : Nat, w2.cell? ⟨g, p, none⟩ = w1.cell? ⟨g, p, none⟩ := fun p => World.cell?_of_block (a := ⟨g, p, none⟩) hb
  have f : ∀ p : Nat, w2.frozen? ⟨g, p, none⟩ = w1.frozen? ⟨g, p, none⟩ := fun p => World.frozen?_of_block (a := ⟨g, p, none⟩) hb
  exact ⟨h1.trans ((Below.refl _ _).grown hg h1.size (fun k hk => (hr k hk).1)), ⟨i, x, Nat.lt_of_lt_of_le h2.lt hg.size, h2.le, (e 0).trans h2.c0, (e 1).trans h2.c1, (e 2).trans h2.c2, (f 1).trans h2.f1, (f 2).trans h2.f2⟩, h3⟩
theorem flatB_set (L : List UInt8) (k : Nat) (b : UInt8) : flatB (L.set k b) = (flatB L).set k (.int .u8 (b.toNat : Int)) := by simp [flatB, List.map_set]
theorem flatB_zero (n : Nat) : (madeCells (Value.int .u8 0).cells (n * 1)).toList = flatB (List.replicate n 0) := by
  apply List.ext_getElem
  · simp [flatB, madeCells]
  · intro i h1 h2
    simp [flatB, madeCells, Value.cells, Nat.mod_one]
set_option maxHeartbeats 1600000 in
set_option maxRecDepth 100000 in
theorem l01Long_any (n : Nat) (x : UInt8) (v : Int) (w : World) (hv : v = x.toNat) (hn : n ≤ 1048576) :
    Calls Tryd.prog 48 #[.int .i64 (n : Int), .int .u8 v] w fun e w' => ∃ s : ByteArray, e = .returned (.string s) ∧ s.size = n ∧ Below w.heap.size w w' := by
  obtain ⟨i0, hi, hz0, hz1, hz2⟩ := info_parts byteInfo
  have HV := Lib.hid hv
  clear hv
  go_enter Tryd.func48, Tryd.ntmps48
  go_wp2_with (at_make; refine wpList_make_full _ rfl _ _ 25 rfl w.heap.size 5 i0 (.int .u8 0) 1 Tryd.underlying25 hi hz0 hz1 _ _ _ _ n rfl rfl rfl rfl (by rw [hz2]; omega) (by unfold maxLen; omega) (Nat.le_refl _) ?_; intro w0 hown0 hgrow0)
  have HO0 : Hid (w0.ownsRow w.heap.size 5 1 (.slice (some ⟨w.heap.size, 0, none⟩) n n) n (flatB (List.replicate n 0))) := Lib.hid (by rw [← flatB_zero]; exact hown0)
  have HB0 : Below w.heap.size w w0 := (Below.refl _ _).grown hgrow0 (Nat.le_refl _) (fun k h => by cases h)
  clear hown0 hgrow0
  go_loopw [6] (fun i wr => ∃ (k : Nat) (L : List UInt8), k ≤ n ∧ i = .int .i64 k ∧ Hid (L.length = n) ∧ Hid (wr.ownsRow w.heap.size 5 1 (.slice (some ⟨w.heap.size, 0, none⟩) n n) n (flatB L)) ∧ Below w.heap.size w wr)
    (fun i _ => n - (intOf i).toNat)
  case atStart => exact ⟨0, _, Nat.zero_le _, rfl, Lib.hid (by simp), HO0, HB0⟩
  case round =>
    clear HO0 HB0
    obtain ⟨k, L, hk, rfl, HL, HO, hB⟩ := hrel
    by_cases hlt : k < n
    · have hkI : (k : Int) < (n : Int) := by omega
      have hlF : (flatB L).length = n := by simp [flatB, HL.out]
      have hc := HO.out.cellAt k (by omega)
      have hf := HO.out.frozenAt k
      have hk' : k < (flatB L).length := by omega
      rw [List.getElem?_eq_getElem hk'] at hc
      obtain ⟨u, hu⟩ : ∃ u, u = (flatB L)[k] := ⟨_, rfl⟩
      rw [← hu] at hc
      have HST : Hid ((wr.setCell ⟨w.heap.size, k, none⟩ (.int .u8 v)).ownsRow w.heap.size 5 1 (.slice (some ⟨w.heap.size, 0, none⟩) n n) n (flatB (L.set k x))) := Lib.hid (by rw [flatB_set, ← HV.out]; exact (HO.out.stored k (.int .u8 v)).1)
      have HL1 : Hid ((L.set k x).length = n) := Lib.hid (by rw [List.length_set]; exact HL.out)
      have hlt2 := (World.ownsRow.lt HO.out w.heap.size rfl).2
      clear hu hlF hk'
      go_wp2_with fail
      go_roundw
      case rel => exact ⟨k + 1, L.set k x, by omega, by go_num, HL1, HST, hB.setCell (Nat.le_refl _) _⟩
      case measure => simp [intOf]; omega
    · have hkI : ¬ (k : Int) < (n : Int) := by omega
      have hcv := conv_own (L := L) HO.out HL.out
      have HS : Hid ((⟨L.toArray⟩ : ByteArray).size = n) := Lib.hid (by rw [← HL.out]; simp [ByteArray.size])
      clear hlt hk
      go_wp2_with fail
      go_ret
      exact ⟨_, rfl, HS.out, hB⟩
theorem txb_new (w : World) (x : Value) (t : TypeId) : ∀ j u, [x][j]? = some u → (w.alloc (.cells #[x] t)).cell? ((⟨w.heap.size, 0, none⟩ : Addr).add j) = some u := by
  intro j u hj
  match j, hj with
  | 0, hj =>
    simp at hj
    subst hj
    simp [Addr.add]
theorem byte_wrap {v : Int} (h0 : 0 ≤ v) (h1 : v ≤ 255) : IntKind.u8.wrap v = ((UInt8.ofNat v.toNat).toNat : Int) := by
  have e : (UInt8.ofNat v.toNat).toNat = v.toNat := by
    rw [UInt8.toNat_ofNat']
    exact Nat.mod_eq_of_lt (by omega)
  rw [e, IntKind.wrap_u8]
  omega
set_option maxHeartbeats 1600000 in
set_option maxRecDepth 100000 in
theorem l01Text_at {w0 w1 : World} {a : Option Addr} {n g c : Nat} {zs : List Int} (K : CodeOk w0 a n zs) (h : At w0 w1 g a n c) (m : Nat) (hm : m ≤ 5000) :
    Calls Tryd.prog 49 #[.pointer (some ⟨g, 0, none⟩), .int .i64 (m : Int)] w1 fun e w2 => ∃ s : ByteArray, e = .returned (.string s) ∧ s.size = m ∧ At w0 w2 g a n c := by
  obtain ⟨i0, hi, hz0, hz1, hz2⟩ := info_parts byteInfo
  have HK := Lib.hid K
  have hgl := h.lt
  have hw0 := h.1.size
  have HAT := Lib.hid (h.alloc (.cells #[] 5))
  have hmI : ¬ (5000 : Int) < (m : Int) := by omega
  clear K h
  go_enter Tryd.func49, Tryd.ntmps49
  go_wp2_with fail
  go_loopw [5, 6] (fun v i wr => ∃ (k : Nat) (L : List UInt8) (b : Option Addr) (d : Nat), k ≤ m ∧ i = .int .i64 k ∧ v = .slice b L.length d ∧ L.length ≤ k ∧ Hid (L.length = k) ∧ Hid (OwnB wr w1.heap.size (.slice b L.length d) L) ∧ Hid (At w0 wr g a n c) ∧ w1.heap.size ≤ wr.heap.size)
    (fun _ i _ => m - (intOf i).toNat)
  case atStart => exact ⟨0, [], _, _, Nat.zero_le _, rfl, rfl, Nat.le_refl _, Lib.hid rfl, Lib.hid (OwnB.new _ _ (Nat.le_refl _) _ rfl), HAT, by simp⟩
  case round =>
    clear HAT
    obtain ⟨k, L, b, d, hk, rfl, rfl, hLk, HLK, HO, HA, hsz⟩ := hrel
    by_cases hlt : k < m
    · have hkI : (k : Int) < (m : Int) := by omega
      go_wp2_with (go_at_call 62; fail)
      refine (byte_at HK.out HA.out).mono ?_
      rintro e w3 ⟨v, rfl, ⟨hv0, hv1⟩, hat, hgw⟩
      have HO3 : Hid (OwnB w3 w1.heap.size (.slice b L.length d) L) := Lib.hid (World.ownsRow.kept HO.out hgw (by
        cases hv : (Value.slice b L.length d).ownBlock with
        | none => exact .inl rfl
        | some k =>
          right
          intro h2
          cases h2
          have h1 := (World.ownsRow.lt HO.out g hv).1
          omega))
      have HA3 := Lib.hid hat
      have hsz3 : w1.heap.size ≤ w3.heap.size := Nat.le_trans hsz hgw.size
      have hbw := byte_wrap hv0 hv1
      obtain ⟨y, hy⟩ : ∃ y, y = UInt8.ofNat v.toNat := ⟨_, rfl⟩
      rw [← hy] at hbw
      clear hat hgw hy HO HA
      go_wp2_with (at_builtin; refine wpList_append_own _ rfl _ _ 25 rfl w1.heap.size 5 i0 (.int .u8 0) 1 1 Tryd.underlying25 hi hz0 hz1 hz2 rfl (by decide) (.slice b L.length d) L.length (flatB L) rfl (World.ownsRow.alloc HO3.out _) ⟨w3.heap.size, 0, none⟩ 1 1 [.int .u8 (y.toNat : Int)] rfl rfl (txb_new _ _ _) (by intro u hu; simp at hu; subst hu; rfl) (by unfold maxLen; omega) (by omega) (by simp; omega) ?_; intro v4 w4 hown4 hgrow4 hnil4)
      obtain ⟨b4, d4, hv4⟩ := hex_slice hown4
      subst hv4
      have HO4 : Hid (OwnB w4 w1.heap.size (.slice b4 (L.length + 1) d4) (L ++ [y])) := Lib.hid (by
        unfold OwnB
        rw [flatB_app, List.length_append]
        exact hown4)
      have HA4 : Hid (At w0 w4 g a n c) := Lib.hid ((HA3.out.alloc _).grownR hgrow4 (fun k hk => by
        have := (World.ownsRow.lt HO3.out k hk).1
        omega))
      have hsz4 := hgrow4.size
      simp at hsz4
      clear hown4 hgrow4 hnil4
      go_wp2_with fail
      go_roundw
      case rel => exact ⟨k + 1, L ++ [y], b4, d4, by omega, by go_num, by simp, by simp; omega, Lib.hid (by simp; exact HLK.out), Lib.hid (by simpa using HO4.out), HA4, by omega⟩
      case measure => simp [intOf]; omega
    · have hkI : ¬ (k : Int) < (m : Int) := by omega
      have hcv := conv_own (L := L) HO.out rfl
      have HS : Hid ((⟨L.toArray⟩ : ByteArray).size = m) := Lib.hid (by have := HLK.out; simp [ByteArray.size]; omega)
      clear hlt hk hLk
      go_wp2_with fail
      go_ret
      exact ⟨_, rfl, HS.out, HA.out⟩
set_option maxHeartbeats 1600000 in
set_option maxRecDepth 100000 in
theorem drawEnc_any (a : Option Addr) (n c : Nat) (zs : List Int) (w : World) (K : CodeOk w a n zs) :
    Calls Tryd.prog 20 #[.slice a n c] w fun e w' => ∃ s : ByteArray, e = .returned (.string s) ∧ s.size ≤ 20001 ∧ Below w.heap.size w w' := by
  have HK := Lib.hid K
  clear K
  go_enter Tryd.func20, Tryd.ntmps20
  go_wp2_with (go_at_call 41; fail)
  refine (new_at HK.out c (Below.refl _ _)).mono ?_
  rintro e w2 ⟨g, rfl, hat⟩
  have H2 := Lib.hid hat
  clear hat
  go_wp2_with (go_at_call 42; fail)
  refine (once_at HK.out H2.out 60 (WalkArith.wf_i64 (by omega))).mono ?_
  rintro e w3 ⟨b, rfl, hat, -⟩
  have H3 := Lib.hid hat
  clear hat H2
  cases b
  · go_wp2_with (go_at_call 43; fail)
    refine (below_at HK.out H3.out 30 (WalkArith.wf_i64 (by omega))).mono ?_
    rintro e w4 ⟨v, rfl, ⟨hv0, hv1, -⟩, hat, -⟩
    have hv2 := hv1 (by omega)
    have H4 := Lib.hid hat
    clear hat hv1
    obtain ⟨m, rfl⟩ : ∃ m : Nat, v = m := ⟨v.toNat, by omega⟩
    go_wp2_with (go_at_call 49; fail)
    refine (l01Text_at HK.out H4.out m (by omega)).mono ?_
    rintro e w5 ⟨s, rfl, hs, hat⟩
    have H5 := Lib.hid hat
    clear hat
    go_wp2_with fail
    go_ret
    exact ⟨_, rfl, by omega, H5.out.1⟩
  · go_wp2_with (go_at_call 43; fail)
    refine (below_at HK.out H3.out 2 (WalkArith.wf_i64 (by omega))).mono ?_
    rintro e w4 ⟨v, rfl, ⟨hv0, hv1, -⟩, hat, -⟩
    have hv2 := hv1 (by omega)
    have H4 := Lib.hid hat
    clear hat hv1
    obtain ⟨m, hm⟩ : ∃ m : Nat, 20000 + v = m := ⟨(20000 + v).toNat, by omega⟩
    have hm2 : m ≤ 20001 := by omega
    have HM := Lib.hid hm
    have HLG := Lib.hid (fun (W : World) (x : Int) (hx : x = m) => (by subst hx; exact l01Long_any m 200 200 W rfl (by omega) : Calls Tryd.prog 48 #[.int .i64 x, .int .u8 200] W fun e w' => ∃ s : ByteArray, e = .returned (.string s) ∧ s.size = m ∧ Below W.heap.size W w'))
    clear hm
    go_wp2_with (go_at_call 48; fail)
    refine (HLG.out _ _ (by have := HM.out; omega)).mono ?_
    rintro e w5 ⟨s, rfl, hs, hb⟩
    have hB := H4.out.1.trans (hb.mono H4.out.1.size)
    clear hb
    go_wp2_with fail
    go_ret
    exact ⟨_, rfl, by omega, hB⟩
end Go.Proofs.YtlbmmdkmelcedaaDoor
