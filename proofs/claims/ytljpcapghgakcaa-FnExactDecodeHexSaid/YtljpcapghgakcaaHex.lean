/-
  Hexadecimal texts: contracts.
-/
import Derived.Test.YtljpcapghgakcaaMem
import Derived.Laws.IdiomStrings
import Derived.Test.YtljpcapghgakcaaChecked
namespace Go.Proofs.Ytljpcapghgakcaa
open Go.RowKit
set_option linter.unusedVariables false
set_option linter.unusedSimpArgs false

def flatB (L : List UInt8) : List Value := L.map fun b => .int .u8 (b.toNat : Int)
theorem conv_back {w : World} {a : Addr} {c : Nat} {L : List UInt8} (h : ∀ j, j < L.length → w.cell? (a.add j) = (flatB L)[j]?) :
    (convert 30 9 (.slice (some a) L.length c)).run Try.prog w = .ok (.string ⟨L.toArray⟩) w :=
  run_convert_bytes_back (P := Try.prog) w 30 9 5 a c L (by kernel_rfl) (by kernel_rfl) (by kernel_rfl) (fun j hj => by rw [h j hj]; simp [flatB, hj])
theorem conv_own {w : World} {B c n : Nat} {a : Option Addr} {L : List UInt8} (h : w.ownsRow B 5 1 (.slice a n c) n (flatB L)) (hn : L.length = n) :
    (convert 30 9 (.slice a n c)).run Try.prog w = .ok (.string ⟨L.toArray⟩) w := by
  subst hn
  rcases h.2 with ⟨hv, hl⟩ | ⟨g, cap, cur, hv, hB, hg, hnc, hcm, hcs, ht⟩
  · obtain ⟨rfl, -, rfl⟩ := Value.slice.inj hv
    have hL : L = [] := by simpa using hl
    subst hL
    rw [run_convert_bytes_string w 30 9 5 none _ 0 (by kernel_rfl) (by kernel_rfl) (by kernel_rfl)]
    simp [Conv.bytesToString]
    rfl
  · obtain ⟨rfl, -, rfl⟩ := Value.slice.inj hv
    refine conv_back (fun j hj => ?_)
    have := h.cellAt j (by omega)
    by_cases j0 : j = 0
    · subst j0; simpa [Addr.add] using this
    · simpa [Addr.add, j0] using this
theorem hex_two_new (w : World) (x y : Value) (t : TypeId) : ∀ j u, [x, y][j]? = some u → (w.alloc (.cells #[x, y] t)).cell? ((⟨w.heap.size, 0, none⟩ : Addr).add j) = some u := by
  intro j u hj
  match j, hj with
  | 0, hj => simp at hj; subst hj; simp [Addr.add]
  | 1, hj => simp at hj; subst hj; simp [Addr.add]
  | (j + 2), hj => simp at hj
theorem byteInfo : (Try.prog.info? 5).map (fun i => (i.zero, i.size, i.bytes)) = some (some (.int .u8 0), 1, 1) := by kernel_rfl
theorem hex_slice {w : World} {B e s n : Nat} {v : Value} {xs : List Value} (h : w.ownsRow B e s v n xs) : ∃ a c, v = .slice a n c := by
  rcases h.2 with ⟨hv, hn⟩ | ⟨g, cap, cur, hv, _⟩
  · exact ⟨none, 0, by rw [hv, hn]⟩
  · exact ⟨_, cap, hv⟩
theorem hex_own_below {w w' : World} {B e s n : Nat} {v : Value} {xs : List Value} (h : w.ownsRow B e s v n xs) (hb : Below w.heap.size w w') : w'.ownsRow B e s v n xs := by
  refine ⟨h.1, ?_⟩
  rcases h.2 with h2 | ⟨g, cap, cur, hv, hg, hh, r⟩
  · exact .inl h2
  · refine .inr ⟨g, cap, cur, hv, hg, ?_, r⟩
    rw [hb.block g (Array.getElem?_eq_some_iff.1 hh).1]
    exact hh
theorem hex_grown_below {w w' : World} {B e s n : Nat} {v : Value} {xs : List Value} (h : w.ownsRow B e s v n xs) (hg : w.grownBy w' v.ownBlock) (hB : B ≤ w.heap.size) : Below B w w' :=
  (Below.refl _ _).grown hg hB (fun k hk => (h.lt k hk).1)

def hexD (n : Nat) : UInt8 := if n < 10 then UInt8.ofNat (48 + n) else UInt8.ofNat (87 + n)
def hexL (bs : List UInt8) : List UInt8 := bs.flatMap fun b => [hexD (b.toNat / 16), hexD (b.toNat % 16)]
theorem hexL_len (bs : List UInt8) : (hexL bs).length = 2 * bs.length := by
  induction bs with
  | nil => rfl
  | cons b bs ih => simp only [hexL, List.flatMap_cons, List.length_append, List.length_cons, List.length_nil] at ih ⊢; omega
theorem hexL_take {bs : List UInt8} {k : Nat} {b : UInt8} (h : bs[k]? = some b) : hexL (bs.take (k + 1)) = hexL (bs.take k) ++ [hexD (b.toNat / 16), hexD (b.toNat % 16)] := by
  rw [List.take_add_one, h]
  simp [hexL]
theorem hexD_val {n : Nat} (h : n ≤ 15) : ((hexD n).toNat : Int) = if (n : Int) < 10 then 48 + (n : Int) else 87 + (n : Int) := by
  have : ∀ m : Fin 16, (hexD m.val).toNat = if m.val < 10 then 48 + m.val else 87 + m.val := by decide
  have := this ⟨n, by omega⟩
  simp only at this
  rw [this]
  split <;> split <;> omega
theorem wrap_byte {n : Nat} (h : n < 256) : IntKind.i64.wrap (n : Int) = n := by rw [IntKind.wrap_i64]; omega
theorem hexq {n : Nat} (h : n < 256) : IntKind.i64.wrap ((IntKind.i64.wrap (n : Int)).tdiv 16) = ((n / 16 : Nat) : Int) := by
  rw [wrap_byte h, Int.tdiv_eq_ediv_of_nonneg (by omega)]
  have : (n : Int) / 16 = ((n / 16 : Nat) : Int) := by omega
  rw [this]
  exact wrap_byte (by omega)
theorem hexr {n : Nat} (h : n < 256) : (IntKind.i64.wrap (n : Int)).tmod 16 = ((n % 16 : Nat) : Int) := by
  rw [wrap_byte h, Int.tmod_eq_emod_of_nonneg (by omega)]
  omega
theorem l01Figure_any (n : Nat) (x : Int) (w : World) (hx : x = n) (h1 : n ≤ 15) : Calls Try.prog 15 #[.int .i64 x] w fun e w' => e = .returned (.int .u8 ((hexD n).toNat : Int)) ∧ Below w.heap.size w w' := by
  have HV := Lib.hid (hexD_val h1)
  obtain ⟨d, hd⟩ : ∃ d : Int, d = (hexD n).toNat := ⟨_, rfl⟩
  rw [← hd] at HV ⊢
  clear hd
  have h0 : 0 ≤ x := by omega
  have h2 : x ≤ 15 := by omega
  have HX := Lib.hid hx
  clear hx
  by_cases h : x < 10
  · go_enter Try.func15, Try.ntmps15
    go_wp2
    go_ret
    exact ⟨congrArg (fun v => Ending.returned (.int .u8 v)) (by have h4 := HV.out; have h5 := HX.out; split at h4 <;> omega), Below.refl _ _⟩
  · go_enter Try.func15, Try.ntmps15
    go_wp2
    go_ret
    exact ⟨congrArg (fun v => Ending.returned (.int .u8 v)) (by have h4 := HV.out; have h5 := HX.out; split at h4 <;> omega), Below.refl _ _⟩

def strH (s : ByteArray) : ByteArray := ⟨(hexL s.data.toList).toArray⟩
/-- The slice owns the bytes L. -/
def OwnB (w : World) (B : Nat) (v : Value) (L : List UInt8) : Prop := w.ownsRow B 5 1 v L.length (flatB L)
theorem OwnB.below {w w' : World} {B : Nat} {v : Value} {L : List UInt8} (h : OwnB w B v L) (hb : Below w.heap.size w w') : OwnB w' B v L := hex_own_below h hb
theorem OwnB.new (w : World) (B : Nat) (hB : B ≤ w.heap.size) (o : Obj) (ho : o = .cells #[] 5) : OwnB (w.alloc o) B (.slice (some ⟨w.heap.size, 0, none⟩) 0 0) [] := by
  subst ho
  exact World.ownsRow_made w #[] 0 hB (by simp [maxLen]) (by simp)
theorem flatB_app (L M : List UInt8) : flatB (L ++ M) = flatB L ++ flatB M := by simp [flatB]

set_option maxHeartbeats 800000 in
set_option maxRecDepth 100000 in
theorem specEnc_any (s : ByteArray) (w : World) (hs : s.size ≤ 20000) :
    Calls Try.prog 6 #[.string s] w fun e w' => e = .returned (.tuple #[.string (strH s), .bool true]) ∧ Below w.heap.size w w' := by
  obtain ⟨i0, hi, hz0, hz1, hz2⟩ := info_parts byteInfo
  go_enter Try.func6, Try.ntmps6
  go_wp2
  go_loopw [4, 5] (fun v i wr => ∃ (k : Nat) (L : List UInt8) (a : Option Addr) (c : Nat), k ≤ s.size ∧ i = .int .i64 k ∧ v = .slice a L.length c ∧ Hid (OwnB wr w.heap.size (.slice a L.length c) L) ∧ Hid (L = hexL (s.data.toList.take k)) ∧ Below w.heap.size w wr)
    (fun _ i _ => s.size - (intOf i).toNat)
  case atStart => exact ⟨0, [], _, _, Nat.zero_le _, rfl, rfl, Lib.hid (OwnB.new _ _ (Nat.le_refl _) _ rfl), Lib.hid rfl, by repeat' (first | assumption | (with_reducible exact Below.refl _ _) | (with_reducible refine Below.drew ?_) | (with_reducible refine Below.alloc ?_ ?_ _) | (with_reducible refine Below.setCell ?_ ?_ _) | omega | (simp; done) | (simp; omega))⟩
  case round =>
    obtain ⟨k, L, a, c, hk, rfl, rfl, hO, hL, hB⟩ := hrel
    have hsz := hB.size
    by_cases hlt : k < s.size
    · have hlk : (k : Int) < (s.size : Int) := by omega
      have hlen : L.length ≤ 2 * k := by have h := hexL_len (s.data.toList.take k); rw [hL.out, h]; simp; omega
      obtain ⟨b, hb⟩ : ∃ b, s[k] = b := ⟨_, rfl⟩
      have hb256 : b.toNat < 256 := b.toNat_lt
      have hO : Hid (OwnB wr.drew w.heap.size (.slice a L.length c) L) := Lib.hid hO.out
      go_wp2_with fail
      refine hold_start (S := (fun w' => w.heap.size ≤ w'.heap.size ∧ Below w.heap.size w w' ∧ w.heap.size + 0 ≤ w'.heap.size)) (by kernel_rfl) (by kernel_rfl) (by intro _ _ d _ _ h; cases d <;> exact h) ?_ (fun hHC hH0 => ?_)
      · (first | (go_keep; done) | ((try go_split_ands); (repeat' apply And.intro) <;> first | assumption | (with_reducible refine Rd.below ?_ hb1; assumption) | (with_reducible refine Rd.drew ?_; repeat' (first | assumption | (with_reducible refine Rd.alloc ?_ _))) | (refine (hb1.cell (by first | omega | (simp; done) | (simp; omega))).trans ?_; first | assumption | simp) | (exact below_step hb1 (by first | omega | (simp; done) | (simp; omega)) (by assumption)) | (have hz' := hb1.size; (try simp at hz'); omega) | ((repeat' (first | assumption | (with_reducible exact Below.refl _ _) | (with_reducible refine Below.drew ?_) | (with_reducible refine Below.alloc ?_ ?_ _) | (with_reducible refine Below.setCell ?_ ?_ _) | omega | (simp; done) | (simp; omega))); done) | go_simp | (simp; done) | (simp; omega)))
      refine hold_plain 0 (v := ?_) hHC hH0 (by simp only [List.getElem?_toArray, List.getElem?_cons_succ, List.getElem?_cons_zero]; rfl) rfl (by kernel_rfl) ?_ ?_
      rotate_left 1
      · (intro w hSw; (try dsimp only at hSw); go_simp; try with_reducible rfl)
      try simp only [Act.put, List.setIfInBounds_toArray, List.set_cons_zero, List.set_cons_succ]
      refine hold_plain 1 (v := ?_) hHC hH0 (by simp only [List.getElem?_toArray, List.getElem?_cons_succ, List.getElem?_cons_zero]; rfl) rfl (by kernel_rfl) ?_ ?_
      rotate_left 1
      · (intro w hSw; (try dsimp only at hSw); go_simp; try with_reducible rfl)
      try simp only [Act.put, List.setIfInBounds_toArray, List.set_cons_zero, List.set_cons_succ]
      refine hold_plain 2 (v := ?_) hHC hH0 (by simp only [List.getElem?_toArray, List.getElem?_cons_succ, List.getElem?_cons_zero]; rfl) rfl (by kernel_rfl) ?_ ?_
      rotate_left 1
      · (intro w hSw; (try dsimp only at hSw); go_simp; try with_reducible rfl)
      try simp only [Act.put, List.setIfInBounds_toArray, List.set_cons_zero, List.set_cons_succ]
      refine hold_plain 3 (v := ?_) hHC hH0 (by simp only [List.getElem?_toArray, List.getElem?_cons_succ, List.getElem?_cons_zero]; rfl) rfl (by kernel_rfl) ?_ ?_
      rotate_left 1
      · (intro w hSw; (try dsimp only at hSw); go_simp; try with_reducible rfl)
      try simp only [Act.put, List.setIfInBounds_toArray, List.set_cons_zero, List.set_cons_succ]
      refine hold_plain 4 (v := ?_) hHC hH0 (by simp only [List.getElem?_toArray, List.getElem?_cons_succ, List.getElem?_cons_zero]; rfl) rfl (by kernel_rfl) ?_ ?_
      rotate_left 1
      · (intro w hSw; (try dsimp only at hSw); go_simp; try with_reducible rfl)
      try simp only [Act.put, List.setIfInBounds_toArray, List.set_cons_zero, List.set_cons_succ]
      refine hold_plain 5 (v := ?_) hHC hH0 (by simp only [List.getElem?_toArray, List.getElem?_cons_succ, List.getElem?_cons_zero]; rfl) rfl (by kernel_rfl) ?_ ?_
      rotate_left 1
      · (intro w hSw; (try dsimp only at hSw); go_simp; try with_reducible rfl)
      try simp only [Act.put, List.setIfInBounds_toArray, List.set_cons_zero, List.set_cons_succ]
      refine hold_plain 7 (v := ?_) hHC hH0 (by simp only [List.getElem?_toArray, List.getElem?_cons_succ, List.getElem?_cons_zero]; rfl) rfl (by kernel_rfl) ?_ ?_
      rotate_left 1
      · (intro w hSw; (try dsimp only at hSw); go_simp; try with_reducible rfl)
      try simp only [Act.put, List.setIfInBounds_toArray, List.set_cons_zero, List.set_cons_succ]
      refine hold_plain 8 (v := ?_) hHC hH0 (by simp only [List.getElem?_toArray, List.getElem?_cons_succ, List.getElem?_cons_zero]; rfl) rfl (by kernel_rfl) ?_ ?_
      rotate_left 1
      · (intro w hSw; (try dsimp only at hSw); go_simp; try with_reducible rfl)
      try simp only [Act.put, List.setIfInBounds_toArray, List.set_cons_zero, List.set_cons_succ]
      refine hold_plain 9 (v := ?_) hHC hH0 (by simp only [List.getElem?_toArray, List.getElem?_cons_succ, List.getElem?_cons_zero]; rfl) rfl (by kernel_rfl) ?_ ?_
      rotate_left 1
      · (intro w hSw; (try dsimp only at hSw); go_simp; try with_reducible rfl)
      try simp only [Act.put, List.setIfInBounds_toArray, List.set_cons_zero, List.set_cons_succ]
      refine hold_plain 10 (v := ?_) hHC hH0 (by simp only [List.getElem?_toArray, List.getElem?_cons_succ, List.getElem?_cons_zero]; rfl) rfl (by kernel_rfl) ?_ ?_
      rotate_left 1
      · (intro w hSw; (try dsimp only at hSw); go_simp; try with_reducible rfl)
      try simp only [Act.put, List.setIfInBounds_toArray, List.set_cons_zero, List.set_cons_succ]
      refine hold_plain 11 (v := ?_) hHC hH0 (by simp only [List.getElem?_toArray, List.getElem?_cons_succ, List.getElem?_cons_zero]; rfl) rfl (by kernel_rfl) ?_ ?_
      rotate_left 1
      · (intro w hSw; (try dsimp only at hSw); go_simp; try with_reducible rfl)
      try simp only [Act.put, List.setIfInBounds_toArray, List.set_cons_zero, List.set_cons_succ]
      refine hold_call0 6 (by simp only [List.getElem?_toArray, List.getElem?_cons_succ, List.getElem?_cons_zero]; rfl) rfl (by kernel_rfl) (fun K hK => ?_)
      go_simp
      first | (go_at_call 15; refine (l01Figure_any _ _ _ (by first | (with_reducible exact hexq hb256) | (with_reducible exact hexr hb256)) (by omega)).mono ?_; rintro e w1 ⟨rfl, hb1⟩; have hO := Lib.hid (hO.out.below hb1)) | (have hS := hH0; (try dsimp only at hS); obtain ⟨_, hBS, hzS⟩ := hS; (try simp at hzS); refine wp_append_own _ _ _ 30 rfl w.heap.size 5 i0 (.int .u8 0) 1 1 Try.underlying30 hi hz0 hz1 hz2 rfl (by decide) (.slice a L.length c) L.length (flatB L) (by rfl) (World.ownsRow.alloc hO.out _) ⟨w1.heap.size, 0, none⟩ 2 2 [.int .u8 ((hexD (b.toNat / 16)).toNat : Int), .int .u8 ((hexD (b.toNat % 16)).toNat : Int)] (by rfl) rfl (hex_two_new _ _ _ _) (by intro u hu; simp at hu; rcases hu with rfl | rfl <;> rfl) (by unfold maxLen; omega) (by omega) (by simp; omega) ?_; intro v3 w3 hown3 hgrow3 hnil3; obtain ⟨a3, c3, rfl⟩ := hex_slice hown3; have hB3 : Below w.heap.size w w3 := hBS.trans (hex_grown_below (World.ownsRow.alloc hO.out _) hgrow3 (by simp; omega)); have hz3 : w.heap.size ≤ w3.heap.size := hB3.size; have HO3 : Hid (OwnB w3 w.heap.size (.slice a3 (L.length + 2) c3) (L ++ [hexD (b.toNat / 16), hexD (b.toNat % 16)])) := Lib.hid (by unfold OwnB; rw [flatB_app, List.length_append]; exact hown3); clear hown3 hgrow3 hnil3 hBS hzS)
      refine hK.out _ _ ?_ (fun hH1 => ?_)
      · (first | (go_keep; done) | ((try go_split_ands); (repeat' apply And.intro) <;> first | assumption | (with_reducible refine Rd.below ?_ hb1; assumption) | (with_reducible refine Rd.drew ?_; repeat' (first | assumption | (with_reducible refine Rd.alloc ?_ _))) | (refine (hb1.cell (by first | omega | (simp; done) | (simp; omega))).trans ?_; first | assumption | simp) | (exact below_step hb1 (by first | omega | (simp; done) | (simp; omega)) (by assumption)) | (have hz' := hb1.size; (try simp at hz'); omega) | ((repeat' (first | assumption | (with_reducible exact Below.refl _ _) | (with_reducible refine Below.drew ?_) | (with_reducible refine Below.alloc ?_ ?_ _) | (with_reducible refine Below.setCell ?_ ?_ _) | omega | (simp; done) | (simp; omega))); done) | go_simp | (simp; done) | (simp; omega)))
      clear hK K hH0
      try simp only [Act.put, List.setIfInBounds_toArray, List.set_cons_zero, List.set_cons_succ]
      refine hold_call0 12 (by simp only [List.getElem?_toArray, List.getElem?_cons_succ, List.getElem?_cons_zero]; rfl) rfl (by kernel_rfl) (fun K hK => ?_)
      go_simp
      first | (go_at_call 15; refine (l01Figure_any _ _ _ (by first | (with_reducible exact hexq hb256) | (with_reducible exact hexr hb256)) (by omega)).mono ?_; rintro e w1 ⟨rfl, hb1⟩; have hO := Lib.hid (hO.out.below hb1)) | (have hS := hH1; (try dsimp only at hS); obtain ⟨_, hBS, hzS⟩ := hS; (try simp at hzS); refine wp_append_own _ _ _ 30 rfl w.heap.size 5 i0 (.int .u8 0) 1 1 Try.underlying30 hi hz0 hz1 hz2 rfl (by decide) (.slice a L.length c) L.length (flatB L) (by rfl) (World.ownsRow.alloc hO.out _) ⟨w1.heap.size, 0, none⟩ 2 2 [.int .u8 ((hexD (b.toNat / 16)).toNat : Int), .int .u8 ((hexD (b.toNat % 16)).toNat : Int)] (by rfl) rfl (hex_two_new _ _ _ _) (by intro u hu; simp at hu; rcases hu with rfl | rfl <;> rfl) (by unfold maxLen; omega) (by omega) (by simp; omega) ?_; intro v3 w3 hown3 hgrow3 hnil3; obtain ⟨a3, c3, rfl⟩ := hex_slice hown3; have hB3 : Below w.heap.size w w3 := hBS.trans (hex_grown_below (World.ownsRow.alloc hO.out _) hgrow3 (by simp; omega)); have hz3 : w.heap.size ≤ w3.heap.size := hB3.size; have HO3 : Hid (OwnB w3 w.heap.size (.slice a3 (L.length + 2) c3) (L ++ [hexD (b.toNat / 16), hexD (b.toNat % 16)])) := Lib.hid (by unfold OwnB; rw [flatB_app, List.length_append]; exact hown3); clear hown3 hgrow3 hnil3 hBS hzS)
      refine hK.out _ _ ?_ (fun hH2 => ?_)
      · (first | (go_keep; done) | ((try go_split_ands); (repeat' apply And.intro) <;> first | assumption | (with_reducible refine Rd.below ?_ hb1; assumption) | (with_reducible refine Rd.drew ?_; repeat' (first | assumption | (with_reducible refine Rd.alloc ?_ _))) | (refine (hb1.cell (by first | omega | (simp; done) | (simp; omega))).trans ?_; first | assumption | simp) | (exact below_step hb1 (by first | omega | (simp; done) | (simp; omega)) (by assumption)) | (have hz' := hb1.size; (try simp at hz'); omega) | ((repeat' (first | assumption | (with_reducible exact Below.refl _ _) | (with_reducible refine Below.drew ?_) | (with_reducible refine Below.alloc ?_ ?_ _) | (with_reducible refine Below.setCell ?_ ?_ _) | omega | (simp; done) | (simp; omega))); done) | go_simp | (simp; done) | (simp; omega)))
      clear hK K hH1
      try simp only [Act.put, List.setIfInBounds_toArray, List.set_cons_zero, List.set_cons_succ]
      refine hold_call0 13 (by simp only [List.getElem?_toArray, List.getElem?_cons_succ, List.getElem?_cons_zero]; rfl) rfl (by kernel_rfl) (fun K hK => ?_)
      go_simp
      refine hK.out _ _ ?_ (fun hH3 => ?_)
      · (first | (go_keep; done) | ((try go_split_ands); (repeat' apply And.intro) <;> first | assumption | (with_reducible refine Rd.below ?_ hb1; assumption) | (with_reducible refine Rd.drew ?_; repeat' (first | assumption | (with_reducible refine Rd.alloc ?_ _))) | (refine (hb1.cell (by first | omega | (simp; done) | (simp; omega))).trans ?_; first | assumption | simp) | (exact below_step hb1 (by first | omega | (simp; done) | (simp; omega)) (by assumption)) | (have hz' := hb1.size; (try simp at hz'); omega) | ((repeat' (first | assumption | (with_reducible exact Below.refl _ _) | (with_reducible refine Below.drew ?_) | (with_reducible refine Below.alloc ?_ ?_ _) | (with_reducible refine Below.setCell ?_ ?_ _) | omega | (simp; done) | (simp; omega))); done) | go_simp | (simp; done) | (simp; omega)))
      clear hK K hH2
      try simp only [Act.put, List.setIfInBounds_toArray, List.set_cons_zero, List.set_cons_succ]
      refine hold_call0 14 (by simp only [List.getElem?_toArray, List.getElem?_cons_succ, List.getElem?_cons_zero]; rfl) rfl (by kernel_rfl) (fun K hK => ?_)
      first | (go_at_call 15; refine (l01Figure_any _ _ _ (by first | (with_reducible exact hexq hb256) | (with_reducible exact hexr hb256)) (by omega)).mono ?_; rintro e w1 ⟨rfl, hb1⟩; have hO := Lib.hid (hO.out.below hb1)) | (have hS := hH3; (try dsimp only at hS); obtain ⟨_, hBS, hzS⟩ := hS; (try simp at hzS); refine wp_append_own _ _ _ 30 rfl w.heap.size 5 i0 (.int .u8 0) 1 1 Try.underlying30 hi hz0 hz1 hz2 rfl (by decide) (.slice a L.length c) L.length (flatB L) (by rfl) (World.ownsRow.alloc hO.out _) ⟨w1.heap.size, 0, none⟩ 2 2 [.int .u8 ((hexD (b.toNat / 16)).toNat : Int), .int .u8 ((hexD (b.toNat % 16)).toNat : Int)] (by rfl) rfl (hex_two_new _ _ _ _) (by intro u hu; simp at hu; rcases hu with rfl | rfl <;> rfl) (by unfold maxLen; omega) (by omega) (by simp; omega) ?_; intro v3 w3 hown3 hgrow3 hnil3; obtain ⟨a3, c3, rfl⟩ := hex_slice hown3; have hB3 : Below w.heap.size w w3 := hBS.trans (hex_grown_below (World.ownsRow.alloc hO.out _) hgrow3 (by simp; omega)); have hz3 : w.heap.size ≤ w3.heap.size := hB3.size; have HO3 : Hid (OwnB w3 w.heap.size (.slice a3 (L.length + 2) c3) (L ++ [hexD (b.toNat / 16), hexD (b.toNat % 16)])) := Lib.hid (by unfold OwnB; rw [flatB_app, List.length_append]; exact hown3); clear hown3 hgrow3 hnil3 hBS hzS)
      refine hK.out _ _ ?_ (fun hH4 => ?_)
      · (first | (go_keep; done) | ((try go_split_ands); (repeat' apply And.intro) <;> first | assumption | (with_reducible refine Rd.below ?_ hb1; assumption) | (with_reducible refine Rd.drew ?_; repeat' (first | assumption | (with_reducible refine Rd.alloc ?_ _))) | (refine (hb1.cell (by first | omega | (simp; done) | (simp; omega))).trans ?_; first | assumption | simp) | (exact below_step hb1 (by first | omega | (simp; done) | (simp; omega)) (by assumption)) | (have hz' := hb1.size; (try simp at hz'); omega) | ((repeat' (first | assumption | (with_reducible exact Below.refl _ _) | (with_reducible refine Below.drew ?_) | (with_reducible refine Below.alloc ?_ ?_ _) | (with_reducible refine Below.setCell ?_ ?_ _) | omega | (simp; done) | (simp; omega))); done) | go_simp | (simp; done) | (simp; omega)))
      clear hK K hH3
      try simp only [Act.put, List.setIfInBounds_toArray, List.set_cons_zero, List.set_cons_succ]
      refine hold_plain 15 (v := ?_) hHC hH4 (by simp only [List.getElem?_toArray, List.getElem?_cons_succ, List.getElem?_cons_zero]; rfl) rfl (by kernel_rfl) ?_ ?_
      rotate_left 1
      · (intro w hSw; (try dsimp only at hSw); go_simp; try with_reducible rfl)
      try simp only [Act.put, List.setIfInBounds_toArray, List.set_cons_zero, List.set_cons_succ]
      refine wpAnyH_done (by kernel_rfl) ?_ _
      (try dsimp only at hH4)
      go_split_ands
      clear hHC
      have HT : Hid (s.data.toList[k]? = some b) := Lib.hid (by rw [← hb]; simp [ByteArray.getElem_eq_getElem_data, hlt])
      go_wp2
      go_roundw
      case rel => exact ⟨k + 1, L ++ [hexD (b.toNat / 16), hexD (b.toNat % 16)], a3, c3, by omega, by go_num, by simp, Lib.hid (by simpa using HO3.out), Lib.hid (by rw [hexL_take HT.out, hL.out]), by assumption⟩
      case measure => simp [intOf]; omega
    · have hkn : k = s.size := by omega
      have hx : ¬ (k : Int) < (s.size : Int) := by omega
      have HL : Hid (L = hexL s.data.toList) := Lib.hid (by rw [hL.out, hkn]; congr 1; exact List.take_of_length_le (by simp))
      have hcv := conv_own (L := L) hO.out rfl
      clear hkn hk hlt hL hO hsz
      go_wp2
      exact bodyPost_ret (v := .tuple #[.string ⟨L.toArray⟩, .bool true]) (by simp [results, Try.results6, go_sem]) rfl ⟨by rw [HL.out]; rfl, hB⟩
end Go.Proofs.Ytljpcapghgakcaa
