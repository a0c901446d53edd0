/-
  A tiling's text: both sides.
-/
import Derived.Test.YtlbmmdkmelcedaaDoorDomT
import Derived.Test.YtlbmmdkmelcedaaDoorDomsL
import Derived.Test.YtlbmmdkmelcedaaDoorShelfJ
import Derived.WalkSmall
namespace Go.Proofs.YtlbmmdkmelcedaaDoor
open Go.RowKit
set_option linter.unusedVariables false
set_option linter.unusedSimpArgs false

def dtP (p : DomI) : ByteArray := dtB p.1 p.2.1 p.2.2
def dokP (p : DomI) : Bool := domB p.1 p.2.1 p.2.2
def jn (L : List DomI) : List UInt8 := Lib.join (L.map fun p => (dtP p).data.toList) [32]
/-- A tiling's text. -/
def ttB (L : List DomI) : ByteArray := if L.all dokP then strD (jn L) else ⟨#[]⟩
theorem strD_of (s : ByteArray) : strD s.data.toList = s := by
  apply ByteArray.ext
  simp [strD]
theorem jn_one (p : DomI) : jn [p] = (dtP p).data.toList := by unfold jn; rw [List.map_cons, List.map_nil, Lib.join_one]
theorem jn_snoc {L : List DomI} {p : DomI} (h : L ≠ []) : jn (L ++ [p]) = jn L ++ [32] ++ (dtP p).data.toList := by
  cases L with
  | nil => exact absurd rfl h
  | cons q L =>
    unfold jn
    simp only [List.cons_append, List.map_cons, List.map_append, List.map_nil, Lib.join_cons]
    simp [Lib.joinTail]
theorem dtP_size (p : DomI) : (dtP p).size ≤ 4 := by
  unfold dtP dtB
  split
  · rename_i h
    obtain ⟨⟨x0, x7⟩, y0, y7⟩ := dom_box h
    have h1 := itoa_small x0 x7
    have h2 := itoa_small y0 y7
    rw [ByteArray.size_append, ByteArray.size_append, ByteArray.size_append, h1, h2]
    split <;> decide
  · decide
theorem tail_len (L : List DomI) : (Lib.joinTail [32] (L.map fun p => (dtP p).data.toList)).length ≤ 5 * L.length := by
  induction L with
  | nil => simp [Lib.joinTail]
  | cons p L ih =>
    have hp := dtP_size p
    have e : (dtP p).data.toList.length = (dtP p).size := rfl
    simp only [Lib.joinTail, List.map_cons, List.flatten_cons, List.length_append, List.length_cons, List.length_nil, e] at ih ⊢
    omega
theorem jn_len (L : List DomI) : (jn L).length ≤ 5 * L.length := by
  cases L with
  | nil => simp [jn, Lib.join_nil]
  | cons p L =>
    have hp := dtP_size p
    have e : (dtP p).data.toList.length = (dtP p).size := rfl
    have := tail_len L
    unfold jn
    rw [List.map_cons, Lib.join_cons, List.length_append, e, List.length_cons]
    omega
theorem tt_yes {L : List DomI} (h : ∀ p ∈ L, dokP p = true) : ttB L = strD (jn L) := by
  unfold ttB
  rw [if_pos (List.all_eq_true.2 h)]
theorem tt_no {L : List DomI} {k : Nat} {p : DomI} (h : L[k]? = some p) (hp : dokP p = false) : ttB L = ⟨#[]⟩ := by
  unfold ttB
  rw [if_neg]
  intro hc
  have := List.all_eq_true.1 hc p (List.mem_of_getElem? h)
  rw [hp] at this
  cases this
theorem ok_step {L : List DomI} {k : Nat} {p : DomI} (h : ∀ q ∈ L.take k, dokP q = true) (hk : L[k]? = some p) (hp : dokP p = true) : ∀ q ∈ L.take (k + 1), dokP q = true := by
  intro q hq
  rw [List.take_add_one, hk] at hq
  simp at hq
  rcases hq with hq | rfl
  · exact h q hq
  · exact hp
theorem take_ne {L : List DomI} {k : Nat} (h0 : 0 < k) (hk : k < L.length) : L.take k ≠ [] := by
  intro h
  have := congrArg List.length h
  rw [List.length_take, List.length_nil] at this
  omega
set_option maxHeartbeats 1600000 in
set_option maxRecDepth 100000 in
theorem specTt_any (a : Option Addr) (n c : Nat) (L : List DomI) (w : World) (hz : L.length = n) (hn : n ≤ 1048576) (hr : RdD w a L) :
    Calls Tryd.prog 28 #[.slice a n c] w fun e w' => e = .returned (.string (ttB L)) ∧ Below w.heap.size w w' := by
  have HZ := Lib.hid hz
  have HR := Lib.hid hr
  obtain ⟨res, hres⟩ : ∃ res, res = ttB L := ⟨_, rfl⟩
  rw [← hres]
  have HRES := Lib.hid hres
  clear hz hr hres
  go_enter Tryd.func28, Tryd.ntmps28
  go_wp2_with fail
  go_loopw [3, 4] (fun sv i wr => ∃ (k : Nat) (s : ByteArray), k ≤ n ∧ i = .int .i64 (k : Int) ∧ sv = .string s ∧ Hid (s = strD (jn (L.take k))) ∧ Hid (∀ q ∈ L.take k, dokP q = true) ∧ s.size ≤ 5 * k ∧ Below w.heap.size w wr) (fun _ i _ => n - (intOf i).toNat)
  case atStart => exact ⟨0, _, Nat.zero_le _, rfl, rfl, Lib.hid rfl, Lib.hid (by intro q hq; simp at hq), by decide, Below.refl _ _⟩
  case round =>
    obtain ⟨k, s, hk, rfl, rfl, HS, HA, hsz, hB⟩ := hrel
    have hzz := hB.size
    have hs6 : s.size ≤ 5242880 := by omega
    by_cases hlt : k < n
    · have hkI : (k : Int) < (n : Int) := by omega
      obtain ⟨b, off, x, y, d, rfl, hbk, hcx, hcy, hcd, hv⟩ := RdD_at (Rd.below HR.out hB) (k := k) (by rw [HZ.out]; exact hlt)
      rcases Bool.eq_false_or_eq_true (domB x y d) with hd | hd
      · have HD := Lib.hid (fun W : World => specDom_valT x y d W hd)
        have HT := Lib.hid (fun W : World => specDt_any x y d W)
        have HA1 := Lib.hid (ok_step HA.out hv.out (show dokP (x, y, d) = true from hd))
        have ht4 : (dtB x y d).size ≤ 4 := dtP_size (x, y, d)
        obtain ⟨t, ht⟩ : ∃ t, t = dtB x y d := ⟨_, rfl⟩
        rw [← ht] at HT ht4
        have HTK : Hid (L.take (k + 1) = L.take k ++ [(x, y, d)]) := Lib.hid (by rw [List.take_add_one, hv.out]; rfl)
        have HTE : Hid (t = dtP (x, y, d)) := Lib.hid ht
        clear hd ht
        by_cases hk0 : k = 0
        · have HE : Hid (s ++ t = strD (jn (L.take (k + 1)))) := Lib.hid (by
            rw [HS.out, HTK.out, hk0, HTE.out]
            simp only [List.take_zero, List.nil_append]
            rw [jn_one, show jn [] = [] from rfl, strD_of]
            apply ByteArray.ext
            simp [strD])
          have hk0I : ¬ (0 : Int) < (k : Int) := by omega
          clear hk0
          go_wp2_with (go_at_call 47; fail)
          refine (HD.out _).mono ?_
          rintro e w1 ⟨rfl, hb⟩
          have hcx1 := (hb.cell (p := ⟨b, off + k * 3, none⟩) hbk).trans hcx
          have hcy1 := (hb.cell (p := ⟨b, off + k * 3 + 1, none⟩) hbk).trans hcy
          have hcd1 := (hb.cell (p := ⟨b, off + k * 3 + 2, none⟩) hbk).trans hcd
          have hB1 := below_step hb hzz hB
          have hz1 := hb.size
          clear hb hcx hcy hcd
          go_wp2_with (go_at_call 17; fail)
          refine (HT.out _).mono ?_
          rintro e w2 ⟨rfl, hb⟩
          have hB2 := below_step hb (by omega) hB1
          clear hb
          go_wp2_with fail
          go_roundw
          case rel => exact ⟨k + 1, s ++ t, by omega, by go_num, rfl, HE, HA1, by rw [ByteArray.size_append]; omega, hB2⟩
          case measure => simp [intOf]; omega
        · have HE : Hid (s ++ ⟨#[32]⟩ ++ t = strD (jn (L.take (k + 1)))) := Lib.hid (by
            rw [HS.out, HTK.out, HTE.out, jn_snoc (take_ne (by omega) (by rw [HZ.out]; exact hlt))]
            apply ByteArray.ext
            simp [strD])
          have hk0I : (0 : Int) < (k : Int) := by omega
          go_wp2_with (go_at_call 47; fail)
          refine (HD.out _).mono ?_
          rintro e w1 ⟨rfl, hb⟩
          have hcx1 := (hb.cell (p := ⟨b, off + k * 3, none⟩) hbk).trans hcx
          have hcy1 := (hb.cell (p := ⟨b, off + k * 3 + 1, none⟩) hbk).trans hcy
          have hcd1 := (hb.cell (p := ⟨b, off + k * 3 + 2, none⟩) hbk).trans hcd
          have hB1 := below_step hb hzz hB
          have hz1 := hb.size
          clear hb hcx hcy hcd
          go_wp2_with (go_at_call 17; fail)
          refine (HT.out _).mono ?_
          rintro e w2 ⟨rfl, hb⟩
          have hB2 := below_step hb (by omega) hB1
          clear hb
          go_wp2_with fail
          go_roundw
          case rel => exact ⟨k + 1, s ++ ⟨#[32]⟩ ++ t, by omega, by go_num, rfl, HE, HA1, by rw [ByteArray.size_append, ByteArray.size_append]; have : (⟨#[32]⟩ : ByteArray).size = 1 := rfl; omega, hB2⟩
          case measure => simp [intOf]; omega
      · have HD := Lib.hid (fun W : World => specDom_valT x y d W hd)
        have HE : Hid (res = ⟨#[]⟩) := Lib.hid (by rw [HRES.out]; exact tt_no hv.out hd)
        clear hd
        go_wp2_with (go_at_call 47; refine (HD.out _).mono ?_; rintro e w1 ⟨rfl, hbw1⟩; have hzw1 := hbw1.size; (try simp at hzw1); (try have hl0w_w1 : w.heap.size < w1.heap.size := by omega); (try have hl1w_w1 : w.heap.size + 1 < w1.heap.size := by omega); (try have hl2w_w1 : w.heap.size + 1 + 1 < w1.heap.size := by omega); (try have hl3w_w1 : w.heap.size + 1 + 1 + 1 < w1.heap.size := by omega); (first | (have hcw_w1 : ∀ b o, b ≤ w.heap.size + 6 → w1.cell? ⟨b, o, none⟩ = _ := fun b o h => hbw1.cell (p := ⟨b, o, none⟩) (by first | omega | (simp; omega)); have hfw_w1 : ∀ b o, b ≤ w.heap.size + 6 → w1.frozen? ⟨b, o, none⟩ = _ := fun b o h => hbw1.frozen (p := ⟨b, o, none⟩) (by first | omega | (simp; omega))) | (have hcw_w1 : ∀ b o, b ≤ w.heap.size + 5 → w1.cell? ⟨b, o, none⟩ = _ := fun b o h => hbw1.cell (p := ⟨b, o, none⟩) (by first | omega | (simp; omega)); have hfw_w1 : ∀ b o, b ≤ w.heap.size + 5 → w1.frozen? ⟨b, o, none⟩ = _ := fun b o h => hbw1.frozen (p := ⟨b, o, none⟩) (by first | omega | (simp; omega))) | (have hcw_w1 : ∀ b o, b ≤ w.heap.size + 4 → w1.cell? ⟨b, o, none⟩ = _ := fun b o h => hbw1.cell (p := ⟨b, o, none⟩) (by first | omega | (simp; omega)); have hfw_w1 : ∀ b o, b ≤ w.heap.size + 4 → w1.frozen? ⟨b, o, none⟩ = _ := fun b o h => hbw1.frozen (p := ⟨b, o, none⟩) (by first | omega | (simp; omega))) | (have hcw_w1 : ∀ b o, b ≤ w.heap.size + 3 → w1.cell? ⟨b, o, none⟩ = _ := fun b o h => hbw1.cell (p := ⟨b, o, none⟩) (by first | omega | (simp; omega)); have hfw_w1 : ∀ b o, b ≤ w.heap.size + 3 → w1.frozen? ⟨b, o, none⟩ = _ := fun b o h => hbw1.frozen (p := ⟨b, o, none⟩) (by first | omega | (simp; omega))) | (have hcw_w1 : ∀ b o, b ≤ w.heap.size + 2 → w1.cell? ⟨b, o, none⟩ = _ := fun b o h => hbw1.cell (p := ⟨b, o, none⟩) (by first | omega | (simp; omega)); have hfw_w1 : ∀ b o, b ≤ w.heap.size + 2 → w1.frozen? ⟨b, o, none⟩ = _ := fun b o h => hbw1.frozen (p := ⟨b, o, none⟩) (by first | omega | (simp; omega))) | (have hcw_w1 : ∀ b o, b ≤ w.heap.size + 1 → w1.cell? ⟨b, o, none⟩ = _ := fun b o h => hbw1.cell (p := ⟨b, o, none⟩) (by first | omega | (simp; omega)); have hfw_w1 : ∀ b o, b ≤ w.heap.size + 1 → w1.frozen? ⟨b, o, none⟩ = _ := fun b o h => hbw1.frozen (p := ⟨b, o, none⟩) (by first | omega | (simp; omega))) | (have hcw_w1 : ∀ b o, b ≤ w.heap.size + 0 → w1.cell? ⟨b, o, none⟩ = _ := fun b o h => hbw1.cell (p := ⟨b, o, none⟩) (by first | omega | (simp; omega)); have hfw_w1 : ∀ b o, b ≤ w.heap.size + 0 → w1.frozen? ⟨b, o, none⟩ = _ := fun b o h => hbw1.frozen (p := ⟨b, o, none⟩) (by first | omega | (simp; omega))) | skip); have hBw1 : Below w.heap.size w w1 := below_step hbw1 (by first | omega | (simp; done) | (simp; omega)) (by repeat' (first | assumption | (with_reducible exact Below.refl _ _) | (with_reducible refine Below.drew ?_) | (with_reducible refine Below.alloc ?_ ?_ _) | (with_reducible refine Below.setCell ?_ ?_ _) | omega | (simp; done) | (simp; omega))); have hBwr_w1 : Below wr.heap.size wr w1 := below_step hbw1 (by first | omega | (simp; done) | (simp; omega)) (by repeat' (first | assumption | (with_reducible exact Below.refl _ _) | (with_reducible refine Below.drew ?_) | (with_reducible refine Below.alloc ?_ ?_ _) | (with_reducible refine Below.setCell ?_ ?_ _) | omega | (simp; done) | (simp; omega))); clear hbw1)
        go_ret
        exact ⟨by rw [HE.out]; rfl, by repeat' (first | assumption | (with_reducible exact Below.refl _ _) | (with_reducible refine Below.drew ?_) | (with_reducible refine Below.alloc ?_ ?_ _) | (with_reducible refine Below.setCell ?_ ?_ _) | omega | (simp; done) | (simp; omega))⟩
    · have hkI : ¬ (k : Int) < (n : Int) := by omega
      have HE : Hid (res = s) := Lib.hid (by
        have h1 : L.take k = L := List.take_of_length_le (by have := HZ.out; omega)
        have h2 := HA.out
        rw [HRES.out, HS.out, h1]
        rw [h1] at h2
        exact tt_yes h2)
      go_wp2_with fail
      go_ret
      exact ⟨by rw [HE.out]; rfl, hB⟩
end Go.Proofs.YtlbmmdkmelcedaaDoor
