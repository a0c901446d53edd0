/-
  Contracts of the list of a cell's neighbors.
-/
import Derived.Test.YtfjkjnhmlljefaaCountB
import Derived.Maps.AppendAt
namespace Go.Proofs.Ytfjkjnhmlljefaa
open Go.RowKit
set_option linter.unusedVariables false
set_option linter.unusedSimpArgs false

def nbK (x y : Int) (k : Nat) : List (Int × Int) := ((List.range k).filter fun i : Nat => nbB x y (cellOf i).1 (cellOf i).2).map cellOf
def nbL (x y : Int) : List (Int × Int) := nbK x y 64
def candL (x y : Int) : List (Int × Int) := [(x, y - 1), (x - 1, y), (x + 1, y), (x, y + 1)]
def canL (x y : Int) : List (Int × Int) := (candL x y).filter fun p => okB p.1 p.2
theorem nbK_yes {x y : Int} {k : Nat} (h : nbB x y (cellOf k).1 (cellOf k).2 = true) : nbK x y (k + 1) = nbK x y k ++ [cellOf k] := by
  simp [nbK, List.range_succ, List.filter_append, h]
theorem nbK_no {x y : Int} {k : Nat} (h : nbB x y (cellOf k).1 (cellOf k).2 = false) : nbK x y (k + 1) = nbK x y k := by
  simp [nbK, List.range_succ, List.filter_append, h]
theorem nbK_len (x y : Int) (k : Nat) : (nbK x y k).length ≤ k := by
  unfold nbK
  rw [List.length_map]
  exact Nat.le_trans (List.length_filter_le _ _) (by simp)
theorem nbL_len (x y : Int) : (nbL x y).length ≤ 64 := nbK_len x y 64
theorem can_all : ∀ X : Fin 8, ∀ Y : Fin 8, canL (X.val : Int) (Y.val : Int) = nbL (X.val : Int) (Y.val : Int) := by decide +kernel
theorem can_nb {x y : Int} (h : okB x y = true) : canL x y = nbL x y := by
  obtain ⟨⟨hx0, hx7⟩, hy0, hy7⟩ := okB_iff.1 h
  obtain ⟨X, rfl⟩ : ∃ X : Nat, x = X := ⟨x.toNat, by omega⟩
  obtain ⟨Y, rfl⟩ : ∃ Y : Nat, y = Y := ⟨y.toNat, by omega⟩
  exact can_all ⟨X, by omega⟩ ⟨Y, by omega⟩
theorem nbL_no {x y : Int} (h : okB x y = false) : nbL x y = [] := by
  unfold nbL nbK
  rw [List.map_eq_nil_iff, List.filter_eq_nil_iff]
  intro i _
  simp [nbB_no1 h]

theorem can_yes {C : List (Int × Int)} {k : Nat} {x y : Int} (h : C[k]? = some (x, y)) (hb : okB x y = true) : (C.take (k + 1)).filter (fun p => okB p.1 p.2) = (C.take k).filter (fun p => okB p.1 p.2) ++ [(x, y)] := by
  rw [take_one h]; simp [List.filter_append, hb]
theorem can_no {C : List (Int × Int)} {k : Nat} {x y : Int} (h : C[k]? = some (x, y)) (hb : okB x y = false) : (C.take (k + 1)).filter (fun p => okB p.1 p.2) = (C.take k).filter (fun p => okB p.1 p.2) := by
  rw [take_one h]; simp [List.filter_append, hb]
set_option maxHeartbeats 1600000 in
set_option maxRecDepth 100000 in
theorem implNbrs_any (x y : Int) (w : World) :
    Calls Try.prog 58 #[.agg #[.int .i64 x, .int .i64 y]] w fun e w' => ∃ a' c', e = .returned (.slice a' (nbL x y).length c') ∧ OwnC w' w.heap.size (.slice a' (nbL x y).length c') (nbL x y) ∧ Below w.heap.size w w' := by
  obtain ⟨i0, hi, hz0, hz1, hz2⟩ := info_parts cellInfo
  by_cases h1 : okB x y = true
  · obtain ⟨⟨hx0, hx7⟩, hy0, hy7⟩ := okB_iff.1 h1
    have HN := Lib.hid (can_nb h1)
    obtain ⟨C, hC⟩ : ∃ C, C = candL x y := ⟨_, rfl⟩
    have HC := Lib.hid hC
    have hC4 : Hid (C.length = 4) := Lib.hid (by rw [hC]; rfl)
    have hflat : flatC C = [.int .i64 x, .int .i64 (y - 1), .int .i64 (x - 1), .int .i64 y, .int .i64 (x + 1), .int .i64 y, .int .i64 x, .int .i64 (y + 1)] := by rw [hC]; rfl
    have HF := Lib.hid hflat
    clear hC hflat
    go_enter Try.func58, Try.ntmps58
    go_wp2_with (go_at_call 66; refine (implOk_any _ _ _).mono ?_; rintro e wa ⟨rfl, hbwa⟩; have hzwa := hbwa.size; (try simp at hzwa); (try have hl0w_wa : w.heap.size < wa.heap.size := by omega); (try have hl1w_wa : w.heap.size + 1 < wa.heap.size := by omega); (try have hl2w_wa : w.heap.size + 1 + 1 < wa.heap.size := by omega); (try have hl3w_wa : w.heap.size + 1 + 1 + 1 < wa.heap.size := by omega); (first | (have hcw_wa : ∀ b o, b ≤ w.heap.size + 6 → wa.cell? ⟨b, o, none⟩ = _ := fun b o h => hbwa.cell (p := ⟨b, o, none⟩) (by first | omega | (simp; omega)); have hfw_wa : ∀ b o, b ≤ w.heap.size + 6 → wa.frozen? ⟨b, o, none⟩ = _ := fun b o h => hbwa.frozen (p := ⟨b, o, none⟩) (by first | omega | (simp; omega))) | (have hcw_wa : ∀ b o, b ≤ w.heap.size + 5 → wa.cell? ⟨b, o, none⟩ = _ := fun b o h => hbwa.cell (p := ⟨b, o, none⟩) (by first | omega | (simp; omega)); have hfw_wa : ∀ b o, b ≤ w.heap.size + 5 → wa.frozen? ⟨b, o, none⟩ = _ := fun b o h => hbwa.frozen (p := ⟨b, o, none⟩) (by first | omega | (simp; omega))) | (have hcw_wa : ∀ b o, b ≤ w.heap.size + 4 → wa.cell? ⟨b, o, none⟩ = _ := fun b o h => hbwa.cell (p := ⟨b, o, none⟩) (by first | omega | (simp; omega)); have hfw_wa : ∀ b o, b ≤ w.heap.size + 4 → wa.frozen? ⟨b, o, none⟩ = _ := fun b o h => hbwa.frozen (p := ⟨b, o, none⟩) (by first | omega | (simp; omega))) | (have hcw_wa : ∀ b o, b ≤ w.heap.size + 3 → wa.cell? ⟨b, o, none⟩ = _ := fun b o h => hbwa.cell (p := ⟨b, o, none⟩) (by first | omega | (simp; omega)); have hfw_wa : ∀ b o, b ≤ w.heap.size + 3 → wa.frozen? ⟨b, o, none⟩ = _ := fun b o h => hbwa.frozen (p := ⟨b, o, none⟩) (by first | omega | (simp; omega))) | (have hcw_wa : ∀ b o, b ≤ w.heap.size + 2 → wa.cell? ⟨b, o, none⟩ = _ := fun b o h => hbwa.cell (p := ⟨b, o, none⟩) (by first | omega | (simp; omega)); have hfw_wa : ∀ b o, b ≤ w.heap.size + 2 → wa.frozen? ⟨b, o, none⟩ = _ := fun b o h => hbwa.frozen (p := ⟨b, o, none⟩) (by first | omega | (simp; omega))) | (have hcw_wa : ∀ b o, b ≤ w.heap.size + 1 → wa.cell? ⟨b, o, none⟩ = _ := fun b o h => hbwa.cell (p := ⟨b, o, none⟩) (by first | omega | (simp; omega)); have hfw_wa : ∀ b o, b ≤ w.heap.size + 1 → wa.frozen? ⟨b, o, none⟩ = _ := fun b o h => hbwa.frozen (p := ⟨b, o, none⟩) (by first | omega | (simp; omega))) | (have hcw_wa : ∀ b o, b ≤ w.heap.size + 0 → wa.cell? ⟨b, o, none⟩ = _ := fun b o h => hbwa.cell (p := ⟨b, o, none⟩) (by first | omega | (simp; omega)); have hfw_wa : ∀ b o, b ≤ w.heap.size + 0 → wa.frozen? ⟨b, o, none⟩ = _ := fun b o h => hbwa.frozen (p := ⟨b, o, none⟩) (by first | omega | (simp; omega))) | skip); have hBwa : Below w.heap.size w wa := below_step hbwa (by first | omega | (simp; done) | (simp; omega)) (by repeat' (first | assumption | (with_reducible exact Below.refl _ _) | (with_reducible refine Below.drew ?_) | (with_reducible refine Below.alloc ?_ ?_ _) | (with_reducible refine Below.setCell ?_ ?_ _) | omega | (simp; done) | (simp; omega))); clear hbwa)
    go_loopw [3, 36] (fun v i wr => ∃ (k : Nat) (L : List (Int × Int)) (a' : Option Addr) (c' : Nat), k ≤ 4 ∧ i = .int .i64 k ∧ v = .slice a' L.length c' ∧ Hid (OwnC wr w.heap.size (.slice a' L.length c') L) ∧ Hid (L = (C.take k).filter (fun p => okB p.1 p.2)) ∧ Hid ((Value.slice a' L.length c').ownBlock ≠ some (wa.heap.size + 1)) ∧ Rd wr (some ⟨wa.heap.size + 1, 0, none⟩) (flatC C) ∧ wa.heap.size + 2 ≤ wr.heap.size ∧ Below w.heap.size w wr)
      (fun _ i _ => 4 - (intOf i).toNat)
    case atStart =>
      refine ⟨0, [], _, _, Nat.zero_le _, rfl, rfl, Lib.hid ?_, Lib.hid rfl, Lib.hid (by simp [Value.ownBlock]), ?_, by simp, by repeat' (first | assumption | (with_reducible exact Below.refl _ _) | (with_reducible refine Below.drew ?_) | (with_reducible refine Below.alloc ?_ ?_ _) | (with_reducible refine Below.setCell ?_ ?_ _) | omega | (simp; done) | (simp; omega))⟩
      · exact World.ownsRow.alloc (OwnC.new wa w.heap.size (by omega) _ rfl) _
      · refine .inr ⟨_, _, rfl, by simp, fun j hj => ?_⟩
        rw [HF.out] at hj ⊢
        rw [Nat.zero_add, cell_of_row _ (wa.heap.size + 1) j _ _ (0, 0) (by have := heap_alloc_new (wa.alloc (.cells #[] 49)) (.cells #[.int .i64 x, .int .i64 (y - 1), .int .i64 (x - 1), .int .i64 y, .int .i64 (x + 1), .int .i64 y, .int .i64 x, .int .i64 (y + 1)] 49); simpa using this)]
        simp
    case round =>
      obtain ⟨k, L, a', c', hk, rfl, rfl, hO, hL, hNB, hR, hsz, hB⟩ := hrel
      by_cases hlt : k < 4
      · have hlen : L.length ≤ k := by rw [hL.out]; exact Nat.le_trans (List.length_filter_le _ _) (by simp; omega)
        obtain ⟨b, off, dx, dy, hbo, hb, hcx, hcy, hv⟩ := RdC_at hR (k := k) (by rw [hC4.out]; exact hlt)
        injection hbo with hbo
        injection hbo with hb1 hb2
        subst hb1 hb2
        rw [Nat.zero_add] at hcx hcy
        by_cases hin : okB dx dy = true
        · go_wp2_with (first | (go_at_call 66; refine (implOk_any _ _ _).mono ?_; rintro e wc ⟨rfl, hbwc⟩; go_must (have hzwc := hbwc.size; (try simp at hzwc); have hBwc : Below w.heap.size w wc := below_step hbwc (by first | omega | (simp; done) | (simp; omega)) (by repeat' (first | assumption | (with_reducible exact Below.refl _ _) | (with_reducible refine Below.drew ?_) | (with_reducible refine Below.alloc ?_ ?_ _) | (with_reducible refine Below.setCell ?_ ?_ _) | omega | (simp; done) | (simp; omega))); have hc1 := hbwc.cell (p := ⟨wr.heap.size, 0, none⟩) (by first | omega | (simp; done) | (simp; omega)); have hc2 := hbwc.cell (p := ⟨wr.heap.size, 1, none⟩) (by first | omega | (simp; done) | (simp; omega)); have hOc := Lib.hid ((hO.out.alloc _).below hbwc); have hRc : Rd wc (some ⟨wa.heap.size + 1, 0, none⟩) (flatC C) := Rd.below (Rd.alloc hR _) hbwc); clear hbwc) | (at_builtin; refine wpList_append_own_at _ rfl _ _ 45 rfl w.heap.size 49 i0 (.agg #[.int .i64 0, .int .i64 0]) 2 16 Try.underlying45 hi hz0 hz1 hz2 rfl (by decide) _ _ _ rfl (World.ownsRow.alloc hOc.out _) ⟨wc.heap.size, 0, none⟩ 1 1 [.int .i64 dx, .int .i64 dy] rfl rfl (cell_two_new _ _ _ _) (by intro u hu; simp at hu; rcases hu with rfl | rfl <;> rfl) (by unfold maxLen; omega) (by omega) (by simp; omega) ?_; intro v3 w3 hown3 hgrow3 hnil3 hat3))
          obtain ⟨a3, c3, hv3⟩ := own_slice hown3
          have hG : Below w.heap.size _ w3 := grown_below (World.ownsRow.alloc hOc.out _) hgrow3 (by simp; omega)
          have hB3 : Below w.heap.size w w3 := (hBwc.alloc (by omega) _).trans hG
          have hz3 := hG.size
          have hR3 : Rd w3 (some ⟨wa.heap.size + 1, 0, none⟩) (flatC C) := Rd.grown (Rd.alloc hRc _) hgrow3 (fun b off h => by injection h with h; injection h with h1 h2; subst h1; exact hNB.out)
          have HO3 : Hid (OwnC w3 w.heap.size (.slice a3 (L.length + 1) c3) (L ++ [(dx, dy)])) := Lib.hid (by rw [hv3] at hown3; exact OwnC.snoc hown3)
          have HN3 : Hid ((Value.slice a3 (L ++ [(dx, dy)]).length c3).ownBlock ≠ some (wa.heap.size + 1)) := Lib.hid (by
            have e : (Value.slice a3 (L ++ [(dx, dy)]).length c3).ownBlock = v3.ownBlock := by rw [hv3]; cases a3 <;> rfl
            rw [e]
            rcases hat3 with h | h
            · rw [h]; exact hNB.out
            · rw [h]; simp; omega)
          go_roundw
          case rel => exact ⟨k + 1, L ++ [(dx, dy)], a3, c3, by omega, by go_num, by rw [hv3]; simp, Lib.hid (by simpa using HO3.out), Lib.hid (by rw [can_yes hv.out hin, hL.out]), HN3, hR3, by simp at hz3; omega, hB3⟩
          case measure => simp [intOf]; omega
        · have hin' : okB dx dy = false := by simpa using hin
          go_wp2_with (go_at_call 66; refine (implOk_any _ _ _).mono ?_; rintro e wc ⟨rfl, hbwc⟩; go_must (have hzwc := hbwc.size; (try simp at hzwc); have hBwc : Below w.heap.size w wc := below_step hbwc (by first | omega | (simp; done) | (simp; omega)) (by repeat' (first | assumption | (with_reducible exact Below.refl _ _) | (with_reducible refine Below.drew ?_) | (with_reducible refine Below.alloc ?_ ?_ _) | (with_reducible refine Below.setCell ?_ ?_ _) | omega | (simp; done) | (simp; omega))); have hc1 := hbwc.cell (p := ⟨wr.heap.size, 0, none⟩) (by first | omega | (simp; done) | (simp; omega)); have hc2 := hbwc.cell (p := ⟨wr.heap.size, 1, none⟩) (by first | omega | (simp; done) | (simp; omega)); have hOc := Lib.hid ((hO.out.alloc _).below hbwc); have hRc : Rd wc (some ⟨wa.heap.size + 1, 0, none⟩) (flatC C) := Rd.below (Rd.alloc hR _) hbwc); clear hbwc)
          go_roundw
          case rel => exact ⟨k + 1, L, a', c', by omega, by go_num, rfl, hOc, Lib.hid (by rw [can_no hv.out hin', hL.out]), hNB, hRc, by omega, hBwc⟩
          case measure => simp [intOf]; omega
      · have hkn : k = 4 := by omega
        have HL : Hid (L = nbL x y) := Lib.hid (by rw [hL.out, ← HN.out, hkn, List.take_of_length_le (by rw [hC4.out]; exact Nat.le_refl _), HC.out]; rfl)
        clear hkn hL
        go_wp2
        go_ret
        exact ⟨a', c', (by show Ending.returned (Value.slice a' L.length c') = _; rw [HL.out]), by rw [← HL.out]; exact hO.out, hB⟩
  · have h1' : okB x y = false := by simpa using h1
    have HN := Lib.hid (nbL_no h1')
    go_enter Try.func58, Try.ntmps58
    go_wp2_with (go_at_call 66; refine (implOk_any _ _ _).mono ?_; rintro e wa ⟨rfl, hbwa⟩; have hzwa := hbwa.size; (try simp at hzwa); (try have hl0w_wa : w.heap.size < wa.heap.size := by omega); (try have hl1w_wa : w.heap.size + 1 < wa.heap.size := by omega); (try have hl2w_wa : w.heap.size + 1 + 1 < wa.heap.size := by omega); (try have hl3w_wa : w.heap.size + 1 + 1 + 1 < wa.heap.size := by omega); (first | (have hcw_wa : ∀ b o, b ≤ w.heap.size + 6 → wa.cell? ⟨b, o, none⟩ = _ := fun b o h => hbwa.cell (p := ⟨b, o, none⟩) (by first | omega | (simp; omega)); have hfw_wa : ∀ b o, b ≤ w.heap.size + 6 → wa.frozen? ⟨b, o, none⟩ = _ := fun b o h => hbwa.frozen (p := ⟨b, o, none⟩) (by first | omega | (simp; omega))) | (have hcw_wa : ∀ b o, b ≤ w.heap.size + 5 → wa.cell? ⟨b, o, none⟩ = _ := fun b o h => hbwa.cell (p := ⟨b, o, none⟩) (by first | omega | (simp; omega)); have hfw_wa : ∀ b o, b ≤ w.heap.size + 5 → wa.frozen? ⟨b, o, none⟩ = _ := fun b o h => hbwa.frozen (p := ⟨b, o, none⟩) (by first | omega | (simp; omega))) | (have hcw_wa : ∀ b o, b ≤ w.heap.size + 4 → wa.cell? ⟨b, o, none⟩ = _ := fun b o h => hbwa.cell (p := ⟨b, o, none⟩) (by first | omega | (simp; omega)); have hfw_wa : ∀ b o, b ≤ w.heap.size + 4 → wa.frozen? ⟨b, o, none⟩ = _ := fun b o h => hbwa.frozen (p := ⟨b, o, none⟩) (by first | omega | (simp; omega))) | (have hcw_wa : ∀ b o, b ≤ w.heap.size + 3 → wa.cell? ⟨b, o, none⟩ = _ := fun b o h => hbwa.cell (p := ⟨b, o, none⟩) (by first | omega | (simp; omega)); have hfw_wa : ∀ b o, b ≤ w.heap.size + 3 → wa.frozen? ⟨b, o, none⟩ = _ := fun b o h => hbwa.frozen (p := ⟨b, o, none⟩) (by first | omega | (simp; omega))) | (have hcw_wa : ∀ b o, b ≤ w.heap.size + 2 → wa.cell? ⟨b, o, none⟩ = _ := fun b o h => hbwa.cell (p := ⟨b, o, none⟩) (by first | omega | (simp; omega)); have hfw_wa : ∀ b o, b ≤ w.heap.size + 2 → wa.frozen? ⟨b, o, none⟩ = _ := fun b o h => hbwa.frozen (p := ⟨b, o, none⟩) (by first | omega | (simp; omega))) | (have hcw_wa : ∀ b o, b ≤ w.heap.size + 1 → wa.cell? ⟨b, o, none⟩ = _ := fun b o h => hbwa.cell (p := ⟨b, o, none⟩) (by first | omega | (simp; omega)); have hfw_wa : ∀ b o, b ≤ w.heap.size + 1 → wa.frozen? ⟨b, o, none⟩ = _ := fun b o h => hbwa.frozen (p := ⟨b, o, none⟩) (by first | omega | (simp; omega))) | (have hcw_wa : ∀ b o, b ≤ w.heap.size + 0 → wa.cell? ⟨b, o, none⟩ = _ := fun b o h => hbwa.cell (p := ⟨b, o, none⟩) (by first | omega | (simp; omega)); have hfw_wa : ∀ b o, b ≤ w.heap.size + 0 → wa.frozen? ⟨b, o, none⟩ = _ := fun b o h => hbwa.frozen (p := ⟨b, o, none⟩) (by first | omega | (simp; omega))) | skip); have hBwa : Below w.heap.size w wa := below_step hbwa (by first | omega | (simp; done) | (simp; omega)) (by repeat' (first | assumption | (with_reducible exact Below.refl _ _) | (with_reducible refine Below.drew ?_) | (with_reducible refine Below.alloc ?_ ?_ _) | (with_reducible refine Below.setCell ?_ ?_ _) | omega | (simp; done) | (simp; omega))); clear hbwa)
    go_ret
    exact ⟨none, 0, by rw [HN.out]; rfl, by rw [HN.out]; exact World.ownsRow_nil _ _ _ _, by repeat' (first | assumption | (with_reducible exact Below.refl _ _) | (with_reducible refine Below.drew ?_) | (with_reducible refine Below.alloc ?_ ?_ _) | (with_reducible refine Below.setCell ?_ ?_ _) | omega | (simp; done) | (simp; omega))⟩
end Go.Proofs.Ytfjkjnhmlljefaa
