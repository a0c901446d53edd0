/-
  Contracts of the counts of tilings of a rectangle.
-/
import Derived.Test.YtfjkjnhmlljefaaTilN
import Derived.Test.YtfjkjnhmlljefaaRectI
namespace Go.Proofs.Ytfjkjnhmlljefaa
open Go.RowKit
set_option linter.unusedVariables false
set_option linter.unusedSimpArgs false

def rectN (x y : Int) : Int := if inB x 1 8 && inB y 1 8 then dpCount (sxy (setS (List.replicate y.toNat (2 ^ x.toNat - 1)))) else 0
theorem rect_ok {x y : Int} (hx : inB x 1 8 = true) (hy : inB y 1 8 = true) : rokB (List.replicate y.toNat (2 ^ x.toNat - 1)) = true := by
  obtain ⟨h1, h2⟩ := inB_iff.1 hx
  obtain ⟨h3, h4⟩ := inB_iff.1 hy
  rw [rok_iff]
  refine ⟨by simp; omega, fun z hz => ?_⟩
  have := List.eq_of_mem_replicate hz
  have h5 : ∀ n : Fin 9, (0 : Int) ≤ 2 ^ n.val - 1 ∧ (2 : Int) ^ n.val - 1 ≤ 255 := by decide
  have := h5 ⟨x.toNat, by omega⟩
  simp at this
  omega
theorem OwnI.rdI {w : World} {B : Nat} {a : Option Addr} {n c : Nat} {L : List Int} (h : OwnI w B (.slice a n c) L) (hn : L.length = n) : RdI w a L := by
  subst hn
  have h0 := h
  exact Rd.of_own h
set_option maxRecDepth 100000 in
theorem specRN_any (x y : Int) (w : World) : Calls Try.prog 9 #[.int .i64 x, .int .i64 y] w fun e w' => e = .returned (.int .i64 (rectN x y)) ∧ Below w.heap.size w w' := by
  by_cases hx : inB x 1 8 = true
  · by_cases hy : inB y 1 8 = true
    · have HR := Lib.hid (fun W : World => specRect_any x y W hx hy)
      have HD := Lib.hid (fun (W : World) (a : Option Addr) (c : Nat) (h : RdI W a (List.replicate y.toNat (2 ^ x.toNat - 1))) => l07_any a y.toNat c _ W (List.length_replicate) (rect_ok hx hy) h)
      have HT : Hid (rectN x y = dpCount (sxy (setS (List.replicate y.toNat (2 ^ x.toNat - 1))))) := Lib.hid (by rw [rectN, hx, hy]; rfl)
      obtain ⟨zs, hzs⟩ : ∃ zs, zs = List.replicate y.toNat ((2 : Int) ^ x.toNat - 1) := ⟨_, rfl⟩
      have HL : Hid (zs.length = y.toNat) := Lib.hid (by rw [hzs, List.length_replicate])
      rw [← hzs] at HR HD HT
      obtain ⟨v, hv⟩ : ∃ v, v = dpCount (sxy (setS zs)) := ⟨_, rfl⟩
      rw [← hv] at HD HT
      clear hv hzs
      go_enter Try.func9, Try.ntmps9
      go_wp2_with (go_at_call 27; refine (specIn_any _ _ _ _).mono ?_; rintro e w' ⟨rfl, rfl⟩)
      go_wp2_with (go_at_call 29; fail)
      refine (HR.out _).mono ?_
      rintro e w1 ⟨a, c, rfl, hO, hb1⟩
      have hr := OwnI.rdI hO HL.out
      have hzz := hb1.size
      clear hO
      go_wp2_with (go_at_call 28; go_must (refine (HD.out _ _ _ hr).mono ?_); rintro e w2 ⟨rfl, hb2⟩; have hB2 : Below w.heap.size w w2 := below_step hb2 (by first | omega | (simp; done) | (simp; omega)) (by repeat' (first | assumption | (with_reducible exact Below.refl _ _) | (with_reducible refine Below.drew ?_) | (with_reducible refine Below.alloc ?_ ?_ _) | (with_reducible refine Below.setCell ?_ ?_ _) | omega | (simp; done) | (simp; omega))))
      go_ret
      exact ⟨ret_i HT.out.symm, by repeat' (first | assumption | (with_reducible exact Below.refl _ _) | (with_reducible refine Below.drew ?_) | (with_reducible refine Below.alloc ?_ ?_ _) | (with_reducible refine Below.setCell ?_ ?_ _) | omega | (simp; done) | (simp; omega))⟩
    · have hy' : inB y 1 8 = false := by simpa using hy
      have HT : Hid (rectN x y = 0) := Lib.hid (by rw [rectN, hy', Bool.and_false]; rfl)
      clear hy
      go_enter Try.func9, Try.ntmps9
      go_wp2_with (go_at_call 27; refine (specIn_any _ _ _ _).mono ?_; rintro e w' ⟨rfl, rfl⟩)
      go_ret
      exact ⟨ret_i HT.out.symm, by repeat' (first | assumption | (with_reducible exact Below.refl _ _) | (with_reducible refine Below.drew ?_) | (with_reducible refine Below.alloc ?_ ?_ _) | (with_reducible refine Below.setCell ?_ ?_ _) | omega | (simp; done) | (simp; omega))⟩
  · have hx' : inB x 1 8 = false := by simpa using hx
    have HT : Hid (rectN x y = 0) := Lib.hid (by rw [rectN, hx', Bool.false_and]; rfl)
    clear hx
    go_enter Try.func9, Try.ntmps9
    go_wp2_with (go_at_call 27; refine (specIn_any _ _ _ _).mono ?_; rintro e w' ⟨rfl, rfl⟩)
    go_ret
    exact ⟨ret_i HT.out.symm, by repeat' (first | assumption | (with_reducible exact Below.refl _ _) | (with_reducible refine Below.drew ?_) | (with_reducible refine Below.alloc ?_ ?_ _) | (with_reducible refine Below.setCell ?_ ?_ _) | omega | (simp; done) | (simp; omega))⟩
set_option maxRecDepth 100000 in
theorem implRN_any (x y : Int) (w : World) : Calls Try.prog 10 #[.int .i64 x, .int .i64 y] w fun e w' => e = .returned (.int .i64 (rectN x y)) ∧ Below w.heap.size w w' := by
  by_cases hx : inB x 1 8 = true
  · by_cases hy : inB y 1 8 = true
    · have h8 : y.toNat ≤ 1048576 := by have := (inB_iff.1 hy).2; omega
      have HR := Lib.hid (fun W : World => implRect_any x y W hx hy)
      have HD := Lib.hid (fun (W : World) (a : Option Addr) (c : Nat) (h : RdI W a (List.replicate y.toNat (2 ^ x.toNat - 1))) => implTilN_any a y.toNat c _ W (List.length_replicate) h8 h)
      have HT : Hid (rectN x y = tilN (List.replicate y.toNat (2 ^ x.toNat - 1))) := Lib.hid (by rw [rectN, hx, hy, tilN, if_pos (rect_ok hx hy)]; rfl)
      obtain ⟨zs, hzs⟩ : ∃ zs, zs = List.replicate y.toNat ((2 : Int) ^ x.toNat - 1) := ⟨_, rfl⟩
      have HL : Hid (zs.length = y.toNat) := Lib.hid (by rw [hzs, List.length_replicate])
      rw [← hzs] at HR HD HT
      obtain ⟨v, hv⟩ : ∃ v, v = tilN zs := ⟨_, rfl⟩
      rw [← hv] at HD HT
      clear hv hzs h8
      go_enter Try.func10, Try.ntmps10
      go_wp2_with (go_at_call 30; refine (within_any _ _ _ _).mono ?_; rintro e w' ⟨rfl, rfl⟩)
      go_wp2_with (go_at_call 31; fail)
      refine (HR.out _).mono ?_
      rintro e w1 ⟨a, c, rfl, hO, hb1⟩
      have hr := OwnI.rdI hO HL.out
      have hzz := hb1.size
      clear hO
      go_wp2_with (go_at_call 17; refine (HD.out _ _ _ (Rd.below hr (by repeat' (first | assumption | (with_reducible exact Below.refl _ _) | (with_reducible refine Below.drew ?_) | (with_reducible refine Below.alloc ?_ ?_ _) | (with_reducible refine Below.setCell ?_ ?_ _) | omega | (simp; done) | (simp; omega))))).mono ?_; rintro e w1 ⟨rfl, hb1⟩; have hz := hb1.size; (try simp at hz); (first | (have hc1 : ∀ b o, b ≤ w.heap.size + 5 → w1.cell? ⟨b, o, none⟩ = _ := fun b o h => hb1.cell (p := ⟨b, o, none⟩) (by first | omega | (simp; omega)); have hf1 : ∀ b o, b ≤ w.heap.size + 5 → w1.frozen? ⟨b, o, none⟩ = _ := fun b o h => hb1.frozen (p := ⟨b, o, none⟩) (by first | omega | (simp; omega))) | (have hc1 : ∀ b o, b ≤ w.heap.size + 4 → w1.cell? ⟨b, o, none⟩ = _ := fun b o h => hb1.cell (p := ⟨b, o, none⟩) (by first | omega | (simp; omega)); have hf1 : ∀ b o, b ≤ w.heap.size + 4 → w1.frozen? ⟨b, o, none⟩ = _ := fun b o h => hb1.frozen (p := ⟨b, o, none⟩) (by first | omega | (simp; omega))) | (have hc1 : ∀ b o, b ≤ w.heap.size + 3 → w1.cell? ⟨b, o, none⟩ = _ := fun b o h => hb1.cell (p := ⟨b, o, none⟩) (by first | omega | (simp; omega)); have hf1 : ∀ b o, b ≤ w.heap.size + 3 → w1.frozen? ⟨b, o, none⟩ = _ := fun b o h => hb1.frozen (p := ⟨b, o, none⟩) (by first | omega | (simp; omega))) | (have hc1 : ∀ b o, b ≤ w.heap.size + 2 → w1.cell? ⟨b, o, none⟩ = _ := fun b o h => hb1.cell (p := ⟨b, o, none⟩) (by first | omega | (simp; omega)); have hf1 : ∀ b o, b ≤ w.heap.size + 2 → w1.frozen? ⟨b, o, none⟩ = _ := fun b o h => hb1.frozen (p := ⟨b, o, none⟩) (by first | omega | (simp; omega))) | (have hc1 : ∀ b o, b ≤ w.heap.size + 1 → w1.cell? ⟨b, o, none⟩ = _ := fun b o h => hb1.cell (p := ⟨b, o, none⟩) (by first | omega | (simp; omega)); have hf1 : ∀ b o, b ≤ w.heap.size + 1 → w1.frozen? ⟨b, o, none⟩ = _ := fun b o h => hb1.frozen (p := ⟨b, o, none⟩) (by first | omega | (simp; omega))) | (have hc1 : ∀ b o, b ≤ w.heap.size + 0 → w1.cell? ⟨b, o, none⟩ = _ := fun b o h => hb1.cell (p := ⟨b, o, none⟩) (by first | omega | (simp; omega)); have hf1 : ∀ b o, b ≤ w.heap.size + 0 → w1.frozen? ⟨b, o, none⟩ = _ := fun b o h => hb1.frozen (p := ⟨b, o, none⟩) (by first | omega | (simp; omega))) | skip); have hB : Below w.heap.size w w1 := below_step hb1 (by first | omega | (simp; done) | (simp; omega)) (by repeat' (first | assumption | (with_reducible exact Below.refl _ _) | (with_reducible refine Below.drew ?_) | (with_reducible refine Below.alloc ?_ ?_ _) | (with_reducible refine Below.setCell ?_ ?_ _) | omega | (simp; done) | (simp; omega))); clear hb1)
      go_ret
      exact ⟨ret_i HT.out.symm, by repeat' (first | assumption | (with_reducible exact Below.refl _ _) | (with_reducible refine Below.drew ?_) | (with_reducible refine Below.alloc ?_ ?_ _) | (with_reducible refine Below.setCell ?_ ?_ _) | omega | (simp; done) | (simp; omega))⟩
    · have hy' : inB y 1 8 = false := by simpa using hy
      have HT : Hid (rectN x y = 0) := Lib.hid (by rw [rectN, hy', Bool.and_false]; rfl)
      clear hy
      go_enter Try.func10, Try.ntmps10
      go_wp2_with (go_at_call 30; refine (within_any _ _ _ _).mono ?_; rintro e w' ⟨rfl, rfl⟩)
      go_ret
      exact ⟨ret_i HT.out.symm, by repeat' (first | assumption | (with_reducible exact Below.refl _ _) | (with_reducible refine Below.drew ?_) | (with_reducible refine Below.alloc ?_ ?_ _) | (with_reducible refine Below.setCell ?_ ?_ _) | omega | (simp; done) | (simp; omega))⟩
  · have hx' : inB x 1 8 = false := by simpa using hx
    have HT : Hid (rectN x y = 0) := Lib.hid (by rw [rectN, hx', Bool.false_and]; rfl)
    clear hx
    go_enter Try.func10, Try.ntmps10
    go_wp2_with (go_at_call 30; refine (within_any _ _ _ _).mono ?_; rintro e w' ⟨rfl, rfl⟩)
    go_ret
    exact ⟨ret_i HT.out.symm, by repeat' (first | assumption | (with_reducible exact Below.refl _ _) | (with_reducible refine Below.drew ?_) | (with_reducible refine Below.alloc ?_ ?_ _) | (with_reducible refine Below.setCell ?_ ?_ _) | omega | (simp; done) | (simp; omega))⟩
end Go.Proofs.Ytfjkjnhmlljefaa
