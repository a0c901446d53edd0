/-
  Contracts of the numbers of cells and of black cells.
-/
import Derived.Test.YtbkoignjagobaaaDoorCount
namespace Go.Proofs.YtbkoignjagobaaaDoor
open Go.RowKit
set_option linter.unusedVariables false
set_option linter.unusedSimpArgs false

theorem RdC_at {w : World} {a : Option Addr} {L : List (Int × Int)} (h : Rd w a (flatC L)) {k : Nat} (hk : k < L.length) :
    ∃ b off x y, a = some ⟨b, off, none⟩ ∧ b < w.heap.size ∧ w.cell? ⟨b, off + k * 2, none⟩ = some (.int .i64 x) ∧ w.cell? ⟨b, off + k * 2 + 1, none⟩ = some (.int .i64 y) ∧ Hid (L[k]? = some (x, y)) := by
  have hl : ∀ (L : List (Int × Int)) k, k < L.length → (flatC L)[k * 2]? = (L[k]?).map (fun p => Value.int .i64 p.1) ∧ (flatC L)[k * 2 + 1]? = (L[k]?).map (fun p => Value.int .i64 p.2) := by
    intro L
    induction L with
    | nil => intro k hk; simp at hk
    | cons p L ih =>
      intro k hk
      have e : flatC (p :: L) = .int .i64 p.1 :: .int .i64 p.2 :: flatC L := by simp [flatC]
      cases k with
      | zero => rw [e]; simp
      | succ k =>
        have := ih k (by simpa using hk)
        rw [e, show (k + 1) * 2 = k * 2 + 1 + 1 by omega]
        simpa using this
  obtain ⟨h1, h2⟩ := hl L k hk
  rw [List.getElem?_eq_getElem hk] at h1 h2
  have hlen := flatC_len L
  rcases h with h0 | ⟨b, off, h3, h4, h5⟩
  · rw [h0] at h1; simp at h1
  · refine ⟨b, off, L[k].1, L[k].2, h3, h4, ?_, ?_, ?_⟩
    · rw [h5 (k * 2) (by omega), h1]; rfl
    · rw [Nat.add_assoc, h5 (k * 2 + 1) (by omega), h2]; rfl
    · exact Lib.hid (List.getElem?_eq_getElem hk)

theorem specCount_any (a : Option Addr) (n c : Nat) (zs : List Int) (w : World) (hz : zs.length = n) (hn : n ≤ 1048576) (hr : RdI w a zs) :
    Calls Tryd.prog 11 #[.agg #[.slice a n c]] w fun e w' => e = .returned (.int .i64 ((coL zs).length : Int)) ∧ Below w.heap.size w w' := by
  have HZ := Lib.hid hz
  clear hz
  have hcl := coL_len zs
  go_enter Tryd.func11, Tryd.ntmps11
  go_wp2_with (go_at_call 28; refine (specCellsOf_any _ _ _ zs _ HZ.out hn (by repeat' (first | assumption | (with_reducible refine Rd.alloc ?_ _) | (with_reducible refine Rd.drew ?_)))).mono ?_; rintro e w1 ⟨a1, c1, rfl, hO, hb1⟩; have hB1 : Below w.heap.size w w1 := below_step hb1 (by first | omega | (simp; done) | (simp; omega)) (by repeat' (first | assumption | (with_reducible exact Below.refl _ _) | (with_reducible refine Below.drew ?_) | (with_reducible refine Below.alloc ?_ ?_ _) | (with_reducible refine Below.setCell ?_ ?_ _) | omega | (simp; done) | (simp; omega))); clear hO hb1)
  go_ret
  exact ⟨rfl, by repeat' (first | assumption | (with_reducible exact Below.refl _ _) | (with_reducible refine Below.drew ?_) | (with_reducible refine Below.alloc ?_ ?_ _) | (with_reducible refine Below.setCell ?_ ?_ _) | omega | (simp; done) | (simp; omega))⟩

/-- How many of the cells are black. -/
def blk (L : List (Int × Int)) : Nat := (L.filter fun p => blackB p.1 p.2).length
theorem blk_le (L : List (Int × Int)) : blk L ≤ L.length := List.length_filter_le _ _
theorem blk_yes {L : List (Int × Int)} {k : Nat} {x y : Int} (h : L[k]? = some (x, y)) (hb : blackB x y = true) : blk (L.take (k + 1)) = blk (L.take k) + 1 := by
  rw [take_one h]; simp [blk, List.filter_append, hb]
theorem blk_no {L : List (Int × Int)} {k : Nat} {x y : Int} (h : L[k]? = some (x, y)) (hb : blackB x y = false) : blk (L.take (k + 1)) = blk (L.take k) := by
  rw [take_one h]; simp [blk, List.filter_append, hb]

def balB (zs : List Int) : Bool := rokB zs && (2 * (blk (coL zs) : Int) - (coL zs).length == 0)
theorem balB_yes {zs : List Int} (h : rokB zs = true) : balB zs = (2 * (blk (coL zs) : Int) - (coL zs).length == 0) := by simp [balB, h]
theorem balB_no {zs : List Int} (h : rokB zs = false) : balB zs = false := by simp [balB, h]
end Go.Proofs.YtbkoignjagobaaaDoor
