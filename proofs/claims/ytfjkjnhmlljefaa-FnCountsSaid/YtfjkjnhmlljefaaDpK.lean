/-
  Rows of 256 numbers, and bits of small numbers: what the count by profiles wants.
-/
import Derived.Test.YtfjkjnhmlljefaaDp
import Derived.Test.YtfjkjnhmlljefaaHas
import Derived.Test.YtfjkjnhmlljefaaRegI
import Derived.Test.YtfjkjnhmlljefaaList
import Derived.KernelRfl
namespace Go.Proofs.Ytfjkjnhmlljefaa
open Go.RowKit
set_option linter.unusedVariables false
set_option linter.unusedSimpArgs false

def flatN (l : List Int) : List Value := l.map (Value.int .i64)
theorem flatN_at {l : List Int} {k : Nat} : (flatN l)[k]? = (l[k]?).map (Value.int .i64) := by simp [flatN]
theorem flatN_set (l : List Int) (k : Nat) (n : Int) : (flatN l).set k (.int .i64 n) = flatN (l.set k n) := by simp [flatN, List.map_set]
/-- A row of 256 numbers that the call has made. -/
def Row (w : World) (B g : Nat) (l : List Int) : Prop := w.ownsRow B 3 1 (.slice (some ⟨g, 0, none⟩) 256 256) 256 (flatN l)
theorem Row.below {w w' : World} {B g : Nat} {l : List Int} (h : Row w B g l) (hb : Below w.heap.size w w') : Row w' B g l := own_below h hb
theorem Row.alloc {w : World} {B g : Nat} {l : List Int} (h : Row w B g l) (o : Obj) : Row (w.alloc o) B g l := World.ownsRow.alloc h o
theorem Row.drew {w : World} {B g : Nat} {l : List Int} (h : Row w B g l) : Row w.drew B g l := h
theorem Row.lt {w : World} {B g : Nat} {l : List Int} (h : Row w B g l) : B ≤ g ∧ g < w.heap.size := World.ownsRow.lt h g rfl
theorem Row.len {w : World} {B g : Nat} {l : List Int} (h : Row w B g l) : l.length = 256 := by have := h.1; simpa [flatN] using this
theorem Row.at_ {w : World} {B g : Nat} {l : List Int} (h : Row w B g l) {k : Nat} (hk : k < 256) : w.cell? ⟨g, k, none⟩ = some (.int .i64 (l.getD k 0)) ∧ w.frozen? ⟨g, k, none⟩ = false := by
  have h1 := h.cellAt k (by omega)
  have hl := h.len
  rw [flatN_at, List.getElem?_eq_getElem (by omega)] at h1
  refine ⟨?_, h.frozenAt k⟩
  rw [h1, List.getD_eq_getElem?_getD, List.getElem?_eq_getElem (by omega)]
  rfl
theorem Row.set_ {w : World} {B g : Nat} {l : List Int} (h : Row w B g l) (k : Nat) (n : Int) : Row (w.setCell ⟨g, k, none⟩ (.int .i64 n)) B g (l.set k n) := by
  have := (h.stored k (.int .i64 n)).1
  rw [flatN_set] at this
  exact this
theorem Row.far {w : World} {B g : Nat} {l : List Int} (h : Row w B g l) {p : Addr} (hp : g ≠ p.block) (u : Value) : Row (w.setCell p u) B g l := by
  refine ⟨h.1, ?_⟩
  rcases h.2 with h2 | ⟨g', cap, cur, hv, hg, hh, r⟩
  · exact .inl h2
  · have e : g' = g := by injection hv with e1; injection e1 with e1; injection e1 with e1; exact e1.symm
    subst e
    refine .inr ⟨g', cap, cur, hv, hg, ?_, r⟩
    rw [Below.heap_setCell w p u g' hp]
    exact hh
theorem row_new : (madeCells (Value.int .i64 0).cells (256 * 1)).toList = flatN (List.replicate 256 0) := by kernel_rfl
theorem wrap_w64 (n : Int) : IntKind.i64.wrap n = w64 n := by rw [IntKind.wrap_i64]; rfl
theorem wrap64_w64 (n : Int) : wrap64 n = w64 n := by first | rfl | (unfold wrap64 w64; omega) | (rw [← wrap_w64]; simp [wrap64])

theorem i64_bits_small {a b : Nat} (ha : a < 1000) (hb : b < 1000) : bits .or .i64 (a : Int) (b : Int) = ((a ||| b : Nat) : Int) ∧ bits .and .i64 (a : Int) (b : Int) = ((a &&& b : Nat) : Int) := by
  have e1 : (BitVec.ofInt 64 (a : Int)).toNat = a := by rw [BitVec.ofInt_natCast, BitVec.toNat_ofNat]; exact Nat.mod_eq_of_lt (by omega)
  have e2 : (BitVec.ofInt 64 (b : Int)).toNat = b := by rw [BitVec.ofInt_natCast, BitVec.toNat_ofNat]; exact Nat.mod_eq_of_lt (by omega)
  have h1 : a ||| b < 2 ^ 10 := Nat.or_lt_two_pow (by omega) (by omega)
  have h2 : a &&& b < 1000 := Nat.lt_of_le_of_lt Nat.and_le_left ha
  constructor
  · show IntKind.i64.wrap ((BitVec.ofInt 64 (a : Int) ||| BitVec.ofInt 64 (b : Int)).toNat : Int) = _
    rw [BitVec.toNat_or, e1, e2, IntKind.wrap_i64]; omega
  · show IntKind.i64.wrap ((BitVec.ofInt 64 (a : Int) &&& BitVec.ofInt 64 (b : Int)).toNat : Int) = _
    rw [BitVec.toNat_and, e1, e2, IntKind.wrap_i64]; omega
theorem i64_andnot_small {k x : Nat} (hk : k < 256) (hx : x < 8) : bits .andNot .i64 (k : Int) ((2 ^ x : Nat) : Int) = ((if k.testBit x then k - 2 ^ x else k : Nat) : Int) := by
  have h : ∀ (k : Fin 256) (x : Fin 8), bits .andNot .i64 (k.val : Int) ((2 ^ x.val : Nat) : Int) = ((if k.val.testBit x.val then k.val - 2 ^ x.val else k.val : Nat) : Int) := by decide +kernel
  exact h ⟨k, hk⟩ ⟨x, hx⟩
theorem small_or {k x : Nat} (hk : k < 256) (hx : x < 8) : k ||| 2 ^ x < 256 := by
  have h : 2 ^ x < 2 ^ 8 := Nat.pow_lt_pow_right (by omega) hx
  exact Nat.or_lt_two_pow (n := 8) (by omega) h
theorem small_sub {k x : Nat} (h : k.testBit x = true) : 2 ^ x ≤ k := Nat.ge_two_pow_of_testBit h
theorem shr_one {k x : Nat} (hk : k < 256) : bits .and .i64 ((k : Int) / 2 ^ x) 1 = if k.testBit x then 1 else 0 := by
  rw [row_bit hk, testBit_mod]
  by_cases h : k / 2 ^ x % 2 = 1
  · rw [h]; simp
  · have : k / 2 ^ x % 2 = 0 := by omega
    rw [this]; simp
theorem and_pow {k x : Nat} (hk : k < 256) (hx : x < 8) : bits .and .i64 (k : Int) ((2 ^ x : Nat) : Int) = if k.testBit x then ((2 ^ x : Nat) : Int) else 0 := by
  have h : ∀ (k : Fin 256) (x : Fin 8), bits .and .i64 (k.val : Int) ((2 ^ x.val : Nat) : Int) = if k.val.testBit x.val then ((2 ^ x.val : Nat) : Int) else 0 := by decide +kernel
  exact h ⟨k, hk⟩ ⟨x, hx⟩
theorem i64_pow {x : Nat} (hx : x < 20) : IntKind.i64.wrap ((2 : Int) ^ x) = ((2 ^ x : Nat) : Int) := by
  have h : ∀ x : Fin 20, IntKind.i64.wrap ((2 : Int) ^ x.val) = ((2 ^ x.val : Nat) : Int) := by decide +kernel
  exact h ⟨x, hx⟩
/-- The set of a region, by coordinates. -/
def sxy (S : Nat) (x y : Nat) : Bool := hasB S (x : Int) (y : Int)
theorem putAt_eq {l : List Int} {k : Nat} {n v : Int} (h : l.getD k 0 = v) : putAt l k n = l.set k (w64 (v + n)) := by simp only [putAt, h]
theorem fits_at {l : List Int} (h : Fits l) {k : Nat} (hk : k < l.length) : -9223372036854775808 ≤ l.getD k 0 ∧ l.getD k 0 ≤ 9223372036854775807 := by
  rw [List.getD_eq_getElem?_getD, List.getElem?_eq_getElem hk]
  exact h _ (List.getElem_mem hk)
theorem dp_zero {S : Nat → Nat → Bool} {x y : Nat} {l : List Int} {k : Nat} : dpCell S x y l k 0 = l := by simp [dpCell]
theorem dp_no {S : Nat → Nat → Bool} {x y : Nat} {l : List Int} {k : Nat} {n : Int} (hn : ¬ n = 0) (hs : S x y = false) (hk : k.testBit x = false) : dpCell S x y l k n = putAt l k n := by simp [dpCell, hn, hs, hk]
theorem dp_no2 {S : Nat → Nat → Bool} {x y : Nat} {l : List Int} {k : Nat} {n : Int} (hn : ¬ n = 0) (hs : S x y = false) (hk : k.testBit x = true) : dpCell S x y l k n = l := by simp [dpCell, hn, hs, hk]
theorem dp_cov {S : Nat → Nat → Bool} {x y : Nat} {l : List Int} {k : Nat} {n : Int} (hn : ¬ n = 0) (hs : S x y = true) (hk : k.testBit x = true) : dpCell S x y l k n = putAt l (k - 2 ^ x) n := by simp [dpCell, hn, hs, hk]
theorem dp_has {S : Nat → Nat → Bool} {x y : Nat} {l : List Int} {k : Nat} {n : Int} (hn : ¬ n = 0) (hs : S x y = true) (hk : k.testBit x = false) :
    dpCell S x y l k n = if S (x + 1) y && !k.testBit (x + 1) then putAt (if S x (y + 1) then putAt l (k ||| 2 ^ x) n else l) (k ||| 2 ^ (x + 1)) n else (if S x (y + 1) then putAt l (k ||| 2 ^ x) n else l) := by simp [dpCell, hn, hs, hk]
end Go.Proofs.Ytfjkjnhmlljefaa
