/-
  Hexadecimal texts: contracts.
-/
import Derived.Test.YtbkoignjagobaaaDoorMem
import Derived.Laws.IdiomStrings
import Derived.Test.YtbkoignjagobaaaDoorChecked
namespace Go.Proofs.YtbkoignjagobaaaDoor
open Go.RowKit
set_option linter.unusedVariables false
set_option linter.unusedSimpArgs false

def flatB (L : List UInt8) : List Value := L.map fun b => .int .u8 (b.toNat : Int)
theorem conv_back {w : World} {a : Addr} {c : Nat} {L : List UInt8} (h : ∀ j, j < L.length → w.cell? (a.add j) = (flatB L)[j]?) :
    (convert 22 9 (.slice (some a) L.length c)).run Tryd.prog w = .ok (.string ⟨L.toArray⟩) w :=
  run_convert_bytes_back (P := Tryd.prog) w 22 9 5 a c L (by kernel_rfl) (by kernel_rfl) (by kernel_rfl) (fun j hj => by rw [h j hj]; simp [flatB, hj])
theorem conv_own {w : World} {B c n : Nat} {a : Option Addr} {L : List UInt8} (h : w.ownsRow B 5 1 (.slice a n c) n (flatB L)) (hn : L.length = n) :
    (convert 22 9 (.slice a n c)).run Tryd.prog w = .ok (.string ⟨L.toArray⟩) w := by
  subst hn
  rcases h.2 with ⟨hv, hl⟩ | ⟨g, cap, cur, hv, hB, hg, hnc, hcm, hcs, ht⟩
  · obtain ⟨rfl, -, rfl⟩ := Value.slice.inj hv
    have hL : L = [] := by simpa using hl
    subst hL
    rw [run_convert_bytes_string w 22 9 5 none _ 0 (by kernel_rfl) (by kernel_rfl) (by kernel_rfl)]
    simp [Conv.bytesToString]
    rfl
  · obtain ⟨rfl, -, rfl⟩ := Value.slice.inj hv
    refine conv_back (fun j hj => ?_)
    have := h.cellAt j (by omega)
    by_cases j0 : j = 0
    · subst j0; simpa [Addr.add] using this
    · simpa [Addr.add, j0] using this
theorem hex_two_new (w : World) (x y : Value) (t : TypeId) : ∀ j u, [x, y][j]? = some u → (w.alloc (.cells #[x, y] t)).cell? ((⟨w.heap.size, 0, none⟩ : Addr).add j) = some u := by
  intro j u hj
  match j, hj with
  | 0, hj => simp at hj; subst hj; simp [Addr.add]
  | 1, hj => simp at hj; subst hj; simp [Addr.add]
  | (j + 2), hj => simp at hj
theorem byteInfo : (Tryd.prog.info? 5).map (fun i => (i.zero, i.size, i.bytes)) = some (some (.int .u8 0), 1, 1) := by kernel_rfl
theorem hex_slice {w : World} {B e s n : Nat} {v : Value} {xs : List Value} (h : w.ownsRow B e s v n xs) : ∃ a c, v = .slice a n c := by
  rcases h.2 with ⟨hv, hn⟩ | ⟨g, cap, cur, hv, _⟩
  · exact ⟨none, 0, by rw [hv, hn]⟩
  · exact ⟨_, cap, hv⟩
theorem hex_own_below {w w' : World} {B e s n : Nat} {v : Value} {xs : List Value} (h : w.ownsRow B e s v n xs) (hb : Below w.heap.size w w') : w'.ownsRow B e s v n xs := by
  refine ⟨h.1, ?_⟩
  rcases h.2 with h2 | ⟨g, cap, cur, hv, hg, hh, r⟩
  · exact .inl h2
  · refine .inr ⟨g, cap, cur, hv, hg, ?_, r⟩
    rw [hb.block g (Array.getElem?_eq_some_iff.1 hh).1]
    exact hh
theorem hex_grown_below {w w' : World} {B e s n : Nat} {v : Value} {xs : List Value} (h : w.ownsRow B e s v n xs) (hg : w.grownBy w' v.ownBlock) (hB : B ≤ w.heap.size) : Below B w w' :=
  (Below.refl _ _).grown hg hB (fun k hk => (h.lt k hk).1)

def hexD (n : Nat) : UInt8 := if n < 10 then UInt8.ofNat (48 + n) else UInt8.ofNat (87 + n)
def hexL (bs : List UInt8) : List UInt8 := bs.flatMap fun b => [hexD (b.toNat / 16), hexD (b.toNat % 16)]
theorem hexL_len (bs : List UInt8) : (hexL bs).length = 2 * bs.length := by
  induction bs with
  | nil => rfl
  | cons b bs ih => simp only [hexL, List.flatMap_cons, List.length_append, List.length_cons, List.length_nil] at ih ⊢; omega
theorem hexL_take {bs : List UInt8} {k : Nat} {b : UInt8} (h : bs[k]? = some b) : hexL (bs.take (k + 1)) = hexL (bs.take k) ++ [hexD (b.toNat / 16), hexD (b.toNat % 16)] := by
  rw [List.take_add_one, h]
  simp [hexL]
theorem hexD_val {n : Nat} (h : n ≤ 15) : ((hexD n).toNat : Int) = if (n : Int) < 10 then 48 + (n : Int) else 87 + (n : Int) := by
  have : ∀ m : Fin 16, (hexD m.val).toNat = if m.val < 10 then 48 + m.val else 87 + m.val := by decide
  have := this ⟨n, by omega⟩
  simp only at this
  rw [this]
  split <;> split <;> omega
theorem wrap_byte {n : Nat} (h : n < 256) : IntKind.i64.wrap (n : Int) = n := by rw [IntKind.wrap_i64]; omega
theorem hexq {n : Nat} (h : n < 256) : IntKind.i64.wrap ((IntKind.i64.wrap (n : Int)).tdiv 16) = ((n / 16 : Nat) : Int) := by
  rw [wrap_byte h, Int.tdiv_eq_ediv_of_nonneg (by omega)]
  have : (n : Int) / 16 = ((n / 16 : Nat) : Int) := by omega
  rw [this]
  exact wrap_byte (by omega)
theorem hexr {n : Nat} (h : n < 256) : (IntKind.i64.wrap (n : Int)).tmod 16 = ((n % 16 : Nat) : Int) := by
  rw [wrap_byte h, Int.tmod_eq_emod_of_nonneg (by omega)]
  omega

def strH (s : ByteArray) : ByteArray := ⟨(hexL s.data.toList).toArray⟩
/-- The slice owns the bytes L. -/
def OwnB (w : World) (B : Nat) (v : Value) (L : List UInt8) : Prop := w.ownsRow B 5 1 v L.length (flatB L)
theorem OwnB.below {w w' : World} {B : Nat} {v : Value} {L : List UInt8} (h : OwnB w B v L) (hb : Below w.heap.size w w') : OwnB w' B v L := hex_own_below h hb
theorem OwnB.new (w : World) (B : Nat) (hB : B ≤ w.heap.size) (o : Obj) (ho : o = .cells #[] 5) : OwnB (w.alloc o) B (.slice (some ⟨w.heap.size, 0, none⟩) 0 0) [] := by
  subst ho
  exact World.ownsRow_made w #[] 0 hB (by simp [maxLen]) (by simp)
theorem flatB_app (L M : List UInt8) : flatB (L ++ M) = flatB L ++ flatB M := by simp [flatB]

end Go.Proofs.YtbkoignjagobaaaDoor
