/-
  Decoding of hexadecimal texts: the value of a figure.
-/
import Derived.Test.YtlbmmdkmelcedaaDoorHex
import Derived.Lib.Bytealg
import Derived.Laws.Externs
namespace Go.Proofs.YtlbmmdkmelcedaaDoor
open Go.RowKit
set_option linter.unusedVariables false
set_option linter.unusedSimpArgs false

theorem hret_i {a b : Int} (h : a = b) : Ending.returned (.int .i64 a) = .returned (.int .i64 b) := by rw [h]
def valN (n : Nat) : Int := if 48 ≤ n ∧ n ≤ 57 then (n : Int) - 48 else if 97 ≤ n ∧ n ≤ 102 then (n : Int) - 87 else -1
theorem valN_le (n : Nat) : -1 ≤ valN n ∧ valN n ≤ 15 := by unfold valN; split <;> (try split) <;> omega
theorem idx_all : ∀ n : Fin 256, Lib.indexByte [48, 49, 50, 51, 52, 53, 54, 55, 56, 57, 97, 98, 99, 100, 101, 102] ((n.val : Int).toNat.toUInt8) = valN n.val := by decide +kernel
set_option maxRecDepth 100000 in
theorem slIndex_any (s : ByteArray) (c : Int) (w : World) : Calls Tryd.prog 67 #[.string s, .int .u8 c] w fun e w' => e = .returned (.int .i64 (Lib.indexByte s.data.toList c.toNat.toUInt8)) ∧ w = w' := by
  go_enter Tryd.func67, Tryd.ntmps67
  go_wp2
  rw [run_callFunc_extern Tryd.func81 (by kernel_rfl) (by kernel_rfl) (by kernel_rfl) (e := Extern.BytealgIndexByte.indexByte) (by kernel_rfl), Lib.run_indexByteString]
  simp only [Result.andThen]
  rw [Oper.upon_value]
  go_wp2
  go_ret
  exact ⟨rfl, rfl⟩
set_option maxRecDepth 100000 in
theorem index_any (n : Nat) (h : n < 256) (w : World) : Calls Tryd.prog 50 #[.string ⟨#[48, 49, 50, 51, 52, 53, 54, 55, 56, 57, 97, 98, 99, 100, 101, 102]⟩, .int .u8 (n : Int)] w fun e w' => e = .returned (.int .i64 (valN n)) ∧ Below w.heap.size w w' := by
  have HI := Lib.hid (idx_all ⟨n, h⟩)
  go_enter Tryd.func50, Tryd.ntmps50
  go_wp2_with (go_at_call 67; refine (slIndex_any _ _ _).mono ?_; rintro e w' ⟨rfl, rfl⟩)
  go_ret
  exact ⟨hret_i HI.out, Below.refl _ _⟩
end Go.Proofs.YtlbmmdkmelcedaaDoor
