/-
  Decoding of hexadecimal texts: the value of a figure.
-/
import Derived.Test.YtljpcapghgakcaaHex
import Derived.Lib.Bytealg
import Derived.Laws.Externs
namespace Go.Proofs.Ytljpcapghgakcaa
open Go.RowKit
set_option linter.unusedVariables false
set_option linter.unusedSimpArgs false

theorem hret_i {a b : Int} (h : a = b) : Ending.returned (.int .i64 a) = .returned (.int .i64 b) := by rw [h]
def valN (n : Nat) : Int := if 48 ≤ n ∧ n ≤ 57 then (n : Int) - 48 else if 97 ≤ n ∧ n ≤ 102 then (n : Int) - 87 else -1
theorem valN_le (n : Nat) : -1 ≤ valN n ∧ valN n ≤ 15 := by unfold valN; split <;> (try split) <;> omega
theorem idx_all : ∀ n : Fin 256, Lib.indexByte [48, 49, 50, 51, 52, 53, 54, 55, 56, 57, 97, 98, 99, 100, 101, 102] ((n.val : Int).toNat.toUInt8) = valN n.val := by decide +kernel
set_option maxRecDepth 100000 in
theorem l01Value_any (n : Nat) (h : n < 256) (w : World) : Calls Try.prog 16 #[.int .u8 (n : Int)] w fun e w' => e = .returned (.int .i64 (valN n)) ∧ Below w.heap.size w w' := by
  have HV : Hid (valN n = if 48 ≤ n ∧ n ≤ 57 then (n : Int) - 48 else if 97 ≤ n ∧ n ≤ 102 then (n : Int) - 87 else -1) := Lib.hid rfl
  have h0 : (n : Int) < 256 := by omega
  by_cases h1 : (48 : Int) ≤ (n : Int)
  · by_cases h2 : (n : Int) ≤ 57
    · have HE : Hid (valN n = (n : Int) - 48) := Lib.hid (by rw [HV.out, if_pos (by omega)])
      go_enter Try.func16, Try.ntmps16
      go_wp2
      all_goals go_ret
      all_goals exact ⟨hret_i (by rw [HE.out]; try omega), Below.refl _ _⟩
    · by_cases h3 : (97 : Int) ≤ (n : Int)
      · by_cases h4 : (n : Int) ≤ 102
        · have HE : Hid (valN n = (n : Int) - 87) := Lib.hid (by rw [HV.out, if_neg (by omega), if_pos (by omega)])
          go_enter Try.func16, Try.ntmps16
          go_wp2
          all_goals go_ret
          all_goals exact ⟨hret_i (by rw [HE.out]; try omega), Below.refl _ _⟩
        · have HE : Hid (valN n = -1) := Lib.hid (by rw [HV.out, if_neg (by omega), if_neg (by omega)])
          go_enter Try.func16, Try.ntmps16
          go_wp2
          all_goals go_ret
          all_goals exact ⟨hret_i (by rw [HE.out]; try omega), Below.refl _ _⟩
      · have HE : Hid (valN n = -1) := Lib.hid (by rw [HV.out, if_neg (by omega), if_neg (by omega)])
        go_enter Try.func16, Try.ntmps16
        go_wp2
        all_goals go_ret
        all_goals exact ⟨hret_i (by rw [HE.out]; try omega), Below.refl _ _⟩
  · have HE : Hid (valN n = -1) := Lib.hid (by rw [HV.out, if_neg (by omega), if_neg (by omega)])
    go_enter Try.func16, Try.ntmps16
    go_wp2
    all_goals go_ret
    all_goals exact ⟨hret_i (by rw [HE.out]; try omega), Below.refl _ _⟩
set_option maxRecDepth 100000 in
theorem slIndex_any (s : ByteArray) (c : Int) (w : World) : Calls Try.prog 19 #[.string s, .int .u8 c] w fun e w' => e = .returned (.int .i64 (Lib.indexByte s.data.toList c.toNat.toUInt8)) ∧ w = w' := by
  go_enter Try.func19, Try.ntmps19
  go_wp2
  rw [run_callFunc_extern Try.func20 (by kernel_rfl) (by kernel_rfl) (by kernel_rfl) (e := Extern.BytealgIndexByte.indexByte) (by kernel_rfl), Lib.run_indexByteString]
  simp only [Result.andThen]
  rw [Oper.upon_value]
  go_wp2
  go_ret
  exact ⟨rfl, rfl⟩
set_option maxRecDepth 100000 in
theorem index_any (n : Nat) (h : n < 256) (w : World) : Calls Try.prog 17 #[.string ⟨#[48, 49, 50, 51, 52, 53, 54, 55, 56, 57, 97, 98, 99, 100, 101, 102]⟩, .int .u8 (n : Int)] w fun e w' => e = .returned (.int .i64 (valN n)) ∧ Below w.heap.size w w' := by
  have HI := Lib.hid (idx_all ⟨n, h⟩)
  go_enter Try.func17, Try.ntmps17
  go_wp2_with (go_at_call 19; refine (slIndex_any _ _ _).mono ?_; rintro e w' ⟨rfl, rfl⟩)
  go_ret
  exact ⟨hret_i HI.out, Below.refl _ _⟩
end Go.Proofs.Ytljpcapghgakcaa
