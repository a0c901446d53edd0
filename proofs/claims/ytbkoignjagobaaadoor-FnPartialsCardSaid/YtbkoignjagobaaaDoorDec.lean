/-
  Decimal texts: the reference's FormatInt.
-/
import Derived.Test.YtbkoignjagobaaaDoorHex
import Derived.Lib.ItoaNum
import Derived.Lib.ItoaLen
namespace Go.Proofs.YtbkoignjagobaaaDoor
open Go.RowKit
set_option linter.unusedVariables false
set_option linter.unusedSimpArgs false

/-- What of a number is still to be written. -/
def decT (n : Int) : List UInt8 := if n = 0 then [] else Lib.decDigits n.natAbs
theorem hexD_dec {d : Nat} (h : d < 10) : hexD d = UInt8.ofNat (48 + d) := by unfold hexD; rw [if_pos h]
theorem decT_step {n q : Int} {d : Nat} (h0 : n ≠ 0) (hq : q.natAbs = n.natAbs / 10) (hd : d = n.natAbs % 10) : decT n = decT q ++ [hexD d] := by
  have hd10 : d < 10 := by omega
  rw [hexD_dec hd10]
  unfold decT
  rw [if_neg h0]
  by_cases h : n.natAbs < 10
  · have : q = 0 := by omega
    rw [if_pos this, Lib.decDigits, dif_pos h, hd, Nat.mod_eq_of_lt h]
    rfl
  · have : q ≠ 0 := by omega
    rw [if_neg this, Lib.decDigits, dif_neg h, hq, hd]
def strD (L : List UInt8) : ByteArray := ⟨L.toArray⟩
theorem strD_app (L M : List UInt8) : strD L ++ strD M = strD (L ++ M) := by
  apply ByteArray.ext
  simp [strD]
theorem strD_size (L : List UInt8) : (strD L).size = L.length := by simp [strD, ByteArray.size]
theorem dec_len {n : Int} (h0 : -9223372036854775808 ≤ n) (h1 : n ≤ 9223372036854775807) : (Lib.decDigits n.natAbs).length ≤ 21 := by
  have h := Lib.itoa_length_le n h0 h1
  unfold Lib.itoa at h
  split at h
  · simp at h; omega
  · rwa [show n.natAbs = n.toNat by omega]
theorem conv_one (w : World) (b : UInt8) :
    (convert 22 9 (.slice (some ⟨w.heap.size, 0, none⟩) 1 1)).run Tryd.prog (w.alloc (.cells #[.int .u8 (b.toNat : Int)] 5)) = .ok (.string (strD [b])) (w.alloc (.cells #[.int .u8 (b.toNat : Int)] 5)) :=
  conv_back (a := ⟨w.heap.size, 0, none⟩) (c := 1) (L := [b]) (fun j hj => by
    have : j = 0 := by simpa using hj
    subst this
    show (w.alloc (.cells #[.int .u8 (b.toNat : Int)] 5)).cell? ⟨w.heap.size, 0, none⟩ = _
    rw [World.cell?_alloc_new]
    rfl)
end Go.Proofs.YtbkoignjagobaaaDoor
