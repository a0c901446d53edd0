/-
  Decoding of hexadecimal texts: the reference.
-/
import Derived.Test.YtlbmmdkmelcedaaDoorHexD
namespace Go.Proofs.YtlbmmdkmelcedaaDoor
open Go.RowKit
set_option linter.unusedVariables false
set_option linter.unusedSimpArgs false

def btN (s : ByteArray) (j : Nat) : Nat := (s.data.toList.getD j 0).toNat
def okP (s : ByteArray) (j : Nat) : Bool := decide (0 ≤ valN (btN s (2 * j))) && decide (0 ≤ valN (btN s (2 * j + 1)))
def decD (s : ByteArray) (j : Nat) : UInt8 := UInt8.ofNat (16 * valN (btN s (2 * j)) + valN (btN s (2 * j + 1))).toNat
def decL (s : ByteArray) (k : Nat) : List UInt8 := (List.range k).map (decD s)
def resB (s : ByteArray) : Bool := (List.range (s.size / 2)).all (okP s)
def resS (s : ByteArray) : ByteArray := if resB s then ⟨(decL s (s.size / 2)).toArray⟩ else ⟨#[]⟩
theorem resB_no {s : ByteArray} {k : Nat} (hk : k < s.size / 2) (h : okP s k = false) : resB s = false := by
  unfold resB
  rw [List.all_eq_false]
  exact ⟨k, List.mem_range.2 hk, by simp [h]⟩
theorem resB_yes {s : ByteArray} (h : ∀ j, j < s.size / 2 → okP s j = true) : resB s = true := by
  unfold resB
  rw [List.all_eq_true]
  exact fun j hj => h j (List.mem_range.1 hj)
theorem bt_of {s : ByteArray} {j : Nat} (h : j < s.size) : btN s j = s[j].toNat := by
  have : s.data.toList[j]? = some s[j] := by simp [ByteArray.getElem_eq_getElem_data, h]
  simp [btN, List.getD, this]
theorem decL_succ (s : ByteArray) (k : Nat) : decL s (k + 1) = decL s k ++ [decD s k] := by simp [decL, List.range_succ]
theorem decL_len (s : ByteArray) (k : Nat) : (decL s k).length = k := by simp [decL]
theorem decD_val {s : ByteArray} {k : Nat} (h : okP s k = true) : ((decD s k).toNat : Int) = 16 * valN (btN s (2 * k)) + valN (btN s (2 * k + 1)) := by
  simp only [okP, Bool.and_eq_true, decide_eq_true_eq] at h
  have h1 := valN_le (btN s (2 * k))
  have h2 := valN_le (btN s (2 * k + 1))
  simp only [decD, UInt8.toNat_ofNat']
  omega
theorem dec_one_new (w : World) (x : Value) (t : TypeId) : ∀ j u, [x][j]? = some u → (w.alloc (.cells #[x] t)).cell? ((⟨w.heap.size, 0, none⟩ : Addr).add j) = some u := by
  intro j u hj
  match j, hj with
  | 0, hj => simp at hj; subst hj; simp [Addr.add]
  | (j + 1), hj => simp at hj

end Go.Proofs.YtlbmmdkmelcedaaDoor
