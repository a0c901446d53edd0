/-
  Lists of texts that a call makes.
-/
import Derived.Test.YtlbmmdkmelcedaaDoorOwn
import Derived.Test.YtlbmmdkmelcedaaDoorChecked
import Derived.WalkSmall
namespace Go.Proofs.YtlbmmdkmelcedaaDoor
open Go.RowKit
set_option linter.unusedVariables false
set_option linter.unusedSimpArgs false

theorem txInfo : (Tryd.prog.info? 9).map (fun i => (i.zero, i.size, i.bytes)) = some (some (.string ⟨#[]⟩), 1, 16) := by kernel_rfl
abbrev RdT (w : World) (a : Option Addr) (X : List ByteArray) : Prop := Rd w a (X.map Value.string)
/-- The slice owns the texts X, in blocks from B on. -/
def OwnT (w : World) (B : Nat) (v : Value) (X : List ByteArray) : Prop := w.ownsRow B 9 1 v X.length (X.map Value.string)
theorem OwnT.below {w w' : World} {B : Nat} {v : Value} {X : List ByteArray} (h : OwnT w B v X) (hb : Below w.heap.size w w') : OwnT w' B v X := own_below h hb
theorem OwnT.alloc {w : World} {B : Nat} {v : Value} {X : List ByteArray} (h : OwnT w B v X) (o : Obj) : OwnT (w.alloc o) B v X := World.ownsRow.alloc h o
theorem OwnT.nil (w : World) (B : Nat) : OwnT w B (.slice none 0 0) [] := ⟨rfl, .inl ⟨rfl, rfl⟩⟩
theorem OwnT.new (w : World) (B : Nat) (hB : B ≤ w.heap.size) (o : Obj) (ho : o = .cells #[] 9) : OwnT (w.alloc o) B (.slice (some ⟨w.heap.size, 0, none⟩) 0 0) [] := by
  subst ho
  exact World.ownsRow_made w #[] 0 hB (by simp [maxLen]) (by simp)
theorem OwnT.snoc {w : World} {B : Nat} {t : ByteArray} {v : Value} {X : List ByteArray} (h : w.ownsRow B 9 1 v (X.length + 1) (X.map Value.string ++ [.string t])) : ∃ a c, v = .slice a (X.length + 1) c ∧ OwnT w B (.slice a (X.length + 1) c) (X ++ [t]) := by
  obtain ⟨a, c, hv⟩ := own_slice h
  refine ⟨a, c, hv, ?_⟩
  unfold OwnT
  rw [List.map_append, List.length_append, ← hv]
  exact h
theorem OwnT.rd {w : World} {B n c : Nat} {a : Option Addr} {X : List ByteArray} (h : OwnT w B (.slice a n c) X) (hn : X.length = n) : RdT w a X := by
  subst hn
  exact Rd.of_own h
theorem RdT.at_ {w : World} {a : Option Addr} {X : List ByteArray} (h : RdT w a X) {k : Nat} (hk : k < X.length) : ∃ b off t, a = some ⟨b, off, none⟩ ∧ b < w.heap.size ∧ w.cell? ⟨b, off + k, none⟩ = some (.string t) ∧ Hid (X[k]? = some t) := by
  obtain ⟨b, off, u, h1, h2, h3, h4⟩ := Rd.at_ h (k := k) (by simpa using hk)
  rw [List.getElem?_map, Option.map_eq_some_iff] at h4
  obtain ⟨v, h5, rfl⟩ := h4
  exact ⟨b, off, v, h1, h2, h3, h5⟩
theorem txt_new (w : World) (x : Value) (t : TypeId) : ∀ j u, [x][j]? = some u → (w.alloc (.cells #[x] t)).cell? ((⟨w.heap.size, 0, none⟩ : Addr).add j) = some u := by
  intro j u hj
  match j, hj with
  | 0, hj =>
    simp at hj
    subst hj
    simp [Addr.add]
end Go.Proofs.YtlbmmdkmelcedaaDoor
