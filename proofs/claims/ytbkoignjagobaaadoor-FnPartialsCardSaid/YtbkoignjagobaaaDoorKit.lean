/-
  Small lemmas over any program: a struct of one field opened, the words by which a walk is told of a slice that came in, and steps on 'Below'.
-/
import Derived.ProofKit
import Derived.WalkKit
import Derived.OpenShut
import Derived.ShutString
import Derived.ChangeOld
import Derived.Below
import Derived.Lib.Hide
import Derived.Lib.SmallJoins
import Derived.Deep.Slices
import Derived.Deep.Fields
import Derived.Deep.RegionHeld3
import Derived.Deep.QuietTactic
import Derived.BigQuiet
namespace Go.Proofs.YtbkoignjagobaaaDoor
open Go.ChangeShapes Go.WideShapes Go.ChangeAt Go.RowKit Go.Joins Go.Deep

/-- What a walk is told of a slice of integers that came in: nil, or a row of 'cap' cells that hold the numbers 'zs'. -/
def IsRow (k : IntKind) (w : World) (a : Option Addr) (len cap : Nat) (zs : List Int) : Prop :=
  (a = none ∧ len = 0 ∧ cap = 0 ∧ zs = []) ∨
  ∃ x, a = some x ∧ len ≤ cap ∧ cap ≤ maxLen ∧ zs.length = cap ∧ (∀ i, i < zs.length → w.cell? (x.add i) = some (.int k (zs.getD i 0))) ∧ ∀ n ∈ zs, (Lit.int k n).wf = true

section
variable {H : Type} {enc : TypeId × Value → H} {P : Program} {w : World} {base : Nat} {spare : Nat → Bool} {held : Bool}

theorem open_agg1 {r : Reach} {b0 : Nat} {t : TypeId} {f0 : Field} {v : Value} {d : DataW H} {p : List MemPlace} (hs : P.underlying t = some (.struct #[f0])) (hone : oneCellFields P #[f0] = true) (hC : P.cellsOf t = 1)
    (hv : Value.okWide P w r b0 t v) (h : DataW.Trod enc P w base spare held t v d p) :
    ∃ (v0 : Value) (y0 : DataW H × List MemPlace) (n : Nat), v = .agg #[v0] ∧ d = .agg [y0.1] ∧ p = y0.2 ∧
      DataW.trod enc P w base spare held n f0.type [v0] = some y0 := by
  obtain ⟨cs, rfl, hsz⟩ := okWide_struct hs hv
  obtain ⟨l⟩ := cs
  match l, hsz.trans hC with
  | [c0], _ =>
    obtain ⟨fuel, hf⟩ := h
    obtain ⟨xs, n, _, hx, _, hlen, hg⟩ := DataW.trod_struct hs hf
    obtain ⟨o0, k0⟩ := hone_of hone 0 f0 rfl
    match xs, hlen with
    | [y0], _ =>
      simp only [Prod.mk.injEq] at hx
      exact ⟨c0, y0, n, rfl, by simpa using hx.1, by simpa using hx.2, by simpa [Value.cells, o0, k0] using hg 0 f0 rfl⟩

theorem row_of_cells {t e : TypeId} {k : IntKind} {fuel : Nat} {v : Value} {x : DataW H × List MemPlace} (ht : P.underlying t = some (.slice e)) (he : P.underlying e = some (.int k)) (hc : P.cellsOf e = 1)
    (h : DataW.trod enc P w base (fun _ => true) held fuel t [v] = some x) : ∃ a len cap zs, v = .slice a len cap ∧ IsRow k w a len cap zs := by
  rcases open_ints ht he hc h with ⟨hcs, _⟩ | ⟨x, l, c, zs, hcs, _, hl, hm, hz, _, hcell, hwz⟩
  · simp at hcs
    subst hcs
    exact ⟨none, 0, 0, [], rfl, .inl ⟨rfl, rfl, rfl, rfl⟩⟩
  · simp at hcs
    subst hcs
    exact ⟨_, _, _, zs, rfl, .inr ⟨_, rfl, hl, hm, by simpa using hz, hcell, hwz⟩⟩
end

/-- What a call with its own world behind it leaves: seen from the world in which the caller began. -/
theorem below_step {B : Nat} {w W w1 : World} (h1 : Below W.heap.size W w1) (hB : B ≤ W.heap.size) (h : Below B w W) : Below B w w1 := h.trans (h1.mono hB)
theorem bcell {W w1 : World} (hb : Below W.heap.size W w1) : (∀ b o, b < W.heap.size → w1.cell? ⟨b, o, none⟩ = W.cell? ⟨b, o, none⟩) ∧ (∀ b o, b < W.heap.size → w1.frozen? ⟨b, o, none⟩ = W.frozen? ⟨b, o, none⟩) :=
  ⟨fun b o h => hb.cell (p := ⟨b, o, none⟩) h, fun b o h => hb.frozen (p := ⟨b, o, none⟩) h⟩
theorem wf_bd {a : Int} (h : (Lit.int .i64 a).wf = true) : -9223372036854775808 ≤ a ∧ a ≤ 9223372036854775807 := bounds_i64 h
/- A region that draws its order, walked by hand: S holds in every world on the way; whatever yields in each such world comes first, calls one behind the other. -/
section
variable {P : Program} {ops : Array Oper} {Q : Exit → Act → World → Prop} {S : World → Prop} {fuel : Nat} {listed : Array Bool} {a : Act} {w : World}
structure HoldCtx (ops : Array Oper) (Q : Exit → Act → World → Prop) : Prop where
  sel : Region.noSelect ops = true
  pan : ∀ (c : List PanicEntry) (a : Act) (d : Option Tmp) (v : Value) (w : World), Q (.panic c) (a.put d v) w → Q (.panic c) a w
def holdFree (ops : Array Oper) (listed : Array Bool) (i : Nat) : Bool := Region.free .any ops listed i && (Region.ready .any ops listed).contains i
def guardIs (ops : Array Oper) (a : Act) (j : Nat) (b : Bool) : Bool := yielded ops a.tmps j == some b
theorem hold_start {id : Nat} (hm : P.follows .mixedOrders = true) (hs : Region.noSelect ops = true)
    (hQ : ∀ (c : List PanicEntry) (a : Act) (d : Option Tmp) (v : Value) (w : World), Q (.panic c) (a.put d v) w → Q (.panic c) a w) (hS : S w.drew)
    (h : HoldCtx ops Q → S w.drew → wpAnyH P .any ops Q S ops.size (Array.replicate ops.size false) a w.drew) : (Code.region id ops true).wp P Q a w :=
  wp_region_held_drew hm hS fun hS' => h ⟨hs, hQ⟩ hS'
theorem hold_plain (i : Nat) {oi : Oper} {v : Value} (hc : HoldCtx ops Q) (hS : S w) (hi : ops[i]? = some oi) (hg : oi.guard = none) (hf : holdFree ops listed i = true)
    (hy : ∀ w, S w → (execOp a.eval oi).run P w = .ok (.value v) w) (h : wpAnyH P .any ops Q S fuel (listed.setIfInBounds i true) (a.put oi.dst v) w) : wpAnyH P .any ops Q S (fuel + 1) listed a w := by
  unfold holdFree at hf
  rw [Bool.and_eq_true] at hf
  exact wpAnyH_take hi hc.sel hf.1 hf.2 (fun c a w => hc.pan c a oi.dst v w) (.inl ⟨by simp [Region.wanted, hg], hy⟩) hS h
theorem hold_yes (i : Nat) {oi : Oper} {v : Value} {j : Nat} {b : Bool} (hc : HoldCtx ops Q) (hS : S w) (hi : ops[i]? = some oi) (hg : oi.guard = some (j, b)) (hb : guardIs ops a j b = true) (hf : holdFree ops listed i = true)
    (hy : ∀ w, S w → (execOp a.eval oi).run P w = .ok (.value v) w) (h : wpAnyH P .any ops Q S fuel (listed.setIfInBounds i true) (a.put oi.dst v) w) : wpAnyH P .any ops Q S (fuel + 1) listed a w := by
  unfold holdFree at hf
  rw [Bool.and_eq_true] at hf
  exact wpAnyH_take hi hc.sel hf.1 hf.2 (fun c a w => hc.pan c a oi.dst v w) (.inl ⟨by unfold Region.wanted; rw [hg]; exact hb, hy⟩) hS h
theorem hold_no (i : Nat) {oi : Oper} {j : Nat} {b : Bool} (hc : HoldCtx ops Q) (hS : S w) (hi : ops[i]? = some oi) (hg : oi.guard = some (j, b)) (hb : guardIs ops a j b = false) (hf : holdFree ops listed i = true)
    (h : wpAnyH P .any ops Q S fuel (listed.setIfInBounds i true) (a.put oi.dst undef) w) : wpAnyH P .any ops Q S (fuel + 1) listed a w := by
  unfold holdFree at hf
  rw [Bool.and_eq_true] at hf
  exact wpAnyH_take hi hc.sel hf.1 hf.2 (fun c a w => hc.pan c a oi.dst undef w) (.inr ⟨by unfold Region.wanted; rw [hg]; exact hb, rfl⟩) hS h
theorem hold_call (i : Nat) {oi : Oper} (hi : ops[i]? = some oi) (hw : Region.wanted oi (yielded ops a.tmps) = true) (hr : Region.ready .any ops listed = [i])
    (h : ∀ K' : Act → World → Prop, Shut (∀ a w, S w → (S w → wpAnyH P .any ops Q S fuel (listed.setIfInBounds i true) a w) → K' a w) → Oper.wp P oi a w K' Q) : wpAnyH P .any ops Q S (fuel + 1) listed a w :=
  wpAnyH_ready hr (by simp) (AllReadyH.cons hi (fun K hK => by rw [if_pos hw]; exact h K hK) AllReadyH.nil)
theorem hold_call0 (i : Nat) {oi : Oper} (hi : ops[i]? = some oi) (hg : oi.guard = none) (hr : Region.ready .any ops listed = [i])
    (h : ∀ K' : Act → World → Prop, Shut (∀ a w, S w → (S w → wpAnyH P .any ops Q S fuel (listed.setIfInBounds i true) a w) → K' a w) → Oper.wp P oi a w K' Q) : wpAnyH P .any ops Q S (fuel + 1) listed a w :=
  hold_call i hi (by simp [Region.wanted, hg]) hr h
theorem hold_call1 (i : Nat) {oi : Oper} {j : Nat} {b : Bool} (hi : ops[i]? = some oi) (hg : oi.guard = some (j, b)) (hb : guardIs ops a j b = true) (hr : Region.ready .any ops listed = [i])
    (h : ∀ K' : Act → World → Prop, Shut (∀ a w, S w → (S w → wpAnyH P .any ops Q S fuel (listed.setIfInBounds i true) a w) → K' a w) → Oper.wp P oi a w K' Q) : wpAnyH P .any ops Q S (fuel + 1) listed a w :=
  hold_call i hi (by unfold Region.wanted; rw [hg]; exact hb) hr h
end
end Go.Proofs.YtbkoignjagobaaaDoor
