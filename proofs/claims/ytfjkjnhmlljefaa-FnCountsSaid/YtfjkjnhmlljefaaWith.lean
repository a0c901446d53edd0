/-
  The reference takes a cell out of a region.
-/
import Derived.Test.YtfjkjnhmlljefaaRect
import Derived.Test.YtfjkjnhmlljefaaHas
import Derived.Test.YtfjkjnhmlljefaaDpK
import Derived.Maps.AppendAt
namespace Go.Proofs.Ytfjkjnhmlljefaa
open Go.RowKit
set_option linter.unusedVariables false
set_option linter.unusedSimpArgs false

theorem OwnI.new (w : World) (B : Nat) (hB : B ≤ w.heap.size) (o : Obj) (ho : o = .cells #[] 3) : OwnI (w.alloc o) B (.slice (some ⟨w.heap.size, 0, none⟩) 0 0) [] := by
  subst ho
  exact World.ownsRow_made w #[] 0 hB (by simp [maxLen]) (by simp)
theorem OwnI.new' (w : World) (B g : Nat) (hB : B ≤ w.heap.size) (hg : g = w.heap.size) : (w.alloc (.cells #[] 3)).ownsRow B 3 1 (.slice (some ⟨g, 0, none⟩) 0 0) 0 [] := by
  subst hg
  exact OwnI.new w B hB _ rfl
theorem flatI_one (L : List Int) : ∀ u ∈ flatI L, u.oneCell' = true := by
  intro u hu
  simp only [flatI, List.mem_map] at hu
  obtain ⟨p, -, rfl⟩ := hu
  rfl
theorem RdI.src {w : World} {b off : Nat} {zs : List Int} (h : ∀ j, j < (zs.map (Value.int .i64)).length → w.cell? ⟨b, off + j, none⟩ = (zs.map (Value.int .i64))[j]?) : ∀ j u, (flatI zs)[j]? = some u → w.cell? ((⟨b, off, none⟩ : Addr).add j) = some u := by
  intro j u hu
  have hj : j < (flatI zs).length := (List.getElem?_eq_some_iff.1 hu).1
  rw [show ((⟨b, off, none⟩ : Addr).add j) = ⟨b, off + j, none⟩ by unfold Addr.add; split <;> simp_all]
  rw [h j hj]
  exact hu
theorem own_someI {w : World} {B e s n : Nat} {v : Value} {xs : List Value} (h : w.ownsRow B e s v n xs) (hn : v ≠ .slice none 0 0) : ∃ g c, v = .slice (some ⟨g, 0, none⟩) n c ∧ B ≤ g ∧ g < w.heap.size ∧ n ≤ c := by
  rcases h.2 with ⟨hv, -⟩ | ⟨g, cap, cur, hv, hg, hh, hc, r⟩
  · exact absurd hv hn
  · exact ⟨g, cap, hv, hg, (Array.getElem?_eq_some_iff.1 hh).1, hc⟩
theorem src_below {w W : World} {ad : Addr} {xs : List Value} (h : ∀ j u, xs[j]? = some u → w.cell? (ad.add j) = some u) (ha : ad.block < w.heap.size) (hb : Below w.heap.size w W) : ∀ j u, xs[j]? = some u → W.cell? (ad.add j) = some u := by
  intro j u hu
  rw [← h j u hu]
  exact hb.cell (p := ad.add j) (by unfold Addr.add; split <;> exact ha)
theorem ownI_base {w : World} {B B' : Nat} {v : Value} {L : List Int} (h : OwnI w B v L) (hb : B' ≤ B) : OwnI w B' v L := by
  refine ⟨h.1, ?_⟩
  rcases h.2 with h2 | ⟨g, cap, cur, hv, hg, r⟩
  · exact .inl h2
  · exact .inr ⟨g, cap, cur, hv, by omega, r⟩
set_option maxHeartbeats 1600000 in
set_option maxRecDepth 100000 in
theorem l03Copy_any (b off n c : Nat) (zs : List Int) (w : World) (hz : zs.length = n) (hn : n ≤ 8) (hb : b < w.heap.size) (hr : ∀ j, j < (zs.map (Value.int .i64)).length → w.cell? ⟨b, off + j, none⟩ = (zs.map (Value.int .i64))[j]?) :
    Calls Try.prog 64 #[.agg #[.slice (some ⟨b, off, none⟩) n c]] w fun e w' => ∃ g c', e = .returned (.agg #[.slice (some ⟨g, 0, none⟩) n c']) ∧ OwnI w' w.heap.size (.slice (some ⟨g, 0, none⟩) n c') zs ∧ Below w.heap.size w w' := by
  obtain ⟨i0, hi, hz0, hz1, hz2⟩ := info_parts intInfo
  have HZ := Lib.hid hz
  have HS := Lib.hid (RdI.src hr)
  clear hz hr
  go_enter Try.func64, Try.ntmps64
  have HLn : Hid ((flatI zs).length = n * 1) := Lib.hid (by simp [flatI, HZ.out])
  go_wp2_with (at_builtin; go_must (refine wpList_append_own_at _ rfl _ _ 24 rfl (w.heap.size + 2) 3 i0 (.int .i64 0) 1 8 Try.underlying24 hi hz0 hz1 hz2 rfl (by decide) (.slice (some ⟨w.heap.size + 1 + 1, 0, none⟩) 0 0) 0 [] (by rfl) (OwnI.new' _ _ _ (by simp) (by simp)) ⟨b, off, none⟩ n c (flatI zs) (by rfl) HLn.out (src_below HS.out hb (by repeat' (first | assumption | (with_reducible exact Below.refl _ _) | (with_reducible refine Below.drew ?_) | (with_reducible refine Below.alloc ?_ ?_ _) | (with_reducible refine Below.setCell ?_ ?_ _) | omega | (simp; done) | (simp; omega)))) (flatI_one _) (by unfold maxLen; omega) (by omega) (by simp) ?_); intro v3 w3 hown3 hgrow3 hnil3 hat3; obtain ⟨g3, c3, rfl, hg3, hg3', hc3⟩ := own_someI hown3 (fun h => by have := (hnil3.1 h).1; cases this); go_must (have hG : Below (w.heap.size + 2) _ w3 := (Below.refl _ _).grown hgrow3 (by simp) (fun k h => by simp [Value.ownBlock] at h; omega); have hcr : w3.cell? ⟨w.heap.size + 1, 0, none⟩ = some (.slice none 0 0) := (hG.cell (p := ⟨w.heap.size + 1, 0, none⟩) (by simp)).trans (by go_simp); have hfr : w3.frozen? ⟨w.heap.size + 1, 0, none⟩ = false := (hG.frozen (p := ⟨w.heap.size + 1, 0, none⟩) (by simp)).trans (by go_simp); have hB3 : Below w.heap.size w w3 := Below.trans (by repeat' (first | assumption | (with_reducible exact Below.refl _ _) | (with_reducible refine Below.drew ?_) | (with_reducible refine Below.alloc ?_ ?_ _) | (with_reducible refine Below.setCell ?_ ?_ _) | omega | (simp; done) | (simp; omega))) (hG.mono (by omega)); have hs3 : w.heap.size + 2 ≤ w3.heap.size := Nat.le_trans (by simp) hG.size); go_must (have HO3 : Hid (OwnI w3 (w.heap.size + 2) (.slice (some ⟨g3, 0, none⟩) n c3) zs) := Lib.hid (by have h := hown3; simp only [Nat.zero_add, List.nil_append] at h; unfold OwnI; rw [HZ.out]; exact h)); clear hown3 hgrow3 hnil3 hat3 hG)
  have hcs : (w3.setCell ⟨w.heap.size + 1, 0, none⟩ (.slice (some ⟨g3, 0, none⟩) n c3)).cell? ⟨w.heap.size + 1, 0, none⟩ = some (.slice (some ⟨g3, 0, none⟩) n c3) := World.cell?_setCell_same _ _ _ hcr
  exact bodyPost_ret (v := .agg #[.slice (some ⟨g3, 0, none⟩) n c3]) (by simp [results, Try.results64, go_sem, hcs]) rfl ⟨g3, c3, rfl, ownI_base (HO3.out.set (p := w.heap.size + 1) (o := 0) (by omega) _) (by omega), Below.setCell hB3 (p := ⟨w.heap.size + 1, 0, none⟩) (by simp) _⟩
theorem OwnI.far {w : World} {B g n c : Nat} {L : List Int} (h : OwnI w B (.slice (some ⟨g, 0, none⟩) n c) L) {p : Addr} (hp : g ≠ p.block) (u : Value) : OwnI (w.setCell p u) B (.slice (some ⟨g, 0, none⟩) n c) L := by
  refine ⟨h.1, ?_⟩
  rcases h.2 with h2 | ⟨g', cap, cur, hv, hg, hh, r⟩
  · exact .inl h2
  · have e : g' = g := by injection hv with e1; injection e1 with e1; injection e1 with e1; exact e1.symm
    subst e
    refine .inr ⟨g', cap, cur, hv, hg, ?_, r⟩
    rw [Below.heap_setCell w p u g' hp]
    exact hh
theorem OwnI.at_ {w : World} {B g n c : Nat} {L : List Int} (h : OwnI w B (.slice (some ⟨g, 0, none⟩) n c) L) (hn : L.length = n) {k : Nat} (hk : k < L.length) : w.cell? ⟨g, k, none⟩ = some (.int .i64 (L.getD k 0)) ∧ w.frozen? ⟨g, k, none⟩ = false := by
  subst hn
  have h1 := h.cellAt k (by omega)
  refine ⟨?_, h.frozenAt k⟩
  rw [h1, flatI, List.getElem?_map, List.getElem?_eq_getElem hk, List.getD_eq_getElem?_getD, List.getElem?_eq_getElem hk]
  rfl
theorem OwnI.set_ {w : World} {B g n c : Nat} {L : List Int} (h : OwnI w B (.slice (some ⟨g, 0, none⟩) n c) L) (hn : L.length = n) (k : Nat) (z : Int) : OwnI (w.setCell ⟨g, k, none⟩ (.int .i64 z)) B (.slice (some ⟨g, 0, none⟩) n c) (L.set k z) := by
  subst hn
  have := (h.stored k (.int .i64 z)).1
  have e : (flatI L).set k (.int .i64 z) = flatI (L.set k z) := by simp [flatI, List.map_set]
  rw [e] at this
  unfold OwnI
  rw [List.length_set]
  exact this
theorem OwnI.below_ {w w' : World} {B : Nat} {v : Value} {L : List Int} (h : OwnI w B v L) (hb : Below w.heap.size w w') : OwnI w' B v L := own_below h hb
theorem OwnI.lt_ {w : World} {B g n c : Nat} {L : List Int} (h : OwnI w B (.slice (some ⟨g, 0, none⟩) n c) L) : B ≤ g ∧ g < w.heap.size := World.ownsRow.lt h g rfl
def lenOf : Option Value → Nat
  | some (.slice _ n _) => n
  | _ => 0
theorem small_bits {m x : Nat} (hm : m < 256) (hx : x < 8) (hb : m.testBit x = true) : m ||| 2 ^ x = m ∧ 2 ^ x ≤ m := by
  have h : ∀ (m : Fin 256) (x : Fin 8), m.val.testBit x.val = true → m.val ||| 2 ^ x.val = m.val ∧ 2 ^ x.val ≤ m.val := by decide +kernel
  exact h ⟨m, hm⟩ ⟨x, hx⟩ hb
/-- The rows of a region, eight of them. -/
def pad8 (zs : List Int) : List Int := zs ++ List.replicate (8 - zs.length) 0
/-- The rows without one cell. -/
def offL (zs : List Int) (x y : Nat) : List Int := (pad8 zs).set y ((pad8 zs).getD y 0 - 2 ^ x)
set_option maxHeartbeats 3200000 in
set_option maxRecDepth 100000 in
theorem withOff_any (b off n c : Nat) (zs : List Int) (x y m : Nat) (w : World) (hz : zs.length = n) (hok : rokB zs = true) (hx : x < 8) (hy : y < 8) (hm : (pad8 zs).getD y 0 = (m : Int)) (hm2 : m < 256) (hbit : m.testBit x = true) (hb : b < w.heap.size) (hr : ∀ j, j < (zs.map (Value.int .i64)).length → w.cell? ⟨b, off + j, none⟩ = (zs.map (Value.int .i64))[j]?) :
    Calls Try.prog 45 #[.agg #[.slice (some ⟨b, off, none⟩) n c], .agg #[.int .i64 (x : Int), .int .i64 (y : Int)], .bool false] w fun e w' => ∃ g c', e = .returned (.tuple #[.agg #[.slice (some ⟨g, 0, none⟩) 8 c'], .bool true]) ∧ OwnI w' w.heap.size (.slice (some ⟨g, 0, none⟩) 8 c') (offL zs x y) ∧ Below w.heap.size w w' := by
  obtain ⟨i0, hi, hz0, hz1, hz2⟩ := info_parts intInfo
  have h8 : n ≤ 8 := by have := (rok_iff.1 hok).1; omega
  have HZ := Lib.hid hz
  have HR0 : Hid (RdI w (some ⟨b, off, none⟩) zs) := Lib.hid (.inr ⟨b, off, rfl, hb, hr⟩)
  have HCP := Lib.hid (fun (W : World) (hbW : b < W.heap.size) (h : ∀ j, j < (zs.map (Value.int .i64)).length → W.cell? ⟨b, off + j, none⟩ = (zs.map (Value.int .i64))[j]?) => l03Copy_any b off n c zs W hz h8 hbW h)
  have HOK := Lib.hid (fun (W : World) (h : RdI W (some ⟨b, off, none⟩) zs) => by have g := specRok_any (some ⟨b, off, none⟩) n c zs W hz (by omega) h; rw [hok] at g; exact g)
  have HCO := Lib.hid (fun W : World => by have g := specOk_any (x : Int) (y : Int) W; rw [okB_iff.2 (show (0 ≤ (x : Int) ∧ (x : Int) ≤ 7) ∧ 0 ≤ (y : Int) ∧ (y : Int) ≤ 7 by omega)] at g; exact g)
  have HR1 := Lib.hid hr
  have HM := Lib.hid hm
  have HB2 := Lib.hid (small_bits hm2 hx hbit)
  clear hz hok hr hm hbit
  go_enter Try.func45, Try.ntmps45
  go_wp2_with (go_at_call 64; fail)
  refine (HCP.out _ (by simp; omega) (fun j hj => (Below.cell (B := w.heap.size) (w := w) (by repeat' (first | assumption | (with_reducible exact Below.refl _ _) | (with_reducible refine Below.drew ?_) | (with_reducible refine Below.alloc ?_ ?_ _) | (with_reducible refine Below.setCell ?_ ?_ _) | omega | (simp; done) | (simp; omega))) (p := ⟨b, off + j, none⟩) hb).trans (HR1.out j hj))).mono ?_
  rintro e wk ⟨g0, c0, rfl, hO, hbk⟩
  have hb := hbk
  clear hbk
  have hbx : True := trivial
  have hby : True := trivial
  have hbr : True := trivial
  have hbf : True := trivial
  have hzkwk := hb.size
  (try simp at hzkwk)
  have hbx : wk.cell? ⟨w.heap.size + 1, 0, none⟩ = some (.int .i64 (x : Int)) := (hb.cell (p := ⟨w.heap.size + 1, 0, none⟩) (by first | omega | (simp; done) | (simp; omega))).trans (by go_simp)
  have hby : wk.cell? ⟨w.heap.size + 1, 1, none⟩ = some (.int .i64 (y : Int)) := (hb.cell (p := ⟨w.heap.size + 1, 1, none⟩) (by first | omega | (simp; done) | (simp; omega))).trans (by go_simp)
  have hbr : wk.cell? ⟨w.heap.size + 1 + 1, 0, none⟩ = some (.slice none 0 0) := (hb.cell (p := ⟨w.heap.size + 1 + 1, 0, none⟩) (by first | omega | (simp; done) | (simp; omega))).trans (by go_simp)
  have hbf : wk.frozen? ⟨w.heap.size + 1 + 1, 0, none⟩ = false := (hb.frozen (p := ⟨w.heap.size + 1 + 1, 0, none⟩) (by first | omega | (simp; done) | (simp; omega))).trans (by go_simp)
  have hsrc : RdI wk (some ⟨b, off, none⟩) zs := Rd.below HR0.out (Below.trans (by repeat' (first | assumption | (with_reducible exact Below.refl _ _) | (with_reducible refine Below.drew ?_) | (with_reducible refine Below.alloc ?_ ?_ _) | (with_reducible refine Below.setCell ?_ ?_ _) | omega | (simp; done) | (simp; omega))) (hb.mono (by first | omega | (simp; done) | (simp; omega))))
  have hcr : wk.cell? ⟨w.heap.size, 0, none⟩ = some (.slice (some ⟨b, off, none⟩) n c) := (hb.cell (p := ⟨w.heap.size, 0, none⟩) (by first | omega | (simp; done) | (simp; omega))).trans (by go_simp)
  have hBk : Below w.heap.size w wk := Below.trans (by repeat' (first | assumption | (with_reducible exact Below.refl _ _) | (with_reducible refine Below.drew ?_) | (with_reducible refine Below.alloc ?_ ?_ _) | (with_reducible refine Below.setCell ?_ ?_ _) | omega | (simp; done) | (simp; omega))) (hb.mono (by first | omega | (simp; done) | (simp; omega)))
  have hO := Lib.hid (ownI_base hO (show w.heap.size + 3 ≤ _ from (by first | omega | (simp; done) | (simp; omega))))
  have hgl := OwnI.lt_ hO.out
  clear hb
  have hwk0 : w.heap.size < wk.heap.size := by omega
  have hwk1 : w.heap.size + 1 < wk.heap.size := by omega
  have hwk2 : w.heap.size + 1 + 1 < wk.heap.size := by omega
  go_wp2_with (go_at_call 33; fail)
  refine (HOK.out _ (Rd.below hsrc (by repeat' (first | assumption | (with_reducible exact Below.refl _ _) | (with_reducible refine Below.drew ?_) | (with_reducible refine Below.alloc ?_ ?_ _) | (with_reducible refine Below.setCell ?_ ?_ _) | omega | (simp; done) | (simp; omega))))).mono ?_
  rintro e wl ⟨rfl, hb⟩
  have hzkwl := hb.size
  (try simp at hzkwl)
  replace hbx : wl.cell? ⟨w.heap.size + 1, 0, none⟩ = some (.int .i64 (x : Int)) := (hb.cell (p := ⟨w.heap.size + 1, 0, none⟩) (by first | omega | (simp; done) | (simp; omega))).trans (by first | exact hbx | go_simp)
  replace hby : wl.cell? ⟨w.heap.size + 1, 1, none⟩ = some (.int .i64 (y : Int)) := (hb.cell (p := ⟨w.heap.size + 1, 1, none⟩) (by first | omega | (simp; done) | (simp; omega))).trans (by first | exact hby | go_simp)
  replace hbr : wl.cell? ⟨w.heap.size + 1 + 1, 0, none⟩ = some (.slice none 0 0) := (hb.cell (p := ⟨w.heap.size + 1 + 1, 0, none⟩) (by first | omega | (simp; done) | (simp; omega))).trans (by first | exact hbr | go_simp)
  replace hbf : wl.frozen? ⟨w.heap.size + 1 + 1, 0, none⟩ = false := (hb.frozen (p := ⟨w.heap.size + 1 + 1, 0, none⟩) (by first | omega | (simp; done) | (simp; omega))).trans (by first | exact hbf | go_simp)
  have hco' : wl.cell? ⟨wk.heap.size, 0, none⟩ = some (.slice (some ⟨g0, 0, none⟩) n c0) := (hb.cell (p := ⟨wk.heap.size, 0, none⟩) (by first | omega | (simp; done) | (simp; omega))).trans (by first | exact hco | go_simp)
  (try clear hco)
  have hco := hco'
  clear hco'
  have hcf' : wl.frozen? ⟨wk.heap.size, 0, none⟩ = false := (hb.frozen (p := ⟨wk.heap.size, 0, none⟩) (by first | omega | (simp; done) | (simp; omega))).trans (by first | exact hcf | go_simp)
  (try clear hcf)
  have hcf := hcf'
  clear hcf'
  replace hsrc : RdI wl (some ⟨b, off, none⟩) zs := Rd.below (by repeat' (first | assumption | (with_reducible refine Rd.alloc ?_ _) | (with_reducible refine Rd.drew ?_))) hb
  replace hBk : Below w.heap.size w wl := below_step hb (by first | omega | (simp; done) | (simp; omega)) (by repeat' (first | assumption | (with_reducible exact Below.refl _ _) | (with_reducible refine Below.drew ?_) | (with_reducible refine Below.alloc ?_ ?_ _) | (with_reducible refine Below.setCell ?_ ?_ _) | omega | (simp; done) | (simp; omega)))
  replace hO : Hid (OwnI wl (w.heap.size + 3) (.slice (some ⟨g0, 0, none⟩) n c0) zs) := Lib.hid (OwnI.below_ (by first | exact hO.out | exact World.ownsRow.alloc hO.out _) hb)
  have hswl : wk.heap.size + 1 ≤ wl.heap.size := (by first | omega | (simp; done) | (simp; omega))
  clear hb
  have hl1 : w.heap.size < wl.heap.size := by omega
  have hl2 : w.heap.size + 1 < wl.heap.size := by omega
  have hl3 : w.heap.size + 1 + 1 < wl.heap.size := by omega
  have hl4 : wk.heap.size < wl.heap.size := by omega
  go_wp2_with (go_at_call 52; fail)
  refine (HCO.out _).mono ?_
  rintro e wm ⟨rfl, hb⟩
  have hzkwm := hb.size
  (try simp at hzkwm)
  replace hbx : wm.cell? ⟨w.heap.size + 1, 0, none⟩ = some (.int .i64 (x : Int)) := (hb.cell (p := ⟨w.heap.size + 1, 0, none⟩) (by first | omega | (simp; done) | (simp; omega))).trans (by first | exact hbx | go_simp)
  replace hby : wm.cell? ⟨w.heap.size + 1, 1, none⟩ = some (.int .i64 (y : Int)) := (hb.cell (p := ⟨w.heap.size + 1, 1, none⟩) (by first | omega | (simp; done) | (simp; omega))).trans (by first | exact hby | go_simp)
  replace hbr : wm.cell? ⟨w.heap.size + 1 + 1, 0, none⟩ = some (.slice none 0 0) := (hb.cell (p := ⟨w.heap.size + 1 + 1, 0, none⟩) (by first | omega | (simp; done) | (simp; omega))).trans (by first | exact hbr | go_simp)
  replace hbf : wm.frozen? ⟨w.heap.size + 1 + 1, 0, none⟩ = false := (hb.frozen (p := ⟨w.heap.size + 1 + 1, 0, none⟩) (by first | omega | (simp; done) | (simp; omega))).trans (by first | exact hbf | go_simp)
  have hco' : wm.cell? ⟨wk.heap.size, 0, none⟩ = some (.slice (some ⟨g0, 0, none⟩) n c0) := (hb.cell (p := ⟨wk.heap.size, 0, none⟩) (by first | omega | (simp; done) | (simp; omega))).trans (by first | exact hco | go_simp)
  (try clear hco)
  have hco := hco'
  clear hco'
  have hcf' : wm.frozen? ⟨wk.heap.size, 0, none⟩ = false := (hb.frozen (p := ⟨wk.heap.size, 0, none⟩) (by first | omega | (simp; done) | (simp; omega))).trans (by first | exact hcf | go_simp)
  (try clear hcf)
  have hcf := hcf'
  clear hcf'
  replace hsrc : RdI wm (some ⟨b, off, none⟩) zs := Rd.below (by repeat' (first | assumption | (with_reducible refine Rd.alloc ?_ _) | (with_reducible refine Rd.drew ?_))) hb
  replace hBk : Below w.heap.size w wm := below_step hb (by first | omega | (simp; done) | (simp; omega)) (by repeat' (first | assumption | (with_reducible exact Below.refl _ _) | (with_reducible refine Below.drew ?_) | (with_reducible refine Below.alloc ?_ ?_ _) | (with_reducible refine Below.setCell ?_ ?_ _) | omega | (simp; done) | (simp; omega)))
  replace hO : Hid (OwnI wm (w.heap.size + 3) (.slice (some ⟨g0, 0, none⟩) n c0) zs) := Lib.hid (OwnI.below_ (by first | exact hO.out | exact World.ownsRow.alloc hO.out _) hb)
  have hswm : wk.heap.size + 1 ≤ wm.heap.size := (by first | omega | (simp; done) | (simp; omega))
  clear hb
  have hm1 : w.heap.size < wm.heap.size := by omega
  have hm2' : w.heap.size + 1 < wm.heap.size := by omega
  have hm3 : w.heap.size + 1 + 1 < wm.heap.size := by omega
  have hm4 : wk.heap.size < wm.heap.size := by omega
  have HP0 : Hid (pad8 zs = zs ++ List.replicate (8 - zs.length) 0) := Lib.hid rfl
  go_wp2_with fail
  go_loopw [] (fun wr => ∃ (L : List Int) (g c' : Nat), L.length ≤ 8 ∧ n ≤ L.length ∧ wr.cell? ⟨wk.heap.size, 0, none⟩ = some (.slice (some ⟨g, 0, none⟩) L.length c') ∧ wr.frozen? ⟨wk.heap.size, 0, none⟩ = false ∧ Hid (OwnI wr (w.heap.size + 3) (.slice (some ⟨g, 0, none⟩) L.length c') L) ∧ Hid (L = zs ++ List.replicate (L.length - n) 0) ∧ ¬ g = wk.heap.size ∧ wr.cell? ⟨w.heap.size + 1, 0, none⟩ = some (.int .i64 (x : Int)) ∧ wr.cell? ⟨w.heap.size + 1, 1, none⟩ = some (.int .i64 (y : Int)) ∧ wr.cell? ⟨w.heap.size + 1 + 1, 0, none⟩ = some (.slice none 0 0) ∧ wr.frozen? ⟨w.heap.size + 1 + 1, 0, none⟩ = false ∧ Below w.heap.size w wr ∧ wk.heap.size + 1 ≤ wr.heap.size) (fun wr => 8 - lenOf (wr.cell? ⟨wk.heap.size, 0, none⟩))
  case atStart => exact ⟨zs, g0, c0, by rw [HZ.out]; exact h8, by rw [HZ.out]; exact Nat.le_refl _, by rw [HZ.out]; exact hco, hcf, by rw [HZ.out]; exact hO, Lib.hid (by rw [HZ.out]; simp), by omega, hbx, hby, hbr, hbf, hBk, by omega⟩
  case round =>
    clear hco hcf hO hbx hby hbr hbf hBk hsrc hcr hl1 hl2 hl3 hl4 hm1 hm2' hm3 hm4
    obtain ⟨L, g, c', hL8, hnL, hco, hcf, hO, hL, hne, hbx, hby, hbr, hbf, hB, hs⟩ := hrel
    have hgr := OwnI.lt_ hO.out
    have hr0 : w.heap.size < wr.heap.size := by omega
    have hr1 : w.heap.size + 1 < wr.heap.size := by omega
    have hr2 : w.heap.size + 1 + 1 < wr.heap.size := by omega
    have hr3 : wk.heap.size < wr.heap.size := by omega
    have hne' : ¬ wk.heap.size = g := fun h => hne h.symm
    by_cases hlt : L.length < 8
    · have hltI : (L.length : Int) < 8 := by omega
      go_wp2_with (at_builtin; go_must (refine wpList_append_own_at _ rfl _ _ 24 rfl (w.heap.size + 3) 3 i0 (.int .i64 0) 1 8 Try.underlying24 hi hz0 hz1 hz2 rfl (by decide) (.slice (some ⟨g, 0, none⟩) L.length c') L.length (flatI L) (by rfl) (World.ownsRow.alloc hO.out _) ⟨wr.heap.size, 0, none⟩ 1 1 [.int .i64 0] (by rfl) rfl (one_new _ _ _) (by intro u hu; simp at hu; subst hu; rfl) (by unfold maxLen; omega) (by omega) (by simp; omega) ?_); intro v3 w3 hown3 hgrow3 hnil3 hat3; go_must (obtain ⟨g3, c3, rfl, hg3, hg3', hc3⟩ := own_someI hown3 (fun h => by have := (hnil3.1 h).1; cases this); have hG : Below (w.heap.size + 3) _ w3 := (Below.refl _ _).grown hgrow3 (by simp; omega) (fun k h => by simp [Value.ownBlock] at h; omega); have hcw : w3.cell? ⟨wk.heap.size, 0, none⟩ = some (.slice (some ⟨g, 0, none⟩) L.length c') := (World.cell?_of_block (a := ⟨wk.heap.size, 0, none⟩) (hgrow3.block wk.heap.size (by simp; omega) (by simp [Value.ownBlock]; omega))).trans (by go_simp); have hfw : w3.frozen? ⟨wk.heap.size, 0, none⟩ = false := (World.frozen?_of_block (a := ⟨wk.heap.size, 0, none⟩) (hgrow3.block wk.heap.size (by simp; omega) (by simp [Value.ownBlock]; omega))).trans (by go_simp); have hx3 : w3.cell? ⟨w.heap.size + 1, 0, none⟩ = some (.int .i64 (x : Int)) := (hG.cell (p := ⟨w.heap.size + 1, 0, none⟩) (by simp)).trans (by go_simp); have hy3 : w3.cell? ⟨w.heap.size + 1, 1, none⟩ = some (.int .i64 (y : Int)) := (hG.cell (p := ⟨w.heap.size + 1, 1, none⟩) (by simp)).trans (by go_simp); have hq3 : w3.cell? ⟨w.heap.size + 1 + 1, 0, none⟩ = some (.slice none 0 0) := (hG.cell (p := ⟨w.heap.size + 1 + 1, 0, none⟩) (by simp)).trans (by go_simp); have hf3 : w3.frozen? ⟨w.heap.size + 1 + 1, 0, none⟩ = false := (hG.frozen (p := ⟨w.heap.size + 1 + 1, 0, none⟩) (by simp)).trans (by go_simp); have hB3 : Below w.heap.size w w3 := Below.trans (by repeat' (first | assumption | (with_reducible exact Below.refl _ _) | (with_reducible refine Below.drew ?_) | (with_reducible refine Below.alloc ?_ ?_ _) | (with_reducible refine Below.setCell ?_ ?_ _) | omega | (simp; done) | (simp; omega))) (hG.mono (by omega)); have hs3 : wk.heap.size + 1 ≤ w3.heap.size := Nat.le_trans (by simp; omega) hG.size; have hne3 : ¬ g3 = wk.heap.size := (by simp [Value.ownBlock] at hat3; omega); have hne4 : ¬ wk.heap.size = g3 := (fun h => hne3 h.symm); have HO3 : Hid (OwnI w3 (w.heap.size + 3) (.slice (some ⟨g3, 0, none⟩) (L.length + 1) c3) (L ++ [0])) := Lib.hid (by unfold OwnI; rw [flatI_app, List.length_append]; exact hown3)); clear hown3 hgrow3 hnil3 hat3 hG)
      go_roundw
      case rel => exact ⟨L ++ [0], g3, c3, by simp; omega, by simp; omega, by rw [World.cell?_setCell_same _ _ _ hcw]; simp, by go_simp, Lib.hid (by simpa using OwnI.far HO3.out (p := ⟨wk.heap.size, 0, none⟩) hne3 _), Lib.hid (by rw [List.length_append]; have e : L.length + [(0 : Int)].length - n = (L.length - n) + 1 := (by simp; omega); rw [e, List.replicate_succ', ← List.append_assoc, ← hL.out]), hne3, by go_simp, by go_simp, by go_simp, by go_simp, Below.setCell hB3 (p := ⟨wk.heap.size, 0, none⟩) (by simp; omega) _, by simpa using hs3⟩
      case measure => rw [World.cell?_setCell_same _ _ _ hcw, hco]; simp [lenOf]; omega
    · have hLn : L.length = 8 := by omega
      have hLp : Hid (L = pad8 zs) := Lib.hid (by rw [HP0.out, HZ.out, ← hLn]; exact hL.out)
      obtain ⟨hc8, hf8⟩ := OwnI.at_ hO.out rfl (k := y) (by omega)
      rw [show L.getD y 0 = (m : Int) by rw [hLp.out]; exact HM.out] at hc8
      have hLm : Hid (L.set y (m : Int) = L) := Lib.hid (by
        have e : L.getD y 0 = (m : Int) := by rw [hLp.out]; exact HM.out
        rw [List.getD_eq_getElem?_getD, List.getElem?_eq_getElem (by omega)] at e
        rw [← e]; exact List.set_getElem_self (by omega))
      have hLs : Hid (L.set y ((m : Int) - 2 ^ x) = offL zs x y) := Lib.hid (by rw [offL, ← hLp.out, show L.getD y 0 = (m : Int) by rw [hLp.out]; exact HM.out])
      have HLn := Lib.hid hLn
      rw [hLn] at hco hO
      obtain ⟨P, hP⟩ : ∃ P : Nat, P = 2 ^ x := ⟨_, rfl⟩
      have HPN := Lib.hid hP
      have HPZ : Hid ((P : Int) = 2 ^ x) := Lib.hid (by rw [hP]; simp)
      have hPb : P < 256 := by rw [hP]; exact Nat.lt_of_lt_of_le (Nat.pow_lt_pow_right (by omega) hx) (by decide)
      have hPm : P ≤ m := by rw [hP]; exact HB2.out.2
      have eP : IntKind.i64.wrap ((2 : Int) ^ x) = (P : Int) := by rw [hP]; exact i64_pow (by omega)
      have eO : bits .or .i64 (m : Int) (P : Int) = (m : Int) := by rw [(i64_bits_small (by omega) (by omega)).1, HPN.out, HB2.out.1]
      have eO2 : bits .or .i64 (m : Int) (2 ^ x) = (m : Int) := by rw [← HPZ.out]; exact eO
      obtain ⟨r, hr⟩ : ∃ r : Nat, r = m - P := ⟨_, rfl⟩
      have e1 : (m : Int) - (P : Int) = (r : Int) := by omega
      have e5 : IntKind.i64.wrap (r : Int) = (r : Int) := by rw [IntKind.wrap_i64]; omega
      have e4 : (m : Int) - 2 ^ x = (r : Int) := by rw [← HPZ.out]; exact e1
      have hLs : Hid (L.set y (r : Int) = offL zs x y) := Lib.hid (by rw [← hLs.out, e4])
      clear hP hr hL hnL hL8 hlt
      go_wp2_with fail
      have hg1 : ¬ g = w.heap.size + 1 := by omega
      have hg2 : ¬ w.heap.size + 1 = g := by omega
      have hg3 : ¬ g = w.heap.size + 1 + 1 := by omega
      have hg4 : ¬ w.heap.size + 1 + 1 = g := by omega
      have hyI : (y : Int) < 8 := by omega
      refine hold_start (S := (fun w' => w'.cell? ⟨wk.heap.size, 0, none⟩ = some (.slice (some ⟨g, 0, none⟩) 8 c') ∧ w'.cell? ⟨w.heap.size + 1, 0, none⟩ = some (.int .i64 (x : Int)) ∧ w'.cell? ⟨w.heap.size + 1, 1, none⟩ = some (.int .i64 (y : Int)) ∧ Below (w.heap.size + 3) wr w' ∧ wr.heap.size ≤ w'.heap.size)) (by kernel_rfl) (by kernel_rfl) (by intro _ _ d _ _ h; cases d <;> exact h) ?_ (fun hHC hH0 => ?_)
      · (first | (go_keep; done) | ((try go_split_ands); (repeat' apply And.intro) <;> first | assumption | (with_reducible refine Rd.below ?_ hb1; assumption) | (with_reducible refine Rd.drew ?_; repeat' (first | assumption | (with_reducible refine Rd.alloc ?_ _))) | (refine (hb1.cell (by first | omega | (simp; done) | (simp; omega))).trans ?_; first | assumption | simp) | (exact below_step hb1 (by first | omega | (simp; done) | (simp; omega)) (by assumption)) | (have hz' := hb1.size; (try simp at hz'); omega) | ((repeat' (first | assumption | (with_reducible exact Below.refl _ _) | (with_reducible refine Below.drew ?_) | (with_reducible refine Below.alloc ?_ ?_ _) | (with_reducible refine Below.setCell ?_ ?_ _) | omega | (simp; done) | (simp; omega))); done) | go_simp | (simp; done) | (simp; omega)))
      refine hold_plain 0 (v := ?_) hHC hH0 (by simp only [List.getElem?_toArray, List.getElem?_cons_succ, List.getElem?_cons_zero]; rfl) rfl (by kernel_rfl) ?_ ?_
      rotate_left 1
      · (intro w hSw; (try dsimp only at hSw); go_simp; try with_reducible rfl)
      try simp only [Act.put, List.setIfInBounds_toArray, List.set_cons_zero, List.set_cons_succ]
      refine hold_plain 1 (v := ?_) hHC hH0 (by simp only [List.getElem?_toArray, List.getElem?_cons_succ, List.getElem?_cons_zero]; rfl) rfl (by kernel_rfl) ?_ ?_
      rotate_left 1
      · (intro w hSw; (try dsimp only at hSw); go_simp; try with_reducible rfl)
      try simp only [Act.put, List.setIfInBounds_toArray, List.set_cons_zero, List.set_cons_succ]
      refine hold_plain 2 (v := ?_) hHC hH0 (by simp only [List.getElem?_toArray, List.getElem?_cons_succ, List.getElem?_cons_zero]; rfl) rfl (by kernel_rfl) ?_ ?_
      rotate_left 1
      · (intro w hSw; (try dsimp only at hSw); go_simp; try with_reducible rfl)
      try simp only [Act.put, List.setIfInBounds_toArray, List.set_cons_zero, List.set_cons_succ]
      refine hold_plain 3 (v := ?_) hHC hH0 (by simp only [List.getElem?_toArray, List.getElem?_cons_succ, List.getElem?_cons_zero]; rfl) rfl (by kernel_rfl) ?_ ?_
      rotate_left 1
      · (intro w hSw; (try dsimp only at hSw); go_simp; try with_reducible rfl)
      try simp only [Act.put, List.setIfInBounds_toArray, List.set_cons_zero, List.set_cons_succ]
      refine hold_plain 4 (v := ?_) hHC hH0 (by simp only [List.getElem?_toArray, List.getElem?_cons_succ, List.getElem?_cons_zero]; rfl) rfl (by kernel_rfl) ?_ ?_
      rotate_left 1
      · (intro w hSw; (try dsimp only at hSw); go_simp; try with_reducible rfl)
      try simp only [Act.put, List.setIfInBounds_toArray, List.set_cons_zero, List.set_cons_succ]
      refine hold_plain 5 (v := ?_) hHC hH0 (by simp only [List.getElem?_toArray, List.getElem?_cons_succ, List.getElem?_cons_zero]; rfl) rfl (by kernel_rfl) ?_ ?_
      rotate_left 1
      · (intro w hSw; (try dsimp only at hSw); go_simp; try with_reducible rfl)
      try simp only [Act.put, List.setIfInBounds_toArray, List.set_cons_zero, List.set_cons_succ]
      refine hold_plain 6 (v := ?_) hHC hH0 (by simp only [List.getElem?_toArray, List.getElem?_cons_succ, List.getElem?_cons_zero]; rfl) rfl (by kernel_rfl) ?_ ?_
      rotate_left 1
      · (intro w hSw; (try dsimp only at hSw); go_simp; try with_reducible rfl)
      try simp only [Act.put, List.setIfInBounds_toArray, List.set_cons_zero, List.set_cons_succ]
      refine hold_plain 7 (v := ?_) hHC hH0 (by simp only [List.getElem?_toArray, List.getElem?_cons_succ, List.getElem?_cons_zero]; rfl) rfl (by kernel_rfl) ?_ ?_
      rotate_left 1
      · (intro w hSw; (try dsimp only at hSw); go_simp; try with_reducible rfl)
      try simp only [Act.put, List.setIfInBounds_toArray, List.set_cons_zero, List.set_cons_succ]
      refine hold_plain 8 (v := ?_) hHC hH0 (by simp only [List.getElem?_toArray, List.getElem?_cons_succ, List.getElem?_cons_zero]; rfl) rfl (by kernel_rfl) ?_ ?_
      rotate_left 1
      · (intro w hSw; (try dsimp only at hSw); go_simp; try with_reducible rfl)
      try simp only [Act.put, List.setIfInBounds_toArray, List.set_cons_zero, List.set_cons_succ]
      refine hold_plain 10 (v := ?_) hHC hH0 (by simp only [List.getElem?_toArray, List.getElem?_cons_succ, List.getElem?_cons_zero]; rfl) rfl (by kernel_rfl) ?_ ?_
      rotate_left 1
      · (intro w hSw; (try dsimp only at hSw); go_simp; try with_reducible rfl)
      try simp only [Act.put, List.setIfInBounds_toArray, List.set_cons_zero, List.set_cons_succ]
      refine hold_plain 11 (v := ?_) hHC hH0 (by simp only [List.getElem?_toArray, List.getElem?_cons_succ, List.getElem?_cons_zero]; rfl) rfl (by kernel_rfl) ?_ ?_
      rotate_left 1
      · (intro w hSw; (try dsimp only at hSw); go_simp; try with_reducible rfl)
      try simp only [Act.put, List.setIfInBounds_toArray, List.set_cons_zero, List.set_cons_succ]
      refine hold_plain 12 (v := ?_) hHC hH0 (by simp only [List.getElem?_toArray, List.getElem?_cons_succ, List.getElem?_cons_zero]; rfl) rfl (by kernel_rfl) ?_ ?_
      rotate_left 1
      · (intro w hSw; (try dsimp only at hSw); go_simp; try with_reducible rfl)
      try simp only [Act.put, List.setIfInBounds_toArray, List.set_cons_zero, List.set_cons_succ]
      refine hold_call0 9 (by simp only [List.getElem?_toArray, List.getElem?_cons_succ, List.getElem?_cons_zero]; rfl) rfl (by kernel_rfl) (fun K hK => ?_)
      go_simp
      refine hK.out _ _ ?_ (fun hH1 => ?_)
      · (first | (go_keep; done) | ((try go_split_ands); (repeat' apply And.intro) <;> first | assumption | (with_reducible refine Rd.below ?_ hb1; assumption) | (with_reducible refine Rd.drew ?_; repeat' (first | assumption | (with_reducible refine Rd.alloc ?_ _))) | (refine (hb1.cell (by first | omega | (simp; done) | (simp; omega))).trans ?_; first | assumption | simp) | (exact below_step hb1 (by first | omega | (simp; done) | (simp; omega)) (by assumption)) | (have hz' := hb1.size; (try simp at hz'); omega) | ((repeat' (first | assumption | (with_reducible exact Below.refl _ _) | (with_reducible refine Below.drew ?_) | (with_reducible refine Below.alloc ?_ ?_ _) | (with_reducible refine Below.setCell ?_ ?_ _) | omega | (simp; done) | (simp; omega))); done) | go_simp | (simp; done) | (simp; omega)))
      clear hK K hH0
      try simp only [Act.put, List.setIfInBounds_toArray, List.set_cons_zero, List.set_cons_succ]
      refine hold_plain 13 (v := ?_) hHC hH1 (by simp only [List.getElem?_toArray, List.getElem?_cons_succ, List.getElem?_cons_zero]; rfl) rfl (by kernel_rfl) ?_ ?_
      rotate_left 1
      · (intro w hSw; (try dsimp only at hSw); go_simp; try with_reducible rfl)
      try simp only [Act.put, List.setIfInBounds_toArray, List.set_cons_zero, List.set_cons_succ]
      refine hold_plain 14 (v := ?_) hHC hH1 (by simp only [List.getElem?_toArray, List.getElem?_cons_succ, List.getElem?_cons_zero]; rfl) rfl (by kernel_rfl) ?_ ?_
      rotate_left 1
      · (intro w hSw; (try dsimp only at hSw); go_simp; try with_reducible rfl)
      try simp only [Act.put, List.setIfInBounds_toArray, List.set_cons_zero, List.set_cons_succ]
      refine hold_call0 15 (by simp only [List.getElem?_toArray, List.getElem?_cons_succ, List.getElem?_cons_zero]; rfl) rfl (by kernel_rfl) (fun K hK => ?_)
      go_simp
      refine hK.out _ _ ?_ (fun hH2 => ?_)
      · (first | (go_keep; done) | ((try go_split_ands); (repeat' apply And.intro) <;> first | assumption | (with_reducible refine Rd.below ?_ hb1; assumption) | (with_reducible refine Rd.drew ?_; repeat' (first | assumption | (with_reducible refine Rd.alloc ?_ _))) | (refine (hb1.cell (by first | omega | (simp; done) | (simp; omega))).trans ?_; first | assumption | simp) | (exact below_step hb1 (by first | omega | (simp; done) | (simp; omega)) (by assumption)) | (have hz' := hb1.size; (try simp at hz'); omega) | ((repeat' (first | assumption | (with_reducible exact Below.refl _ _) | (with_reducible refine Below.drew ?_) | (with_reducible refine Below.alloc ?_ ?_ _) | (with_reducible refine Below.setCell ?_ ?_ _) | omega | (simp; done) | (simp; omega))); done) | go_simp | (simp; done) | (simp; omega)))
      clear hK K hH1
      try simp only [Act.put, List.setIfInBounds_toArray, List.set_cons_zero, List.set_cons_succ]
      refine wpAnyH_done (by kernel_rfl) ?_ _
      (try dsimp only at hH2)
      go_split_ands
      clear hHC
      obtain ⟨wz, hW⟩ : ∃ wz, wz = (wr.setCell ⟨g, y, none⟩ (.int .i64 (m : Int))).drew := ⟨_, rfl⟩
      rw [← hW]
      have hO' := OwnI.set_ hO.out HLn.out y (m : Int)
      rw [hLm.out] at hO'
      replace hO : Hid (OwnI wz (w.heap.size + 3) (.slice (some ⟨g, 0, none⟩) 8 c') L) := Lib.hid (by rw [hW]; exact hO')
      replace hco : wz.cell? ⟨wk.heap.size, 0, none⟩ = some (.slice (some ⟨g, 0, none⟩) 8 c') := by rw [hW]; go_simp
      replace hcf : wz.frozen? ⟨wk.heap.size, 0, none⟩ = false := by rw [hW]; go_simp
      replace hbx : wz.cell? ⟨w.heap.size + 1, 0, none⟩ = some (.int .i64 (x : Int)) := by rw [hW]; go_simp
      replace hby : wz.cell? ⟨w.heap.size + 1, 1, none⟩ = some (.int .i64 (y : Int)) := by rw [hW]; go_simp
      replace hbr : wz.cell? ⟨w.heap.size + 1 + 1, 0, none⟩ = some (.slice none 0 0) := by rw [hW]; go_simp
      replace hbf : wz.frozen? ⟨w.heap.size + 1 + 1, 0, none⟩ = false := by rw [hW]; go_simp
      replace hB : Below w.heap.size w wz := by rw [hW]; exact (Below.setCell hB (p := ⟨g, y, none⟩) (by simp; omega) _).drew
      have hqwz : w.heap.size + 1 + 1 < wz.heap.size := by rw [hW]; simp; omega
      obtain ⟨hc8', hf8'⟩ := OwnI.at_ hO.out HLn.out (k := y) (by rw [HLn.out]; omega)
      rw [show L.getD y 0 = (m : Int) by rw [hLp.out]; exact HM.out] at hc8'
      clear hW hO' hc8 hf8
      go_wp2_with fail
      refine hold_start (S := (fun w' => w'.cell? ⟨wk.heap.size, 0, none⟩ = some (.slice (some ⟨g, 0, none⟩) 8 c') ∧ w'.cell? ⟨w.heap.size + 1, 0, none⟩ = some (.int .i64 (x : Int)) ∧ w'.cell? ⟨w.heap.size + 1, 1, none⟩ = some (.int .i64 (y : Int)) ∧ Below (w.heap.size + 3) wz w' ∧ wz.heap.size ≤ w'.heap.size)) (by kernel_rfl) (by kernel_rfl) (by intro _ _ d _ _ h; cases d <;> exact h) ?_ (fun hHC hH0 => ?_)
      · (first | (go_keep; done) | ((try go_split_ands); (repeat' apply And.intro) <;> first | assumption | (with_reducible refine Rd.below ?_ hb1; assumption) | (with_reducible refine Rd.drew ?_; repeat' (first | assumption | (with_reducible refine Rd.alloc ?_ _))) | (refine (hb1.cell (by first | omega | (simp; done) | (simp; omega))).trans ?_; first | assumption | simp) | (exact below_step hb1 (by first | omega | (simp; done) | (simp; omega)) (by assumption)) | (have hz' := hb1.size; (try simp at hz'); omega) | ((repeat' (first | assumption | (with_reducible exact Below.refl _ _) | (with_reducible refine Below.drew ?_) | (with_reducible refine Below.alloc ?_ ?_ _) | (with_reducible refine Below.setCell ?_ ?_ _) | omega | (simp; done) | (simp; omega))); done) | go_simp | (simp; done) | (simp; omega)))
      refine hold_plain 0 (v := ?_) hHC hH0 (by simp only [List.getElem?_toArray, List.getElem?_cons_succ, List.getElem?_cons_zero]; rfl) rfl (by kernel_rfl) ?_ ?_
      rotate_left 1
      · (intro w hSw; (try dsimp only at hSw); go_simp; try with_reducible rfl)
      try simp only [Act.put, List.setIfInBounds_toArray, List.set_cons_zero, List.set_cons_succ]
      refine hold_plain 1 (v := ?_) hHC hH0 (by simp only [List.getElem?_toArray, List.getElem?_cons_succ, List.getElem?_cons_zero]; rfl) rfl (by kernel_rfl) ?_ ?_
      rotate_left 1
      · (intro w hSw; (try dsimp only at hSw); go_simp; try with_reducible rfl)
      try simp only [Act.put, List.setIfInBounds_toArray, List.set_cons_zero, List.set_cons_succ]
      refine hold_plain 2 (v := ?_) hHC hH0 (by simp only [List.getElem?_toArray, List.getElem?_cons_succ, List.getElem?_cons_zero]; rfl) rfl (by kernel_rfl) ?_ ?_
      rotate_left 1
      · (intro w hSw; (try dsimp only at hSw); go_simp; try with_reducible rfl)
      try simp only [Act.put, List.setIfInBounds_toArray, List.set_cons_zero, List.set_cons_succ]
      refine hold_plain 3 (v := ?_) hHC hH0 (by simp only [List.getElem?_toArray, List.getElem?_cons_succ, List.getElem?_cons_zero]; rfl) rfl (by kernel_rfl) ?_ ?_
      rotate_left 1
      · (intro w hSw; (try dsimp only at hSw); go_simp; try with_reducible rfl)
      try simp only [Act.put, List.setIfInBounds_toArray, List.set_cons_zero, List.set_cons_succ]
      refine hold_plain 4 (v := ?_) hHC hH0 (by simp only [List.getElem?_toArray, List.getElem?_cons_succ, List.getElem?_cons_zero]; rfl) rfl (by kernel_rfl) ?_ ?_
      rotate_left 1
      · (intro w hSw; (try dsimp only at hSw); go_simp; try with_reducible rfl)
      try simp only [Act.put, List.setIfInBounds_toArray, List.set_cons_zero, List.set_cons_succ]
      refine hold_plain 5 (v := ?_) hHC hH0 (by simp only [List.getElem?_toArray, List.getElem?_cons_succ, List.getElem?_cons_zero]; rfl) rfl (by kernel_rfl) ?_ ?_
      rotate_left 1
      · (intro w hSw; (try dsimp only at hSw); go_simp; try with_reducible rfl)
      try simp only [Act.put, List.setIfInBounds_toArray, List.set_cons_zero, List.set_cons_succ]
      refine hold_plain 6 (v := ?_) hHC hH0 (by simp only [List.getElem?_toArray, List.getElem?_cons_succ, List.getElem?_cons_zero]; rfl) rfl (by kernel_rfl) ?_ ?_
      rotate_left 1
      · (intro w hSw; (try dsimp only at hSw); go_simp; try with_reducible rfl)
      try simp only [Act.put, List.setIfInBounds_toArray, List.set_cons_zero, List.set_cons_succ]
      refine hold_plain 7 (v := ?_) hHC hH0 (by simp only [List.getElem?_toArray, List.getElem?_cons_succ, List.getElem?_cons_zero]; rfl) rfl (by kernel_rfl) ?_ ?_
      rotate_left 1
      · (intro w hSw; (try dsimp only at hSw); go_simp; try with_reducible rfl)
      try simp only [Act.put, List.setIfInBounds_toArray, List.set_cons_zero, List.set_cons_succ]
      refine hold_plain 8 (v := ?_) hHC hH0 (by simp only [List.getElem?_toArray, List.getElem?_cons_succ, List.getElem?_cons_zero]; rfl) rfl (by kernel_rfl) ?_ ?_
      rotate_left 1
      · (intro w hSw; (try dsimp only at hSw); go_simp; try with_reducible rfl)
      try simp only [Act.put, List.setIfInBounds_toArray, List.set_cons_zero, List.set_cons_succ]
      refine hold_plain 10 (v := ?_) hHC hH0 (by simp only [List.getElem?_toArray, List.getElem?_cons_succ, List.getElem?_cons_zero]; rfl) rfl (by kernel_rfl) ?_ ?_
      rotate_left 1
      · (intro w hSw; (try dsimp only at hSw); go_simp; try with_reducible rfl)
      try simp only [Act.put, List.setIfInBounds_toArray, List.set_cons_zero, List.set_cons_succ]
      refine hold_plain 11 (v := ?_) hHC hH0 (by simp only [List.getElem?_toArray, List.getElem?_cons_succ, List.getElem?_cons_zero]; rfl) rfl (by kernel_rfl) ?_ ?_
      rotate_left 1
      · (intro w hSw; (try dsimp only at hSw); go_simp; try with_reducible rfl)
      try simp only [Act.put, List.setIfInBounds_toArray, List.set_cons_zero, List.set_cons_succ]
      refine hold_plain 12 (v := ?_) hHC hH0 (by simp only [List.getElem?_toArray, List.getElem?_cons_succ, List.getElem?_cons_zero]; rfl) rfl (by kernel_rfl) ?_ ?_
      rotate_left 1
      · (intro w hSw; (try dsimp only at hSw); go_simp; try with_reducible rfl)
      try simp only [Act.put, List.setIfInBounds_toArray, List.set_cons_zero, List.set_cons_succ]
      refine hold_call0 9 (by simp only [List.getElem?_toArray, List.getElem?_cons_succ, List.getElem?_cons_zero]; rfl) rfl (by kernel_rfl) (fun K hK => ?_)
      go_simp
      refine hK.out _ _ ?_ (fun hH1 => ?_)
      · (first | (go_keep; done) | ((try go_split_ands); (repeat' apply And.intro) <;> first | assumption | (with_reducible refine Rd.below ?_ hb1; assumption) | (with_reducible refine Rd.drew ?_; repeat' (first | assumption | (with_reducible refine Rd.alloc ?_ _))) | (refine (hb1.cell (by first | omega | (simp; done) | (simp; omega))).trans ?_; first | assumption | simp) | (exact below_step hb1 (by first | omega | (simp; done) | (simp; omega)) (by assumption)) | (have hz' := hb1.size; (try simp at hz'); omega) | ((repeat' (first | assumption | (with_reducible exact Below.refl _ _) | (with_reducible refine Below.drew ?_) | (with_reducible refine Below.alloc ?_ ?_ _) | (with_reducible refine Below.setCell ?_ ?_ _) | omega | (simp; done) | (simp; omega))); done) | go_simp | (simp; done) | (simp; omega)))
      clear hK K hH0
      try simp only [Act.put, List.setIfInBounds_toArray, List.set_cons_zero, List.set_cons_succ]
      refine hold_plain 13 (v := ?_) hHC hH1 (by simp only [List.getElem?_toArray, List.getElem?_cons_succ, List.getElem?_cons_zero]; rfl) rfl (by kernel_rfl) ?_ ?_
      rotate_left 1
      · (intro w hSw; (try dsimp only at hSw); go_simp; try with_reducible rfl)
      try simp only [Act.put, List.setIfInBounds_toArray, List.set_cons_zero, List.set_cons_succ]
      refine hold_plain 14 (v := ?_) hHC hH1 (by simp only [List.getElem?_toArray, List.getElem?_cons_succ, List.getElem?_cons_zero]; rfl) rfl (by kernel_rfl) ?_ ?_
      rotate_left 1
      · (intro w hSw; (try dsimp only at hSw); go_simp; try with_reducible rfl)
      try simp only [Act.put, List.setIfInBounds_toArray, List.set_cons_zero, List.set_cons_succ]
      refine hold_call0 15 (by simp only [List.getElem?_toArray, List.getElem?_cons_succ, List.getElem?_cons_zero]; rfl) rfl (by kernel_rfl) (fun K hK => ?_)
      go_simp
      refine hK.out _ _ ?_ (fun hH2 => ?_)
      · (first | (go_keep; done) | ((try go_split_ands); (repeat' apply And.intro) <;> first | assumption | (with_reducible refine Rd.below ?_ hb1; assumption) | (with_reducible refine Rd.drew ?_; repeat' (first | assumption | (with_reducible refine Rd.alloc ?_ _))) | (refine (hb1.cell (by first | omega | (simp; done) | (simp; omega))).trans ?_; first | assumption | simp) | (exact below_step hb1 (by first | omega | (simp; done) | (simp; omega)) (by assumption)) | (have hz' := hb1.size; (try simp at hz'); omega) | ((repeat' (first | assumption | (with_reducible exact Below.refl _ _) | (with_reducible refine Below.drew ?_) | (with_reducible refine Below.alloc ?_ ?_ _) | (with_reducible refine Below.setCell ?_ ?_ _) | omega | (simp; done) | (simp; omega))); done) | go_simp | (simp; done) | (simp; omega)))
      clear hK K hH1
      try simp only [Act.put, List.setIfInBounds_toArray, List.set_cons_zero, List.set_cons_succ]
      refine wpAnyH_done (by kernel_rfl) ?_ _
      (try dsimp only at hH2)
      go_split_ands
      clear hHC
      obtain ⟨wy, hW⟩ : ∃ wy, wy = (wz.setCell ⟨g, y, none⟩ (.int .i64 (r : Int))).drew := ⟨_, rfl⟩
      rw [← hW]
      have hO' := OwnI.set_ hO.out HLn.out y (r : Int)
      rw [hLs.out] at hO'
      replace hO : Hid (OwnI wy (w.heap.size + 3) (.slice (some ⟨g, 0, none⟩) 8 c') (offL zs x y)) := Lib.hid (by rw [hW]; exact hO')
      replace hco : wy.cell? ⟨wk.heap.size, 0, none⟩ = some (.slice (some ⟨g, 0, none⟩) 8 c') := by rw [hW]; go_simp
      replace hcf : wy.frozen? ⟨wk.heap.size, 0, none⟩ = false := by rw [hW]; go_simp
      replace hbx : wy.cell? ⟨w.heap.size + 1, 0, none⟩ = some (.int .i64 (x : Int)) := by rw [hW]; go_simp
      replace hby : wy.cell? ⟨w.heap.size + 1, 1, none⟩ = some (.int .i64 (y : Int)) := by rw [hW]; go_simp
      replace hbr : wy.cell? ⟨w.heap.size + 1 + 1, 0, none⟩ = some (.slice none 0 0) := by rw [hW]; go_simp
      replace hbf : wy.frozen? ⟨w.heap.size + 1 + 1, 0, none⟩ = false := by rw [hW]; go_simp
      replace hB : Below w.heap.size w wy := by rw [hW]; exact (Below.setCell hB (p := ⟨g, y, none⟩) (by simp; omega) _).drew
      have hqwy : w.heap.size + 1 + 1 < wy.heap.size := by rw [hW]; simp; omega
      clear hW hO'
      go_wp2
      have hcs : (wy.setCell ⟨w.heap.size + 1 + 1, 0, none⟩ (.slice (some ⟨g, 0, none⟩) 8 c')).cell? ⟨w.heap.size + 1 + 1, 0, none⟩ = some (.slice (some ⟨g, 0, none⟩) 8 c') := World.cell?_setCell_same _ _ _ hbr
      exact bodyPost_ret (v := .tuple #[.agg #[.slice (some ⟨g, 0, none⟩) 8 c'], .bool true]) (by simp [results, Try.results45, go_sem, hcs]) rfl ⟨g, c', rfl, ownI_base (OwnI.far hO.out (p := ⟨w.heap.size + 1 + 1, 0, none⟩) hg3 _) (by omega), Below.setCell hB (p := ⟨w.heap.size + 1 + 1, 0, none⟩) (by simp; omega) _⟩
end Go.Proofs.Ytfjkjnhmlljefaa
