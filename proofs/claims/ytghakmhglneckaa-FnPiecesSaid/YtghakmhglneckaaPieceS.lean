/-
  The reference's piece of a cell.
-/
import Derived.Test.YtghakmhglneckaaPieceI
import Derived.Test.YtghakmhglneckaaRowB
import Derived.Maps.AppendAt
namespace Go.Proofs.Ytghakmhglneckaa
open Go.RowKit
set_option linter.unusedVariables false
set_option linter.unusedSimpArgs false

theorem specHas_valP (a : Option Addr) (n c : Nat) (zs : List Int) (x y : Int) (w : World) (hz : zs.length = n) (hn : n ≤ 1048576) (hr : RdI w a zs) {b : Bool} (h : hcB zs x y = b) :
    Calls Try.prog 29 #[.agg #[.slice a n c], .agg #[.int .i64 x, .int .i64 y]] w fun e w' => e = .returned (.bool b) ∧ Below w.heap.size w w' := by
  subst h
  exact specHas_any a n c zs x y w hz hn hr
theorem specIdx_val (x y : Int) (q : Nat) (w : World) (h : okB x y = true) (hq : idxN (x, y) = q) : Calls Try.prog 46 #[.agg #[.int .i64 x, .int .i64 y]] w fun e w' => e = .returned (.int .i64 (q : Int)) ∧ Below w.heap.size w w' := by
  have g := specIdx_any x y w
  have := okB_iff.1 h
  rw [idxI_yes h, show y * 8 + x = (q : Int) by rw [← hq]; simp only [idxN]; omega] at g
  exact g
theorem l03_valP (a : Option Addr) (n c : Nat) (zs : List Int) (x y : Int) (w : World) (hz : zs.length = n) (hok : rokB zs = true) (hxy : okB x y = true) (hr : RdI w a zs) {b : Bool} (hb : hasB (setS zs) x y = b) :
    Calls Try.prog 48 #[.agg #[.slice a n c], .agg #[.int .i64 x, .int .i64 y]] w fun e w' => e = .returned (.bool b) ∧ Below w.heap.size w w' := by
  subst hb
  exact l03_any a n c zs x y w hz hok hxy hr
/-- The truth values of a search: which cells its list has. -/
def seenU (L : List CellI) : Nat → Bool := fun j => decide (cellOf j ∈ L)
theorem seen_snoc {w : World} {g : Nat} {L : List CellI} {p : CellI} (h : RowB w g 64 (upd (seenU L) (idxN p))) (hp : okB p.1 p.2 = true) : RowB w g 64 (seenU (L ++ [p])) := by
  obtain ⟨cur, h1, h2, h3⟩ := h
  refine ⟨cur, h1, h2, fun i hi => ?_⟩
  rw [h3 i hi]
  obtain ⟨c1, c2⟩ := cell_idx hp
  congr 2
  unfold upd seenU
  by_cases e : i = idxN p
  · rw [if_pos e, e, c2]; simp
  · rw [if_neg e]
    have : ¬ cellOf i = p := by
      intro h
      apply e
      rw [← h, idxN_at hi]
    simp [this]
theorem seen_one {w : World} {g : Nat} {p : CellI} (h : RowB w g 64 (upd (fun _ => false) (idxN p))) (hp : okB p.1 p.2 = true) : RowB w g 64 (seenU [p]) := by
  have := seen_snoc (L := []) (p := p) (by
    obtain ⟨cur, h1, h2, h3⟩ := h
    exact ⟨cur, h1, h2, fun i hi => by rw [h3 i hi]; rfl⟩) hp
  simpa using this
theorem own_someP {w : World} {B e s n : Nat} {v : Value} {xs : List Value} (h : w.ownsRow B e s v (n + 1) xs) : ∃ g c, v = .slice (some ⟨g, 0, none⟩) (n + 1) c ∧ B ≤ g ∧ g < w.heap.size := by
  rcases h.2 with ⟨hv, hn⟩ | ⟨g, cap, cur, hv, hg, hh, r⟩
  · omega
  · exact ⟨g, cap, hv, hg, (Array.getElem?_eq_some_iff.1 hh).1⟩
theorem OwnC.under {w w' : World} {B B' g n c : Nat} {L : List CellI} (h : OwnC w B (.slice (some ⟨g, 0, none⟩) n c) L) (hb : Below B' w w') (hg : g < B') : OwnC w' B (.slice (some ⟨g, 0, none⟩) n c) L := by
  refine ⟨h.1, ?_⟩
  rcases h.2 with h2 | ⟨g', cap, cur, hv, hg', hh, r⟩
  · exact .inl h2
  · have e : g' = g := by injection hv with e1; injection e1 with e1; injection e1 with e1; exact e1.symm
    subst e
    exact .inr ⟨g', cap, cur, hv, hg', (hb.block g' hg).trans hh, r⟩
theorem OwnC.one (w : World) (B g : Nat) (x y : Int) (hB : B ≤ w.heap.size) (hg : g = w.heap.size) : OwnC (w.alloc (.cells #[.int .i64 x, .int .i64 y] 35)) B (.slice (some ⟨g, 0, none⟩) 1 1) [(x, y)] := by
  subst hg
  exact ⟨rfl, .inr ⟨w.heap.size, 1, #[.int .i64 x, .int .i64 y], rfl, hB, heap_alloc_new w _, Nat.le_refl _, by unfold maxLen; omega, rfl, rfl⟩⟩
theorem OwnC.far {w : World} {B g n c : Nat} {L : List CellI} (h : OwnC w B (.slice (some ⟨g, 0, none⟩) n c) L) {p : Addr} (hp : g ≠ p.block) (u : Value) : OwnC (w.setCell p u) B (.slice (some ⟨g, 0, none⟩) n c) L := by
  refine ⟨h.1, ?_⟩
  rcases h.2 with h2 | ⟨g', cap, cur, hv, hg, hh, r⟩
  · exact .inl h2
  · have e : g' = g := by injection hv with e1; injection e1 with e1; injection e1 with e1; exact e1.symm
    subst e
    refine .inr ⟨g', cap, cur, hv, hg, ?_, r⟩
    rw [Below.heap_setCell w p u g' hp]
    exact hh
set_option maxHeartbeats 6400000 in
set_option maxRecDepth 100000 in
theorem specPiece_any (a : Option Addr) (n c : Nat) (zs : List Int) (x y : Int) (w : World) (hz : zs.length = n) (hn : n ≤ 1048576) (hr : RdI w a zs) :
    Calls Try.prog 15 #[.agg #[.slice a n c], .agg #[.int .i64 x, .int .i64 y]] w fun e w' => ∃ a' c', e = .returned (.slice a' (pieceL zs x y).length c') ∧ OwnC w' w.heap.size (.slice a' (pieceL zs x y).length c') (pieceL zs x y) ∧ Below w.heap.size w w' := by
  obtain ⟨ib, hib, hbz0, hbz1, hbz2⟩ := info_parts boolInfo
  obtain ⟨i0, hinf, hz0, hz1, hz2⟩ := info_parts cellInfo
  have HZ := Lib.hid hz
  clear hz
  rcases Bool.eq_false_or_eq_true (hcB zs x y) with hh | hh
  · have HH := Lib.hid (fun (W : World) (h : RdI W a zs) => specHas_valP a n c zs x y W HZ.out hn h hh)
    have hok : rokB zs = true := by have := hh; unfold hcB at this; rw [Bool.and_eq_true] at this; exact this.1
    have hxy : hasB (setS zs) x y = true := by rw [hcB_yes hok] at hh; exact hh
    have hokc : okB x y = true := by unfold hasB at hxy; rw [Bool.and_eq_true] at hxy; exact hxy.1
    obtain ⟨q, hq⟩ : ∃ q, q = idxN (x, y) := ⟨_, rfl⟩
    have hq64 : q < 64 := by rw [hq]; exact (cell_idx (p := (x, y)) hokc).1
    have HIX := Lib.hid (fun W : World => specIdx_val x y q W hokc hq.symm)
    have HQ := Lib.hid hq
    have HL3 := Lib.hid (fun (W : World) (u v : Int) (h1 : okB u v = true) (b : Bool) (h2 : hasB (setS zs) u v = b) (h : RdI W a zs) => l03_valP a n c zs u v W HZ.out hok h1 h h2)
    have HG := Lib.hid (fun k => good_bfs (S := setS zs) (c := (x, y)) hxy k)
    have HPL : Hid (pieceL zs x y = ((List.range 64).filter fun j => decide (cellOf j ∈ bfsR (setS zs) (x, y))).map cellOf) := Lib.hid (by rw [pieceL, if_pos hh])
    obtain ⟨L0, hL0⟩ : ∃ L0, L0 = pieceL zs x y := ⟨_, rfl⟩
    rw [← hL0] at HPL ⊢
    obtain ⟨S, hS⟩ : ∃ S, S = setS zs := ⟨_, rfl⟩
    rw [← hS] at HL3 HG HPL
    have HOKC := Lib.hid hokc
    clear hL0 hS hh hok hxy hokc hq
    have HR := Lib.hid hr
    go_enter Try.func15, Try.ntmps15
    go_wp2_with (go_at_call 29; fail)
    refine (HH.out _ (by repeat' (first | assumption | (with_reducible refine Rd.alloc ?_ _) | (with_reducible refine Rd.drew ?_)))).mono ?_
    rintro e w2 ⟨rfl, hb⟩
    have hz2' := hb.size
    simp at hz2'
    have hcr : w2.cell? ⟨w.heap.size, 0, none⟩ = some (.slice a n c) := (hb.cell (p := ⟨w.heap.size, 0, none⟩) (by first | omega | (simp; done) | (simp; omega))).trans (by go_simp)
    have hcx : w2.cell? ⟨w.heap.size + 1, 0, none⟩ = some (.int .i64 x) := (hb.cell (p := ⟨w.heap.size + 1, 0, none⟩) (by first | omega | (simp; done) | (simp; omega))).trans (by go_simp)
    have hcy : w2.cell? ⟨w.heap.size + 1, 1, none⟩ = some (.int .i64 y) := (hb.cell (p := ⟨w.heap.size + 1, 1, none⟩) (by first | omega | (simp; done) | (simp; omega))).trans (by go_simp)
    have hr2 : RdI w2 a zs := Rd.below (by repeat' (first | assumption | (with_reducible refine Rd.alloc ?_ _) | (with_reducible refine Rd.drew ?_))) hb
    have hB2 : Below w.heap.size w w2 := below_step hb (by first | omega | (simp; done) | (simp; omega)) (by repeat' (first | assumption | (with_reducible exact Below.refl _ _) | (with_reducible refine Below.drew ?_) | (with_reducible refine Below.alloc ?_ ?_ _) | (with_reducible refine Below.setCell ?_ ?_ _) | omega | (simp; done) | (simp; omega)))
    have hOut2 : Hid (OwnC w2 w.heap.size (.slice (some ⟨w.heap.size + 1 + 1, 0, none⟩) 0 0) []) := Lib.hid (OwnC.below (by simpa using OwnC.new ((w.alloc (.cells #[.slice a n c] 27)).alloc (.cells #[.int .i64 x, .int .i64 y] 35)) w.heap.size (by simp; omega) _ rfl) hb)
    clear hb hr
    go_wp2_with (at_make; refine wpList_make_full _ rfl _ _ 64 rfl (w.heap.size) 4 ib (.bool false) 1 Try.underlying64 hib hbz0 hbz1 _ _ _ _ 64 rfl rfl rfl rfl (by rw [hbz2]; omega) (by unfold maxLen; omega) (by first | omega | (simp; done) | (simp; omega)) ?_; intro wn hown0 hgrow0; go_must (have hRB := Lib.hid (rowB_new hown0); have hG : Below w2.heap.size w2 wn := (Below.refl _ _).grown hgrow0 (by omega) (fun k h => by cases h); have hzn := hRB.out.lt; have hcr' : wn.cell? ⟨w.heap.size, 0, none⟩ = some (.slice a n c) := (hG.cell (p := ⟨w.heap.size, 0, none⟩) (by first | omega | (simp; done) | (simp; omega))).trans hcr; have hcx' : wn.cell? ⟨w.heap.size + 1, 0, none⟩ = some (.int .i64 x) := (hG.cell (p := ⟨w.heap.size + 1, 0, none⟩) (by first | omega | (simp; done) | (simp; omega))).trans hcx; have hcy' : wn.cell? ⟨w.heap.size + 1, 1, none⟩ = some (.int .i64 y) := (hG.cell (p := ⟨w.heap.size + 1, 1, none⟩) (by first | omega | (simp; done) | (simp; omega))).trans hcy; have hrn : RdI wn a zs := Rd.below hr2 hG; have hBn : Below w.heap.size w wn := hB2.trans (hG.mono (by omega)); have hOutn := Lib.hid (OwnC.below hOut2.out hG)); clear hown0 hgrow0 hG)
    go_wp2_with (go_at_call 46; fail)
    refine (HIX.out _).mono ?_
    rintro e w3 ⟨rfl, hb⟩
    have hz3 := hb.size
    have hRB3 := Lib.hid (RowB.next hRB.out hb)
    have hcc3 := hRB3.out.cell (i := q) hq64
    have hcf3 := hRB3.out.frozen q
    have hcr3 : w3.cell? ⟨w.heap.size, 0, none⟩ = some (.slice a n c) := (hb.cell (p := ⟨w.heap.size, 0, none⟩) (by first | omega | (simp; done) | (simp; omega))).trans hcr'
    have hcx3 : w3.cell? ⟨w.heap.size + 1, 0, none⟩ = some (.int .i64 x) := (hb.cell (p := ⟨w.heap.size + 1, 0, none⟩) (by first | omega | (simp; done) | (simp; omega))).trans hcx'
    have hcy3 : w3.cell? ⟨w.heap.size + 1, 1, none⟩ = some (.int .i64 y) := (hb.cell (p := ⟨w.heap.size + 1, 1, none⟩) (by first | omega | (simp; done) | (simp; omega))).trans hcy'
    have hr3 : RdI w3 a zs := Rd.below hrn hb
    have hB3 : Below w.heap.size w w3 := below_step hb (by first | omega | (simp; done) | (simp; omega)) hBn
    have hOut3 := Lib.hid (OwnC.below hOutn.out hb)
    have hqI : (q : Int) < 64 := by omega
    have hne1 : ¬ w2.heap.size = w.heap.size := by omega
    have hne2 : ¬ w.heap.size = w2.heap.size := by omega
    have hne3 : ¬ w2.heap.size = w.heap.size + 1 := by omega
    have hne4 : ¬ w.heap.size + 1 = w2.heap.size := by omega
    clear hb hcr hcx hcy hr2 hcr' hcx' hcy' hrn hRB hOut2 hOutn
    go_wp2_with fail
    have hRBs : RowB (w3.setCell ⟨w2.heap.size, q, none⟩ (.bool true)) w2.heap.size 64 (seenU [(x, y)]) := seen_one (p := (x, y)) (by rw [← HQ.out]; exact RowB.set_ hRB3.out hq64) HOKC.out
    have hO4 : Hid (OwnC ((w3.setCell ⟨w2.heap.size, q, none⟩ (.bool true)).alloc (.cells #[.int .i64 x, .int .i64 y] 35)) w3.heap.size (.slice (some ⟨w3.heap.size, 0, none⟩) 1 1) [(x, y)]) := Lib.hid (OwnC.one _ _ _ _ _ (by simp) (by simp))
    have hRB4 := Lib.hid (RowB.alloc_ hRBs (.cells #[.int .i64 x, .int .i64 y] 35))
    have hOut4 : Hid (OwnC ((w3.setCell ⟨w2.heap.size, q, none⟩ (.bool true)).alloc (.cells #[.int .i64 x, .int .i64 y] 35)) w.heap.size (.slice (some ⟨w.heap.size + 1 + 1, 0, none⟩) 0 0) []) := Lib.hid (OwnC.alloc (OwnC.far hOut3.out (by simp; omega) _) _)
    have hcr4 : ((w3.setCell ⟨w2.heap.size, q, none⟩ (.bool true)).alloc (.cells #[.int .i64 x, .int .i64 y] 35)).cell? ⟨w.heap.size, 0, none⟩ = some (.slice a n c) := by
      rw [World.cell?_alloc_past _ _ _ (by simp; omega)]
      go_simp
    have hB4 : Below w.heap.size w ((w3.setCell ⟨w2.heap.size, q, none⟩ (.bool true)).alloc (.cells #[.int .i64 x, .int .i64 y] 35)) := Below.alloc (Below.setCell hB3 (by simp; omega) _) (by simp; omega) _
    have hlg : w2.heap.size < w3.heap.size := by omega
    have hlo : w.heap.size + 1 + 1 < w3.heap.size := by omega
    clear hcc3 hcf3 hcr3 hcx3 hcy3 hr3 hB3 hOut3 hRB3 hRBs
    go_loopg [7, 8] 64 (fun gk l k wr => ∃ (kk : Nat) (L : List CellI) (gl cl : Nat), kk ≤ 64 ∧ gk = 64 - kk ∧ kk ≤ L.length ∧ k = .int .i64 kk ∧ l = .slice (some ⟨gl, 0, none⟩) L.length cl ∧ Hid (L = bfsL S (x, y) kk) ∧ Hid (OwnC wr w3.heap.size (.slice (some ⟨gl, 0, none⟩) L.length cl) L) ∧ Hid (RowB wr w2.heap.size 64 (seenU L)) ∧ Hid (OwnC wr w.heap.size (.slice (some ⟨w.heap.size + 1 + 1, 0, none⟩) 0 0) []) ∧ wr.cell? ⟨w.heap.size, 0, none⟩ = some (.slice a n c) ∧ Below w.heap.size w wr ∧ w3.heap.size + 1 ≤ wr.heap.size)
    case atStart => exact ⟨0, [(x, y)], w3.heap.size, 1, by omega, rfl, by simp, rfl, rfl, Lib.hid rfl, hO4, hRB4, hOut4, hcr4, hB4, by simp⟩
    case round =>
      clear hO4 hRB4 hOut4 hcr4 hB4
      obtain ⟨k, L, gl, cl, hk, hgk, hkL, rfl, rfl, hL, hO, hRB, hOut, hcr, hB, hs⟩ := hrel
      have HGD : Hid (Good S L) := Lib.hid (by rw [hL.out]; exact HG.out k)
      have hL64 : L.length ≤ 64 := good_len HGD.out
      by_cases hlt : k < L.length
      · have hltI : (k : Int) < (L.length : Int) := by omega
        obtain ⟨b9, off9, cx, cy, he9, hbl9, hx9, hy9, hv9⟩ := RdC_at (Rd.of_own hO.out) hlt
        injection he9 with he9
        injection he9 with h91 h92
        subst h91 h92
        rw [Nat.zero_add] at hx9 hy9
        have HNB := Lib.hid (fun W : World => specNbrs_any cx cy W)
        obtain ⟨N, hN⟩ : ∃ N, N = nbL cx cy := ⟨_, rfl⟩
        have HNN := Lib.hid hN
        have hNl : N.length ≤ 64 := by rw [hN]; exact nbL_len cx cy
        rw [← hN] at HNB
        clear hN
        go_wp2_with (go_at_call 47; fail)
        refine (HNB.out _).mono ?_
        rintro e w4 ⟨a4, c4, rfl, hO4, hb⟩
        have hz4 := hb.size
        have hOl := Lib.hid (OwnC.below hO.out hb)
        have hglt := (hO.out.lt gl rfl)
        have hRB4 := Lib.hid (RowB.next hRB.out hb)
        have hOut4 := Lib.hid (OwnC.below hOut.out hb)
        have hcr4 : w4.cell? ⟨w.heap.size, 0, none⟩ = some (.slice a n c) := (hb.cell (p := ⟨w.heap.size, 0, none⟩) (by first | omega | (simp; done) | (simp; omega))).trans hcr
        have hB4 : Below w.heap.size w w4 := below_step hb (by first | omega | (simp; done) | (simp; omega)) hB
        have hRd : Rd w4 a4 (flatC N) := Rd.of_own hO4
        have HNG : Hid (∀ bb oo, a4 = some ⟨bb, oo, none⟩ → wr.heap.size ≤ bb) := Lib.hid (by
          intro bb oo he
          exact (World.ownsRow.lt hO4 bb (by rw [he]; rfl)).1)
        have hNE : Hid (∀ bb oo, a4 = some ⟨bb, oo, none⟩ → bb ≠ gl) := Lib.hid (by
          intro bb oo he
          have := HNG.out bb oo he
          omega)
        have hsr : w3.heap.size + 1 ≤ w4.heap.size := by omega
        have hwr3 : w3.heap.size + 1 ≤ wr.heap.size := hs
        obtain ⟨wz, hwz⟩ : ∃ wz, wz = wr.heap.size := ⟨_, rfl⟩
        rw [← hwz] at HNG hwr3
        clear hb hO4 hx9 hy9 hbl9 hO hRB hOut hcr hB hs hz4 hglt hwz
        go_wp2_with fail
        go_loopg [7, 10] N.length (fun gi l i wr => ∃ (j : Nat) (L2 : List CellI) (g2 c2 : Nat), j ≤ N.length ∧ gi = N.length - j ∧ i = .int .i64 j ∧ l = .slice (some ⟨g2, 0, none⟩) L2.length c2 ∧ Hid (L2 = (N.take j).foldl (stepN S) L) ∧ Hid (OwnC wr w3.heap.size (.slice (some ⟨g2, 0, none⟩) L2.length c2) L2) ∧ Hid (RowB wr w2.heap.size 64 (seenU L2)) ∧ Hid (OwnC wr w.heap.size (.slice (some ⟨w.heap.size + 1 + 1, 0, none⟩) 0 0) []) ∧ wr.cell? ⟨w.heap.size, 0, none⟩ = some (.slice a n c) ∧ Hid (∀ bb oo, a4 = some ⟨bb, oo, none⟩ → bb ≠ g2) ∧ Rd wr a4 (flatC N) ∧ Below w.heap.size w wr ∧ w3.heap.size + 1 ≤ wr.heap.size)
        case atStart => exact ⟨0, L, gl, cl, Nat.zero_le _, rfl, rfl, rfl, Lib.hid rfl, hOl, hRB4, hOut4, hcr4, hNE, hRd, hB4, hsr⟩
        case round =>
          obtain ⟨j, L2, g2, c2, hj, hgi, rfl, rfl, hL2, hO2, hRB2, hOut2, hcr2, hNE2, hRd2, hB2, hs2⟩ := hrel
          clear hOl hRB4 hOut4 hcr4 hNE hRd hB4 hsr
          have hlen2 : k + 1 ≤ L2.length := by have := fold_len (S := S) (N.take j) L; rw [← hL2.out] at this; omega
          by_cases hjl : j < N.length
          · obtain ⟨b5, o5, dx, dy, hab, hbl5, hx5, hy5, hv5⟩ := RdC_at hRd2 hjl
            have hjI : (j : Int) < (N.length : Int) := by omega
            have hdok : okB dx dy = true := nb_cellR (x := cx) (y := cy) (p := (dx, dy)) (by rw [← HNN.out]; exact List.mem_of_getElem? hv5.out)
            have hstep : (N.take (j + 1)).foldl (stepN S) L = stepN S L2 (dx, dy) := by rw [take_one hv5.out, List.foldl_append, ← hL2.out]; rfl
            have HST := Lib.hid hstep
            have hGD2 : Good S L2 := by rw [hL2.out]; exact good_fold _ HGD.out
            have hL264 := good_len hGD2
            obtain ⟨p, hp⟩ : ∃ p, p = idxN (dx, dy) := ⟨_, rfl⟩
            have hpc := cell_idx (p := (dx, dy)) hdok
            rw [← hp] at hpc
            have hp64 : p < 64 := hpc.1
            have hpI : (p : Int) < 64 := by omega
            have HPC := Lib.hid hpc.2
            have HIX2 := Lib.hid (fun W : World => specIdx_val dx dy p W hdok hp.symm)
            have HPE := Lib.hid hp
            have hsv := hRB2.out.cell hp64
            have HDOK := Lib.hid hdok
            have hwr2 : w2.heap.size < wr.heap.size := by omega
            have hBr0 : Below wr.heap.size wr wr := Below.refl _ _
            clear hstep hGD2 hp hpc
            subst hab
            rcases Bool.eq_false_or_eq_true (hasB S dx dy) with hs | hs
            · have HLV := Lib.hid (fun (W : World) (h : RdI W a zs) => HL3.out W dx dy HDOK.out true hs h)
              by_cases hin : (dx, dy) ∈ L2
              · have HT : Hid (L2 = (N.take (j + 1)).foldl (stepN S) L) := Lib.hid (by rw [HST.out, stepN_in hin])
                rw [show seenU L2 p = true by unfold seenU; rw [HPC.out]; simpa using hin] at hsv
                clear hs hin hdok
                go_wp2_with fail
                refine hold_start (S := (fun w' => w'.cell? ⟨w.heap.size, 0, none⟩ = some (.slice a n c) ∧ w'.cell? ⟨b5, o5 + j * 2, none⟩ = some (.int .i64 dx) ∧ w'.cell? ⟨b5, o5 + j * 2 + 1, none⟩ = some (.int .i64 dy) ∧ w'.cell? ⟨w2.heap.size, p, none⟩ = some (.bool true) ∧ Below wr.heap.size wr w' ∧ Below w.heap.size w w' ∧ wr.heap.size ≤ w'.heap.size)) (by kernel_rfl) (by kernel_rfl) (by intro _ _ d _ _ h; cases d <;> exact h) ?_ (fun hHC hH0 => ?_)
                · (first | (go_keep; done) | ((try go_split_ands); (repeat' apply And.intro) <;> first | assumption | (with_reducible refine Rd.below ?_ hb1; assumption) | (with_reducible refine Rd.drew ?_; repeat' (first | assumption | (with_reducible refine Rd.alloc ?_ _))) | (refine (hb1.cell (by first | omega | (simp; done) | (simp; omega))).trans ?_; first | assumption | simp) | (exact below_step hb1 (by first | omega | (simp; done) | (simp; omega)) (by assumption)) | (have hz' := hb1.size; (try simp at hz'); omega) | ((repeat' (first | assumption | (with_reducible exact Below.refl _ _) | (with_reducible refine Below.drew ?_) | (with_reducible refine Below.alloc ?_ ?_ _) | (with_reducible refine Below.setCell ?_ ?_ _) | omega | (simp; done) | (simp; omega))); done) | go_simp | (simp; done) | (simp; omega)))
                refine hold_plain 0 (v := ?_) hHC hH0 (by simp only [List.getElem?_toArray, List.getElem?_cons_succ, List.getElem?_cons_zero]; rfl) rfl (by kernel_rfl) ?_ ?_
                rotate_left 1
                · (intro w hSw; (try dsimp only at hSw); go_simp; try with_reducible rfl)
                try simp only [Act.put, List.setIfInBounds_toArray, List.set_cons_zero, List.set_cons_succ]
                refine hold_plain 1 (v := ?_) hHC hH0 (by simp only [List.getElem?_toArray, List.getElem?_cons_succ, List.getElem?_cons_zero]; rfl) rfl (by kernel_rfl) ?_ ?_
                rotate_left 1
                · (intro w hSw; (try dsimp only at hSw); go_simp; try with_reducible rfl)
                try simp only [Act.put, List.setIfInBounds_toArray, List.set_cons_zero, List.set_cons_succ]
                refine hold_plain 2 (v := ?_) hHC hH0 (by simp only [List.getElem?_toArray, List.getElem?_cons_succ, List.getElem?_cons_zero]; rfl) rfl (by kernel_rfl) ?_ ?_
                rotate_left 1
                · (intro w hSw; (try dsimp only at hSw); go_simp; try with_reducible rfl)
                try simp only [Act.put, List.setIfInBounds_toArray, List.set_cons_zero, List.set_cons_succ]
                refine hold_plain 3 (v := ?_) hHC hH0 (by simp only [List.getElem?_toArray, List.getElem?_cons_succ, List.getElem?_cons_zero]; rfl) rfl (by kernel_rfl) ?_ ?_
                rotate_left 1
                · (intro w hSw; (try dsimp only at hSw); go_simp; try with_reducible rfl)
                try simp only [Act.put, List.setIfInBounds_toArray, List.set_cons_zero, List.set_cons_succ]
                refine hold_plain 4 (v := ?_) hHC hH0 (by simp only [List.getElem?_toArray, List.getElem?_cons_succ, List.getElem?_cons_zero]; rfl) rfl (by kernel_rfl) ?_ ?_
                rotate_left 1
                · (intro w hSw; (try dsimp only at hSw); go_simp; try with_reducible rfl)
                try simp only [Act.put, List.setIfInBounds_toArray, List.set_cons_zero, List.set_cons_succ]
                refine hold_call0 5 (by simp only [List.getElem?_toArray, List.getElem?_cons_succ, List.getElem?_cons_zero]; rfl) rfl (by kernel_rfl) (fun K hK => ?_)
                go_simp
                obtain ⟨_, _, _, _, hs1, hs2', _⟩ := id hH0; first | (go_at_call 48; refine (HLV.out _ (Rd.below HR.out hs2')).mono ?_; rintro e w1 ⟨rfl, hb1⟩) | (go_at_call 46; refine (HIX2.out _).mono ?_; rintro e w1 ⟨rfl, hb1⟩)
                refine hK.out _ _ ?_ (fun hH1 => ?_)
                · (first | (go_keep; done) | ((try go_split_ands); (repeat' apply And.intro) <;> first | assumption | (with_reducible refine Rd.below ?_ hb1; assumption) | (with_reducible refine Rd.drew ?_; repeat' (first | assumption | (with_reducible refine Rd.alloc ?_ _))) | (refine (hb1.cell (by first | omega | (simp; done) | (simp; omega))).trans ?_; first | assumption | simp) | (exact below_step hb1 (by first | omega | (simp; done) | (simp; omega)) (by assumption)) | (have hz' := hb1.size; (try simp at hz'); omega) | ((repeat' (first | assumption | (with_reducible exact Below.refl _ _) | (with_reducible refine Below.drew ?_) | (with_reducible refine Below.alloc ?_ ?_ _) | (with_reducible refine Below.setCell ?_ ?_ _) | omega | (simp; done) | (simp; omega))); done) | go_simp | (simp; done) | (simp; omega)))
                clear hK K hH0
                try simp only [Act.put, List.setIfInBounds_toArray, List.set_cons_zero, List.set_cons_succ]
                refine hold_plain 6 (v := ?_) hHC hH1 (by simp only [List.getElem?_toArray, List.getElem?_cons_succ, List.getElem?_cons_zero]; rfl) rfl (by kernel_rfl) ?_ ?_
                rotate_left 1
                · (intro w hSw; (try dsimp only at hSw); go_simp; try with_reducible rfl)
                try simp only [Act.put, List.setIfInBounds_toArray, List.set_cons_zero, List.set_cons_succ]
                refine hold_yes 7 (v := ?_) hHC hH1 (by simp only [List.getElem?_toArray, List.getElem?_cons_succ, List.getElem?_cons_zero]; rfl) rfl (by kernel_rfl) (by kernel_rfl) ?_ ?_
                rotate_left 1
                · (intro w hSw; (try dsimp only at hSw); go_simp; try with_reducible rfl)
                try simp only [Act.put, List.setIfInBounds_toArray, List.set_cons_zero, List.set_cons_succ]
                refine hold_yes 8 (v := ?_) hHC hH1 (by simp only [List.getElem?_toArray, List.getElem?_cons_succ, List.getElem?_cons_zero]; rfl) rfl (by kernel_rfl) (by kernel_rfl) ?_ ?_
                rotate_left 1
                · (intro w hSw; (try dsimp only at hSw); go_simp; try with_reducible rfl)
                try simp only [Act.put, List.setIfInBounds_toArray, List.set_cons_zero, List.set_cons_succ]
                refine hold_yes 9 (v := ?_) hHC hH1 (by simp only [List.getElem?_toArray, List.getElem?_cons_succ, List.getElem?_cons_zero]; rfl) rfl (by kernel_rfl) (by kernel_rfl) ?_ ?_
                rotate_left 1
                · (intro w hSw; (try dsimp only at hSw); go_simp; try with_reducible rfl)
                try simp only [Act.put, List.setIfInBounds_toArray, List.set_cons_zero, List.set_cons_succ]
                refine hold_yes 10 (v := ?_) hHC hH1 (by simp only [List.getElem?_toArray, List.getElem?_cons_succ, List.getElem?_cons_zero]; rfl) rfl (by kernel_rfl) (by kernel_rfl) ?_ ?_
                rotate_left 1
                · (intro w hSw; (try dsimp only at hSw); go_simp; try with_reducible rfl)
                try simp only [Act.put, List.setIfInBounds_toArray, List.set_cons_zero, List.set_cons_succ]
                refine hold_yes 11 (v := ?_) hHC hH1 (by simp only [List.getElem?_toArray, List.getElem?_cons_succ, List.getElem?_cons_zero]; rfl) rfl (by kernel_rfl) (by kernel_rfl) ?_ ?_
                rotate_left 1
                · (intro w hSw; (try dsimp only at hSw); go_simp; try with_reducible rfl)
                try simp only [Act.put, List.setIfInBounds_toArray, List.set_cons_zero, List.set_cons_succ]
                refine hold_call1 12 (by simp only [List.getElem?_toArray, List.getElem?_cons_succ, List.getElem?_cons_zero]; rfl) rfl (by kernel_rfl) (by kernel_rfl) (fun K hK => ?_)
                go_simp
                obtain ⟨_, _, _, _, hs1, hs2', _⟩ := id hH1; first | (go_at_call 48; refine (HLV.out _ (Rd.below HR.out hs2')).mono ?_; rintro e w1 ⟨rfl, hb1⟩) | (go_at_call 46; refine (HIX2.out _).mono ?_; rintro e w1 ⟨rfl, hb1⟩)
                refine hK.out _ _ ?_ (fun hH2 => ?_)
                · (first | (go_keep; done) | ((try go_split_ands); (repeat' apply And.intro) <;> first | assumption | (with_reducible refine Rd.below ?_ hb1; assumption) | (with_reducible refine Rd.drew ?_; repeat' (first | assumption | (with_reducible refine Rd.alloc ?_ _))) | (refine (hb1.cell (by first | omega | (simp; done) | (simp; omega))).trans ?_; first | assumption | simp) | (exact below_step hb1 (by first | omega | (simp; done) | (simp; omega)) (by assumption)) | (have hz' := hb1.size; (try simp at hz'); omega) | ((repeat' (first | assumption | (with_reducible exact Below.refl _ _) | (with_reducible refine Below.drew ?_) | (with_reducible refine Below.alloc ?_ ?_ _) | (with_reducible refine Below.setCell ?_ ?_ _) | omega | (simp; done) | (simp; omega))); done) | go_simp | (simp; done) | (simp; omega)))
                clear hK K hH1
                try simp only [Act.put, List.setIfInBounds_toArray, List.set_cons_zero, List.set_cons_succ]
                refine hold_yes 13 (v := ?_) hHC hH2 (by simp only [List.getElem?_toArray, List.getElem?_cons_succ, List.getElem?_cons_zero]; rfl) rfl (by kernel_rfl) (by kernel_rfl) ?_ ?_
                rotate_left 1
                · (intro w hSw; (try dsimp only at hSw); go_simp; try with_reducible rfl)
                try simp only [Act.put, List.setIfInBounds_toArray, List.set_cons_zero, List.set_cons_succ]
                refine hold_yes 14 (v := ?_) hHC hH2 (by simp only [List.getElem?_toArray, List.getElem?_cons_succ, List.getElem?_cons_zero]; rfl) rfl (by kernel_rfl) (by kernel_rfl) ?_ ?_
                rotate_left 1
                · (intro w hSw; (try dsimp only at hSw); go_simp; try with_reducible rfl)
                try simp only [Act.put, List.setIfInBounds_toArray, List.set_cons_zero, List.set_cons_succ]
                refine hold_yes 15 (v := ?_) hHC hH2 (by simp only [List.getElem?_toArray, List.getElem?_cons_succ, List.getElem?_cons_zero]; rfl) rfl (by kernel_rfl) (by kernel_rfl) ?_ ?_
                rotate_left 1
                · (intro w hSw; (try dsimp only at hSw); go_simp; try with_reducible rfl)
                try simp only [Act.put, List.setIfInBounds_toArray, List.set_cons_zero, List.set_cons_succ]
                refine hold_plain 16 (v := ?_) hHC hH2 (by simp only [List.getElem?_toArray, List.getElem?_cons_succ, List.getElem?_cons_zero]; rfl) rfl (by kernel_rfl) ?_ ?_
                rotate_left 1
                · (intro w hSw; (try dsimp only at hSw); go_simp; try with_reducible rfl)
                try simp only [Act.put, List.setIfInBounds_toArray, List.set_cons_zero, List.set_cons_succ]
                refine wpAnyH_done (by kernel_rfl) ?_ _
                (try dsimp only at hH2)
                go_split_ands
                clear hHC
                have hbr : Below wr.heap.size wr w1 := by assumption
                have hO5 := Lib.hid (OwnC.below hO2.out hbr)
                have hRB5 := Lib.hid (RowB.next hRB2.out hbr)
                have hOut5 := Lib.hid (OwnC.below hOut2.out hbr)
                have hcr5 : w1.cell? ⟨w.heap.size, 0, none⟩ = some (.slice a n c) := (hbr.cell (p := ⟨w.heap.size, 0, none⟩) (by first | omega | (simp; done) | (simp; omega))).trans hcr2
                have hRd5 := Rd.below hRd2 hbr
                have hB5 : Below w.heap.size w w1 := by assumption
                have hs5 : w3.heap.size + 1 ≤ w1.heap.size := by have := hbr.size; omega
                go_wp2_with fail
                go_roundg (N.length - (j + 1))
                case measure => omega
                case rel => exact ⟨j + 1, L2, g2, c2, by omega, rfl, by go_num, rfl, HT, hO5, hRB5, hOut5, hcr5, hNE2, hRd5, hB5, hs5⟩
              · have HT : Hid (L2 ++ [(dx, dy)] = (N.take (j + 1)).foldl (stepN S) L) := Lib.hid (by rw [HST.out, stepN_yes hs hin])
                rw [show seenU L2 p = false by unfold seenU; rw [HPC.out]; simpa using hin] at hsv
                clear hs hin hdok
                go_wp2_with fail
                refine hold_start (S := (fun w' => w'.cell? ⟨w.heap.size, 0, none⟩ = some (.slice a n c) ∧ w'.cell? ⟨b5, o5 + j * 2, none⟩ = some (.int .i64 dx) ∧ w'.cell? ⟨b5, o5 + j * 2 + 1, none⟩ = some (.int .i64 dy) ∧ w'.cell? ⟨w2.heap.size, p, none⟩ = some (.bool false) ∧ Below wr.heap.size wr w' ∧ Below w.heap.size w w' ∧ wr.heap.size ≤ w'.heap.size)) (by kernel_rfl) (by kernel_rfl) (by intro _ _ d _ _ h; cases d <;> exact h) ?_ (fun hHC hH0 => ?_)
                · (first | (go_keep; done) | ((try go_split_ands); (repeat' apply And.intro) <;> first | assumption | (with_reducible refine Rd.below ?_ hb1; assumption) | (with_reducible refine Rd.drew ?_; repeat' (first | assumption | (with_reducible refine Rd.alloc ?_ _))) | (refine (hb1.cell (by first | omega | (simp; done) | (simp; omega))).trans ?_; first | assumption | simp) | (exact below_step hb1 (by first | omega | (simp; done) | (simp; omega)) (by assumption)) | (have hz' := hb1.size; (try simp at hz'); omega) | ((repeat' (first | assumption | (with_reducible exact Below.refl _ _) | (with_reducible refine Below.drew ?_) | (with_reducible refine Below.alloc ?_ ?_ _) | (with_reducible refine Below.setCell ?_ ?_ _) | omega | (simp; done) | (simp; omega))); done) | go_simp | (simp; done) | (simp; omega)))
                refine hold_plain 0 (v := ?_) hHC hH0 (by simp only [List.getElem?_toArray, List.getElem?_cons_succ, List.getElem?_cons_zero]; rfl) rfl (by kernel_rfl) ?_ ?_
                rotate_left 1
                · (intro w hSw; (try dsimp only at hSw); go_simp; try with_reducible rfl)
                try simp only [Act.put, List.setIfInBounds_toArray, List.set_cons_zero, List.set_cons_succ]
                refine hold_plain 1 (v := ?_) hHC hH0 (by simp only [List.getElem?_toArray, List.getElem?_cons_succ, List.getElem?_cons_zero]; rfl) rfl (by kernel_rfl) ?_ ?_
                rotate_left 1
                · (intro w hSw; (try dsimp only at hSw); go_simp; try with_reducible rfl)
                try simp only [Act.put, List.setIfInBounds_toArray, List.set_cons_zero, List.set_cons_succ]
                refine hold_plain 2 (v := ?_) hHC hH0 (by simp only [List.getElem?_toArray, List.getElem?_cons_succ, List.getElem?_cons_zero]; rfl) rfl (by kernel_rfl) ?_ ?_
                rotate_left 1
                · (intro w hSw; (try dsimp only at hSw); go_simp; try with_reducible rfl)
                try simp only [Act.put, List.setIfInBounds_toArray, List.set_cons_zero, List.set_cons_succ]
                refine hold_plain 3 (v := ?_) hHC hH0 (by simp only [List.getElem?_toArray, List.getElem?_cons_succ, List.getElem?_cons_zero]; rfl) rfl (by kernel_rfl) ?_ ?_
                rotate_left 1
                · (intro w hSw; (try dsimp only at hSw); go_simp; try with_reducible rfl)
                try simp only [Act.put, List.setIfInBounds_toArray, List.set_cons_zero, List.set_cons_succ]
                refine hold_plain 4 (v := ?_) hHC hH0 (by simp only [List.getElem?_toArray, List.getElem?_cons_succ, List.getElem?_cons_zero]; rfl) rfl (by kernel_rfl) ?_ ?_
                rotate_left 1
                · (intro w hSw; (try dsimp only at hSw); go_simp; try with_reducible rfl)
                try simp only [Act.put, List.setIfInBounds_toArray, List.set_cons_zero, List.set_cons_succ]
                refine hold_call0 5 (by simp only [List.getElem?_toArray, List.getElem?_cons_succ, List.getElem?_cons_zero]; rfl) rfl (by kernel_rfl) (fun K hK => ?_)
                go_simp
                obtain ⟨_, _, _, _, hs1, hs2', _⟩ := id hH0; first | (go_at_call 48; refine (HLV.out _ (Rd.below HR.out hs2')).mono ?_; rintro e w1 ⟨rfl, hb1⟩) | (go_at_call 46; refine (HIX2.out _).mono ?_; rintro e w1 ⟨rfl, hb1⟩)
                refine hK.out _ _ ?_ (fun hH1 => ?_)
                · (first | (go_keep; done) | ((try go_split_ands); (repeat' apply And.intro) <;> first | assumption | (with_reducible refine Rd.below ?_ hb1; assumption) | (with_reducible refine Rd.drew ?_; repeat' (first | assumption | (with_reducible refine Rd.alloc ?_ _))) | (refine (hb1.cell (by first | omega | (simp; done) | (simp; omega))).trans ?_; first | assumption | simp) | (exact below_step hb1 (by first | omega | (simp; done) | (simp; omega)) (by assumption)) | (have hz' := hb1.size; (try simp at hz'); omega) | ((repeat' (first | assumption | (with_reducible exact Below.refl _ _) | (with_reducible refine Below.drew ?_) | (with_reducible refine Below.alloc ?_ ?_ _) | (with_reducible refine Below.setCell ?_ ?_ _) | omega | (simp; done) | (simp; omega))); done) | go_simp | (simp; done) | (simp; omega)))
                clear hK K hH0
                try simp only [Act.put, List.setIfInBounds_toArray, List.set_cons_zero, List.set_cons_succ]
                refine hold_plain 6 (v := ?_) hHC hH1 (by simp only [List.getElem?_toArray, List.getElem?_cons_succ, List.getElem?_cons_zero]; rfl) rfl (by kernel_rfl) ?_ ?_
                rotate_left 1
                · (intro w hSw; (try dsimp only at hSw); go_simp; try with_reducible rfl)
                try simp only [Act.put, List.setIfInBounds_toArray, List.set_cons_zero, List.set_cons_succ]
                refine hold_yes 7 (v := ?_) hHC hH1 (by simp only [List.getElem?_toArray, List.getElem?_cons_succ, List.getElem?_cons_zero]; rfl) rfl (by kernel_rfl) (by kernel_rfl) ?_ ?_
                rotate_left 1
                · (intro w hSw; (try dsimp only at hSw); go_simp; try with_reducible rfl)
                try simp only [Act.put, List.setIfInBounds_toArray, List.set_cons_zero, List.set_cons_succ]
                refine hold_yes 8 (v := ?_) hHC hH1 (by simp only [List.getElem?_toArray, List.getElem?_cons_succ, List.getElem?_cons_zero]; rfl) rfl (by kernel_rfl) (by kernel_rfl) ?_ ?_
                rotate_left 1
                · (intro w hSw; (try dsimp only at hSw); go_simp; try with_reducible rfl)
                try simp only [Act.put, List.setIfInBounds_toArray, List.set_cons_zero, List.set_cons_succ]
                refine hold_yes 9 (v := ?_) hHC hH1 (by simp only [List.getElem?_toArray, List.getElem?_cons_succ, List.getElem?_cons_zero]; rfl) rfl (by kernel_rfl) (by kernel_rfl) ?_ ?_
                rotate_left 1
                · (intro w hSw; (try dsimp only at hSw); go_simp; try with_reducible rfl)
                try simp only [Act.put, List.setIfInBounds_toArray, List.set_cons_zero, List.set_cons_succ]
                refine hold_yes 10 (v := ?_) hHC hH1 (by simp only [List.getElem?_toArray, List.getElem?_cons_succ, List.getElem?_cons_zero]; rfl) rfl (by kernel_rfl) (by kernel_rfl) ?_ ?_
                rotate_left 1
                · (intro w hSw; (try dsimp only at hSw); go_simp; try with_reducible rfl)
                try simp only [Act.put, List.setIfInBounds_toArray, List.set_cons_zero, List.set_cons_succ]
                refine hold_yes 11 (v := ?_) hHC hH1 (by simp only [List.getElem?_toArray, List.getElem?_cons_succ, List.getElem?_cons_zero]; rfl) rfl (by kernel_rfl) (by kernel_rfl) ?_ ?_
                rotate_left 1
                · (intro w hSw; (try dsimp only at hSw); go_simp; try with_reducible rfl)
                try simp only [Act.put, List.setIfInBounds_toArray, List.set_cons_zero, List.set_cons_succ]
                refine hold_call1 12 (by simp only [List.getElem?_toArray, List.getElem?_cons_succ, List.getElem?_cons_zero]; rfl) rfl (by kernel_rfl) (by kernel_rfl) (fun K hK => ?_)
                go_simp
                obtain ⟨_, _, _, _, hs1, hs2', _⟩ := id hH1; first | (go_at_call 48; refine (HLV.out _ (Rd.below HR.out hs2')).mono ?_; rintro e w1 ⟨rfl, hb1⟩) | (go_at_call 46; refine (HIX2.out _).mono ?_; rintro e w1 ⟨rfl, hb1⟩)
                refine hK.out _ _ ?_ (fun hH2 => ?_)
                · (first | (go_keep; done) | ((try go_split_ands); (repeat' apply And.intro) <;> first | assumption | (with_reducible refine Rd.below ?_ hb1; assumption) | (with_reducible refine Rd.drew ?_; repeat' (first | assumption | (with_reducible refine Rd.alloc ?_ _))) | (refine (hb1.cell (by first | omega | (simp; done) | (simp; omega))).trans ?_; first | assumption | simp) | (exact below_step hb1 (by first | omega | (simp; done) | (simp; omega)) (by assumption)) | (have hz' := hb1.size; (try simp at hz'); omega) | ((repeat' (first | assumption | (with_reducible exact Below.refl _ _) | (with_reducible refine Below.drew ?_) | (with_reducible refine Below.alloc ?_ ?_ _) | (with_reducible refine Below.setCell ?_ ?_ _) | omega | (simp; done) | (simp; omega))); done) | go_simp | (simp; done) | (simp; omega)))
                clear hK K hH1
                try simp only [Act.put, List.setIfInBounds_toArray, List.set_cons_zero, List.set_cons_succ]
                refine hold_yes 13 (v := ?_) hHC hH2 (by simp only [List.getElem?_toArray, List.getElem?_cons_succ, List.getElem?_cons_zero]; rfl) rfl (by kernel_rfl) (by kernel_rfl) ?_ ?_
                rotate_left 1
                · (intro w hSw; (try dsimp only at hSw); go_simp; try with_reducible rfl)
                try simp only [Act.put, List.setIfInBounds_toArray, List.set_cons_zero, List.set_cons_succ]
                refine hold_yes 14 (v := ?_) hHC hH2 (by simp only [List.getElem?_toArray, List.getElem?_cons_succ, List.getElem?_cons_zero]; rfl) rfl (by kernel_rfl) (by kernel_rfl) ?_ ?_
                rotate_left 1
                · (intro w hSw; (try dsimp only at hSw); go_simp; try with_reducible rfl)
                try simp only [Act.put, List.setIfInBounds_toArray, List.set_cons_zero, List.set_cons_succ]
                refine hold_yes 15 (v := ?_) hHC hH2 (by simp only [List.getElem?_toArray, List.getElem?_cons_succ, List.getElem?_cons_zero]; rfl) rfl (by kernel_rfl) (by kernel_rfl) ?_ ?_
                rotate_left 1
                · (intro w hSw; (try dsimp only at hSw); go_simp; try with_reducible rfl)
                try simp only [Act.put, List.setIfInBounds_toArray, List.set_cons_zero, List.set_cons_succ]
                refine hold_plain 16 (v := ?_) hHC hH2 (by simp only [List.getElem?_toArray, List.getElem?_cons_succ, List.getElem?_cons_zero]; rfl) rfl (by kernel_rfl) ?_ ?_
                rotate_left 1
                · (intro w hSw; (try dsimp only at hSw); go_simp; try with_reducible rfl)
                try simp only [Act.put, List.setIfInBounds_toArray, List.set_cons_zero, List.set_cons_succ]
                refine wpAnyH_done (by kernel_rfl) ?_ _
                (try dsimp only at hH2)
                go_split_ands
                clear hHC
                have hbr : Below wr.heap.size wr w1 := by assumption
                have hO5 := Lib.hid (OwnC.below hO2.out hbr)
                have hRB5 := Lib.hid (RowB.next hRB2.out hbr)
                have hOut5 := Lib.hid (OwnC.below hOut2.out hbr)
                have hcr5 : w1.cell? ⟨w.heap.size, 0, none⟩ = some (.slice a n c) := (hbr.cell (p := ⟨w.heap.size, 0, none⟩) (by first | omega | (simp; done) | (simp; omega))).trans hcr2
                have hRd5 := Rd.below hRd2 hbr
                have hB5 : Below w.heap.size w w1 := by assumption
                have hs5 : w3.heap.size + 1 ≤ w1.heap.size := by have := hbr.size; omega
                go_wp2_with (go_at_call 46; fail)
                refine (HIX2.out _).mono ?_
                rintro e w5 ⟨rfl, hb⟩
                have hz5 := hb.size
                have hRB6 := Lib.hid (RowB.next hRB5.out hb)
                have hcc6 := hRB6.out.cell hp64
                have hcf6 := hRB6.out.frozen p
                have hO6 := Lib.hid (OwnC.below hO5.out hb)
                have hOut6 := Lib.hid (OwnC.below hOut5.out hb)
                have hcr6 : w5.cell? ⟨w.heap.size, 0, none⟩ = some (.slice a n c) := (hb.cell (p := ⟨w.heap.size, 0, none⟩) (by first | omega | (simp; done) | (simp; omega))).trans hcr5
                have hRd6 := Rd.below hRd5 hb
                have hB6 : Below w.heap.size w w5 := below_step hb (by first | omega | (simp; done) | (simp; omega)) hB5
                have hbrs := hbr.size
                have hx6 : w5.cell? ⟨b5, o5 + j * 2, none⟩ = some (.int .i64 dx) := (hb.cell (p := ⟨b5, o5 + j * 2, none⟩) (by first | omega | (simp; done) | (simp; omega))).trans ((hbr.cell (p := ⟨b5, o5 + j * 2, none⟩) hbl5).trans hx5)
                have hy6 : w5.cell? ⟨b5, o5 + j * 2 + 1, none⟩ = some (.int .i64 dy) := (hb.cell (p := ⟨b5, o5 + j * 2 + 1, none⟩) (by first | omega | (simp; done) | (simp; omega))).trans ((hbr.cell (p := ⟨b5, o5 + j * 2 + 1, none⟩) hbl5).trans hy5)
                have hb5g := HNG.out b5 o5 rfl
                have hm1 : ¬ b5 = w2.heap.size := by omega
                have hm2 : ¬ w2.heap.size = b5 := by omega
                have hg2 := hO6.out.lt g2 rfl
                have hm3 : ¬ w2.heap.size = w.heap.size := by omega
                have hm4 : ¬ w.heap.size = w2.heap.size := by omega
                have hb5n := hNE2.out b5 o5 rfl
                have hOs : Hid (OwnC (w5.setCell ⟨w2.heap.size, p, none⟩ (.bool true)) w3.heap.size (.slice (some ⟨g2, 0, none⟩) L2.length c2) L2) := Lib.hid (OwnC.far hO6.out (by simp; omega) _)
                have hRBs : Hid (RowB (w5.setCell ⟨w2.heap.size, p, none⟩ (.bool true)) w2.heap.size 64 (seenU (L2 ++ [(dx, dy)]))) := Lib.hid (seen_snoc (p := (dx, dy)) (by rw [← HPE.out]; exact RowB.set_ hRB6.out hp64) HDOK.out)
                have hOuts : Hid (OwnC (w5.setCell ⟨w2.heap.size, p, none⟩ (.bool true)) w.heap.size (.slice (some ⟨w.heap.size + 1 + 1, 0, none⟩) 0 0) []) := Lib.hid (OwnC.far hOut6.out (by simp; omega) _)
                have hRds : Rd (w5.setCell ⟨w2.heap.size, p, none⟩ (.bool true)) (some ⟨b5, o5, none⟩) (flatC N) := Rd.heap_ (b := w2.heap.size) hRd6 (by simp) (fun bb oo he => by injection he with he; injection he with h1 h2; omega) (fun i hi => Below.heap_setCell _ _ _ i hi)
                have hBs : Below w.heap.size w (w5.setCell ⟨w2.heap.size, p, none⟩ (.bool true)) := Below.setCell hB6 (by simp; omega) _
                clear hb
                go_wp2_with (at_builtin; go_must (refine wpList_append_own_at _ rfl _ _ 33 rfl w3.heap.size 35 i0 (.agg #[.int .i64 0, .int .i64 0]) 2 16 Try.underlying33 hinf hz0 hz1 hz2 rfl (by decide) (.slice (some ⟨g2, 0, none⟩) L2.length c2) L2.length (flatC L2) (by rfl) (World.ownsRow.alloc hOs.out _) ⟨w5.heap.size, 0, none⟩ 1 1 [.int .i64 dx, .int .i64 dy] (by rfl) rfl (by simpa using cell_two_new (w5.setCell ⟨w2.heap.size, p, none⟩ (.bool true)) _ _ _) (by intro u hu; simp at hu; rcases hu with rfl | rfl <;> rfl) (by unfold maxLen; omega) (by omega) (by simp; omega) ?_); intro v7 w7 hown7 hgrow7 hnil7 hat7)
                obtain ⟨g3, c3, rfl, hg3, hg3l⟩ := own_someP hown7
                have hG : Below w3.heap.size _ w7 := grown_below (World.ownsRow.alloc hOs.out _) hgrow7 (by simp; omega)
                have HO7 : Hid (OwnC w7 w3.heap.size (.slice (some ⟨g3, 0, none⟩) (L2 ++ [(dx, dy)]).length c3) (L2 ++ [(dx, dy)])) := Lib.hid (by unfold OwnC; rw [flatC_app, List.length_append]; exact hown7)
                have hRB7 := Lib.hid (RowB.below (RowB.alloc_ hRBs.out _) hG hlg)
                have hOut7 := Lib.hid (OwnC.under (OwnC.alloc hOuts.out _) hG hlo)
                have hcr7 : w7.cell? ⟨w.heap.size, 0, none⟩ = some (.slice a n c) := (hG.cell (p := ⟨w.heap.size, 0, none⟩) (by first | omega | (simp; done) | (simp; omega))).trans (by rw [World.cell?_alloc_past _ _ _ (by simp; omega)]; go_simp)
                have hNE7 : Hid (∀ bb oo, (some ⟨b5, o5, none⟩ : Option Addr) = some ⟨bb, oo, none⟩ → bb ≠ g3) := Lib.hid (by intro bb oo he; injection he with he; injection he with h1 h2; simp [Value.ownBlock] at hat7; omega)
                have hRd7 := Rd.grown (Rd.alloc hRds _) hgrow7 (fun bb oo he => by injection he with he; injection he with h1 h2; simp [Value.ownBlock]; omega)
                have hB7 : Below w.heap.size w w7 := Below.trans (Below.alloc hBs (by simp; omega) _) (hG.mono (by omega))
                have hs7 : w3.heap.size + 1 ≤ w7.heap.size := by have := hG.size; simp at this; omega
                go_roundg (N.length - (j + 1))
                case measure => omega
                case rel => exact ⟨j + 1, L2 ++ [(dx, dy)], g3, c3, by omega, rfl, by go_num, by simp, HT, HO7, hRB7, hOut7, hcr7, hNE7, hRd7, hB7, hs7⟩
            · have HLV := Lib.hid (fun (W : World) (h : RdI W a zs) => HL3.out W dx dy HDOK.out false hs h)
              have HT : Hid (L2 = (N.take (j + 1)).foldl (stepN S) L) := Lib.hid (by rw [HST.out, stepN_no hs])
              clear hs hdok
              go_wp2_with fail
              refine hold_start (S := (fun w' => w'.cell? ⟨w.heap.size, 0, none⟩ = some (.slice a n c) ∧ w'.cell? ⟨b5, o5 + j * 2, none⟩ = some (.int .i64 dx) ∧ w'.cell? ⟨b5, o5 + j * 2 + 1, none⟩ = some (.int .i64 dy) ∧ w'.cell? ⟨w2.heap.size, p, none⟩ = some (.bool (seenU L2 p)) ∧ Below wr.heap.size wr w' ∧ Below w.heap.size w w' ∧ wr.heap.size ≤ w'.heap.size)) (by kernel_rfl) (by kernel_rfl) (by intro _ _ d _ _ h; cases d <;> exact h) ?_ (fun hHC hH0 => ?_)
              · (first | (go_keep; done) | ((try go_split_ands); (repeat' apply And.intro) <;> first | assumption | (with_reducible refine Rd.below ?_ hb1; assumption) | (with_reducible refine Rd.drew ?_; repeat' (first | assumption | (with_reducible refine Rd.alloc ?_ _))) | (refine (hb1.cell (by first | omega | (simp; done) | (simp; omega))).trans ?_; first | assumption | simp) | (exact below_step hb1 (by first | omega | (simp; done) | (simp; omega)) (by assumption)) | (have hz' := hb1.size; (try simp at hz'); omega) | ((repeat' (first | assumption | (with_reducible exact Below.refl _ _) | (with_reducible refine Below.drew ?_) | (with_reducible refine Below.alloc ?_ ?_ _) | (with_reducible refine Below.setCell ?_ ?_ _) | omega | (simp; done) | (simp; omega))); done) | go_simp | (simp; done) | (simp; omega)))
              refine hold_plain 0 (v := ?_) hHC hH0 (by simp only [List.getElem?_toArray, List.getElem?_cons_succ, List.getElem?_cons_zero]; rfl) rfl (by kernel_rfl) ?_ ?_
              rotate_left 1
              · (intro w hSw; (try dsimp only at hSw); go_simp; try with_reducible rfl)
              try simp only [Act.put, List.setIfInBounds_toArray, List.set_cons_zero, List.set_cons_succ]
              refine hold_plain 1 (v := ?_) hHC hH0 (by simp only [List.getElem?_toArray, List.getElem?_cons_succ, List.getElem?_cons_zero]; rfl) rfl (by kernel_rfl) ?_ ?_
              rotate_left 1
              · (intro w hSw; (try dsimp only at hSw); go_simp; try with_reducible rfl)
              try simp only [Act.put, List.setIfInBounds_toArray, List.set_cons_zero, List.set_cons_succ]
              refine hold_plain 2 (v := ?_) hHC hH0 (by simp only [List.getElem?_toArray, List.getElem?_cons_succ, List.getElem?_cons_zero]; rfl) rfl (by kernel_rfl) ?_ ?_
              rotate_left 1
              · (intro w hSw; (try dsimp only at hSw); go_simp; try with_reducible rfl)
              try simp only [Act.put, List.setIfInBounds_toArray, List.set_cons_zero, List.set_cons_succ]
              refine hold_plain 3 (v := ?_) hHC hH0 (by simp only [List.getElem?_toArray, List.getElem?_cons_succ, List.getElem?_cons_zero]; rfl) rfl (by kernel_rfl) ?_ ?_
              rotate_left 1
              · (intro w hSw; (try dsimp only at hSw); go_simp; try with_reducible rfl)
              try simp only [Act.put, List.setIfInBounds_toArray, List.set_cons_zero, List.set_cons_succ]
              refine hold_plain 4 (v := ?_) hHC hH0 (by simp only [List.getElem?_toArray, List.getElem?_cons_succ, List.getElem?_cons_zero]; rfl) rfl (by kernel_rfl) ?_ ?_
              rotate_left 1
              · (intro w hSw; (try dsimp only at hSw); go_simp; try with_reducible rfl)
              try simp only [Act.put, List.setIfInBounds_toArray, List.set_cons_zero, List.set_cons_succ]
              refine hold_call0 5 (by simp only [List.getElem?_toArray, List.getElem?_cons_succ, List.getElem?_cons_zero]; rfl) rfl (by kernel_rfl) (fun K hK => ?_)
              go_simp
              obtain ⟨_, _, _, _, hs1, hs2', _⟩ := id hH0; first | (go_at_call 48; refine (HLV.out _ (Rd.below HR.out hs2')).mono ?_; rintro e w1 ⟨rfl, hb1⟩) | (go_at_call 46; refine (HIX2.out _).mono ?_; rintro e w1 ⟨rfl, hb1⟩)
              refine hK.out _ _ ?_ (fun hH1 => ?_)
              · (first | (go_keep; done) | ((try go_split_ands); (repeat' apply And.intro) <;> first | assumption | (with_reducible refine Rd.below ?_ hb1; assumption) | (with_reducible refine Rd.drew ?_; repeat' (first | assumption | (with_reducible refine Rd.alloc ?_ _))) | (refine (hb1.cell (by first | omega | (simp; done) | (simp; omega))).trans ?_; first | assumption | simp) | (exact below_step hb1 (by first | omega | (simp; done) | (simp; omega)) (by assumption)) | (have hz' := hb1.size; (try simp at hz'); omega) | ((repeat' (first | assumption | (with_reducible exact Below.refl _ _) | (with_reducible refine Below.drew ?_) | (with_reducible refine Below.alloc ?_ ?_ _) | (with_reducible refine Below.setCell ?_ ?_ _) | omega | (simp; done) | (simp; omega))); done) | go_simp | (simp; done) | (simp; omega)))
              clear hK K hH0
              try simp only [Act.put, List.setIfInBounds_toArray, List.set_cons_zero, List.set_cons_succ]
              refine hold_plain 6 (v := ?_) hHC hH1 (by simp only [List.getElem?_toArray, List.getElem?_cons_succ, List.getElem?_cons_zero]; rfl) rfl (by kernel_rfl) ?_ ?_
              rotate_left 1
              · (intro w hSw; (try dsimp only at hSw); go_simp; try with_reducible rfl)
              try simp only [Act.put, List.setIfInBounds_toArray, List.set_cons_zero, List.set_cons_succ]
              refine hold_no 7 hHC hH1 (by simp only [List.getElem?_toArray, List.getElem?_cons_succ, List.getElem?_cons_zero]; rfl) rfl (by kernel_rfl) (by kernel_rfl) ?_
              try simp only [Act.put, List.setIfInBounds_toArray, List.set_cons_zero, List.set_cons_succ]
              refine hold_no 8 hHC hH1 (by simp only [List.getElem?_toArray, List.getElem?_cons_succ, List.getElem?_cons_zero]; rfl) rfl (by kernel_rfl) (by kernel_rfl) ?_
              try simp only [Act.put, List.setIfInBounds_toArray, List.set_cons_zero, List.set_cons_succ]
              refine hold_no 9 hHC hH1 (by simp only [List.getElem?_toArray, List.getElem?_cons_succ, List.getElem?_cons_zero]; rfl) rfl (by kernel_rfl) (by kernel_rfl) ?_
              try simp only [Act.put, List.setIfInBounds_toArray, List.set_cons_zero, List.set_cons_succ]
              refine hold_no 10 hHC hH1 (by simp only [List.getElem?_toArray, List.getElem?_cons_succ, List.getElem?_cons_zero]; rfl) rfl (by kernel_rfl) (by kernel_rfl) ?_
              try simp only [Act.put, List.setIfInBounds_toArray, List.set_cons_zero, List.set_cons_succ]
              refine hold_no 11 hHC hH1 (by simp only [List.getElem?_toArray, List.getElem?_cons_succ, List.getElem?_cons_zero]; rfl) rfl (by kernel_rfl) (by kernel_rfl) ?_
              try simp only [Act.put, List.setIfInBounds_toArray, List.set_cons_zero, List.set_cons_succ]
              refine hold_no 12 hHC hH1 (by simp only [List.getElem?_toArray, List.getElem?_cons_succ, List.getElem?_cons_zero]; rfl) rfl (by kernel_rfl) (by kernel_rfl) ?_
              try simp only [Act.put, List.setIfInBounds_toArray, List.set_cons_zero, List.set_cons_succ]
              refine hold_no 13 hHC hH1 (by simp only [List.getElem?_toArray, List.getElem?_cons_succ, List.getElem?_cons_zero]; rfl) rfl (by kernel_rfl) (by kernel_rfl) ?_
              try simp only [Act.put, List.setIfInBounds_toArray, List.set_cons_zero, List.set_cons_succ]
              refine hold_no 14 hHC hH1 (by simp only [List.getElem?_toArray, List.getElem?_cons_succ, List.getElem?_cons_zero]; rfl) rfl (by kernel_rfl) (by kernel_rfl) ?_
              try simp only [Act.put, List.setIfInBounds_toArray, List.set_cons_zero, List.set_cons_succ]
              refine hold_no 15 hHC hH1 (by simp only [List.getElem?_toArray, List.getElem?_cons_succ, List.getElem?_cons_zero]; rfl) rfl (by kernel_rfl) (by kernel_rfl) ?_
              try simp only [Act.put, List.setIfInBounds_toArray, List.set_cons_zero, List.set_cons_succ]
              refine hold_plain 16 (v := ?_) hHC hH1 (by simp only [List.getElem?_toArray, List.getElem?_cons_succ, List.getElem?_cons_zero]; rfl) rfl (by kernel_rfl) ?_ ?_
              rotate_left 1
              · (intro w hSw; (try dsimp only at hSw); go_simp; try with_reducible rfl)
              try simp only [Act.put, List.setIfInBounds_toArray, List.set_cons_zero, List.set_cons_succ]
              refine wpAnyH_done (by kernel_rfl) ?_ _
              (try dsimp only at hH1)
              go_split_ands
              clear hHC
              have hbr : Below wr.heap.size wr w1 := by assumption
              have hO5 := Lib.hid (OwnC.below hO2.out hbr)
              have hRB5 := Lib.hid (RowB.next hRB2.out hbr)
              have hOut5 := Lib.hid (OwnC.below hOut2.out hbr)
              have hcr5 : w1.cell? ⟨w.heap.size, 0, none⟩ = some (.slice a n c) := (hbr.cell (p := ⟨w.heap.size, 0, none⟩) (by first | omega | (simp; done) | (simp; omega))).trans hcr2
              have hRd5 := Rd.below hRd2 hbr
              have hB5 : Below w.heap.size w w1 := by assumption
              have hs5 : w3.heap.size + 1 ≤ w1.heap.size := by have := hbr.size; omega
              go_wp2_with fail
              go_roundg (N.length - (j + 1))
              case measure => omega
              case rel => exact ⟨j + 1, L2, g2, c2, by omega, rfl, by go_num, rfl, HT, hO5, hRB5, hOut5, hcr5, hNE2, hRd5, hB5, hs5⟩
          · have hjn : j = N.length := by omega
            have hjI : ¬ (j : Int) < (N.length : Int) := by omega
            have hE : Hid (L2 = bfsL S (x, y) (k + 1)) := Lib.hid (by rw [bfs_succ (by rw [← hL.out]; exact hv9.out), ← hL.out]; rw [hL2.out, hjn, List.take_length, HNN.out]; rfl)
            clear hjn
            go_wp2_with fail
            go_roundg (64 - (k + 1))
            case measure => omega
            case rel => exact ⟨k + 1, L2, g2, c2, by omega, rfl, hlen2, by go_num, rfl, hE, hO2, hRB2, hOut2, hcr2, hB2, hs2⟩
      · have hE : Hid (L = bfsR S (x, y)) := Lib.hid (by rw [hL.out]; exact bfs_end hk (by rw [← hL.out]; omega))
        have hltI : ¬ (k : Int) < (L.length : Int) := by omega
        go_wp2_with fail
        have hgl2 : w2.heap.size < wr.heap.size := by omega
        clear hO hcr hs hkL
        go_loopg [5, 11] 64 (fun gm o m wr => ∃ (mm : Nat) (Lo : List CellI) (go co : Nat), mm ≤ 64 ∧ gm = 64 - mm ∧ m = .int .i64 mm ∧ o = .slice (some ⟨go, 0, none⟩) Lo.length co ∧ Hid (Lo = ((List.range mm).filter fun j => decide (cellOf j ∈ L)).map cellOf) ∧ Hid (OwnC wr w.heap.size (.slice (some ⟨go, 0, none⟩) Lo.length co) Lo) ∧ ¬ go = w2.heap.size ∧ Hid (RowB wr w2.heap.size 64 (seenU L)) ∧ Below w.heap.size w wr ∧ w2.heap.size < wr.heap.size)
        case atStart => exact ⟨0, [], _, 0, by omega, rfl, rfl, rfl, Lib.hid rfl, hOut, by omega, hRB, hB, hgl2⟩
        case round =>
          clear hOut hRB hB hgl2
          obtain ⟨mm, Lo, go, co, hmm, hgm, rfl, rfl, hLo, hOo, hne, hRB, hB, hgl2⟩ := hrel
          by_cases hm : mm < 64
          · have hmI : (mm : Int) < 64 := by omega
            have hsv := hRB.out.cell hm
            have hLol : Lo.length ≤ 64 := by rw [hLo.out, List.length_map]; exact Nat.le_trans (List.length_filter_le _ _) (by simp; omega)
            have hgo := hOo.out.lt go rfl
            by_cases hin : cellOf mm ∈ L
            · have HLo : Hid (Lo ++ [cellOf mm] = ((List.range (mm + 1)).filter fun j => decide (cellOf j ∈ L)).map cellOf) := Lib.hid (by rw [hLo.out, List.range_succ, List.filter_append, List.map_append]; simp [hin])
              rw [show seenU L mm = true by unfold seenU; simpa using hin] at hsv
              have HAt := Lib.hid (fun W : World => by have g := specAt_any (mm : Int) W; rw [(atXY hm).1, (atXY hm).2, inB_iff.2 (show 0 ≤ (mm : Int) ∧ (mm : Int) ≤ 63 by omega)] at g; exact g)
              clear hin
              go_wp2_with (go_at_call 49; fail)
              refine (HAt.out _).mono ?_
              rintro e w6 ⟨rfl, hb⟩
              have hz6 := hb.size
              have hO6 := Lib.hid (OwnC.below hOo.out hb)
              have hRB6 := Lib.hid (RowB.next hRB.out hb)
              have hB6 : Below w.heap.size w w6 := below_step hb (by first | omega | (simp; done) | (simp; omega)) hB
              clear hb
              go_wp2_with (at_builtin; go_must (refine wpList_append_own_at _ rfl _ _ 33 rfl w.heap.size 35 i0 (.agg #[.int .i64 0, .int .i64 0]) 2 16 Try.underlying33 hinf hz0 hz1 hz2 rfl (by decide) (.slice (some ⟨go, 0, none⟩) Lo.length co) Lo.length (flatC Lo) (by rfl) (World.ownsRow.alloc (World.ownsRow.alloc hO6.out _) _) ⟨w6.heap.size + 1, 0, none⟩ 1 1 [.int .i64 ((mm : Int) % 8), .int .i64 ((mm : Int) / 8)] (by rfl) rfl (by simpa using cell_two_new (w6.alloc (.cells #[.int .i64 ((mm : Int) % 8), .int .i64 ((mm : Int) / 8)] 35)) _ _ _) (by intro u hu; simp at hu; rcases hu with rfl | rfl <;> rfl) (by unfold maxLen; omega) (by omega) (by simp; omega) ?_); intro v7 w7 hown7 hgrow7 hnil7 hat7)
              obtain ⟨g3, c3, rfl, hg3, hg3l⟩ := own_someP hown7
              have HO7 : Hid (OwnC w7 w.heap.size (.slice (some ⟨g3, 0, none⟩) (Lo ++ [cellOf mm]).length c3) (Lo ++ [cellOf mm])) := Lib.hid (by unfold OwnC; rw [flatC_app, List.length_append]; exact hown7)
              have hRB7 := Lib.hid (RowB.kept (RowB.alloc_ (RowB.alloc_ hRB6.out _) _) (hgrow7.block w2.heap.size (by simp; omega) (by simp [Value.ownBlock]; omega)))
              have hB7 : Below w.heap.size w w7 := Below.trans (Below.alloc (Below.alloc hB6 (by omega) _) (by simp; omega) _) (grown_below (World.ownsRow.alloc (World.ownsRow.alloc hO6.out _) _) hgrow7 (by simp; omega))
              have hne7 : ¬ g3 = w2.heap.size := by simp [Value.ownBlock] at hat7; omega
              have hgl7 : w2.heap.size < w7.heap.size := hRB7.out.lt
              go_wp2_with fail
              go_roundg (64 - (mm + 1))
              case measure => omega
              case rel => exact ⟨mm + 1, Lo ++ [cellOf mm], g3, c3, by omega, rfl, by go_num, by simp, HLo, HO7, hne7, hRB7, hB7, hgl7⟩
            · have HLo : Hid (Lo = ((List.range (mm + 1)).filter fun j => decide (cellOf j ∈ L)).map cellOf) := Lib.hid (by rw [hLo.out, List.range_succ, List.filter_append, List.map_append]; simp [hin])
              rw [show seenU L mm = false by unfold seenU; simpa using hin] at hsv
              clear hin
              go_wp2_with fail
              go_roundg (64 - (mm + 1))
              case measure => omega
              case rel => exact ⟨mm + 1, Lo, go, co, by omega, rfl, by go_num, rfl, HLo, hOo, hne, hRB, hB, hgl2⟩
          · have hm64 : mm = 64 := by omega
            have HL : Hid (Lo = L0) := Lib.hid (by rw [HPL.out, hLo.out, hm64, hE.out])
            have hmI : ¬ (mm : Int) < 64 := by omega
            clear hm64
            go_wp2_with fail
            go_ret
            exact ⟨some ⟨go, 0, none⟩, co, (by show Ending.returned (Value.slice (some ⟨go, 0, none⟩) Lo.length co) = _; rw [HL.out]), by rw [← HL.out]; exact hOo.out, hB⟩
  · have HH := Lib.hid (fun (W : World) (h : RdI W a zs) => specHas_valP a n c zs x y W HZ.out hn h hh)
    have HT : Hid (pieceL zs x y = []) := Lib.hid (by rw [pieceL, hh]; rfl)
    clear hh
    go_enter Try.func15, Try.ntmps15
    go_wp2_with (go_at_call 29; fail)
    refine (HH.out _ (by repeat' (first | assumption | (with_reducible refine Rd.alloc ?_ _) | (with_reducible refine Rd.drew ?_)))).mono ?_
    rintro e w2 ⟨rfl, hb⟩
    have hB2 : Below w.heap.size w w2 := below_step hb (by first | omega | (simp; done) | (simp; omega)) (by repeat' (first | assumption | (with_reducible exact Below.refl _ _) | (with_reducible refine Below.drew ?_) | (with_reducible refine Below.alloc ?_ ?_ _) | (with_reducible refine Below.setCell ?_ ?_ _) | omega | (simp; done) | (simp; omega)))
    have hOut2 : Hid (OwnC w2 w.heap.size (.slice (some ⟨w.heap.size + 1 + 1, 0, none⟩) 0 0) []) := Lib.hid (OwnC.below (by simpa using OwnC.new ((w.alloc (.cells #[.slice a n c] 27)).alloc (.cells #[.int .i64 x, .int .i64 y] 35)) w.heap.size (by simp; omega) _ rfl) hb)
    clear hb
    go_wp2_with fail
    go_ret
    exact ⟨some ⟨w.heap.size + 1 + 1, 0, none⟩, 0, by rw [HT.out]; rfl, by rw [HT.out]; exact hOut2.out, hB2⟩
end Go.Proofs.Ytghakmhglneckaa
