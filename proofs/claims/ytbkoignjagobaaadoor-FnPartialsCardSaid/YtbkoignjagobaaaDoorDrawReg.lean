/-
  The draw of a region.
-/
import Derived.Test.YtbkoignjagobaaaDoorDrawN
import Derived.Test.YtbkoignjagobaaaDoorRect
import Derived.Test.YtbkoignjagobaaaDoorHas
namespace Go.Proofs.YtbkoignjagobaaaDoor
open Go.RowKit
set_option linter.unusedVariables false
set_option linter.unusedSimpArgs false

theorem rp_pow {x : Nat} (h : x < 8) : IntKind.i64.wrap ((2 : Int) ^ x) = ((2 ^ x : Nat) : Int) := by
  have : ∀ i : Fin 8, IntKind.i64.wrap ((2 : Int) ^ i.val) = ((2 ^ i.val : Nat) : Int) := by decide
  exact this ⟨x, h⟩
theorem rp_three {x : Nat} (h : x < 6) : IntKind.i64.wrap (3 * (2 : Int) ^ x) = ((3 * 2 ^ x : Nat) : Int) := by
  have : ∀ i : Fin 6, IntKind.i64.wrap (3 * (2 : Int) ^ i.val) = ((3 * 2 ^ i.val : Nat) : Int) := by decide
  exact this ⟨x, h⟩
theorem rp_or {m x : Nat} (hm : m < 256) (h : x < 6) : bits .or .i64 (m : Int) ((3 * 2 ^ x : Nat) : Int) = ((m ||| 3 * 2 ^ x : Nat) : Int) ∧ m ||| 3 * 2 ^ x < 256 := by
  have : ∀ (i : Fin 256) (j : Fin 6), bits .or .i64 (i.val : Int) ((3 * 2 ^ j.val : Nat) : Int) = ((i.val ||| 3 * 2 ^ j.val : Nat) : Int) ∧ i.val ||| 3 * 2 ^ j.val < 256 := by decide +kernel
  exact this ⟨m, hm⟩ ⟨x, h⟩
theorem rp_le {m x : Nat} (hm : m < 256) (hx : x < 8) (hb : m.testBit x = true) : 2 ^ x ≤ m := by
  have h : ∀ (m : Fin 256) (x : Fin 8), m.val.testBit x.val = true → 2 ^ x.val ≤ m.val := by decide +kernel
  exact h ⟨m, hm⟩ ⟨x, hx⟩ hb
theorem rect_val {W : Nat} (h1 : 1 ≤ W) (h : W ≤ 8) : (0 : Int) ≤ 2 ^ W - 1 ∧ (2 : Int) ^ W - 1 ≤ 255 := by
  have : W = 1 ∨ W = 2 ∨ W = 3 ∨ W = 4 ∨ W = 5 ∨ W = 6 ∨ W = 7 ∨ W = 8 := by omega
  rcases this with rfl | rfl | rfl | rfl | rfl | rfl | rfl | rfl <;> decide
theorem rect_at (W H : Nat) (w : World) (x y : Int) (hx : x = W) (hy : y = H) (hW1 : 1 ≤ W) (hW : W ≤ 8) (hH1 : 1 ≤ H) (hH : H ≤ 8) :
    Calls Tryd.prog 32 #[.int .i64 x, .int .i64 y] w fun e w' => ∃ (b c : Nat) (rs : List Int), e = .returned (.agg #[.slice (some ⟨b, 0, none⟩) H c]) ∧ OwnI w' w.heap.size (.slice (some ⟨b, 0, none⟩) H c) rs ∧ rs.length = H ∧ (∀ v ∈ rs, 0 ≤ v ∧ v ≤ 255) ∧ rs = List.replicate H (2 ^ W - 1) ∧ Below w.heap.size w w' := by
  subst hx hy
  refine (specRect_any (W : Int) (H : Int) w (inB_iff.2 (by omega)) (inB_iff.2 (by omega))).mono ?_
  rintro e w' ⟨a, c, he, hO, hB⟩
  simp only [Int.toNat_natCast] at he hO
  rcases hO.2 with ⟨hv, hn⟩ | ⟨g, cap, cur, hv, r⟩
  · exfalso
    have := congrArg (fun v : Value => match v with | .slice _ n _ => n | _ => 0) hv
    simp at this
    omega
  · obtain ⟨rfl, -, -⟩ := Value.slice.inj hv
    refine ⟨g, c, _, he, hO, by simp, ?_, rfl, hB⟩
    intro v hv
    rw [List.mem_replicate] at hv
    rw [hv.2]
    exact rect_val hW1 hW
theorem ownI_at {w : World} {B g n c : Nat} {L : List Int} (h : OwnI w B (.slice (some ⟨g, 0, none⟩) n c) L) (hn : L.length = n) {k : Nat} (hk : k < L.length) : w.cell? ⟨g, k, none⟩ = some (.int .i64 (L.getD k 0)) ∧ w.frozen? ⟨g, k, none⟩ = false := by
  subst hn
  have h1 := h.cellAt k (by omega)
  refine ⟨?_, h.frozenAt k⟩
  rw [h1, flatI, List.getElem?_map, List.getElem?_eq_getElem hk, List.getD_eq_getElem?_getD, List.getElem?_eq_getElem hk]
  rfl
theorem ownI_set {w : World} {B g n c : Nat} {L : List Int} (h : OwnI w B (.slice (some ⟨g, 0, none⟩) n c) L) (hn : L.length = n) (k : Nat) (z : Int) : OwnI (w.setCell ⟨g, k, none⟩ (.int .i64 z)) B (.slice (some ⟨g, 0, none⟩) n c) (L.set k z) := by
  subst hn
  have := (h.stored k (.int .i64 z)).1
  have e : (flatI L).set k (.int .i64 z) = flatI (L.set k z) := by simp [flatI, List.map_set]
  rw [e] at this
  unfold OwnI
  rw [List.length_set]
  exact this
theorem ownI_low {w : World} {B B' : Nat} {v : Value} {L : List Int} (h : OwnI w B' v L) (hB : B ≤ B') : OwnI w B v L :=
  ⟨h.1, h.2.imp id (fun ⟨g, cap, cur, a, b, c⟩ => ⟨g, cap, cur, a, Nat.le_trans hB b, c⟩)⟩
theorem gr_new {a w : World} {r : Option Nat} {b : Nat} (h : a.grownBy w r) (hb : a.heap.size ≤ b) (o : Nat) (u : Value) : a.grownBy (w.setCell ⟨b, o, none⟩ u) r :=
  ⟨h.os, h.tape, h.output, by simpa [World.setCell] using h.size, fun i hi hne => (Below.heap_setCell w ⟨b, o, none⟩ u i (by show i ≠ b; omega)).trans (h.block i hi hne)⟩
theorem gr_below {a w w' : World} {r : Option Nat} (h : a.grownBy w r) (hb : Below w.heap.size w w') : a.grownBy w' r :=
  gc_step h ⟨hb.os, hb.tape, hb.output, hb.size, fun i hi _ => hb.block i hi⟩
theorem At.setR {w0 w1 : World} {g : Nat} {a : Option Addr} {n c : Nat} (h : At w0 w1 g a n c) {b o : Nat} (hb : w0.heap.size ≤ b) (hn : b ≠ g) (v : Value) : At w0 (w1.setCell ⟨b, o, none⟩ v) g a n c := by
  obtain ⟨h1, ⟨i, x, h2⟩, h3⟩ := h
  have e : ∀ p : Nat, (w1.setCell ⟨b, o, none⟩ v).cell? ⟨g, p, none⟩ = w1.cell? ⟨g, p, none⟩ := fun p => World.cell?_setCell_far _ _ _ _ hn
  exact ⟨h1.setCell (p := ⟨b, o, none⟩) hb v, ⟨i, x, by simpa [World.setCell] using h2.lt, h2.le, (e 0).trans h2.c0, (e 1).trans h2.c1, (e 2).trans h2.c2, by simp [h2.f1], by simp [h2.f2]⟩, h3⟩
/-- One cell in a box. -/
def Box1 (w : World) (q : Nat) (v : Value) : Prop := q < w.heap.size ∧ w.cell? ⟨q, 0, none⟩ = some v ∧ w.frozen? ⟨q, 0, none⟩ = false
theorem Box1.new (w : World) (v : Value) (t : TypeId) : Box1 (w.alloc (.cells #[v] t)) w.heap.size v := ⟨by simp, by simp, by simp⟩
theorem Box1.grown {w w' : World} {q g : Nat} {v : Value} (h : Box1 w q v) (hg : w.grownBy w' (some g)) (hn : q ≠ g) : Box1 w' q v :=
  ⟨Nat.lt_of_lt_of_le h.1 hg.size, (far_of hg _ _ h.1 hn).trans h.2.1, (ice_of hg _ _ h.1 hn).trans h.2.2⟩
theorem Box1.below {w w' : World} {q : Nat} {v : Value} (h : Box1 w q v) (hb : Below w.heap.size w w') : Box1 w' q v :=
  ⟨Nat.lt_of_lt_of_le h.1 hb.size, (hb.cell (p := ⟨q, 0, none⟩) h.1).trans h.2.1, (hb.frozen (p := ⟨q, 0, none⟩) h.1).trans h.2.2⟩
theorem Box1.far {w : World} {q b o : Nat} {v u : Value} (h : Box1 w q v) (hn : b ≠ q) : Box1 (w.setCell ⟨b, o, none⟩ u) q v :=
  ⟨by simpa [World.setCell] using h.1, (World.cell?_setCell_far _ _ _ _ hn).trans h.2.1, by simp [h.2.2]⟩
theorem Box1.put {w : World} {q : Nat} {v : Value} (h : Box1 w q v) (u : Value) : Box1 (w.setCell ⟨q, 0, none⟩ u) q u :=
  ⟨by simpa [World.setCell] using h.1, World.cell?_setCell_same _ _ _ h.2.1, by simp [h.2.2]⟩
/-- A region that is being drawn: its variable in box q, its rows in block b, the result's box p. -/
structure RgS (w0 w1 w : World) (g : Nat) (a : Option Addr) (n c p q b m d : Nat) (rs : List Int) : Prop where
  at_ : At w0 w g a n c
  own : OwnI w w1.heap.size (.slice (some ⟨b, 0, none⟩) m d) rs
  len : rs.length = m
  val : ∀ v ∈ rs, 0 ≤ v ∧ v ≤ 255
  bq : Box1 w q (.slice (some ⟨b, 0, none⟩) m d)
  bp : Box1 w p (.slice none 0 0)
  gr : w1.grownBy w (some g)
  ne : q ≠ b ∧ p ≠ b ∧ q ≠ g ∧ p ≠ g ∧ b ≠ g ∧ p ≠ q
  lo : w0.heap.size ≤ w1.heap.size ∧ w1.heap.size ≤ b ∧ w1.heap.size ≤ q ∧ w1.heap.size ≤ p
theorem RgS.draw {w0 w1 w w' : World} {g : Nat} {a : Option Addr} {n c p q b m d : Nat} {rs : List Int} (h : RgS w0 w1 w g a n c p q b m d rs) (hat : At w0 w' g a n c) (hg : w.grownBy w' (some g)) : RgS w0 w1 w' g a n c p q b m d rs := by
  obtain ⟨n1, n2, n3, n4, n5, n6⟩ := h.ne
  exact ⟨hat, World.ownsRow.kept h.own hg (.inr (by intro e; cases e; exact n5 rfl)), h.len, h.val, h.bq.grown hg n3, h.bp.grown hg n4, gc_step h.gr hg, h.ne, h.lo⟩
theorem RgS.drew {w0 w1 w : World} {g : Nat} {a : Option Addr} {n c p q b m d : Nat} {rs : List Int} (h : RgS w0 w1 w g a n c p q b m d rs) : RgS w0 w1 w.drew g a n c p q b m d rs :=
  ⟨h.at_.drewN 1, h.own, h.len, h.val, h.bq, h.bp, gbd h.gr 1, h.ne, h.lo⟩
theorem RgS.put {w0 w1 w : World} {g : Nat} {a : Option Addr} {n c p q b m d : Nat} {rs : List Int} (h : RgS w0 w1 w g a n c p q b m d rs) (k : Nat) (z : Int) (h0 : 0 ≤ z) (h1 : z ≤ 255) : RgS w0 w1 (w.setCell ⟨b, k, none⟩ (.int .i64 z)) g a n c p q b m d (rs.set k z) := by
  obtain ⟨n1, n2, n3, n4, n5, n6⟩ := h.ne
  obtain ⟨l0, l1, l2, l3⟩ := h.lo
  refine ⟨h.at_.setR (by omega) n5 _, ownI_set h.own h.len k z, by rw [List.length_set]; exact h.len, ?_, h.bq.far (fun e => n1 e.symm), h.bp.far (fun e => n2 e.symm), gr_new h.gr l1 _ _, h.ne, h.lo⟩
  intro v hv
  rcases List.mem_or_eq_of_mem_set hv with hv | rfl
  · exact h.val v hv
  · exact ⟨h0, h1⟩
theorem RgS.row {w0 w1 w : World} {g : Nat} {a : Option Addr} {n c p q b m d : Nat} {rs : List Int} (h : RgS w0 w1 w g a n c p q b m d rs) {k : Nat} (hk : k < m) : ∃ v : Nat, v < 256 ∧ w.cell? ⟨b, k, none⟩ = some (.int .i64 (v : Int)) ∧ w.frozen? ⟨b, k, none⟩ = false ∧ b < w.heap.size := by
  obtain ⟨c1, c2⟩ := ownI_at h.own h.len (k := k) (by rw [h.len]; exact hk)
  have hm : rs.getD k 0 ∈ rs := by
    rw [List.getD_eq_getElem?_getD, List.getElem?_eq_getElem (by rw [h.len]; exact hk)]
    exact List.getElem_mem _
  obtain ⟨v0, v1⟩ := h.val _ hm
  refine ⟨(rs.getD k 0).toNat, by omega, ?_, c2, (World.ownsRow.lt h.own b rfl).2⟩
  rw [c1]
  congr 2
  omega
set_option maxHeartbeats 3200000 in
set_option maxRecDepth 100000 in
theorem l03Region_at {w0 w1 : World} {a : Option Addr} {n g c : Nat} {zs : List Int} (K : CodeOk w0 a n zs) (h : At w0 w1 g a n c) :
    Calls Tryd.prog 15 #[.pointer (some ⟨g, 0, none⟩)] w1 fun e w2 => ∃ (b m d : Nat) (rs : List Int), e = .returned (.agg #[.slice (some ⟨b, 0, none⟩) m d]) ∧ rokB rs = true ∧ rs.length = m ∧ 1 ≤ m ∧ m ≤ 5 ∧ b ≠ g ∧ OwnI w2 w1.heap.size (.slice (some ⟨b, 0, none⟩) m d) rs ∧ At w0 w2 g a n c ∧ w1.grownBy w2 (some g) := by
  have HK := Lib.hid K
  have hgl := h.lt
  have hw0 : w0.heap.size ≤ w1.heap.size := h.1.size
  have hpg : w1.heap.size ≠ g := by omega
  have HA := Lib.hid (h.alloc (.cells #[.slice none 0 0] 26))
  have HP := Lib.hid (Box1.new w1 (.slice none 0 0) 26)
  have HG : Hid (w1.grownBy (w1.alloc (.cells #[.slice none 0 0] 26)) (some g)) := Lib.hid (gc_alloc (World.grownBy.refl _ _) _)
  clear K h
  go_enter Tryd.func15, Tryd.ntmps15
  go_wp2_with (go_at_call 31; fail)
  refine (below_at HK.out HA.out 6 (WalkArith.wf_i64 (by omega))).mono ?_
  rintro e w2 ⟨v, rfl, ⟨hv0, hv1, -⟩, hat, hgw⟩
  have hv2 := hv1 (by omega)
  have P2 := Lib.hid (HP.out.grown hgw hpg)
  have G2 := Lib.hid (gc_step HG.out hgw)
  have H2 := Lib.hid hat
  clear hv1 hat hgw HA HP HG
  go_wp2_with (go_at_call 31; fail)
  refine (below_at HK.out H2.out 5 (WalkArith.wf_i64 (by omega))).mono ?_
  rintro e w3 ⟨u, rfl, ⟨hu0, hu1, -⟩, hat, hgw⟩
  have hu2 := hu1 (by omega)
  have P3 := Lib.hid (P2.out.grown hgw hpg)
  have G3 := Lib.hid (gc_step G2.out hgw)
  have H3 := Lib.hid hat
  clear hu1 hat hgw P2 G2 H2
  obtain ⟨W, hW⟩ : ∃ W : Nat, 1 + v = W := ⟨(1 + v).toNat, by omega⟩
  obtain ⟨H, hH⟩ : ∃ H : Nat, 1 + u = H := ⟨(1 + u).toNat, by omega⟩
  have hW1 : 1 ≤ W := by omega
  have hW6 : W ≤ 6 := by omega
  have hH1 : 1 ≤ H := by omega
  have hH5 : H ≤ 5 := by omega
  clear hv0 hv2 hu0 hu2
  go_wp2_with (go_at_call 32; fail)
  refine (rect_at W H _ _ _ (by omega) (by omega) hW1 (by omega) hH1 (by omega)).mono ?_
  rintro e w4 ⟨b, d, rs, rfl, hO, hlen, hval, -, hb⟩
  have hs3 := G3.out.size
  have hbl := World.ownsRow.lt hO b rfl
  have hg3 := H3.out.lt
  have hp3 := P3.out.1
  have HS : Hid (RgS w0 w1 (w4.alloc (.cells #[.slice (some ⟨b, 0, none⟩) H d] 26)) g a n c w1.heap.size w4.heap.size b H d rs) := Lib.hid (by
    have e1 : Below w4.heap.size w4 (w4.alloc (.cells #[.slice (some ⟨b, 0, none⟩) H d] 26)) := Below.alloc (Below.refl _ _) (Nat.le_refl _) _
    have hs4 := hb.size
    exact ⟨(H3.out.below hb).alloc _, ownI_low (OwnI.below hO e1) hs3, hlen, hval, Box1.new w4 _ _, (P3.out.below hb).below e1, gc_alloc (gr_below G3.out hb) _, ⟨by omega, by omega, by omega, hpg, by omega, by omega⟩, ⟨hw0, by omega, by omega, Nat.le_refl _⟩⟩)
  have hO0 : True := trivial
  clear hO hlen hval hbl hg3 hp3 hs3 P3 G3 H3 hb
  go_wp2_with (go_at_call 31; fail)
  obtain ⟨wa, hwa⟩ : ∃ wa, wa = w4.alloc (.cells #[.slice (some ⟨b, 0, none⟩) H d] 26) := ⟨_, rfl⟩
  rw [← hwa] at HS ⊢
  obtain ⟨q, hq⟩ : ∃ q, q = w4.heap.size := ⟨_, rfl⟩
  rw [← hq] at HS ⊢
  obtain ⟨p, hp⟩ : ∃ p, p = w1.heap.size := ⟨_, rfl⟩
  rw [← hp] at HS ⊢
  clear hwa hq hp
  refine (below_at HK.out HS.out.at_ 5 (WalkArith.wf_i64 (by omega))).mono ?_
  rintro e w5 ⟨k0, rfl, ⟨hk0, hk1, -⟩, hat, hgw⟩
  have hk2 := hk1 (by omega)
  have HS5 := Lib.hid (HS.out.draw hat hgw)
  obtain ⟨n1, n2, n3, n4, n5, n6⟩ := HS.out.ne
  have n1' : ¬ b = q := fun e => n1 e.symm
  have n2' : ¬ b = p := fun e => n2 e.symm
  clear hat hgw HS hk1
  go_wp2_with fail
  go_loopw [6] (fun kv wr => ∃ (k : Int) (rs : List Int), kv = .int .i64 k ∧ 0 ≤ k ∧ k ≤ 4 ∧ Hid (RgS w0 w1 wr g a n c p q b H d rs)) (fun kv _ => (intOf kv).toNat)
  case atStart => exact ⟨k0, rs, rfl, by omega, by omega, HS5⟩
  case round =>
    clear HS5
    obtain ⟨k, rs, rfl, hk0, hk4, HS⟩ := hrel
    by_cases hlt : 0 < k
    · go_wp2_with (go_at_call 31; fail)
      refine (below_at HK.out HS.out.at_ H (WalkArith.wf_i64 (by omega))).mono ?_
      rintro e w6 ⟨y, rfl, ⟨hy0, hy1, -⟩, hat, hgw⟩
      have hy2 := hy1 (by omega)
      have HS6 := Lib.hid (HS.out.draw hat hgw)
      clear hat hgw HS hy1
      obtain ⟨Y, rfl⟩ : ∃ Y : Nat, y = Y := ⟨y.toNat, by omega⟩
      go_wp2_with (go_at_call 31; fail)
      refine (below_at HK.out HS6.out.at_ W (WalkArith.wf_i64 (by omega))).mono ?_
      rintro e w7 ⟨x, rfl, ⟨hx0, hx1, -⟩, hat, hgw⟩
      have hx2 := hx1 (by omega)
      have HS7 := Lib.hid (HS6.out.draw hat hgw)
      clear hat hgw HS6 hx1
      obtain ⟨X, rfl⟩ : ∃ X : Nat, x = X := ⟨x.toNat, by omega⟩
      obtain ⟨m, hm, hc, hf, hbl⟩ := HS7.out.row (k := Y) (by omega)
      obtain ⟨q1, q2, q3⟩ := HS7.out.bq
      have e1 : bits .and .i64 ((m : Int) / 2 ^ X) 1 = ((m / 2 ^ X % 2 : Nat) : Int) := row_bit hm
      by_cases ht : m.testBit X = true
      · have hts : ((m : Int) / 2 ^ X % 2 == 1) = true := by rw [bit_test, ← testBit_mod]; exact ht
        have hle := rp_le hm (by omega) ht
        have eP := rp_pow (x := X) (by omega)
        obtain ⟨P, hP⟩ : ∃ P : Nat, P = 2 ^ X := ⟨_, rfl⟩
        have HPZ : Hid ((P : Int) = 2 ^ X) := Lib.hid (by rw [hP]; simp)
        rw [← hP] at eP hle
        obtain ⟨r, hr⟩ : ∃ r : Nat, r = m - P := ⟨_, rfl⟩
        have e2 : (m : Int) - (P : Int) = (r : Int) := by omega
        have e5 : IntKind.i64.wrap (r : Int) = (r : Int) := by rw [IntKind.wrap_i64]; omega
        have e4 : (m : Int) - 2 ^ X = (r : Int) := by rw [← HPZ.out]; exact e2
        have hr255 : r ≤ 255 := by omega
        have HS8 := Lib.hid ((HS7.out.put Y (r : Int) (by omega) (by omega)).drew)
        have hYI : (Y : Int) < (H : Int) := by omega
        clear ht hP hr hle
        go_wp2_with fail
        refine hold_start (S := (fun w' => w'.cell? ⟨q, 0, none⟩ = some (.slice (some ⟨b, 0, none⟩) H d) ∧ w7.heap.size ≤ w'.heap.size)) (by kernel_rfl) (by kernel_rfl) (by intro _ _ d _ _ h; cases d <;> exact h) ?_ (fun hHC hH0 => ?_)
        · (first | (go_keep; done) | ((try go_split_ands); (repeat' apply And.intro) <;> first | assumption | (with_reducible refine Rd.below ?_ hb1; assumption) | (with_reducible refine Rd.drew ?_; repeat' (first | assumption | (with_reducible refine Rd.alloc ?_ _))) | (refine (hb1.cell (by first | omega | (simp; done) | (simp; omega))).trans ?_; first | assumption | simp) | (exact below_step hb1 (by first | omega | (simp; done) | (simp; omega)) (by assumption)) | (have hz' := hb1.size; (try simp at hz'); omega) | ((repeat' (first | assumption | (with_reducible exact Below.refl _ _) | (with_reducible refine Below.drew ?_) | (with_reducible refine Below.alloc ?_ ?_ _) | (with_reducible refine Below.setCell ?_ ?_ _) | omega | (simp; done) | (simp; omega))); done) | go_simp | (simp; done) | (simp; omega)))
        refine hold_plain 0 (v := ?_) hHC hH0 (by simp only [List.getElem?_toArray, List.getElem?_cons_succ, List.getElem?_cons_zero]; rfl) rfl (by kernel_rfl) ?_ ?_
        rotate_left 1
        · (intro w hSw; (try dsimp only at hSw); go_simp; try with_reducible rfl)
        try simp only [Act.put, List.setIfInBounds_toArray, List.set_cons_zero, List.set_cons_succ]
        refine hold_plain 1 (v := ?_) hHC hH0 (by simp only [List.getElem?_toArray, List.getElem?_cons_succ, List.getElem?_cons_zero]; rfl) rfl (by kernel_rfl) ?_ ?_
        rotate_left 1
        · (intro w hSw; (try dsimp only at hSw); go_simp; try with_reducible rfl)
        try simp only [Act.put, List.setIfInBounds_toArray, List.set_cons_zero, List.set_cons_succ]
        refine hold_plain 2 (v := ?_) hHC hH0 (by simp only [List.getElem?_toArray, List.getElem?_cons_succ, List.getElem?_cons_zero]; rfl) rfl (by kernel_rfl) ?_ ?_
        rotate_left 1
        · (intro w hSw; (try dsimp only at hSw); go_simp; try with_reducible rfl)
        try simp only [Act.put, List.setIfInBounds_toArray, List.set_cons_zero, List.set_cons_succ]
        refine hold_plain 3 (v := ?_) hHC hH0 (by simp only [List.getElem?_toArray, List.getElem?_cons_succ, List.getElem?_cons_zero]; rfl) rfl (by kernel_rfl) ?_ ?_
        rotate_left 1
        · (intro w hSw; (try dsimp only at hSw); go_simp; try with_reducible rfl)
        try simp only [Act.put, List.setIfInBounds_toArray, List.set_cons_zero, List.set_cons_succ]
        refine hold_plain 4 (v := ?_) hHC hH0 (by simp only [List.getElem?_toArray, List.getElem?_cons_succ, List.getElem?_cons_zero]; rfl) rfl (by kernel_rfl) ?_ ?_
        rotate_left 1
        · (intro w hSw; (try dsimp only at hSw); go_simp; try with_reducible rfl)
        try simp only [Act.put, List.setIfInBounds_toArray, List.set_cons_zero, List.set_cons_succ]
        refine hold_plain 5 (v := ?_) hHC hH0 (by simp only [List.getElem?_toArray, List.getElem?_cons_succ, List.getElem?_cons_zero]; rfl) rfl (by kernel_rfl) ?_ ?_
        rotate_left 1
        · (intro w hSw; (try dsimp only at hSw); go_simp; try with_reducible rfl)
        try simp only [Act.put, List.setIfInBounds_toArray, List.set_cons_zero, List.set_cons_succ]
        refine hold_plain 6 (v := ?_) hHC hH0 (by simp only [List.getElem?_toArray, List.getElem?_cons_succ, List.getElem?_cons_zero]; rfl) rfl (by kernel_rfl) ?_ ?_
        rotate_left 1
        · (intro w hSw; (try dsimp only at hSw); go_simp; try with_reducible rfl)
        try simp only [Act.put, List.setIfInBounds_toArray, List.set_cons_zero, List.set_cons_succ]
        refine hold_plain 8 (v := ?_) hHC hH0 (by simp only [List.getElem?_toArray, List.getElem?_cons_succ, List.getElem?_cons_zero]; rfl) rfl (by kernel_rfl) ?_ ?_
        rotate_left 1
        · (intro w hSw; (try dsimp only at hSw); go_simp; try with_reducible rfl)
        try simp only [Act.put, List.setIfInBounds_toArray, List.set_cons_zero, List.set_cons_succ]
        refine hold_plain 9 (v := ?_) hHC hH0 (by simp only [List.getElem?_toArray, List.getElem?_cons_succ, List.getElem?_cons_zero]; rfl) rfl (by kernel_rfl) ?_ ?_
        rotate_left 1
        · (intro w hSw; (try dsimp only at hSw); go_simp; try with_reducible rfl)
        try simp only [Act.put, List.setIfInBounds_toArray, List.set_cons_zero, List.set_cons_succ]
        refine hold_call0 7 (by simp only [List.getElem?_toArray, List.getElem?_cons_succ, List.getElem?_cons_zero]; rfl) rfl (by kernel_rfl) (fun K hK => ?_)
        go_simp
        refine hK.out _ _ ?_ (fun hH1 => ?_)
        · (first | (go_keep; done) | ((try go_split_ands); (repeat' apply And.intro) <;> first | assumption | (with_reducible refine Rd.below ?_ hb1; assumption) | (with_reducible refine Rd.drew ?_; repeat' (first | assumption | (with_reducible refine Rd.alloc ?_ _))) | (refine (hb1.cell (by first | omega | (simp; done) | (simp; omega))).trans ?_; first | assumption | simp) | (exact below_step hb1 (by first | omega | (simp; done) | (simp; omega)) (by assumption)) | (have hz' := hb1.size; (try simp at hz'); omega) | ((repeat' (first | assumption | (with_reducible exact Below.refl _ _) | (with_reducible refine Below.drew ?_) | (with_reducible refine Below.alloc ?_ ?_ _) | (with_reducible refine Below.setCell ?_ ?_ _) | omega | (simp; done) | (simp; omega))); done) | go_simp | (simp; done) | (simp; omega)))
        clear hK K hH0
        try simp only [Act.put, List.setIfInBounds_toArray, List.set_cons_zero, List.set_cons_succ]
        refine hold_plain 10 (v := ?_) hHC hH1 (by simp only [List.getElem?_toArray, List.getElem?_cons_succ, List.getElem?_cons_zero]; rfl) rfl (by kernel_rfl) ?_ ?_
        rotate_left 1
        · (intro w hSw; (try dsimp only at hSw); go_simp; try with_reducible rfl)
        try simp only [Act.put, List.setIfInBounds_toArray, List.set_cons_zero, List.set_cons_succ]
        refine hold_plain 11 (v := ?_) hHC hH1 (by simp only [List.getElem?_toArray, List.getElem?_cons_succ, List.getElem?_cons_zero]; rfl) rfl (by kernel_rfl) ?_ ?_
        rotate_left 1
        · (intro w hSw; (try dsimp only at hSw); go_simp; try with_reducible rfl)
        try simp only [Act.put, List.setIfInBounds_toArray, List.set_cons_zero, List.set_cons_succ]
        refine hold_call0 12 (by simp only [List.getElem?_toArray, List.getElem?_cons_succ, List.getElem?_cons_zero]; rfl) rfl (by kernel_rfl) (fun K hK => ?_)
        go_simp
        refine hK.out _ _ ?_ (fun hH2 => ?_)
        · (first | (go_keep; done) | ((try go_split_ands); (repeat' apply And.intro) <;> first | assumption | (with_reducible refine Rd.below ?_ hb1; assumption) | (with_reducible refine Rd.drew ?_; repeat' (first | assumption | (with_reducible refine Rd.alloc ?_ _))) | (refine (hb1.cell (by first | omega | (simp; done) | (simp; omega))).trans ?_; first | assumption | simp) | (exact below_step hb1 (by first | omega | (simp; done) | (simp; omega)) (by assumption)) | (have hz' := hb1.size; (try simp at hz'); omega) | ((repeat' (first | assumption | (with_reducible exact Below.refl _ _) | (with_reducible refine Below.drew ?_) | (with_reducible refine Below.alloc ?_ ?_ _) | (with_reducible refine Below.setCell ?_ ?_ _) | omega | (simp; done) | (simp; omega))); done) | go_simp | (simp; done) | (simp; omega)))
        clear hK K hH1
        try simp only [Act.put, List.setIfInBounds_toArray, List.set_cons_zero, List.set_cons_succ]
        refine wpAnyH_done (by kernel_rfl) ?_ _
        (try dsimp only at hH2)
        go_split_ands
        clear hHC
        obtain ⟨wz, hwz⟩ : ∃ wz, wz = (w7.setCell ⟨b, Y, none⟩ (.int .i64 (r : Int))).drew := ⟨_, rfl⟩
        rw [← hwz] at HS8 ⊢
        clear hwz
        go_wp2_with fail
        go_roundw
        case rel => exact ⟨k - 1, _, by go_num, by omega, by omega, HS8⟩
        case measure => simp [intOf]; omega
      · have ht' : m.testBit X = false := by simpa using ht
        have hts : ((m : Int) / 2 ^ X % 2 == 1) = false := by rw [bit_test, ← testBit_mod]; exact ht'
        clear ht ht'
        go_wp2_with fail
        go_roundw
        case rel => exact ⟨k - 1, rs, by go_num, by omega, by omega, HS7⟩
        case measure => simp [intOf]; omega
    · have HEND : Hid (∀ (wf : World) (rs : List Int), RgS w0 w1 wf g a n c p q b H d rs → (∃ (b' m d' : Nat) (rs : List Int), Ending.returned (.agg #[.slice (some ⟨b, 0, none⟩) H d]) = .returned (.agg #[.slice (some ⟨b', 0, none⟩) m d']) ∧ rokB rs = true ∧ rs.length = m ∧ 1 ≤ m ∧ m ≤ 5 ∧ b' ≠ g ∧ OwnI (wf.setCell ⟨p, 0, none⟩ (.slice (some ⟨b, 0, none⟩) H d)) w1.heap.size (.slice (some ⟨b', 0, none⟩) m d') rs ∧ At w0 (wf.setCell ⟨p, 0, none⟩ (.slice (some ⟨b, 0, none⟩) H d)) g a n c ∧ w1.grownBy (wf.setCell ⟨p, 0, none⟩ (.slice (some ⟨b, 0, none⟩) H d)) (some g))) := Lib.hid (by
        intro wf rs h
        obtain ⟨l0, l1, l2, l3⟩ := h.lo
        refine ⟨b, H, d, rs, rfl, rok_iff.2 ⟨by rw [h.len]; omega, h.val⟩, h.len, hH1, hH5, n5, ?_, h.at_.setR (by omega) n4 _, gr_new h.gr l3 _ _⟩
        refine ⟨h.own.1, ?_⟩
        rcases h.own.2 with h2 | ⟨g', cap, cur, hv, hg, hh, r⟩
        · exact .inl h2
        · refine .inr ⟨g', cap, cur, hv, hg, ?_, r⟩
          obtain ⟨e2, -, -⟩ := Value.slice.inj hv
          cases e2
          rw [Below.heap_setCell _ ⟨p, 0, none⟩ _ b (by simp; exact n2')]
          exact hh)
      by_cases hw6 : W < 6
      · have hw6I : (W : Int) < 6 := by omega
        go_wp2_with (go_at_call 33; fail)
        refine (once_at HK.out HS.out.at_ 3 (WalkArith.wf_i64 (by omega))).mono ?_
        rintro e w6 ⟨β, rfl, hat, hgw⟩
        have HS6 := Lib.hid (HS.out.draw hat hgw)
        clear hat hgw HS
        cases β
        · obtain ⟨q1, q2, q3⟩ := HS6.out.bq
          obtain ⟨p1, p2, p3⟩ := HS6.out.bp
          have hpc : (w6.setCell ⟨p, 0, none⟩ (.slice (some ⟨b, 0, none⟩) H d)).cell? ⟨p, 0, none⟩ = some (.slice (some ⟨b, 0, none⟩) H d) := World.cell?_setCell_same _ _ _ p2
          go_wp2_with fail
          exact bodyPost_ret (v := .agg #[.slice (some ⟨b, 0, none⟩) H d]) (by simp [results, Tryd.results15, go_sem, hpc]) rfl (HEND.out w6 rs HS6.out)
        · go_wp2_with (go_at_call 31; fail)
          refine (below_at HK.out HS6.out.at_ H (WalkArith.wf_i64 (by omega))).mono ?_
          rintro e w7 ⟨y, rfl, ⟨hy0, hy1, -⟩, hat, hgw⟩
          have hy2 := hy1 (by omega)
          have HS7 := Lib.hid (HS6.out.draw hat hgw)
          clear hat hgw HS6 hy1
          obtain ⟨Y, rfl⟩ : ∃ Y : Nat, y = Y := ⟨y.toNat, by omega⟩
          obtain ⟨m, hm, hc, hf, hbl⟩ := HS7.out.row (k := Y) (by omega)
          obtain ⟨q1, q2, q3⟩ := HS7.out.bq
          have eT := rp_three hw6
          obtain ⟨eO, hO⟩ := rp_or hm hw6
          obtain ⟨T, hT⟩ : ∃ T : Nat, T = 3 * 2 ^ W := ⟨_, rfl⟩
          rw [← hT] at eT eO hO
          obtain ⟨r, hr⟩ : ∃ r : Nat, r = m ||| T := ⟨_, rfl⟩
          rw [← hr] at eO hO
          have e5 : IntKind.i64.wrap (r : Int) = (r : Int) := by rw [IntKind.wrap_i64]; omega
          have HS8 := Lib.hid ((HS7.out.put Y (r : Int) (by omega) (by omega)).drew)
          have hYI : (Y : Int) < (H : Int) := by omega
          clear hT hr
          go_wp2_with fail
          refine hold_start (S := (fun w' => w'.cell? ⟨q, 0, none⟩ = some (.slice (some ⟨b, 0, none⟩) H d) ∧ w7.heap.size ≤ w'.heap.size)) (by kernel_rfl) (by kernel_rfl) (by intro _ _ d _ _ h; cases d <;> exact h) ?_ (fun hHC hH0 => ?_)
          · (first | (go_keep; done) | ((try go_split_ands); (repeat' apply And.intro) <;> first | assumption | (with_reducible refine Rd.below ?_ hb1; assumption) | (with_reducible refine Rd.drew ?_; repeat' (first | assumption | (with_reducible refine Rd.alloc ?_ _))) | (refine (hb1.cell (by first | omega | (simp; done) | (simp; omega))).trans ?_; first | assumption | simp) | (exact below_step hb1 (by first | omega | (simp; done) | (simp; omega)) (by assumption)) | (have hz' := hb1.size; (try simp at hz'); omega) | ((repeat' (first | assumption | (with_reducible exact Below.refl _ _) | (with_reducible refine Below.drew ?_) | (with_reducible refine Below.alloc ?_ ?_ _) | (with_reducible refine Below.setCell ?_ ?_ _) | omega | (simp; done) | (simp; omega))); done) | go_simp | (simp; done) | (simp; omega)))
          refine hold_plain 0 (v := ?_) hHC hH0 (by simp only [List.getElem?_toArray, List.getElem?_cons_succ, List.getElem?_cons_zero]; rfl) rfl (by kernel_rfl) ?_ ?_
          rotate_left 1
          · (intro w hSw; (try dsimp only at hSw); go_simp; try with_reducible rfl)
          try simp only [Act.put, List.setIfInBounds_toArray, List.set_cons_zero, List.set_cons_succ]
          refine hold_plain 1 (v := ?_) hHC hH0 (by simp only [List.getElem?_toArray, List.getElem?_cons_succ, List.getElem?_cons_zero]; rfl) rfl (by kernel_rfl) ?_ ?_
          rotate_left 1
          · (intro w hSw; (try dsimp only at hSw); go_simp; try with_reducible rfl)
          try simp only [Act.put, List.setIfInBounds_toArray, List.set_cons_zero, List.set_cons_succ]
          refine hold_plain 2 (v := ?_) hHC hH0 (by simp only [List.getElem?_toArray, List.getElem?_cons_succ, List.getElem?_cons_zero]; rfl) rfl (by kernel_rfl) ?_ ?_
          rotate_left 1
          · (intro w hSw; (try dsimp only at hSw); go_simp; try with_reducible rfl)
          try simp only [Act.put, List.setIfInBounds_toArray, List.set_cons_zero, List.set_cons_succ]
          refine hold_plain 3 (v := ?_) hHC hH0 (by simp only [List.getElem?_toArray, List.getElem?_cons_succ, List.getElem?_cons_zero]; rfl) rfl (by kernel_rfl) ?_ ?_
          rotate_left 1
          · (intro w hSw; (try dsimp only at hSw); go_simp; try with_reducible rfl)
          try simp only [Act.put, List.setIfInBounds_toArray, List.set_cons_zero, List.set_cons_succ]
          refine hold_plain 4 (v := ?_) hHC hH0 (by simp only [List.getElem?_toArray, List.getElem?_cons_succ, List.getElem?_cons_zero]; rfl) rfl (by kernel_rfl) ?_ ?_
          rotate_left 1
          · (intro w hSw; (try dsimp only at hSw); go_simp; try with_reducible rfl)
          try simp only [Act.put, List.setIfInBounds_toArray, List.set_cons_zero, List.set_cons_succ]
          refine hold_plain 5 (v := ?_) hHC hH0 (by simp only [List.getElem?_toArray, List.getElem?_cons_succ, List.getElem?_cons_zero]; rfl) rfl (by kernel_rfl) ?_ ?_
          rotate_left 1
          · (intro w hSw; (try dsimp only at hSw); go_simp; try with_reducible rfl)
          try simp only [Act.put, List.setIfInBounds_toArray, List.set_cons_zero, List.set_cons_succ]
          refine hold_plain 6 (v := ?_) hHC hH0 (by simp only [List.getElem?_toArray, List.getElem?_cons_succ, List.getElem?_cons_zero]; rfl) rfl (by kernel_rfl) ?_ ?_
          rotate_left 1
          · (intro w hSw; (try dsimp only at hSw); go_simp; try with_reducible rfl)
          try simp only [Act.put, List.setIfInBounds_toArray, List.set_cons_zero, List.set_cons_succ]
          refine hold_plain 8 (v := ?_) hHC hH0 (by simp only [List.getElem?_toArray, List.getElem?_cons_succ, List.getElem?_cons_zero]; rfl) rfl (by kernel_rfl) ?_ ?_
          rotate_left 1
          · (intro w hSw; (try dsimp only at hSw); go_simp; try with_reducible rfl)
          try simp only [Act.put, List.setIfInBounds_toArray, List.set_cons_zero, List.set_cons_succ]
          refine hold_plain 9 (v := ?_) hHC hH0 (by simp only [List.getElem?_toArray, List.getElem?_cons_succ, List.getElem?_cons_zero]; rfl) rfl (by kernel_rfl) ?_ ?_
          rotate_left 1
          · (intro w hSw; (try dsimp only at hSw); go_simp; try with_reducible rfl)
          try simp only [Act.put, List.setIfInBounds_toArray, List.set_cons_zero, List.set_cons_succ]
          refine hold_call0 7 (by simp only [List.getElem?_toArray, List.getElem?_cons_succ, List.getElem?_cons_zero]; rfl) rfl (by kernel_rfl) (fun K hK => ?_)
          go_simp
          refine hK.out _ _ ?_ (fun hH1 => ?_)
          · (first | (go_keep; done) | ((try go_split_ands); (repeat' apply And.intro) <;> first | assumption | (with_reducible refine Rd.below ?_ hb1; assumption) | (with_reducible refine Rd.drew ?_; repeat' (first | assumption | (with_reducible refine Rd.alloc ?_ _))) | (refine (hb1.cell (by first | omega | (simp; done) | (simp; omega))).trans ?_; first | assumption | simp) | (exact below_step hb1 (by first | omega | (simp; done) | (simp; omega)) (by assumption)) | (have hz' := hb1.size; (try simp at hz'); omega) | ((repeat' (first | assumption | (with_reducible exact Below.refl _ _) | (with_reducible refine Below.drew ?_) | (with_reducible refine Below.alloc ?_ ?_ _) | (with_reducible refine Below.setCell ?_ ?_ _) | omega | (simp; done) | (simp; omega))); done) | go_simp | (simp; done) | (simp; omega)))
          clear hK K hH0
          try simp only [Act.put, List.setIfInBounds_toArray, List.set_cons_zero, List.set_cons_succ]
          refine hold_plain 10 (v := ?_) hHC hH1 (by simp only [List.getElem?_toArray, List.getElem?_cons_succ, List.getElem?_cons_zero]; rfl) rfl (by kernel_rfl) ?_ ?_
          rotate_left 1
          · (intro w hSw; (try dsimp only at hSw); go_simp; try with_reducible rfl)
          try simp only [Act.put, List.setIfInBounds_toArray, List.set_cons_zero, List.set_cons_succ]
          refine hold_plain 11 (v := ?_) hHC hH1 (by simp only [List.getElem?_toArray, List.getElem?_cons_succ, List.getElem?_cons_zero]; rfl) rfl (by kernel_rfl) ?_ ?_
          rotate_left 1
          · (intro w hSw; (try dsimp only at hSw); go_simp; try with_reducible rfl)
          try simp only [Act.put, List.setIfInBounds_toArray, List.set_cons_zero, List.set_cons_succ]
          refine hold_call0 12 (by simp only [List.getElem?_toArray, List.getElem?_cons_succ, List.getElem?_cons_zero]; rfl) rfl (by kernel_rfl) (fun K hK => ?_)
          go_simp
          refine hK.out _ _ ?_ (fun hH2 => ?_)
          · (first | (go_keep; done) | ((try go_split_ands); (repeat' apply And.intro) <;> first | assumption | (with_reducible refine Rd.below ?_ hb1; assumption) | (with_reducible refine Rd.drew ?_; repeat' (first | assumption | (with_reducible refine Rd.alloc ?_ _))) | (refine (hb1.cell (by first | omega | (simp; done) | (simp; omega))).trans ?_; first | assumption | simp) | (exact below_step hb1 (by first | omega | (simp; done) | (simp; omega)) (by assumption)) | (have hz' := hb1.size; (try simp at hz'); omega) | ((repeat' (first | assumption | (with_reducible exact Below.refl _ _) | (with_reducible refine Below.drew ?_) | (with_reducible refine Below.alloc ?_ ?_ _) | (with_reducible refine Below.setCell ?_ ?_ _) | omega | (simp; done) | (simp; omega))); done) | go_simp | (simp; done) | (simp; omega)))
          clear hK K hH1
          try simp only [Act.put, List.setIfInBounds_toArray, List.set_cons_zero, List.set_cons_succ]
          refine wpAnyH_done (by kernel_rfl) ?_ _
          (try dsimp only at hH2)
          go_split_ands
          clear hHC
          obtain ⟨wz, hwz⟩ : ∃ wz, wz = (w7.setCell ⟨b, Y, none⟩ (.int .i64 (r : Int))).drew := ⟨_, rfl⟩
          rw [← hwz] at HS8 ⊢
          clear hwz hc hf
          obtain ⟨q1, q2, q3⟩ := HS8.out.bq
          obtain ⟨p1, p2, p3⟩ := HS8.out.bp
          have hpc : (wz.setCell ⟨p, 0, none⟩ (.slice (some ⟨b, 0, none⟩) H d)).cell? ⟨p, 0, none⟩ = some (.slice (some ⟨b, 0, none⟩) H d) := World.cell?_setCell_same _ _ _ p2
          go_wp2_with fail
          exact bodyPost_ret (v := .agg #[.slice (some ⟨b, 0, none⟩) H d]) (by simp [results, Tryd.results15, go_sem, hpc]) rfl (HEND.out wz _ HS8.out)
      · have hw6I : ¬ (W : Int) < 6 := by omega
        obtain ⟨q1, q2, q3⟩ := HS.out.bq
        obtain ⟨p1, p2, p3⟩ := HS.out.bp
        have hpc : (wr.setCell ⟨p, 0, none⟩ (.slice (some ⟨b, 0, none⟩) H d)).cell? ⟨p, 0, none⟩ = some (.slice (some ⟨b, 0, none⟩) H d) := World.cell?_setCell_same _ _ _ p2
        go_wp2_with fail
        exact bodyPost_ret (v := .agg #[.slice (some ⟨b, 0, none⟩) H d]) (by simp [results, Tryd.results15, go_sem, hpc]) rfl (by obtain ⟨b1, m1, d1, r1, h1, h2, h3, h4, h5, h6, h7⟩ := HEND.out wr rs HS.out; first | exact ⟨b1, m1, d1, h1, r1, h2, h3, h4, h5, h6, h7⟩ | exact ⟨b1, m1, d1, r1, h1, h2, h3, h4, h5, h6, h7⟩)
end Go.Proofs.YtbkoignjagobaaaDoor
