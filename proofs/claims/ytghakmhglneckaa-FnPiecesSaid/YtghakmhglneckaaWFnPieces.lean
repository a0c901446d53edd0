/-
  The walk of the law FnPieces.
-/
import Derived.Test.YtghakmhglneckaaPieP
import Derived.Test.YtghakmhglneckaaDrawAny
import Derived.Test.YtghakmhglneckaaSimS
import Derived.Test.YtghakmhglneckaaHolI
import Derived.Test.YtghakmhglneckaaRectI
import Derived.Deep.LoopGhost
import Derived.Deep.DeepCutAuto
namespace Go.Proofs.Ytghakmhglneckaa.fnPieces
open Go.RowKit
set_option linter.unusedVariables false
set_option linter.unusedSimpArgs false

theorem rectI_at (W H : Nat) (w : World) (x y : Int) (hx : x = W) (hy : y = H) (hW1 : 1 ≤ W) (hW : W ≤ 8) (hH1 : 1 ≤ H) (hH : H ≤ 8) :
    Calls Try.prog 27 #[.int .i64 x, .int .i64 y] w fun e w' => ∃ (b c : Nat), e = .returned (.agg #[.slice (some ⟨b, 0, none⟩) H c]) ∧ b < w'.heap.size ∧ (∀ j, j < ((List.replicate H ((2 : Int) ^ W - 1)).map (Value.int .i64)).length → w'.cell? ⟨b, 0 + j, none⟩ = ((List.replicate H ((2 : Int) ^ W - 1)).map (Value.int .i64))[j]?) ∧ Below w.heap.size w w' := by
  subst hx hy
  refine (implRect_any (W : Int) (H : Int) w (inB_iff.2 (by omega)) (inB_iff.2 (by omega))).mono ?_
  rintro e w' ⟨a, c, he, hO, hB⟩
  simp only [Int.toNat_natCast] at he hO
  rcases hO.2 with ⟨hv, hn⟩ | ⟨g, cap, cur, hv, r⟩
  · exfalso
    have := congrArg (fun v : Value => match v with | .slice _ n _ => n | _ => 0) hv
    simp at this
    omega
  · obtain ⟨rfl, -, -⟩ := Value.slice.inj hv
    refine ⟨g, c, he, (World.ownsRow.lt hO g rfl).2, ?_, hB⟩
    intro j hj
    rw [Nat.zero_add]
    have hj2 : j < (List.replicate H ((2 : Int) ^ W - 1)).length := by simpa using hj
    obtain ⟨c1, -⟩ := ownI_at hO (by simp) (k := j) hj2
    rw [c1, List.getElem?_map, List.getElem?_eq_getElem hj2, List.getD_eq_getElem?_getD, List.getElem?_eq_getElem hj2]
    rfl
/-- What the law keeps on its way. -/
structure Kp (w W : World) (q : Nat) (ad : Option Addr) (m d : Nat) (zs : List Int) (a1 : Option Addr) (L : List (Int × Int)) : Prop where
  box : W.cell? ⟨q, 0, none⟩ = some (.slice ad m d)
  lt : q < W.heap.size
  rd : RdI W ad zs
  ls : Rd W a1 (flatC L)
  be : Below w.heap.size w W
theorem Kp.below {w W W' : World} {q : Nat} {ad : Option Addr} {m d : Nat} {zs : List Int} {a1 : Option Addr} {L : List (Int × Int)} (h : Kp w W q ad m d zs a1 L) (hb : Below W.heap.size W W') : Kp w W' q ad m d zs a1 L :=
  ⟨(hb.cell (p := ⟨q, 0, none⟩) h.lt).trans h.box, Nat.lt_of_lt_of_le h.lt hb.size, Rd.below h.rd hb, Rd.below h.ls hb, h.be.trans (hb.mono h.be.size)⟩
theorem Kp.drewN {w W : World} {q : Nat} {ad : Option Addr} {m d : Nat} {zs : List Int} {a1 : Option Addr} {L : List (Int × Int)} (h : Kp w W q ad m d zs a1 L) (k : Nat) : Kp w (W.drewN k) q ad m d zs a1 L :=
  h.below (below_drewN (Below.refl _ _) k)
theorem seeB_val {S : Nat} {u v : Int} {r dn s b l : Bool} (h1 : hasB S (u + 1) v = r) (h2 : hasB S u (v + 1) = dn) (h3 : hasB S (u + 1) (v + 1) = s) (h4 : hasB S (u - 1) (v + 1) = b) (h5 : hasB S (u - 1) v = l) : seeB S (u, v) = ((s && (!r && !dn)) || (b && (!l && !dn))) := by
  unfold seeB
  simp only [h1, h2, h3, h4, h5]
theorem takeI_val {S : Nat} {u v : Int} {r dn s : Bool} (h1 : hasB S (u + 1) v = r) (h2 : hasB S u (v + 1) = dn) (h3 : hasB S (u + 1) (v + 1) = s) : takeI S (u, v) = oneI r + oneI dn - oneI (r && (dn && s)) := by
  unfold takeI
  simp only [h1, h2, h3]
theorem rok_valP {ad : Option Addr} {m d : Nat} {zs : List Int} {W : World} {b : Bool} (hz : zs.length = m) (hn : m ≤ 9) (h : rokB zs = b) (hr : RdI W ad zs) : Calls Try.prog 26 #[.agg #[.slice ad m d]] W fun e w' => e = .returned (.bool b) ∧ Below W.heap.size W w' := by
  subst h
  exact specRok_any ad m d zs W hz (by omega) hr
theorem hc_valP {ad : Option Addr} {m d : Nat} {zs : List Int} {W : World} {x y : Int} {b : Bool} (hz : zs.length = m) (hn : m ≤ 9) (hok : rokB zs = true) (h : hasB (setS zs) x y = b) (hr : RdI W ad zs) : Calls Try.prog 29 #[.agg #[.slice ad m d], .agg #[.int .i64 x, .int .i64 y]] W fun e w' => e = .returned (.bool b) ∧ Below W.heap.size W w' := by
  have g := specHas_any ad m d zs x y W hz (by omega) hr
  rw [hcB_yes hok, h] at g
  exact g
theorem sim_no {zs : List Int} (h : rokB zs = false) : simB zs = false := by
  unfold simB
  rw [h, Bool.false_and]
theorem sim_yes {zs : List Int} (h : rokB zs = true) : simB zs = (decide ((pcB zs : Int) = 1) && (decide (hlB zs = 0) && !touchB (setS zs))) := by
  unfold simB
  rw [h, Bool.true_and]
theorem one_pieceI : ((pcB [1] : Nat) : Int) = 1 := by
  rw [one_piece]
  rfl
theorem pcs_one (b c : Nat) (W : World) (h : RdI W (some ⟨b, 0, none⟩) [1]) : Calls Try.prog 14 #[.agg #[.slice (some ⟨b, 0, none⟩) 1 c]] W fun e w' => e = .returned (.int .i64 1) ∧ Below W.heap.size W w' := by
  have g := implPcs_any (some ⟨b, 0, none⟩) 1 c [1] W rfl (by omega) h
  rw [one_pieceI] at g
  exact g
theorem hol_ring (b c : Nat) (W : World) (h : RdI W (some ⟨b, 0, none⟩) RING) : Calls Try.prog 11 #[.agg #[.slice (some ⟨b, 0, none⟩) 8 c]] W fun e w' => e = .returned (.int .i64 1) ∧ Below W.heap.size W w' := by
  have g := implHol_any (some ⟨b, 0, none⟩) 8 c RING W rfl (by omega) h
  rw [ring_holes] at g
  exact g
set_option maxHeartbeats 6400000 in
set_option maxRecDepth 100000 in
theorem walk (a0 : Option Addr) (len0 cap0 : Nat) (z0 : List Int) (w : World) (w0 : IsRow .u8 w a0 len0 cap0 z0) :
    Calls Try.prog 7 #[.slice a0 len0 cap0] w fun e w' => e = .returned (.bool true) ∧ Below w.heap.size w w' := by
  have HB := Lib.hid (big_any a0 len0 cap0 w w0.max_)
  by_cases hbig : 1048576 < len0
  · clear w0
    go_enter Try.func7, Try.ntmps7
    go_wp2_with (go_at_call 24; refine (HB.out).mono ?_; rintro e w1 ⟨rfl, hb⟩; simp only [hbig, decide_true])
    go_ret
    exact ⟨rfl, hb⟩
  · have HK := Lib.hid (w0.code hbig)
    clear w0
    go_enter Try.func7, Try.ntmps7
    go_wp2_with (first | (go_at_call 24; refine (HB.out).mono ?_; rintro e w1 ⟨rfl, hb⟩; simp only [hbig, decide_false]) | (go_at_call 25; fail))
    refine (drawHol_any a0 len0 cap0 _ w1 (HK.out.below hb)).mono ?_
    rintro e w2 ⟨ad, m, d, zs, rfl, hlen, hm9, hrd, hb2⟩
    have hB2 : Below w.heap.size w w2 := below_step hb2 hb.size hb
    have hs2 := hB2.size
    have HR2 := Lib.hid hrd
    have HZ := Lib.hid hlen
    clear hb hb2 HB HK hlen hrd
    have HSI := Lib.hid (fun (W : World) (h : RdI W ad zs) => implSim_any ad m d zs W HZ.out (by omega) h)
    have HPC := Lib.hid (fun (a : Option Addr) (n c : Nat) (ys : List Int) (W : World) (hn : n ≤ 9) (hz : ys.length = n) (h : RdI W a ys) => implPcs_any a n c ys W hz (by omega) h)
    rcases Bool.eq_false_or_eq_true (rokB zs) with hok | hok
    · have HO := Lib.hid (fun (W : World) (h : RdI W ad zs) => rok_valP (d := d) HZ.out hm9 hok h)
      have HCO := Lib.hid (fun (W : World) (h : RdI W ad zs) => specCellsOf_any ad m d zs W HZ.out (by omega) h)
      have HHC := Lib.hid (fun (W : World) (x y : Int) (bb : Bool) (h2 : hasB (setS zs) x y = bb) (h : RdI W ad zs) => hc_valP (d := d) HZ.out hm9 hok h2 h)
      have HPI := Lib.hid (fun (W : World) (x y : Int) (h : RdI W ad zs) => implPiece_any ad m d zs x y W HZ.out (by omega) h)
      have HPS := Lib.hid (fun (u v : Int) (h : hasB (setS zs) u v = true) => piece_self hok h)
      have HEU := Lib.hid (euler_sum hok)
      have HTO : Hid ((coL zs).any (seeB (setS zs)) = touchB (setS zs)) := Lib.hid (by rw [coL_yes hok]; exact see_touch _)
      have HMC : Hid (∀ p ∈ coL zs, hasB (setS zs) p.1 p.2 = true) := Lib.hid (fun p hp => by rw [coL_yes hok] at hp; exact mem_cells.1 hp)
      have HSV : Hid (simB zs = (decide ((pcB zs : Int) = 1) && (decide (hlB zs = 0) && !touchB (setS zs)))) := Lib.hid (sim_yes hok)
      have HHO := Lib.hid (fun (a : Option Addr) (n c : Nat) (ys : List Int) (W : World) (hn : n ≤ 9) (hz : ys.length = n) (h : RdI W a ys) => implHol_any a n c ys W hz (by omega) h)
      have HBA := Lib.hid (fun (W : World) (h : RdI W ad zs) => implBal_any ad m d zs W HZ.out (by omega) h)
      have HEX := Lib.hid (fun (W : World) (h : RdI W ad zs) => implExc_any ad m d zs W HZ.out (by omega) h)
      have HBV := Lib.hid (balB_yes hok)
      obtain ⟨L, hL⟩ : ∃ L, L = coL zs := ⟨_, rfl⟩
      have hL64 : L.length ≤ 64 := by rw [hL]; exact coL_len zs
      rw [← hL] at HCO HEU HTO HMC HEX HBV
      obtain ⟨S, hS⟩ : ∃ S, S = setS zs := ⟨_, rfl⟩
      rw [← hS] at HHC HPS HEU HTO HMC HSV
      clear hL hS hok
      go_wp2_with (go_at_call 26; fail)
      refine (HO.out _ (Rd.alloc HR2.out _)).mono ?_
      rintro e w3 ⟨rfl, hb3⟩
      have hbox3 : w3.cell? ⟨w2.heap.size, 0, none⟩ = some (.slice ad m d) := (hb3.cell (p := ⟨w2.heap.size, 0, none⟩) (by first | omega | (simp; done) | (simp; omega))).trans (by go_simp)
      have hlt3 : w2.heap.size < w3.heap.size := Nat.lt_of_lt_of_le (by simp) hb3.size
      have HR3 := Lib.hid (Rd.below (Rd.alloc HR2.out _) hb3)
      have HB3 : Hid (Below w.heap.size w w3) := Lib.hid (below_step hb3 (by first | omega | (simp; done) | (simp; omega)) (by repeat' (first | assumption | (with_reducible exact Below.refl _ _) | (with_reducible refine Below.drew ?_) | (with_reducible refine Below.alloc ?_ ?_ _) | (with_reducible refine Below.setCell ?_ ?_ _) | omega | (simp; done) | (simp; omega))))
      clear hb3 HO HR2
      go_wp2_with (go_at_call 28; fail)
      refine (HCO.out _ HR3.out).mono ?_
      rintro e w4 ⟨a1, c1, rfl, hO4, hb4⟩
      have HK4 : Hid (Kp w w4 w2.heap.size ad m d zs a1 L) := Lib.hid ⟨(hb4.cell (p := ⟨w2.heap.size, 0, none⟩) hlt3).trans hbox3, Nat.lt_of_lt_of_le hlt3 hb4.size, Rd.below HR3.out hb4, Rd.of_own hO4, HB3.out.trans (hb4.mono HB3.out.size)⟩
      obtain ⟨q, hq⟩ : ∃ q, q = w2.heap.size := ⟨_, rfl⟩
      rw [← hq] at HK4 ⊢
      clear hq hbox3 hlt3 hb4 hO4 HR3 HB3 HCO hB2 hs2
      go_wp2_with fail
      go_loopg [4, 6, 7] (L.length + 1) (fun gk tv nv kv wr => ∃ (k : Nat) (t : Bool) (n : Int), k ≤ L.length ∧ gk = L.length + 1 - k ∧ kv = .int .i64 (k : Int) ∧ tv = .bool t ∧ nv = .int .i64 n ∧ (L.length : Int) - 2 * k ≤ n ∧ n ≤ (L.length : Int) + k ∧ Hid (n = (L.length : Int) - ((L.take k).map (takeI S)).sum) ∧ Hid (t = (L.take k).any (seeB S)) ∧ Hid (Kp w wr q ad m d zs a1 L))
      case atStart => exact ⟨0, false, (L.length : Int), Nat.zero_le _, by omega, rfl, rfl, rfl, by omega, by omega, Lib.hid (by simp), Lib.hid (by simp), HK4⟩
      case round =>
        clear HK4
        obtain ⟨k, t, n, hk, hgk, rfl, rfl, rfl, hn0, hn1, HN, HTT, HKP⟩ := hrel
        by_cases hlt : k < L.length
        · obtain ⟨b, off, u, v, rfl, hbl, hcx, hcy, hv⟩ := RdC_at HKP.out.ls hlt
          have hself := HMC.out (u, v) (List.mem_of_getElem? hv.out)
          have hok1 : okB u v = true := by unfold hasB at hself; rw [Bool.and_eq_true] at hself; exact hself.1
          obtain ⟨⟨u0, u7⟩, v0, v7⟩ := okB_iff.1 hok1
          have HV := Lib.hid hv.out
          have HSELF := Lib.hid hself
          obtain ⟨r, hr⟩ : ∃ r, hasB S (u + 1) v = r := ⟨_, rfl⟩
          obtain ⟨dn, hdn⟩ : ∃ r, hasB S u (v + 1) = r := ⟨_, rfl⟩
          obtain ⟨s, hs⟩ : ∃ r, hasB S (u + 1) (v + 1) = r := ⟨_, rfl⟩
          obtain ⟨bk, hbk⟩ : ∃ r, hasB S (u - 1) (v + 1) = r := ⟨_, rfl⟩
          obtain ⟨lf, hlf⟩ : ∃ r, hasB S (u - 1) v = r := ⟨_, rfl⟩
          have HTK := Lib.hid (takeI_val hr hdn hs)
          have HSE := Lib.hid (seeB_val hr hdn hs hbk hlf)
          have HR := Lib.hid hr
          have HD := Lib.hid hdn
          have HS := Lib.hid hs
          have HBK := Lib.hid hbk
          have HLF := Lib.hid hlf
          have hkI : (k : Int) < (L.length : Int) := by omega
          obtain ⟨x1, x2, -, -, -⟩ := HKP.out
          clear hr hdn hs hbk hlf hself hok1 hv
          go_wp2_with (go_at_call 29; fail)
          refine (HHC.out _ _ _ _ HR.out HKP.out.rd).mono ?_
          rintro e w5 ⟨rfl, hb5⟩
          have K5 := Lib.hid (HKP.out.below hb5)
          obtain ⟨y1, y2, -, -, -⟩ := K5.out
          have gx5 := (hb5.cell (p := ⟨b, off + k * 2, none⟩) hbl).trans hcx
          have gy5 := (hb5.cell (p := ⟨b, off + k * 2 + 1, none⟩) hbl).trans hcy
          have hbl5 := Nat.lt_of_lt_of_le hbl hb5.size
          clear hb5 HKP x1 x2 hcx hcy hbl
          go_wp2_with (go_at_call 29; fail)
          refine (HHC.out _ _ _ _ HD.out K5.out.rd).mono ?_
          rintro e w6 ⟨rfl, hb6⟩
          have K6 := Lib.hid (K5.out.below hb6)
          have gx6 := Lib.hid ((hb6.cell (p := ⟨b, off + k * 2, none⟩) hbl5).trans gx5)
          have gy6 := Lib.hid ((hb6.cell (p := ⟨b, off + k * 2 + 1, none⟩) hbl5).trans gy5)
          clear hb6 K5 y1 y2 gx5 gy5 hbl5
          go_upto_region 16 with fail
          go_cut [6] (fun nv wx => nv = .int .i64 (n - (oneI r + oneI dn - oneI (r && (dn && s)))) ∧ Hid (Kp w wx q ad m d zs (some ⟨b, off, none⟩) L))
          case first => as_aux_lemma =>
            obtain ⟨y1, y2, -, -, -⟩ := K6.out
            have h1 : oneI true = 1 := rfl
            have h0 : oneI false = 0 := rfl
            cases r
            · cases dn
              · go_wp2_with (go_at_call 30; refine (btoi_any _ _).mono ?_; rintro e w' ⟨rfl, rfl⟩)
                go_meet
                exact ⟨congrArg (Value.int .i64) (by simp [oneI]), K6⟩
              · go_wp2_with (go_at_call 30; refine (btoi_any _ _).mono ?_; rintro e w' ⟨rfl, rfl⟩)
                go_meet
                exact ⟨congrArg (Value.int .i64) (by simp [oneI]), K6⟩
            · cases dn
              · go_wp2_with (go_at_call 30; refine (btoi_any _ _).mono ?_; rintro e w' ⟨rfl, rfl⟩)
                go_meet
                exact ⟨congrArg (Value.int .i64) (by simp [oneI]), K6⟩
              · cases s
                all_goals (
                  go_wp2_with (first | (go_at_call 30; refine (btoi_any _ _).mono ?_; rintro e w' ⟨rfl, rfl⟩) | (go_at_call 29; refine (HHC.out _ _ _ _ HS.out K6.out.rd).mono ?_; rintro e w7 ⟨rfl, hb7⟩; have K7 := Lib.hid (K6.out.below hb7); clear hb7))
                  go_meet
                  exact ⟨congrArg (Value.int .i64) (by simp [oneI] <;> omega), K7⟩)
          case rest =>
            obtain ⟨rfl, K7⟩ := hcut
            clear K6 gx6 gy6
            obtain ⟨y1, y2, -, -, -⟩ := K7.out
            go_wp2_with (go_at_call 29; fail)
            refine (HHC.out _ _ _ _ HS.out K7.out.rd).mono ?_
            rintro e w8 ⟨rfl, hb8⟩
            have K8 := Lib.hid (K7.out.below hb8)
            clear hb8 K7 y1 y2
            obtain ⟨y1, y2, -, -, -⟩ := K8.out
            go_wp2_with (go_at_call 29; fail)
            refine (HHC.out _ _ _ _ HBK.out K8.out.rd).mono ?_
            rintro e w9 ⟨rfl, hb9⟩
            have K9 := Lib.hid (K8.out.below hb9)
            clear hb9 K8 y1 y2
            obtain ⟨y1, y2, -, -, -⟩ := K9.out
            go_wp2_with (go_at_call 29; fail)
            refine (HHC.out _ _ _ _ HLF.out K9.out.rd).mono ?_
            rintro e w10 ⟨rfl, hb10⟩
            have K10 := Lib.hid (K9.out.below hb10)
            clear hb10 K9 y1 y2
            go_upto_region 20 with fail
            go_cut [4] (fun tv wx => tv = .bool (t || ((s && (!r && !dn)) || (bk && (!lf && !dn)))) ∧ Hid (Kp w wx q ad m d zs (some ⟨b, off, none⟩) L))
            case first => as_aux_lemma =>
              cases t
              · cases s
                · cases bk
                  · go_wp2_with fail
                    go_meet
                    exact ⟨rfl, K10⟩
                  · cases lf <;> cases dn
                    all_goals (
                      go_wp2_with fail
                      go_meet
                      exact ⟨by simp, K10⟩)
                · cases r <;> cases dn <;> cases bk <;> cases lf
                  all_goals (
                    go_wp2_with fail
                    go_meet
                    exact ⟨by simp, K10⟩)
              · go_wp2_with fail
                go_meet
                exact ⟨rfl, K10⟩
            case rest =>
              obtain ⟨rfl, K11⟩ := hcut
              clear K10
              obtain ⟨z1, z2, -, -, -⟩ := K11.out
              obtain ⟨b', off', u', v', hab, hbl', hcx, hcy, hv'⟩ := RdC_at K11.out.ls hlt
              cases hab
              have huv : u' = u ∧ v' = v := by
                have h1 := hv'.out
                rw [HV.out] at h1
                injection h1 with h1
                injection h1 with h1 h2
                exact ⟨h1.symm, h2.symm⟩
              obtain ⟨rfl, rfl⟩ := huv
              have HPI2 := Lib.hid (fun (W : World) (h : RdI W ad zs) => HPI.out W u' v' h)
              have hany := HPS.out u' v' HSELF.out
              have hp64 := pieceL_len zs u' v'
              obtain ⟨Lp, hLp⟩ : ∃ Lp, Lp = pieceL zs u' v' := ⟨_, rfl⟩
              rw [← hLp] at HPI2 hany hp64
              have HANY := Lib.hid hany
              clear hLp hany hv'
              go_wp2_with fail
              refine hold_start (S := (fun w' => w'.cell? ⟨q, 0, none⟩ = some (.slice ad m d) ∧ w'.cell? ⟨b, off + k * 2, none⟩ = some (.int .i64 u') ∧ w'.cell? ⟨b, off + k * 2 + 1, none⟩ = some (.int .i64 v') ∧ wc.heap.size ≤ w'.heap.size)) (by kernel_rfl) (by kernel_rfl) (by intro _ _ d _ _ h; cases d <;> exact h) ?_ (fun hHC hH0 => ?_)
              · (first | (go_keep; done) | ((try go_split_ands); (repeat' apply And.intro) <;> first | assumption | (with_reducible refine Rd.below ?_ hb1; assumption) | (with_reducible refine Rd.drew ?_; repeat' (first | assumption | (with_reducible refine Rd.alloc ?_ _))) | (refine (hb1.cell (by first | omega | (simp; done) | (simp; omega))).trans ?_; first | assumption | simp) | (exact below_step hb1 (by first | omega | (simp; done) | (simp; omega)) (by assumption)) | (have hz' := hb1.size; (try simp at hz'); omega) | ((repeat' (first | assumption | (with_reducible exact Below.refl _ _) | (with_reducible refine Below.drew ?_) | (with_reducible refine Below.alloc ?_ ?_ _) | (with_reducible refine Below.setCell ?_ ?_ _) | omega | (simp; done) | (simp; omega))); done) | go_simp | (simp; done) | (simp; omega)))
              refine hold_plain 0 (v := ?_) hHC hH0 (by simp only [List.getElem?_toArray, List.getElem?_cons_succ, List.getElem?_cons_zero]; rfl) rfl (by kernel_rfl) ?_ ?_
              rotate_left 1
              · (intro w hSw; (try dsimp only at hSw); go_simp; try with_reducible rfl)
              try simp only [Act.put, List.setIfInBounds_toArray, List.set_cons_zero, List.set_cons_succ]
              refine hold_plain 1 (v := ?_) hHC hH0 (by simp only [List.getElem?_toArray, List.getElem?_cons_succ, List.getElem?_cons_zero]; rfl) rfl (by kernel_rfl) ?_ ?_
              rotate_left 1
              · (intro w hSw; (try dsimp only at hSw); go_simp; try with_reducible rfl)
              try simp only [Act.put, List.setIfInBounds_toArray, List.set_cons_zero, List.set_cons_succ]
              refine hold_plain 2 (v := ?_) hHC hH0 (by simp only [List.getElem?_toArray, List.getElem?_cons_succ, List.getElem?_cons_zero]; rfl) rfl (by kernel_rfl) ?_ ?_
              rotate_left 1
              · (intro w hSw; (try dsimp only at hSw); go_simp; try with_reducible rfl)
              try simp only [Act.put, List.setIfInBounds_toArray, List.set_cons_zero, List.set_cons_succ]
              refine hold_plain 3 (v := ?_) hHC hH0 (by simp only [List.getElem?_toArray, List.getElem?_cons_succ, List.getElem?_cons_zero]; rfl) rfl (by kernel_rfl) ?_ ?_
              rotate_left 1
              · (intro w hSw; (try dsimp only at hSw); go_simp; try with_reducible rfl)
              try simp only [Act.put, List.setIfInBounds_toArray, List.set_cons_zero, List.set_cons_succ]
              refine hold_plain 4 (v := ?_) hHC hH0 (by simp only [List.getElem?_toArray, List.getElem?_cons_succ, List.getElem?_cons_zero]; rfl) rfl (by kernel_rfl) ?_ ?_
              rotate_left 1
              · (intro w hSw; (try dsimp only at hSw); go_simp; try with_reducible rfl)
              try simp only [Act.put, List.setIfInBounds_toArray, List.set_cons_zero, List.set_cons_succ]
              refine hold_call0 5 (by simp only [List.getElem?_toArray, List.getElem?_cons_succ, List.getElem?_cons_zero]; rfl) rfl (by kernel_rfl) (fun K hK => ?_)
              go_simp
              (refine (HPI2.out _ (Rd.drew K11.out.rd)).mono ?_; rintro e w11 ⟨a5, c5, rfl, hO5, hb1⟩; have K12 := Lib.hid (Kp.below (K11.out.drewN 1) hb1); have HP5 : Hid (Rd w11 a5 (flatC Lp)) := Lib.hid (Rd.of_own hO5); clear hO5)
              refine hK.out _ _ ?_ (fun hH1 => ?_)
              · (first | (go_keep; done) | ((try go_split_ands); (repeat' apply And.intro) <;> first | assumption | (with_reducible refine Rd.below ?_ hb1; assumption) | (with_reducible refine Rd.drew ?_; repeat' (first | assumption | (with_reducible refine Rd.alloc ?_ _))) | (refine (hb1.cell (by first | omega | (simp; done) | (simp; omega))).trans ?_; first | assumption | simp) | (exact below_step hb1 (by first | omega | (simp; done) | (simp; omega)) (by assumption)) | (have hz' := hb1.size; (try simp at hz'); omega) | ((repeat' (first | assumption | (with_reducible exact Below.refl _ _) | (with_reducible refine Below.drew ?_) | (with_reducible refine Below.alloc ?_ ?_ _) | (with_reducible refine Below.setCell ?_ ?_ _) | omega | (simp; done) | (simp; omega))); done) | go_simp | (simp; done) | (simp; omega)))
              clear hK K hH0
              try simp only [Act.put, List.setIfInBounds_toArray, List.set_cons_zero, List.set_cons_succ]
              refine hold_plain 6 (v := ?_) hHC hH1 (by simp only [List.getElem?_toArray, List.getElem?_cons_succ, List.getElem?_cons_zero]; rfl) rfl (by kernel_rfl) ?_ ?_
              rotate_left 1
              · (intro w hSw; (try dsimp only at hSw); go_simp; try with_reducible rfl)
              try simp only [Act.put, List.setIfInBounds_toArray, List.set_cons_zero, List.set_cons_succ]
              refine wpAnyH_done (by kernel_rfl) ?_ _
              (try dsimp only at hH1)
              go_split_ands
              clear hHC
              clear hb1 K11 z1 z2 hcx hcy hbl'
              go_wp2_with fail
              go_loopg [16, 17] (Lp.length + 1) (fun gi fv iv wr => ∃ (i : Nat), i ≤ Lp.length ∧ gi = Lp.length + 1 - i ∧ iv = .int .i64 (i : Int) ∧ fv = .bool ((Lp.take i).any (fun p => p == (u', v'))) ∧ Hid (Kp w wr q ad m d zs (some ⟨b, off, none⟩) L) ∧ Hid (Rd wr a5 (flatC Lp)))
              case atStart => exact ⟨0, Nat.zero_le _, by omega, rfl, by simp, K12, HP5⟩
              case round =>
                clear K12 HP5
                obtain ⟨i, hi, hgi, rfl, rfl, K13, HP13⟩ := hrel
                by_cases hil : i < Lp.length
                · have hiI : (i : Int) < (Lp.length : Int) := by omega
                  obtain ⟨b5, off5, u5, v5, rfl, hbl5, hcx5, hcy5, hv5⟩ := RdC_at HP13.out hil
                  obtain ⟨b9, off9, u9, v9, hab, hbl9, hcx, hcy, hv9⟩ := RdC_at K13.out.ls hlt
                  cases hab
                  have huv : u9 = u' ∧ v9 = v' := by
                    have h1 := hv9.out
                    rw [HV.out] at h1
                    injection h1 with h1
                    injection h1 with h1 h2
                    exact ⟨h1.symm, h2.symm⟩
                  rw [huv.1] at hcx
                  rw [huv.2] at hcy
                  clear huv hv9
                  have HST : Hid ((Lp.take (i + 1)).any (fun p => p == (u', v')) = ((Lp.take i).any (fun p => p == (u', v')) || (u5 == u' && v5 == v'))) := Lib.hid (by
                    rw [take_one hv5.out, List.any_append]
                    simp
                    rfl)
                  obtain ⟨f, hf⟩ : ∃ f, f = (Lp.take i).any (fun p => p == (u', v')) := ⟨_, rfl⟩
                  rw [← hf] at HST ⊢
                  have HK14 : Hid (∀ k, Kp w (wr.drewN k) q ad m d zs (some ⟨b, off, none⟩) L) := Lib.hid (fun k => K13.out.drewN k)
                  have HP14 : Hid (∀ k, Rd (wr.drewN k) (some ⟨b5, off5, none⟩) (flatC Lp)) := Lib.hid (fun k => Rd.below HP13.out (below_drewN (Below.refl _ _) k))
                  clear hf hv5 K13 HP13
                  cases f
                  · by_cases c1 : u5 = u'
                    · have d1 : (u5 == u') = true := by simp [c1]
                      subst c1
                      by_cases c2 : v5 = v'
                      · have d2 : (v5 == v') = true := by simp [c2]
                        subst c2
                        go_wp2_with fail
                        go_quiet (fail)
                        go_wp2_with fail
                        go_roundg (Lp.length + 1 - (i + 1))
                        case rel => exact ⟨i + 1, by omega, rfl, by go_num, congrArg Value.bool (by rw [HST.out]; simp), Lib.hid (HK14.out _), Lib.hid (HP14.out _)⟩
                        case measure => omega
                      · have d2 : (v5 == v') = false := by rw [beq_eq_false_iff_ne]; exact c2
                        go_wp2_with fail
                        go_quiet (fail)
                        go_wp2_with fail
                        go_roundg (Lp.length + 1 - (i + 1))
                        case rel => exact ⟨i + 1, by omega, rfl, by go_num, congrArg Value.bool (by rw [HST.out]; simp [d2]), Lib.hid (HK14.out _), Lib.hid (HP14.out _)⟩
                        case measure => omega
                    · have d1 : (u5 == u') = false := by rw [beq_eq_false_iff_ne]; exact c1
                      go_wp2_with fail
                      go_quiet (fail)
                      go_wp2_with fail
                      go_roundg (Lp.length + 1 - (i + 1))
                      case rel => exact ⟨i + 1, by omega, rfl, by go_num, congrArg Value.bool (by rw [HST.out]; simp [d1]), Lib.hid (HK14.out _), Lib.hid (HP14.out _)⟩
                      case measure => omega
                  · go_wp2_with fail
                    go_quiet (fail)
                    go_wp2_with fail
                    go_roundg (Lp.length + 1 - (i + 1))
                    case rel => exact ⟨i + 1, by omega, rfl, by go_num, congrArg Value.bool (by rw [HST.out]; simp), Lib.hid (HK14.out _), Lib.hid (HP14.out _)⟩
                    case measure => omega
                · have hiI : ¬ (i : Int) < (Lp.length : Int) := by omega
                  have hfv : (Lp.take i).any (fun p => p == (u', v')) = true := by rw [List.take_of_length_le (by omega)]; exact HANY.out
                  rw [hfv]
                  have hbd := take_bd S (u', v')
                  rw [HTK.out] at hbd
                  obtain ⟨hbd0, hbd1⟩ := hbd
                  have HN2 : Hid (n - (oneI r + oneI dn - oneI (r && (dn && s))) = (L.length : Int) - ((L.take (k + 1)).map (takeI S)).sum) := Lib.hid (by
                    rw [sum_step HV.out, HTK.out]
                    have := HN.out
                    omega)
                  have HT2 : Hid ((t || ((s && (!r && !dn)) || (bk && (!lf && !dn)))) = (L.take (k + 1)).any (seeB S)) := Lib.hid (by
                    rw [any_step HV.out, HSE.out, ← HTT.out])
                  clear hfv hil
                  go_wp2_with fail
                  go_roundg (L.length + 1 - (k + 1))
                  case rel => exact ⟨k + 1, _, _, by omega, rfl, by go_num, rfl, rfl, by omega, by omega, HN2, HT2, K13⟩
                  case measure => omega
        · as_aux_lemma =>
          have hkI : ¬ (k : Int) < (L.length : Int) := by omega
          have htk : L.take k = L := List.take_of_length_le (by omega)
          have hP := pcB_le zs
          have hH := hlB_le zs
          have HNP : Hid (n = (pcB zs : Int) - hlB zs) := Lib.hid (by rw [HN.out, htk]; exact HEU.out)
          have HTP : Hid (t = touchB S) := Lib.hid (by rw [HTT.out, htk]; exact HTO.out)
          have HPC1 := Lib.hid (fun (W : World) (h : RdI W ad zs) => HPC.out ad m d zs W hm9 HZ.out h)
          have HHO1 := Lib.hid (fun (W : World) (h : RdI W ad zs) => HHO.out ad m d zs W hm9 HZ.out h)
          have HRC := Lib.hid (fun (W : World) (x y : Int) (hx : x = ((3 : Nat) : Int)) (hy : y = ((3 : Nat) : Int)) => rectI_at 3 3 W x y hx hy (by omega) (by omega) (by omega) (by omega))
          obtain ⟨P, hPP⟩ : ∃ P : Int, P = (pcB zs : Int) := ⟨_, rfl⟩
          obtain ⟨H, hHH⟩ : ∃ H : Int, H = hlB zs := ⟨_, rfl⟩
          have hP0 : 0 ≤ P ∧ P ≤ 64 := by omega
          rw [← hHH] at hH HNP HSV HHO1
          rw [← hPP] at HNP HSV HPC1
          have HSB : Hid (simB zs = (decide (P = 1) && (decide (H = 0) && !t))) := Lib.hid (by rw [HSV.out, HTP.out])
          obtain ⟨sb, hsb⟩ : ∃ sb, sb = simB zs := ⟨_, rfl⟩
          rw [← hsb] at HSI HSB
          obtain ⟨x, hx⟩ : ∃ x : Int, x = 2 * (blk L : Int) - L.length := ⟨_, rfl⟩
          rw [← hx] at HEX HBV
          obtain ⟨β, hβ⟩ : ∃ β, β = balB zs := ⟨_, rfl⟩
          rw [← hβ] at HBA HBV
          obtain ⟨hP0, hP1⟩ := hP0
          obtain ⟨hH0, hH1⟩ := hH
          have hn : n = P - H := HNP.out
          subst hn
          clear hPP hHH hsb hx hβ hP htk hn0 hn1 HN HTT HNP HTP HSV hlt hk HPC HHC HPI HPS HEU HTO HMC
          obtain ⟨y1, y2, -, -, -⟩ := HKP.out
          go_wp2_with (go_at_call 27; fail)
          refine (HRC.out _ _ _ (by omega) (by omega)).mono ?_
          rintro e w5 ⟨b8, c8, rfl, hb8, hr8, hbb⟩
          have K5 := Lib.hid (HKP.out.below hbb)
          rw [show List.replicate 3 ((2 : Int) ^ 3 - 1) = [7, 7, 7] by decide] at hr8
          have HWO := Lib.hid (withOff_any b8 0 3 c8 [7, 7, 7] 1 1 7 w5 rfl (by decide) (by omega) (by omega) (by decide) (by omega) (by decide) hb8 hr8)
          rw [ring_off] at HWO
          clear hbb hr8 HKP HRC y1 y2 hb8
          go_wp2_with (go_at_call 31; fail)
          refine (HWO.out).mono ?_
          rintro e w6 ⟨g9, c9, rfl, hO9, hb6⟩
          have K6 := Lib.hid (K5.out.below hb6)
          have HR9 : Hid (RdI w6 (some ⟨g9, 0, none⟩) RING) := Lib.hid (Rd.of_own hO9)
          have HH9 := Lib.hid (fun (W : World) (h : RdI W (some ⟨g9, 0, none⟩) RING) => hol_ring g9 c9 W h)
          clear hO9 hb6 K5 HWO HHO
          obtain ⟨y1, y2, y3, y4, y5⟩ := K6.out
          have hr9 := HR9.out
          have hs6 := y5.size
          go_wp2_with fail
          have ew : IntKind.i64.wrap (P - H) = P - H := by rw [IntKind.wrap_i64]; omega
          have e1 : (β == β) = true := by simp
          have e2 : (x == 0) = β := HBV.out.symm
          by_cases p1 : P = 1
          · subst p1
            by_cases h0 : H = 0
            · subst h0
              have hsb : sb = !t := by rw [HSB.out]; simp
              subst hsb
              refine hold_start (S := (fun w' => w'.cell? ⟨q, 0, none⟩ = some (.slice ad m d) ∧ w'.cell? ⟨w6.heap.size, 0, none⟩ = some (.slice (some ⟨g9, 0, none⟩) 8 c9) ∧ RdI w' ad zs ∧ RdI w' (some ⟨g9, 0, none⟩) RING ∧ Below w.heap.size w w' ∧ w6.heap.size + 1 ≤ w'.heap.size)) (by kernel_rfl) (by kernel_rfl) (by intro _ _ d _ _ h; cases d <;> exact h) ?_ (fun hHC hH0 => ?_)
              · (first | (go_keep; done) | ((try go_split_ands); (repeat' apply And.intro) <;> first | assumption | (with_reducible refine Rd.below ?_ hb1; assumption) | (with_reducible refine Rd.drew ?_; repeat' (first | assumption | (with_reducible refine Rd.alloc ?_ _))) | (refine (hb1.cell (by first | omega | (simp; done) | (simp; omega))).trans ?_; first | assumption | simp) | (exact below_step hb1 (by first | omega | (simp; done) | (simp; omega)) (by assumption)) | (have hz' := hb1.size; (try simp at hz'); omega) | ((repeat' (first | assumption | (with_reducible exact Below.refl _ _) | (with_reducible refine Below.drew ?_) | (with_reducible refine Below.alloc ?_ ?_ _) | (with_reducible refine Below.setCell ?_ ?_ _) | omega | (simp; done) | (simp; omega))); done) | go_simp | (simp; done) | (simp; omega)))
              refine hold_plain 0 (v := ?_) hHC hH0 (by simp only [List.getElem?_toArray, List.getElem?_cons_succ, List.getElem?_cons_zero]; rfl) rfl (by kernel_rfl) ?_ ?_
              rotate_left 1
              · (intro w hSw; (try dsimp only at hSw); go_simp; try with_reducible rfl)
              try simp only [Act.put, List.setIfInBounds_toArray, List.set_cons_zero, List.set_cons_succ]
              refine hold_plain 2 (v := ?_) hHC hH0 (by simp only [List.getElem?_toArray, List.getElem?_cons_succ, List.getElem?_cons_zero]; rfl) rfl (by kernel_rfl) ?_ ?_
              rotate_left 1
              · (intro w hSw; (try dsimp only at hSw); go_simp; try with_reducible rfl)
              try simp only [Act.put, List.setIfInBounds_toArray, List.set_cons_zero, List.set_cons_succ]
              refine hold_plain 5 (v := ?_) hHC hH0 (by simp only [List.getElem?_toArray, List.getElem?_cons_succ, List.getElem?_cons_zero]; rfl) rfl (by kernel_rfl) ?_ ?_
              rotate_left 1
              · (intro w hSw; (try dsimp only at hSw); go_simp; try with_reducible rfl)
              try simp only [Act.put, List.setIfInBounds_toArray, List.set_cons_zero, List.set_cons_succ]
              refine hold_call0 1 (by simp only [List.getElem?_toArray, List.getElem?_cons_succ, List.getElem?_cons_zero]; rfl) rfl (by kernel_rfl) (fun K hK => ?_)
              go_simp
              (obtain ⟨_, _, hr1, hr2, _, _⟩ := id hH0; first | (go_at_call 14; refine (HPC1.out _ hr1).mono ?_; rintro e w1 ⟨rfl, hb1⟩) | (go_at_call 11; first | (with_reducible refine (HHO1.out _ hr1).mono ?_; rintro e w1 ⟨rfl, hb1⟩) | (with_reducible refine (HH9.out _ hr2).mono ?_; rintro e w1 ⟨rfl, hb1⟩)) | (go_at_call 23; refine (HSI.out _ hr1).mono ?_; rintro e w1 ⟨rfl, hb1⟩) | (go_at_call 32; refine (HBA.out _ hr1).mono ?_; rintro e w1 ⟨rfl, hb1⟩) | (go_at_call 33; refine (HEX.out _ hr1).mono ?_; rintro e w1 ⟨rfl, hb1⟩))
              refine hK.out _ _ ?_ (fun hH1 => ?_)
              · (first | (go_keep; done) | ((try go_split_ands); (repeat' apply And.intro) <;> first | assumption | (with_reducible refine Rd.below ?_ hb1; assumption) | (with_reducible refine Rd.drew ?_; repeat' (first | assumption | (with_reducible refine Rd.alloc ?_ _))) | (refine (hb1.cell (by first | omega | (simp; done) | (simp; omega))).trans ?_; first | assumption | simp) | (exact below_step hb1 (by first | omega | (simp; done) | (simp; omega)) (by assumption)) | (have hz' := hb1.size; (try simp at hz'); omega) | ((repeat' (first | assumption | (with_reducible exact Below.refl _ _) | (with_reducible refine Below.drew ?_) | (with_reducible refine Below.alloc ?_ ?_ _) | (with_reducible refine Below.setCell ?_ ?_ _) | omega | (simp; done) | (simp; omega))); done) | go_simp | (simp; done) | (simp; omega)))
              clear hK K hH0
              try simp only [Act.put, List.setIfInBounds_toArray, List.set_cons_zero, List.set_cons_succ]
              refine hold_call0 3 (by simp only [List.getElem?_toArray, List.getElem?_cons_succ, List.getElem?_cons_zero]; rfl) rfl (by kernel_rfl) (fun K hK => ?_)
              go_simp
              (obtain ⟨_, _, hr1, hr2, _, _⟩ := id hH1; first | (go_at_call 14; refine (HPC1.out _ hr1).mono ?_; rintro e w1 ⟨rfl, hb1⟩) | (go_at_call 11; first | (with_reducible refine (HHO1.out _ hr1).mono ?_; rintro e w1 ⟨rfl, hb1⟩) | (with_reducible refine (HH9.out _ hr2).mono ?_; rintro e w1 ⟨rfl, hb1⟩)) | (go_at_call 23; refine (HSI.out _ hr1).mono ?_; rintro e w1 ⟨rfl, hb1⟩) | (go_at_call 32; refine (HBA.out _ hr1).mono ?_; rintro e w1 ⟨rfl, hb1⟩) | (go_at_call 33; refine (HEX.out _ hr1).mono ?_; rintro e w1 ⟨rfl, hb1⟩))
              refine hK.out _ _ ?_ (fun hH2 => ?_)
              · (first | (go_keep; done) | ((try go_split_ands); (repeat' apply And.intro) <;> first | assumption | (with_reducible refine Rd.below ?_ hb1; assumption) | (with_reducible refine Rd.drew ?_; repeat' (first | assumption | (with_reducible refine Rd.alloc ?_ _))) | (refine (hb1.cell (by first | omega | (simp; done) | (simp; omega))).trans ?_; first | assumption | simp) | (exact below_step hb1 (by first | omega | (simp; done) | (simp; omega)) (by assumption)) | (have hz' := hb1.size; (try simp at hz'); omega) | ((repeat' (first | assumption | (with_reducible exact Below.refl _ _) | (with_reducible refine Below.drew ?_) | (with_reducible refine Below.alloc ?_ ?_ _) | (with_reducible refine Below.setCell ?_ ?_ _) | omega | (simp; done) | (simp; omega))); done) | go_simp | (simp; done) | (simp; omega)))
              clear hK K hH1
              try simp only [Act.put, List.setIfInBounds_toArray, List.set_cons_zero, List.set_cons_succ]
              refine hold_plain 4 (v := ?_) hHC hH2 (by simp only [List.getElem?_toArray, List.getElem?_cons_succ, List.getElem?_cons_zero]; rfl) rfl (by kernel_rfl) ?_ ?_
              rotate_left 1
              · (intro w hSw; (try dsimp only at hSw); go_simp; try with_reducible rfl)
              try simp only [Act.put, List.setIfInBounds_toArray, List.set_cons_zero, List.set_cons_succ]
              refine hold_plain 6 (v := ?_) hHC hH2 (by simp only [List.getElem?_toArray, List.getElem?_cons_succ, List.getElem?_cons_zero]; rfl) rfl (by kernel_rfl) ?_ ?_
              rotate_left 1
              · (intro w hSw; (try dsimp only at hSw); go_simp; try with_reducible rfl)
              try simp only [Act.put, List.setIfInBounds_toArray, List.set_cons_zero, List.set_cons_succ]
              refine hold_plain 7 (v := ?_) hHC hH2 (by simp only [List.getElem?_toArray, List.getElem?_cons_succ, List.getElem?_cons_zero]; rfl) rfl (by kernel_rfl) ?_ ?_
              rotate_left 1
              · (intro w hSw; (try dsimp only at hSw); go_simp; try with_reducible rfl)
              try simp only [Act.put, List.setIfInBounds_toArray, List.set_cons_zero, List.set_cons_succ]
              refine hold_yes 8 (v := ?_) hHC hH2 (by simp only [List.getElem?_toArray, List.getElem?_cons_succ, List.getElem?_cons_zero]; rfl) rfl (by kernel_rfl) (by kernel_rfl) ?_ ?_
              rotate_left 1
              · (intro w hSw; (try dsimp only at hSw); go_simp; try with_reducible rfl)
              try simp only [Act.put, List.setIfInBounds_toArray, List.set_cons_zero, List.set_cons_succ]
              refine hold_yes 10 (v := ?_) hHC hH2 (by simp only [List.getElem?_toArray, List.getElem?_cons_succ, List.getElem?_cons_zero]; rfl) rfl (by kernel_rfl) (by kernel_rfl) ?_ ?_
              rotate_left 1
              · (intro w hSw; (try dsimp only at hSw); go_simp; try with_reducible rfl)
              try simp only [Act.put, List.setIfInBounds_toArray, List.set_cons_zero, List.set_cons_succ]
              refine hold_call1 9 (by simp only [List.getElem?_toArray, List.getElem?_cons_succ, List.getElem?_cons_zero]; rfl) rfl (by kernel_rfl) (by kernel_rfl) (fun K hK => ?_)
              go_simp
              (obtain ⟨_, _, hr1, hr2, _, _⟩ := id hH2; first | (go_at_call 14; refine (HPC1.out _ hr1).mono ?_; rintro e w1 ⟨rfl, hb1⟩) | (go_at_call 11; first | (with_reducible refine (HHO1.out _ hr1).mono ?_; rintro e w1 ⟨rfl, hb1⟩) | (with_reducible refine (HH9.out _ hr2).mono ?_; rintro e w1 ⟨rfl, hb1⟩)) | (go_at_call 23; refine (HSI.out _ hr1).mono ?_; rintro e w1 ⟨rfl, hb1⟩) | (go_at_call 32; refine (HBA.out _ hr1).mono ?_; rintro e w1 ⟨rfl, hb1⟩) | (go_at_call 33; refine (HEX.out _ hr1).mono ?_; rintro e w1 ⟨rfl, hb1⟩))
              refine hK.out _ _ ?_ (fun hH3 => ?_)
              · (first | (go_keep; done) | ((try go_split_ands); (repeat' apply And.intro) <;> first | assumption | (with_reducible refine Rd.below ?_ hb1; assumption) | (with_reducible refine Rd.drew ?_; repeat' (first | assumption | (with_reducible refine Rd.alloc ?_ _))) | (refine (hb1.cell (by first | omega | (simp; done) | (simp; omega))).trans ?_; first | assumption | simp) | (exact below_step hb1 (by first | omega | (simp; done) | (simp; omega)) (by assumption)) | (have hz' := hb1.size; (try simp at hz'); omega) | ((repeat' (first | assumption | (with_reducible exact Below.refl _ _) | (with_reducible refine Below.drew ?_) | (with_reducible refine Below.alloc ?_ ?_ _) | (with_reducible refine Below.setCell ?_ ?_ _) | omega | (simp; done) | (simp; omega))); done) | go_simp | (simp; done) | (simp; omega)))
              clear hK K hH2
              try simp only [Act.put, List.setIfInBounds_toArray, List.set_cons_zero, List.set_cons_succ]
              refine hold_call1 11 (by simp only [List.getElem?_toArray, List.getElem?_cons_succ, List.getElem?_cons_zero]; rfl) rfl (by kernel_rfl) (by kernel_rfl) (fun K hK => ?_)
              go_simp
              (obtain ⟨_, _, hr1, hr2, _, _⟩ := id hH3; first | (go_at_call 14; refine (HPC1.out _ hr1).mono ?_; rintro e w1 ⟨rfl, hb1⟩) | (go_at_call 11; first | (with_reducible refine (HHO1.out _ hr1).mono ?_; rintro e w1 ⟨rfl, hb1⟩) | (with_reducible refine (HH9.out _ hr2).mono ?_; rintro e w1 ⟨rfl, hb1⟩)) | (go_at_call 23; refine (HSI.out _ hr1).mono ?_; rintro e w1 ⟨rfl, hb1⟩) | (go_at_call 32; refine (HBA.out _ hr1).mono ?_; rintro e w1 ⟨rfl, hb1⟩) | (go_at_call 33; refine (HEX.out _ hr1).mono ?_; rintro e w1 ⟨rfl, hb1⟩))
              refine hK.out _ _ ?_ (fun hH4 => ?_)
              · (first | (go_keep; done) | ((try go_split_ands); (repeat' apply And.intro) <;> first | assumption | (with_reducible refine Rd.below ?_ hb1; assumption) | (with_reducible refine Rd.drew ?_; repeat' (first | assumption | (with_reducible refine Rd.alloc ?_ _))) | (refine (hb1.cell (by first | omega | (simp; done) | (simp; omega))).trans ?_; first | assumption | simp) | (exact below_step hb1 (by first | omega | (simp; done) | (simp; omega)) (by assumption)) | (have hz' := hb1.size; (try simp at hz'); omega) | ((repeat' (first | assumption | (with_reducible exact Below.refl _ _) | (with_reducible refine Below.drew ?_) | (with_reducible refine Below.alloc ?_ ?_ _) | (with_reducible refine Below.setCell ?_ ?_ _) | omega | (simp; done) | (simp; omega))); done) | go_simp | (simp; done) | (simp; omega)))
              clear hK K hH3
              try simp only [Act.put, List.setIfInBounds_toArray, List.set_cons_zero, List.set_cons_succ]
              refine hold_yes 12 (v := ?_) hHC hH4 (by simp only [List.getElem?_toArray, List.getElem?_cons_succ, List.getElem?_cons_zero]; rfl) rfl (by kernel_rfl) (by kernel_rfl) ?_ ?_
              rotate_left 1
              · (intro w hSw; (try dsimp only at hSw); go_simp; try with_reducible rfl)
              try simp only [Act.put, List.setIfInBounds_toArray, List.set_cons_zero, List.set_cons_succ]
              refine hold_yes 13 (v := ?_) hHC hH4 (by simp only [List.getElem?_toArray, List.getElem?_cons_succ, List.getElem?_cons_zero]; rfl) rfl (by kernel_rfl) (by kernel_rfl) ?_ ?_
              rotate_left 1
              · (intro w hSw; (try dsimp only at hSw); go_simp; try with_reducible rfl)
              try simp only [Act.put, List.setIfInBounds_toArray, List.set_cons_zero, List.set_cons_succ]
              refine hold_yes 14 (v := ?_) hHC hH4 (by simp only [List.getElem?_toArray, List.getElem?_cons_succ, List.getElem?_cons_zero]; rfl) rfl (by kernel_rfl) (by kernel_rfl) ?_ ?_
              rotate_left 1
              · (intro w hSw; (try dsimp only at hSw); go_simp; try with_reducible rfl)
              try simp only [Act.put, List.setIfInBounds_toArray, List.set_cons_zero, List.set_cons_succ]
              refine hold_call1 15 (by simp only [List.getElem?_toArray, List.getElem?_cons_succ, List.getElem?_cons_zero]; rfl) rfl (by kernel_rfl) (by kernel_rfl) (fun K hK => ?_)
              go_simp
              (obtain ⟨_, _, hr1, hr2, _, _⟩ := id hH4; first | (go_at_call 14; refine (HPC1.out _ hr1).mono ?_; rintro e w1 ⟨rfl, hb1⟩) | (go_at_call 11; first | (with_reducible refine (HHO1.out _ hr1).mono ?_; rintro e w1 ⟨rfl, hb1⟩) | (with_reducible refine (HH9.out _ hr2).mono ?_; rintro e w1 ⟨rfl, hb1⟩)) | (go_at_call 23; refine (HSI.out _ hr1).mono ?_; rintro e w1 ⟨rfl, hb1⟩) | (go_at_call 32; refine (HBA.out _ hr1).mono ?_; rintro e w1 ⟨rfl, hb1⟩) | (go_at_call 33; refine (HEX.out _ hr1).mono ?_; rintro e w1 ⟨rfl, hb1⟩))
              refine hK.out _ _ ?_ (fun hH5 => ?_)
              · (first | (go_keep; done) | ((try go_split_ands); (repeat' apply And.intro) <;> first | assumption | (with_reducible refine Rd.below ?_ hb1; assumption) | (with_reducible refine Rd.drew ?_; repeat' (first | assumption | (with_reducible refine Rd.alloc ?_ _))) | (refine (hb1.cell (by first | omega | (simp; done) | (simp; omega))).trans ?_; first | assumption | simp) | (exact below_step hb1 (by first | omega | (simp; done) | (simp; omega)) (by assumption)) | (have hz' := hb1.size; (try simp at hz'); omega) | ((repeat' (first | assumption | (with_reducible exact Below.refl _ _) | (with_reducible refine Below.drew ?_) | (with_reducible refine Below.alloc ?_ ?_ _) | (with_reducible refine Below.setCell ?_ ?_ _) | omega | (simp; done) | (simp; omega))); done) | go_simp | (simp; done) | (simp; omega)))
              clear hK K hH4
              try simp only [Act.put, List.setIfInBounds_toArray, List.set_cons_zero, List.set_cons_succ]
              refine hold_yes 16 (v := ?_) hHC hH5 (by simp only [List.getElem?_toArray, List.getElem?_cons_succ, List.getElem?_cons_zero]; rfl) rfl (by kernel_rfl) (by kernel_rfl) ?_ ?_
              rotate_left 1
              · (intro w hSw; (try dsimp only at hSw); go_simp; try with_reducible rfl)
              try simp only [Act.put, List.setIfInBounds_toArray, List.set_cons_zero, List.set_cons_succ]
              refine hold_yes 17 (v := ?_) hHC hH5 (by simp only [List.getElem?_toArray, List.getElem?_cons_succ, List.getElem?_cons_zero]; rfl) rfl (by kernel_rfl) (by kernel_rfl) ?_ ?_
              rotate_left 1
              · (intro w hSw; (try dsimp only at hSw); go_simp; try with_reducible rfl)
              try simp only [Act.put, List.setIfInBounds_toArray, List.set_cons_zero, List.set_cons_succ]
              refine hold_yes 18 (v := ?_) hHC hH5 (by simp only [List.getElem?_toArray, List.getElem?_cons_succ, List.getElem?_cons_zero]; rfl) rfl (by kernel_rfl) (by kernel_rfl) ?_ ?_
              rotate_left 1
              · (intro w hSw; (try dsimp only at hSw); go_simp; try with_reducible rfl)
              try simp only [Act.put, List.setIfInBounds_toArray, List.set_cons_zero, List.set_cons_succ]
              refine hold_yes 19 (v := ?_) hHC hH5 (by simp only [List.getElem?_toArray, List.getElem?_cons_succ, List.getElem?_cons_zero]; rfl) rfl (by kernel_rfl) (by kernel_rfl) ?_ ?_
              rotate_left 1
              · (intro w hSw; (try dsimp only at hSw); go_simp; try with_reducible rfl)
              try simp only [Act.put, List.setIfInBounds_toArray, List.set_cons_zero, List.set_cons_succ]
              refine hold_yes 20 (v := ?_) hHC hH5 (by simp only [List.getElem?_toArray, List.getElem?_cons_succ, List.getElem?_cons_zero]; rfl) rfl (by kernel_rfl) (by kernel_rfl) ?_ ?_
              rotate_left 1
              · (intro w hSw; (try dsimp only at hSw); go_simp; try with_reducible rfl)
              try simp only [Act.put, List.setIfInBounds_toArray, List.set_cons_zero, List.set_cons_succ]
              refine hold_yes 21 (v := ?_) hHC hH5 (by simp only [List.getElem?_toArray, List.getElem?_cons_succ, List.getElem?_cons_zero]; rfl) rfl (by kernel_rfl) (by kernel_rfl) ?_ ?_
              rotate_left 1
              · (intro w hSw; (try dsimp only at hSw); go_simp; try with_reducible rfl)
              try simp only [Act.put, List.setIfInBounds_toArray, List.set_cons_zero, List.set_cons_succ]
              refine hold_yes 22 (v := ?_) hHC hH5 (by simp only [List.getElem?_toArray, List.getElem?_cons_succ, List.getElem?_cons_zero]; rfl) rfl (by kernel_rfl) (by kernel_rfl) ?_ ?_
              rotate_left 1
              · (intro w hSw; (try dsimp only at hSw); go_simp; try with_reducible rfl)
              try simp only [Act.put, List.setIfInBounds_toArray, List.set_cons_zero, List.set_cons_succ]
              refine hold_plain 23 (v := ?_) hHC hH5 (by simp only [List.getElem?_toArray, List.getElem?_cons_succ, List.getElem?_cons_zero]; rfl) rfl (by kernel_rfl) ?_ ?_
              rotate_left 1
              · (intro w hSw; (try dsimp only at hSw); go_simp; try with_reducible rfl)
              try simp only [Act.put, List.setIfInBounds_toArray, List.set_cons_zero, List.set_cons_succ]
              refine hold_plain 24 (v := ?_) hHC hH5 (by simp only [List.getElem?_toArray, List.getElem?_cons_succ, List.getElem?_cons_zero]; rfl) rfl (by kernel_rfl) ?_ ?_
              rotate_left 1
              · (intro w hSw; (try dsimp only at hSw); go_simp; try with_reducible rfl)
              try simp only [Act.put, List.setIfInBounds_toArray, List.set_cons_zero, List.set_cons_succ]
              refine hold_yes 25 (v := ?_) hHC hH5 (by simp only [List.getElem?_toArray, List.getElem?_cons_succ, List.getElem?_cons_zero]; rfl) rfl (by kernel_rfl) (by kernel_rfl) ?_ ?_
              rotate_left 1
              · (intro w hSw; (try dsimp only at hSw); go_simp; try with_reducible rfl)
              try simp only [Act.put, List.setIfInBounds_toArray, List.set_cons_zero, List.set_cons_succ]
              refine hold_yes 27 (v := ?_) hHC hH5 (by simp only [List.getElem?_toArray, List.getElem?_cons_succ, List.getElem?_cons_zero]; rfl) rfl (by kernel_rfl) (by kernel_rfl) ?_ ?_
              rotate_left 1
              · (intro w hSw; (try dsimp only at hSw); go_simp; try with_reducible rfl)
              try simp only [Act.put, List.setIfInBounds_toArray, List.set_cons_zero, List.set_cons_succ]
              refine hold_call1 26 (by simp only [List.getElem?_toArray, List.getElem?_cons_succ, List.getElem?_cons_zero]; rfl) rfl (by kernel_rfl) (by kernel_rfl) (fun K hK => ?_)
              go_simp
              (obtain ⟨_, _, hr1, hr2, _, _⟩ := id hH5; first | (go_at_call 14; refine (HPC1.out _ hr1).mono ?_; rintro e w1 ⟨rfl, hb1⟩) | (go_at_call 11; first | (with_reducible refine (HHO1.out _ hr1).mono ?_; rintro e w1 ⟨rfl, hb1⟩) | (with_reducible refine (HH9.out _ hr2).mono ?_; rintro e w1 ⟨rfl, hb1⟩)) | (go_at_call 23; refine (HSI.out _ hr1).mono ?_; rintro e w1 ⟨rfl, hb1⟩) | (go_at_call 32; refine (HBA.out _ hr1).mono ?_; rintro e w1 ⟨rfl, hb1⟩) | (go_at_call 33; refine (HEX.out _ hr1).mono ?_; rintro e w1 ⟨rfl, hb1⟩))
              refine hK.out _ _ ?_ (fun hH6 => ?_)
              · (first | (go_keep; done) | ((try go_split_ands); (repeat' apply And.intro) <;> first | assumption | (with_reducible refine Rd.below ?_ hb1; assumption) | (with_reducible refine Rd.drew ?_; repeat' (first | assumption | (with_reducible refine Rd.alloc ?_ _))) | (refine (hb1.cell (by first | omega | (simp; done) | (simp; omega))).trans ?_; first | assumption | simp) | (exact below_step hb1 (by first | omega | (simp; done) | (simp; omega)) (by assumption)) | (have hz' := hb1.size; (try simp at hz'); omega) | ((repeat' (first | assumption | (with_reducible exact Below.refl _ _) | (with_reducible refine Below.drew ?_) | (with_reducible refine Below.alloc ?_ ?_ _) | (with_reducible refine Below.setCell ?_ ?_ _) | omega | (simp; done) | (simp; omega))); done) | go_simp | (simp; done) | (simp; omega)))
              clear hK K hH5
              try simp only [Act.put, List.setIfInBounds_toArray, List.set_cons_zero, List.set_cons_succ]
              refine hold_call1 28 (by simp only [List.getElem?_toArray, List.getElem?_cons_succ, List.getElem?_cons_zero]; rfl) rfl (by kernel_rfl) (by kernel_rfl) (fun K hK => ?_)
              go_simp
              (obtain ⟨_, _, hr1, hr2, _, _⟩ := id hH6; first | (go_at_call 14; refine (HPC1.out _ hr1).mono ?_; rintro e w1 ⟨rfl, hb1⟩) | (go_at_call 11; first | (with_reducible refine (HHO1.out _ hr1).mono ?_; rintro e w1 ⟨rfl, hb1⟩) | (with_reducible refine (HH9.out _ hr2).mono ?_; rintro e w1 ⟨rfl, hb1⟩)) | (go_at_call 23; refine (HSI.out _ hr1).mono ?_; rintro e w1 ⟨rfl, hb1⟩) | (go_at_call 32; refine (HBA.out _ hr1).mono ?_; rintro e w1 ⟨rfl, hb1⟩) | (go_at_call 33; refine (HEX.out _ hr1).mono ?_; rintro e w1 ⟨rfl, hb1⟩))
              refine hK.out _ _ ?_ (fun hH7 => ?_)
              · (first | (go_keep; done) | ((try go_split_ands); (repeat' apply And.intro) <;> first | assumption | (with_reducible refine Rd.below ?_ hb1; assumption) | (with_reducible refine Rd.drew ?_; repeat' (first | assumption | (with_reducible refine Rd.alloc ?_ _))) | (refine (hb1.cell (by first | omega | (simp; done) | (simp; omega))).trans ?_; first | assumption | simp) | (exact below_step hb1 (by first | omega | (simp; done) | (simp; omega)) (by assumption)) | (have hz' := hb1.size; (try simp at hz'); omega) | ((repeat' (first | assumption | (with_reducible exact Below.refl _ _) | (with_reducible refine Below.drew ?_) | (with_reducible refine Below.alloc ?_ ?_ _) | (with_reducible refine Below.setCell ?_ ?_ _) | omega | (simp; done) | (simp; omega))); done) | go_simp | (simp; done) | (simp; omega)))
              clear hK K hH6
              try simp only [Act.put, List.setIfInBounds_toArray, List.set_cons_zero, List.set_cons_succ]
              refine hold_yes 29 (v := ?_) hHC hH7 (by simp only [List.getElem?_toArray, List.getElem?_cons_succ, List.getElem?_cons_zero]; rfl) rfl (by kernel_rfl) (by kernel_rfl) ?_ ?_
              rotate_left 1
              · (intro w hSw; (try dsimp only at hSw); go_simp; try with_reducible rfl)
              try simp only [Act.put, List.setIfInBounds_toArray, List.set_cons_zero, List.set_cons_succ]
              refine hold_yes 30 (v := ?_) hHC hH7 (by simp only [List.getElem?_toArray, List.getElem?_cons_succ, List.getElem?_cons_zero]; rfl) rfl (by kernel_rfl) (by kernel_rfl) ?_ ?_
              rotate_left 1
              · (intro w hSw; (try dsimp only at hSw); go_simp; try with_reducible rfl)
              try simp only [Act.put, List.setIfInBounds_toArray, List.set_cons_zero, List.set_cons_succ]
              refine hold_plain 31 (v := ?_) hHC hH7 (by simp only [List.getElem?_toArray, List.getElem?_cons_succ, List.getElem?_cons_zero]; rfl) rfl (by kernel_rfl) ?_ ?_
              rotate_left 1
              · (intro w hSw; (try dsimp only at hSw); go_simp; try with_reducible rfl)
              try simp only [Act.put, List.setIfInBounds_toArray, List.set_cons_zero, List.set_cons_succ]
              refine hold_plain 32 (v := ?_) hHC hH7 (by simp only [List.getElem?_toArray, List.getElem?_cons_succ, List.getElem?_cons_zero]; rfl) rfl (by kernel_rfl) ?_ ?_
              rotate_left 1
              · (intro w hSw; (try dsimp only at hSw); go_simp; try with_reducible rfl)
              try simp only [Act.put, List.setIfInBounds_toArray, List.set_cons_zero, List.set_cons_succ]
              refine hold_yes 33 (v := ?_) hHC hH7 (by simp only [List.getElem?_toArray, List.getElem?_cons_succ, List.getElem?_cons_zero]; rfl) rfl (by kernel_rfl) (by kernel_rfl) ?_ ?_
              rotate_left 1
              · (intro w hSw; (try dsimp only at hSw); go_simp; try with_reducible rfl)
              try simp only [Act.put, List.setIfInBounds_toArray, List.set_cons_zero, List.set_cons_succ]
              refine hold_call1 34 (by simp only [List.getElem?_toArray, List.getElem?_cons_succ, List.getElem?_cons_zero]; rfl) rfl (by kernel_rfl) (by kernel_rfl) (fun K hK => ?_)
              go_simp
              (obtain ⟨_, _, hr1, hr2, _, _⟩ := id hH7; first | (go_at_call 14; refine (HPC1.out _ hr1).mono ?_; rintro e w1 ⟨rfl, hb1⟩) | (go_at_call 11; first | (with_reducible refine (HHO1.out _ hr1).mono ?_; rintro e w1 ⟨rfl, hb1⟩) | (with_reducible refine (HH9.out _ hr2).mono ?_; rintro e w1 ⟨rfl, hb1⟩)) | (go_at_call 23; refine (HSI.out _ hr1).mono ?_; rintro e w1 ⟨rfl, hb1⟩) | (go_at_call 32; refine (HBA.out _ hr1).mono ?_; rintro e w1 ⟨rfl, hb1⟩) | (go_at_call 33; refine (HEX.out _ hr1).mono ?_; rintro e w1 ⟨rfl, hb1⟩))
              refine hK.out _ _ ?_ (fun hH8 => ?_)
              · (first | (go_keep; done) | ((try go_split_ands); (repeat' apply And.intro) <;> first | assumption | (with_reducible refine Rd.below ?_ hb1; assumption) | (with_reducible refine Rd.drew ?_; repeat' (first | assumption | (with_reducible refine Rd.alloc ?_ _))) | (refine (hb1.cell (by first | omega | (simp; done) | (simp; omega))).trans ?_; first | assumption | simp) | (exact below_step hb1 (by first | omega | (simp; done) | (simp; omega)) (by assumption)) | (have hz' := hb1.size; (try simp at hz'); omega) | ((repeat' (first | assumption | (with_reducible exact Below.refl _ _) | (with_reducible refine Below.drew ?_) | (with_reducible refine Below.alloc ?_ ?_ _) | (with_reducible refine Below.setCell ?_ ?_ _) | omega | (simp; done) | (simp; omega))); done) | go_simp | (simp; done) | (simp; omega)))
              clear hK K hH7
              try simp only [Act.put, List.setIfInBounds_toArray, List.set_cons_zero, List.set_cons_succ]
              refine hold_yes 35 (v := ?_) hHC hH8 (by simp only [List.getElem?_toArray, List.getElem?_cons_succ, List.getElem?_cons_zero]; rfl) rfl (by kernel_rfl) (by kernel_rfl) ?_ ?_
              rotate_left 1
              · (intro w hSw; (try dsimp only at hSw); go_simp; try with_reducible rfl)
              try simp only [Act.put, List.setIfInBounds_toArray, List.set_cons_zero, List.set_cons_succ]
              refine hold_plain 36 (v := ?_) hHC hH8 (by simp only [List.getElem?_toArray, List.getElem?_cons_succ, List.getElem?_cons_zero]; rfl) rfl (by kernel_rfl) ?_ ?_
              rotate_left 1
              · (intro w hSw; (try dsimp only at hSw); go_simp; try with_reducible rfl)
              try simp only [Act.put, List.setIfInBounds_toArray, List.set_cons_zero, List.set_cons_succ]
              refine hold_plain 37 (v := ?_) hHC hH8 (by simp only [List.getElem?_toArray, List.getElem?_cons_succ, List.getElem?_cons_zero]; rfl) rfl (by kernel_rfl) ?_ ?_
              rotate_left 1
              · (intro w hSw; (try dsimp only at hSw); go_simp; try with_reducible rfl)
              try simp only [Act.put, List.setIfInBounds_toArray, List.set_cons_zero, List.set_cons_succ]
              refine wpAnyH_done (by kernel_rfl) ?_ _
              (try dsimp only at hH8)
              go_split_ands
              clear hHC
              go_wp2_with fail
              go_ret
              exact ⟨rfl, by assumption⟩
            · have hsb : sb = false := by rw [HSB.out]; simp [h0]
              subst hsb
              have d1 : (H == 0) = false := by rw [beq_eq_false_iff_ne]; exact h0
              refine hold_start (S := (fun w' => w'.cell? ⟨q, 0, none⟩ = some (.slice ad m d) ∧ w'.cell? ⟨w6.heap.size, 0, none⟩ = some (.slice (some ⟨g9, 0, none⟩) 8 c9) ∧ RdI w' ad zs ∧ RdI w' (some ⟨g9, 0, none⟩) RING ∧ Below w.heap.size w w' ∧ w6.heap.size + 1 ≤ w'.heap.size)) (by kernel_rfl) (by kernel_rfl) (by intro _ _ d _ _ h; cases d <;> exact h) ?_ (fun hHC hH0 => ?_)
              · (first | (go_keep; done) | ((try go_split_ands); (repeat' apply And.intro) <;> first | assumption | (with_reducible refine Rd.below ?_ hb1; assumption) | (with_reducible refine Rd.drew ?_; repeat' (first | assumption | (with_reducible refine Rd.alloc ?_ _))) | (refine (hb1.cell (by first | omega | (simp; done) | (simp; omega))).trans ?_; first | assumption | simp) | (exact below_step hb1 (by first | omega | (simp; done) | (simp; omega)) (by assumption)) | (have hz' := hb1.size; (try simp at hz'); omega) | ((repeat' (first | assumption | (with_reducible exact Below.refl _ _) | (with_reducible refine Below.drew ?_) | (with_reducible refine Below.alloc ?_ ?_ _) | (with_reducible refine Below.setCell ?_ ?_ _) | omega | (simp; done) | (simp; omega))); done) | go_simp | (simp; done) | (simp; omega)))
              refine hold_plain 0 (v := ?_) hHC hH0 (by simp only [List.getElem?_toArray, List.getElem?_cons_succ, List.getElem?_cons_zero]; rfl) rfl (by kernel_rfl) ?_ ?_
              rotate_left 1
              · (intro w hSw; (try dsimp only at hSw); go_simp; try with_reducible rfl)
              try simp only [Act.put, List.setIfInBounds_toArray, List.set_cons_zero, List.set_cons_succ]
              refine hold_plain 2 (v := ?_) hHC hH0 (by simp only [List.getElem?_toArray, List.getElem?_cons_succ, List.getElem?_cons_zero]; rfl) rfl (by kernel_rfl) ?_ ?_
              rotate_left 1
              · (intro w hSw; (try dsimp only at hSw); go_simp; try with_reducible rfl)
              try simp only [Act.put, List.setIfInBounds_toArray, List.set_cons_zero, List.set_cons_succ]
              refine hold_plain 5 (v := ?_) hHC hH0 (by simp only [List.getElem?_toArray, List.getElem?_cons_succ, List.getElem?_cons_zero]; rfl) rfl (by kernel_rfl) ?_ ?_
              rotate_left 1
              · (intro w hSw; (try dsimp only at hSw); go_simp; try with_reducible rfl)
              try simp only [Act.put, List.setIfInBounds_toArray, List.set_cons_zero, List.set_cons_succ]
              refine hold_call0 1 (by simp only [List.getElem?_toArray, List.getElem?_cons_succ, List.getElem?_cons_zero]; rfl) rfl (by kernel_rfl) (fun K hK => ?_)
              go_simp
              (obtain ⟨_, _, hr1, hr2, _, _⟩ := id hH0; first | (go_at_call 14; refine (HPC1.out _ hr1).mono ?_; rintro e w1 ⟨rfl, hb1⟩) | (go_at_call 11; first | (with_reducible refine (HHO1.out _ hr1).mono ?_; rintro e w1 ⟨rfl, hb1⟩) | (with_reducible refine (HH9.out _ hr2).mono ?_; rintro e w1 ⟨rfl, hb1⟩)) | (go_at_call 23; refine (HSI.out _ hr1).mono ?_; rintro e w1 ⟨rfl, hb1⟩) | (go_at_call 32; refine (HBA.out _ hr1).mono ?_; rintro e w1 ⟨rfl, hb1⟩) | (go_at_call 33; refine (HEX.out _ hr1).mono ?_; rintro e w1 ⟨rfl, hb1⟩))
              refine hK.out _ _ ?_ (fun hH1 => ?_)
              · (first | (go_keep; done) | ((try go_split_ands); (repeat' apply And.intro) <;> first | assumption | (with_reducible refine Rd.below ?_ hb1; assumption) | (with_reducible refine Rd.drew ?_; repeat' (first | assumption | (with_reducible refine Rd.alloc ?_ _))) | (refine (hb1.cell (by first | omega | (simp; done) | (simp; omega))).trans ?_; first | assumption | simp) | (exact below_step hb1 (by first | omega | (simp; done) | (simp; omega)) (by assumption)) | (have hz' := hb1.size; (try simp at hz'); omega) | ((repeat' (first | assumption | (with_reducible exact Below.refl _ _) | (with_reducible refine Below.drew ?_) | (with_reducible refine Below.alloc ?_ ?_ _) | (with_reducible refine Below.setCell ?_ ?_ _) | omega | (simp; done) | (simp; omega))); done) | go_simp | (simp; done) | (simp; omega)))
              clear hK K hH0
              try simp only [Act.put, List.setIfInBounds_toArray, List.set_cons_zero, List.set_cons_succ]
              refine hold_call0 3 (by simp only [List.getElem?_toArray, List.getElem?_cons_succ, List.getElem?_cons_zero]; rfl) rfl (by kernel_rfl) (fun K hK => ?_)
              go_simp
              (obtain ⟨_, _, hr1, hr2, _, _⟩ := id hH1; first | (go_at_call 14; refine (HPC1.out _ hr1).mono ?_; rintro e w1 ⟨rfl, hb1⟩) | (go_at_call 11; first | (with_reducible refine (HHO1.out _ hr1).mono ?_; rintro e w1 ⟨rfl, hb1⟩) | (with_reducible refine (HH9.out _ hr2).mono ?_; rintro e w1 ⟨rfl, hb1⟩)) | (go_at_call 23; refine (HSI.out _ hr1).mono ?_; rintro e w1 ⟨rfl, hb1⟩) | (go_at_call 32; refine (HBA.out _ hr1).mono ?_; rintro e w1 ⟨rfl, hb1⟩) | (go_at_call 33; refine (HEX.out _ hr1).mono ?_; rintro e w1 ⟨rfl, hb1⟩))
              refine hK.out _ _ ?_ (fun hH2 => ?_)
              · (first | (go_keep; done) | ((try go_split_ands); (repeat' apply And.intro) <;> first | assumption | (with_reducible refine Rd.below ?_ hb1; assumption) | (with_reducible refine Rd.drew ?_; repeat' (first | assumption | (with_reducible refine Rd.alloc ?_ _))) | (refine (hb1.cell (by first | omega | (simp; done) | (simp; omega))).trans ?_; first | assumption | simp) | (exact below_step hb1 (by first | omega | (simp; done) | (simp; omega)) (by assumption)) | (have hz' := hb1.size; (try simp at hz'); omega) | ((repeat' (first | assumption | (with_reducible exact Below.refl _ _) | (with_reducible refine Below.drew ?_) | (with_reducible refine Below.alloc ?_ ?_ _) | (with_reducible refine Below.setCell ?_ ?_ _) | omega | (simp; done) | (simp; omega))); done) | go_simp | (simp; done) | (simp; omega)))
              clear hK K hH1
              try simp only [Act.put, List.setIfInBounds_toArray, List.set_cons_zero, List.set_cons_succ]
              refine hold_plain 4 (v := ?_) hHC hH2 (by simp only [List.getElem?_toArray, List.getElem?_cons_succ, List.getElem?_cons_zero]; rfl) rfl (by kernel_rfl) ?_ ?_
              rotate_left 1
              · (intro w hSw; (try dsimp only at hSw); go_simp; try with_reducible rfl)
              try simp only [Act.put, List.setIfInBounds_toArray, List.set_cons_zero, List.set_cons_succ]
              refine hold_plain 6 (v := ?_) hHC hH2 (by simp only [List.getElem?_toArray, List.getElem?_cons_succ, List.getElem?_cons_zero]; rfl) rfl (by kernel_rfl) ?_ ?_
              rotate_left 1
              · (intro w hSw; (try dsimp only at hSw); go_simp; try with_reducible rfl)
              try simp only [Act.put, List.setIfInBounds_toArray, List.set_cons_zero, List.set_cons_succ]
              refine hold_plain 7 (v := ?_) hHC hH2 (by simp only [List.getElem?_toArray, List.getElem?_cons_succ, List.getElem?_cons_zero]; rfl) rfl (by kernel_rfl) ?_ ?_
              rotate_left 1
              · (intro w hSw; (try dsimp only at hSw); go_simp; try with_reducible rfl)
              try simp only [Act.put, List.setIfInBounds_toArray, List.set_cons_zero, List.set_cons_succ]
              refine hold_yes 8 (v := ?_) hHC hH2 (by simp only [List.getElem?_toArray, List.getElem?_cons_succ, List.getElem?_cons_zero]; rfl) rfl (by kernel_rfl) (by kernel_rfl) ?_ ?_
              rotate_left 1
              · (intro w hSw; (try dsimp only at hSw); go_simp; try with_reducible rfl)
              try simp only [Act.put, List.setIfInBounds_toArray, List.set_cons_zero, List.set_cons_succ]
              refine hold_yes 10 (v := ?_) hHC hH2 (by simp only [List.getElem?_toArray, List.getElem?_cons_succ, List.getElem?_cons_zero]; rfl) rfl (by kernel_rfl) (by kernel_rfl) ?_ ?_
              rotate_left 1
              · (intro w hSw; (try dsimp only at hSw); go_simp; try with_reducible rfl)
              try simp only [Act.put, List.setIfInBounds_toArray, List.set_cons_zero, List.set_cons_succ]
              refine hold_call1 9 (by simp only [List.getElem?_toArray, List.getElem?_cons_succ, List.getElem?_cons_zero]; rfl) rfl (by kernel_rfl) (by kernel_rfl) (fun K hK => ?_)
              go_simp
              (obtain ⟨_, _, hr1, hr2, _, _⟩ := id hH2; first | (go_at_call 14; refine (HPC1.out _ hr1).mono ?_; rintro e w1 ⟨rfl, hb1⟩) | (go_at_call 11; first | (with_reducible refine (HHO1.out _ hr1).mono ?_; rintro e w1 ⟨rfl, hb1⟩) | (with_reducible refine (HH9.out _ hr2).mono ?_; rintro e w1 ⟨rfl, hb1⟩)) | (go_at_call 23; refine (HSI.out _ hr1).mono ?_; rintro e w1 ⟨rfl, hb1⟩) | (go_at_call 32; refine (HBA.out _ hr1).mono ?_; rintro e w1 ⟨rfl, hb1⟩) | (go_at_call 33; refine (HEX.out _ hr1).mono ?_; rintro e w1 ⟨rfl, hb1⟩))
              refine hK.out _ _ ?_ (fun hH3 => ?_)
              · (first | (go_keep; done) | ((try go_split_ands); (repeat' apply And.intro) <;> first | assumption | (with_reducible refine Rd.below ?_ hb1; assumption) | (with_reducible refine Rd.drew ?_; repeat' (first | assumption | (with_reducible refine Rd.alloc ?_ _))) | (refine (hb1.cell (by first | omega | (simp; done) | (simp; omega))).trans ?_; first | assumption | simp) | (exact below_step hb1 (by first | omega | (simp; done) | (simp; omega)) (by assumption)) | (have hz' := hb1.size; (try simp at hz'); omega) | ((repeat' (first | assumption | (with_reducible exact Below.refl _ _) | (with_reducible refine Below.drew ?_) | (with_reducible refine Below.alloc ?_ ?_ _) | (with_reducible refine Below.setCell ?_ ?_ _) | omega | (simp; done) | (simp; omega))); done) | go_simp | (simp; done) | (simp; omega)))
              clear hK K hH2
              try simp only [Act.put, List.setIfInBounds_toArray, List.set_cons_zero, List.set_cons_succ]
              refine hold_call1 11 (by simp only [List.getElem?_toArray, List.getElem?_cons_succ, List.getElem?_cons_zero]; rfl) rfl (by kernel_rfl) (by kernel_rfl) (fun K hK => ?_)
              go_simp
              (obtain ⟨_, _, hr1, hr2, _, _⟩ := id hH3; first | (go_at_call 14; refine (HPC1.out _ hr1).mono ?_; rintro e w1 ⟨rfl, hb1⟩) | (go_at_call 11; first | (with_reducible refine (HHO1.out _ hr1).mono ?_; rintro e w1 ⟨rfl, hb1⟩) | (with_reducible refine (HH9.out _ hr2).mono ?_; rintro e w1 ⟨rfl, hb1⟩)) | (go_at_call 23; refine (HSI.out _ hr1).mono ?_; rintro e w1 ⟨rfl, hb1⟩) | (go_at_call 32; refine (HBA.out _ hr1).mono ?_; rintro e w1 ⟨rfl, hb1⟩) | (go_at_call 33; refine (HEX.out _ hr1).mono ?_; rintro e w1 ⟨rfl, hb1⟩))
              refine hK.out _ _ ?_ (fun hH4 => ?_)
              · (first | (go_keep; done) | ((try go_split_ands); (repeat' apply And.intro) <;> first | assumption | (with_reducible refine Rd.below ?_ hb1; assumption) | (with_reducible refine Rd.drew ?_; repeat' (first | assumption | (with_reducible refine Rd.alloc ?_ _))) | (refine (hb1.cell (by first | omega | (simp; done) | (simp; omega))).trans ?_; first | assumption | simp) | (exact below_step hb1 (by first | omega | (simp; done) | (simp; omega)) (by assumption)) | (have hz' := hb1.size; (try simp at hz'); omega) | ((repeat' (first | assumption | (with_reducible exact Below.refl _ _) | (with_reducible refine Below.drew ?_) | (with_reducible refine Below.alloc ?_ ?_ _) | (with_reducible refine Below.setCell ?_ ?_ _) | omega | (simp; done) | (simp; omega))); done) | go_simp | (simp; done) | (simp; omega)))
              clear hK K hH3
              try simp only [Act.put, List.setIfInBounds_toArray, List.set_cons_zero, List.set_cons_succ]
              refine hold_yes 12 (v := ?_) hHC hH4 (by simp only [List.getElem?_toArray, List.getElem?_cons_succ, List.getElem?_cons_zero]; rfl) rfl (by kernel_rfl) (by kernel_rfl) ?_ ?_
              rotate_left 1
              · (intro w hSw; (try dsimp only at hSw); go_simp; try with_reducible rfl)
              try simp only [Act.put, List.setIfInBounds_toArray, List.set_cons_zero, List.set_cons_succ]
              refine hold_yes 13 (v := ?_) hHC hH4 (by simp only [List.getElem?_toArray, List.getElem?_cons_succ, List.getElem?_cons_zero]; rfl) rfl (by kernel_rfl) (by kernel_rfl) ?_ ?_
              rotate_left 1
              · (intro w hSw; (try dsimp only at hSw); go_simp; try with_reducible rfl)
              try simp only [Act.put, List.setIfInBounds_toArray, List.set_cons_zero, List.set_cons_succ]
              refine hold_yes 14 (v := ?_) hHC hH4 (by simp only [List.getElem?_toArray, List.getElem?_cons_succ, List.getElem?_cons_zero]; rfl) rfl (by kernel_rfl) (by kernel_rfl) ?_ ?_
              rotate_left 1
              · (intro w hSw; (try dsimp only at hSw); go_simp; try with_reducible rfl)
              try simp only [Act.put, List.setIfInBounds_toArray, List.set_cons_zero, List.set_cons_succ]
              refine hold_call1 15 (by simp only [List.getElem?_toArray, List.getElem?_cons_succ, List.getElem?_cons_zero]; rfl) rfl (by kernel_rfl) (by kernel_rfl) (fun K hK => ?_)
              go_simp
              (obtain ⟨_, _, hr1, hr2, _, _⟩ := id hH4; first | (go_at_call 14; refine (HPC1.out _ hr1).mono ?_; rintro e w1 ⟨rfl, hb1⟩) | (go_at_call 11; first | (with_reducible refine (HHO1.out _ hr1).mono ?_; rintro e w1 ⟨rfl, hb1⟩) | (with_reducible refine (HH9.out _ hr2).mono ?_; rintro e w1 ⟨rfl, hb1⟩)) | (go_at_call 23; refine (HSI.out _ hr1).mono ?_; rintro e w1 ⟨rfl, hb1⟩) | (go_at_call 32; refine (HBA.out _ hr1).mono ?_; rintro e w1 ⟨rfl, hb1⟩) | (go_at_call 33; refine (HEX.out _ hr1).mono ?_; rintro e w1 ⟨rfl, hb1⟩))
              refine hK.out _ _ ?_ (fun hH5 => ?_)
              · (first | (go_keep; done) | ((try go_split_ands); (repeat' apply And.intro) <;> first | assumption | (with_reducible refine Rd.below ?_ hb1; assumption) | (with_reducible refine Rd.drew ?_; repeat' (first | assumption | (with_reducible refine Rd.alloc ?_ _))) | (refine (hb1.cell (by first | omega | (simp; done) | (simp; omega))).trans ?_; first | assumption | simp) | (exact below_step hb1 (by first | omega | (simp; done) | (simp; omega)) (by assumption)) | (have hz' := hb1.size; (try simp at hz'); omega) | ((repeat' (first | assumption | (with_reducible exact Below.refl _ _) | (with_reducible refine Below.drew ?_) | (with_reducible refine Below.alloc ?_ ?_ _) | (with_reducible refine Below.setCell ?_ ?_ _) | omega | (simp; done) | (simp; omega))); done) | go_simp | (simp; done) | (simp; omega)))
              clear hK K hH4
              try simp only [Act.put, List.setIfInBounds_toArray, List.set_cons_zero, List.set_cons_succ]
              refine hold_yes 16 (v := ?_) hHC hH5 (by simp only [List.getElem?_toArray, List.getElem?_cons_succ, List.getElem?_cons_zero]; rfl) rfl (by kernel_rfl) (by kernel_rfl) ?_ ?_
              rotate_left 1
              · (intro w hSw; (try dsimp only at hSw); go_simp; try with_reducible rfl)
              try simp only [Act.put, List.setIfInBounds_toArray, List.set_cons_zero, List.set_cons_succ]
              refine hold_yes 17 (v := ?_) hHC hH5 (by simp only [List.getElem?_toArray, List.getElem?_cons_succ, List.getElem?_cons_zero]; rfl) rfl (by kernel_rfl) (by kernel_rfl) ?_ ?_
              rotate_left 1
              · (intro w hSw; (try dsimp only at hSw); go_simp; try with_reducible rfl)
              try simp only [Act.put, List.setIfInBounds_toArray, List.set_cons_zero, List.set_cons_succ]
              refine hold_yes 18 (v := ?_) hHC hH5 (by simp only [List.getElem?_toArray, List.getElem?_cons_succ, List.getElem?_cons_zero]; rfl) rfl (by kernel_rfl) (by kernel_rfl) ?_ ?_
              rotate_left 1
              · (intro w hSw; (try dsimp only at hSw); go_simp; try with_reducible rfl)
              try simp only [Act.put, List.setIfInBounds_toArray, List.set_cons_zero, List.set_cons_succ]
              refine hold_no 19 hHC hH5 (by simp only [List.getElem?_toArray, List.getElem?_cons_succ, List.getElem?_cons_zero]; rfl) rfl (by kernel_rfl) (by kernel_rfl) ?_
              try simp only [Act.put, List.setIfInBounds_toArray, List.set_cons_zero, List.set_cons_succ]
              refine hold_no 20 hHC hH5 (by simp only [List.getElem?_toArray, List.getElem?_cons_succ, List.getElem?_cons_zero]; rfl) rfl (by kernel_rfl) (by kernel_rfl) ?_
              try simp only [Act.put, List.setIfInBounds_toArray, List.set_cons_zero, List.set_cons_succ]
              refine hold_yes 21 (v := ?_) hHC hH5 (by simp only [List.getElem?_toArray, List.getElem?_cons_succ, List.getElem?_cons_zero]; rfl) rfl (by kernel_rfl) (by kernel_rfl) ?_ ?_
              rotate_left 1
              · (intro w hSw; (try dsimp only at hSw); go_simp; try with_reducible rfl)
              try simp only [Act.put, List.setIfInBounds_toArray, List.set_cons_zero, List.set_cons_succ]
              refine hold_yes 22 (v := ?_) hHC hH5 (by simp only [List.getElem?_toArray, List.getElem?_cons_succ, List.getElem?_cons_zero]; rfl) rfl (by kernel_rfl) (by kernel_rfl) ?_ ?_
              rotate_left 1
              · (intro w hSw; (try dsimp only at hSw); go_simp; try with_reducible rfl)
              try simp only [Act.put, List.setIfInBounds_toArray, List.set_cons_zero, List.set_cons_succ]
              refine hold_plain 23 (v := ?_) hHC hH5 (by simp only [List.getElem?_toArray, List.getElem?_cons_succ, List.getElem?_cons_zero]; rfl) rfl (by kernel_rfl) ?_ ?_
              rotate_left 1
              · (intro w hSw; (try dsimp only at hSw); go_simp; try with_reducible rfl)
              try simp only [Act.put, List.setIfInBounds_toArray, List.set_cons_zero, List.set_cons_succ]
              refine hold_plain 24 (v := ?_) hHC hH5 (by simp only [List.getElem?_toArray, List.getElem?_cons_succ, List.getElem?_cons_zero]; rfl) rfl (by kernel_rfl) ?_ ?_
              rotate_left 1
              · (intro w hSw; (try dsimp only at hSw); go_simp; try with_reducible rfl)
              try simp only [Act.put, List.setIfInBounds_toArray, List.set_cons_zero, List.set_cons_succ]
              refine hold_yes 25 (v := ?_) hHC hH5 (by simp only [List.getElem?_toArray, List.getElem?_cons_succ, List.getElem?_cons_zero]; rfl) rfl (by kernel_rfl) (by kernel_rfl) ?_ ?_
              rotate_left 1
              · (intro w hSw; (try dsimp only at hSw); go_simp; try with_reducible rfl)
              try simp only [Act.put, List.setIfInBounds_toArray, List.set_cons_zero, List.set_cons_succ]
              refine hold_yes 27 (v := ?_) hHC hH5 (by simp only [List.getElem?_toArray, List.getElem?_cons_succ, List.getElem?_cons_zero]; rfl) rfl (by kernel_rfl) (by kernel_rfl) ?_ ?_
              rotate_left 1
              · (intro w hSw; (try dsimp only at hSw); go_simp; try with_reducible rfl)
              try simp only [Act.put, List.setIfInBounds_toArray, List.set_cons_zero, List.set_cons_succ]
              refine hold_call1 26 (by simp only [List.getElem?_toArray, List.getElem?_cons_succ, List.getElem?_cons_zero]; rfl) rfl (by kernel_rfl) (by kernel_rfl) (fun K hK => ?_)
              go_simp
              (obtain ⟨_, _, hr1, hr2, _, _⟩ := id hH5; first | (go_at_call 14; refine (HPC1.out _ hr1).mono ?_; rintro e w1 ⟨rfl, hb1⟩) | (go_at_call 11; first | (with_reducible refine (HHO1.out _ hr1).mono ?_; rintro e w1 ⟨rfl, hb1⟩) | (with_reducible refine (HH9.out _ hr2).mono ?_; rintro e w1 ⟨rfl, hb1⟩)) | (go_at_call 23; refine (HSI.out _ hr1).mono ?_; rintro e w1 ⟨rfl, hb1⟩) | (go_at_call 32; refine (HBA.out _ hr1).mono ?_; rintro e w1 ⟨rfl, hb1⟩) | (go_at_call 33; refine (HEX.out _ hr1).mono ?_; rintro e w1 ⟨rfl, hb1⟩))
              refine hK.out _ _ ?_ (fun hH6 => ?_)
              · (first | (go_keep; done) | ((try go_split_ands); (repeat' apply And.intro) <;> first | assumption | (with_reducible refine Rd.below ?_ hb1; assumption) | (with_reducible refine Rd.drew ?_; repeat' (first | assumption | (with_reducible refine Rd.alloc ?_ _))) | (refine (hb1.cell (by first | omega | (simp; done) | (simp; omega))).trans ?_; first | assumption | simp) | (exact below_step hb1 (by first | omega | (simp; done) | (simp; omega)) (by assumption)) | (have hz' := hb1.size; (try simp at hz'); omega) | ((repeat' (first | assumption | (with_reducible exact Below.refl _ _) | (with_reducible refine Below.drew ?_) | (with_reducible refine Below.alloc ?_ ?_ _) | (with_reducible refine Below.setCell ?_ ?_ _) | omega | (simp; done) | (simp; omega))); done) | go_simp | (simp; done) | (simp; omega)))
              clear hK K hH5
              try simp only [Act.put, List.setIfInBounds_toArray, List.set_cons_zero, List.set_cons_succ]
              refine hold_call1 28 (by simp only [List.getElem?_toArray, List.getElem?_cons_succ, List.getElem?_cons_zero]; rfl) rfl (by kernel_rfl) (by kernel_rfl) (fun K hK => ?_)
              go_simp
              (obtain ⟨_, _, hr1, hr2, _, _⟩ := id hH6; first | (go_at_call 14; refine (HPC1.out _ hr1).mono ?_; rintro e w1 ⟨rfl, hb1⟩) | (go_at_call 11; first | (with_reducible refine (HHO1.out _ hr1).mono ?_; rintro e w1 ⟨rfl, hb1⟩) | (with_reducible refine (HH9.out _ hr2).mono ?_; rintro e w1 ⟨rfl, hb1⟩)) | (go_at_call 23; refine (HSI.out _ hr1).mono ?_; rintro e w1 ⟨rfl, hb1⟩) | (go_at_call 32; refine (HBA.out _ hr1).mono ?_; rintro e w1 ⟨rfl, hb1⟩) | (go_at_call 33; refine (HEX.out _ hr1).mono ?_; rintro e w1 ⟨rfl, hb1⟩))
              refine hK.out _ _ ?_ (fun hH7 => ?_)
              · (first | (go_keep; done) | ((try go_split_ands); (repeat' apply And.intro) <;> first | assumption | (with_reducible refine Rd.below ?_ hb1; assumption) | (with_reducible refine Rd.drew ?_; repeat' (first | assumption | (with_reducible refine Rd.alloc ?_ _))) | (refine (hb1.cell (by first | omega | (simp; done) | (simp; omega))).trans ?_; first | assumption | simp) | (exact below_step hb1 (by first | omega | (simp; done) | (simp; omega)) (by assumption)) | (have hz' := hb1.size; (try simp at hz'); omega) | ((repeat' (first | assumption | (with_reducible exact Below.refl _ _) | (with_reducible refine Below.drew ?_) | (with_reducible refine Below.alloc ?_ ?_ _) | (with_reducible refine Below.setCell ?_ ?_ _) | omega | (simp; done) | (simp; omega))); done) | go_simp | (simp; done) | (simp; omega)))
              clear hK K hH6
              try simp only [Act.put, List.setIfInBounds_toArray, List.set_cons_zero, List.set_cons_succ]
              refine hold_yes 29 (v := ?_) hHC hH7 (by simp only [List.getElem?_toArray, List.getElem?_cons_succ, List.getElem?_cons_zero]; rfl) rfl (by kernel_rfl) (by kernel_rfl) ?_ ?_
              rotate_left 1
              · (intro w hSw; (try dsimp only at hSw); go_simp; try with_reducible rfl)
              try simp only [Act.put, List.setIfInBounds_toArray, List.set_cons_zero, List.set_cons_succ]
              refine hold_yes 30 (v := ?_) hHC hH7 (by simp only [List.getElem?_toArray, List.getElem?_cons_succ, List.getElem?_cons_zero]; rfl) rfl (by kernel_rfl) (by kernel_rfl) ?_ ?_
              rotate_left 1
              · (intro w hSw; (try dsimp only at hSw); go_simp; try with_reducible rfl)
              try simp only [Act.put, List.setIfInBounds_toArray, List.set_cons_zero, List.set_cons_succ]
              refine hold_plain 31 (v := ?_) hHC hH7 (by simp only [List.getElem?_toArray, List.getElem?_cons_succ, List.getElem?_cons_zero]; rfl) rfl (by kernel_rfl) ?_ ?_
              rotate_left 1
              · (intro w hSw; (try dsimp only at hSw); go_simp; try with_reducible rfl)
              try simp only [Act.put, List.setIfInBounds_toArray, List.set_cons_zero, List.set_cons_succ]
              refine hold_plain 32 (v := ?_) hHC hH7 (by simp only [List.getElem?_toArray, List.getElem?_cons_succ, List.getElem?_cons_zero]; rfl) rfl (by kernel_rfl) ?_ ?_
              rotate_left 1
              · (intro w hSw; (try dsimp only at hSw); go_simp; try with_reducible rfl)
              try simp only [Act.put, List.setIfInBounds_toArray, List.set_cons_zero, List.set_cons_succ]
              refine hold_yes 33 (v := ?_) hHC hH7 (by simp only [List.getElem?_toArray, List.getElem?_cons_succ, List.getElem?_cons_zero]; rfl) rfl (by kernel_rfl) (by kernel_rfl) ?_ ?_
              rotate_left 1
              · (intro w hSw; (try dsimp only at hSw); go_simp; try with_reducible rfl)
              try simp only [Act.put, List.setIfInBounds_toArray, List.set_cons_zero, List.set_cons_succ]
              refine hold_call1 34 (by simp only [List.getElem?_toArray, List.getElem?_cons_succ, List.getElem?_cons_zero]; rfl) rfl (by kernel_rfl) (by kernel_rfl) (fun K hK => ?_)
              go_simp
              (obtain ⟨_, _, hr1, hr2, _, _⟩ := id hH7; first | (go_at_call 14; refine (HPC1.out _ hr1).mono ?_; rintro e w1 ⟨rfl, hb1⟩) | (go_at_call 11; first | (with_reducible refine (HHO1.out _ hr1).mono ?_; rintro e w1 ⟨rfl, hb1⟩) | (with_reducible refine (HH9.out _ hr2).mono ?_; rintro e w1 ⟨rfl, hb1⟩)) | (go_at_call 23; refine (HSI.out _ hr1).mono ?_; rintro e w1 ⟨rfl, hb1⟩) | (go_at_call 32; refine (HBA.out _ hr1).mono ?_; rintro e w1 ⟨rfl, hb1⟩) | (go_at_call 33; refine (HEX.out _ hr1).mono ?_; rintro e w1 ⟨rfl, hb1⟩))
              refine hK.out _ _ ?_ (fun hH8 => ?_)
              · (first | (go_keep; done) | ((try go_split_ands); (repeat' apply And.intro) <;> first | assumption | (with_reducible refine Rd.below ?_ hb1; assumption) | (with_reducible refine Rd.drew ?_; repeat' (first | assumption | (with_reducible refine Rd.alloc ?_ _))) | (refine (hb1.cell (by first | omega | (simp; done) | (simp; omega))).trans ?_; first | assumption | simp) | (exact below_step hb1 (by first | omega | (simp; done) | (simp; omega)) (by assumption)) | (have hz' := hb1.size; (try simp at hz'); omega) | ((repeat' (first | assumption | (with_reducible exact Below.refl _ _) | (with_reducible refine Below.drew ?_) | (with_reducible refine Below.alloc ?_ ?_ _) | (with_reducible refine Below.setCell ?_ ?_ _) | omega | (simp; done) | (simp; omega))); done) | go_simp | (simp; done) | (simp; omega)))
              clear hK K hH7
              try simp only [Act.put, List.setIfInBounds_toArray, List.set_cons_zero, List.set_cons_succ]
              refine hold_yes 35 (v := ?_) hHC hH8 (by simp only [List.getElem?_toArray, List.getElem?_cons_succ, List.getElem?_cons_zero]; rfl) rfl (by kernel_rfl) (by kernel_rfl) ?_ ?_
              rotate_left 1
              · (intro w hSw; (try dsimp only at hSw); go_simp; try with_reducible rfl)
              try simp only [Act.put, List.setIfInBounds_toArray, List.set_cons_zero, List.set_cons_succ]
              refine hold_plain 36 (v := ?_) hHC hH8 (by simp only [List.getElem?_toArray, List.getElem?_cons_succ, List.getElem?_cons_zero]; rfl) rfl (by kernel_rfl) ?_ ?_
              rotate_left 1
              · (intro w hSw; (try dsimp only at hSw); go_simp; try with_reducible rfl)
              try simp only [Act.put, List.setIfInBounds_toArray, List.set_cons_zero, List.set_cons_succ]
              refine hold_plain 37 (v := ?_) hHC hH8 (by simp only [List.getElem?_toArray, List.getElem?_cons_succ, List.getElem?_cons_zero]; rfl) rfl (by kernel_rfl) ?_ ?_
              rotate_left 1
              · (intro w hSw; (try dsimp only at hSw); go_simp; try with_reducible rfl)
              try simp only [Act.put, List.setIfInBounds_toArray, List.set_cons_zero, List.set_cons_succ]
              refine wpAnyH_done (by kernel_rfl) ?_ _
              (try dsimp only at hH8)
              go_split_ands
              clear hHC
              go_wp2_with fail
              go_ret
              exact ⟨rfl, by assumption⟩
          · have hsb : sb = false := by rw [HSB.out]; simp [p1]
            subst hsb
            have d1 : (P == 1) = false := by rw [beq_eq_false_iff_ne]; exact p1
            refine hold_start (S := (fun w' => w'.cell? ⟨q, 0, none⟩ = some (.slice ad m d) ∧ w'.cell? ⟨w6.heap.size, 0, none⟩ = some (.slice (some ⟨g9, 0, none⟩) 8 c9) ∧ RdI w' ad zs ∧ RdI w' (some ⟨g9, 0, none⟩) RING ∧ Below w.heap.size w w' ∧ w6.heap.size + 1 ≤ w'.heap.size)) (by kernel_rfl) (by kernel_rfl) (by intro _ _ d _ _ h; cases d <;> exact h) ?_ (fun hHC hH0 => ?_)
            · (first | (go_keep; done) | ((try go_split_ands); (repeat' apply And.intro) <;> first | assumption | (with_reducible refine Rd.below ?_ hb1; assumption) | (with_reducible refine Rd.drew ?_; repeat' (first | assumption | (with_reducible refine Rd.alloc ?_ _))) | (refine (hb1.cell (by first | omega | (simp; done) | (simp; omega))).trans ?_; first | assumption | simp) | (exact below_step hb1 (by first | omega | (simp; done) | (simp; omega)) (by assumption)) | (have hz' := hb1.size; (try simp at hz'); omega) | ((repeat' (first | assumption | (with_reducible exact Below.refl _ _) | (with_reducible refine Below.drew ?_) | (with_reducible refine Below.alloc ?_ ?_ _) | (with_reducible refine Below.setCell ?_ ?_ _) | omega | (simp; done) | (simp; omega))); done) | go_simp | (simp; done) | (simp; omega)))
            refine hold_plain 0 (v := ?_) hHC hH0 (by simp only [List.getElem?_toArray, List.getElem?_cons_succ, List.getElem?_cons_zero]; rfl) rfl (by kernel_rfl) ?_ ?_
            rotate_left 1
            · (intro w hSw; (try dsimp only at hSw); go_simp; try with_reducible rfl)
            try simp only [Act.put, List.setIfInBounds_toArray, List.set_cons_zero, List.set_cons_succ]
            refine hold_plain 2 (v := ?_) hHC hH0 (by simp only [List.getElem?_toArray, List.getElem?_cons_succ, List.getElem?_cons_zero]; rfl) rfl (by kernel_rfl) ?_ ?_
            rotate_left 1
            · (intro w hSw; (try dsimp only at hSw); go_simp; try with_reducible rfl)
            try simp only [Act.put, List.setIfInBounds_toArray, List.set_cons_zero, List.set_cons_succ]
            refine hold_plain 5 (v := ?_) hHC hH0 (by simp only [List.getElem?_toArray, List.getElem?_cons_succ, List.getElem?_cons_zero]; rfl) rfl (by kernel_rfl) ?_ ?_
            rotate_left 1
            · (intro w hSw; (try dsimp only at hSw); go_simp; try with_reducible rfl)
            try simp only [Act.put, List.setIfInBounds_toArray, List.set_cons_zero, List.set_cons_succ]
            refine hold_call0 1 (by simp only [List.getElem?_toArray, List.getElem?_cons_succ, List.getElem?_cons_zero]; rfl) rfl (by kernel_rfl) (fun K hK => ?_)
            go_simp
            (obtain ⟨_, _, hr1, hr2, _, _⟩ := id hH0; first | (go_at_call 14; refine (HPC1.out _ hr1).mono ?_; rintro e w1 ⟨rfl, hb1⟩) | (go_at_call 11; first | (with_reducible refine (HHO1.out _ hr1).mono ?_; rintro e w1 ⟨rfl, hb1⟩) | (with_reducible refine (HH9.out _ hr2).mono ?_; rintro e w1 ⟨rfl, hb1⟩)) | (go_at_call 23; refine (HSI.out _ hr1).mono ?_; rintro e w1 ⟨rfl, hb1⟩) | (go_at_call 32; refine (HBA.out _ hr1).mono ?_; rintro e w1 ⟨rfl, hb1⟩) | (go_at_call 33; refine (HEX.out _ hr1).mono ?_; rintro e w1 ⟨rfl, hb1⟩))
            refine hK.out _ _ ?_ (fun hH1 => ?_)
            · (first | (go_keep; done) | ((try go_split_ands); (repeat' apply And.intro) <;> first | assumption | (with_reducible refine Rd.below ?_ hb1; assumption) | (with_reducible refine Rd.drew ?_; repeat' (first | assumption | (with_reducible refine Rd.alloc ?_ _))) | (refine (hb1.cell (by first | omega | (simp; done) | (simp; omega))).trans ?_; first | assumption | simp) | (exact below_step hb1 (by first | omega | (simp; done) | (simp; omega)) (by assumption)) | (have hz' := hb1.size; (try simp at hz'); omega) | ((repeat' (first | assumption | (with_reducible exact Below.refl _ _) | (with_reducible refine Below.drew ?_) | (with_reducible refine Below.alloc ?_ ?_ _) | (with_reducible refine Below.setCell ?_ ?_ _) | omega | (simp; done) | (simp; omega))); done) | go_simp | (simp; done) | (simp; omega)))
            clear hK K hH0
            try simp only [Act.put, List.setIfInBounds_toArray, List.set_cons_zero, List.set_cons_succ]
            refine hold_call0 3 (by simp only [List.getElem?_toArray, List.getElem?_cons_succ, List.getElem?_cons_zero]; rfl) rfl (by kernel_rfl) (fun K hK => ?_)
            go_simp
            (obtain ⟨_, _, hr1, hr2, _, _⟩ := id hH1; first | (go_at_call 14; refine (HPC1.out _ hr1).mono ?_; rintro e w1 ⟨rfl, hb1⟩) | (go_at_call 11; first | (with_reducible refine (HHO1.out _ hr1).mono ?_; rintro e w1 ⟨rfl, hb1⟩) | (with_reducible refine (HH9.out _ hr2).mono ?_; rintro e w1 ⟨rfl, hb1⟩)) | (go_at_call 23; refine (HSI.out _ hr1).mono ?_; rintro e w1 ⟨rfl, hb1⟩) | (go_at_call 32; refine (HBA.out _ hr1).mono ?_; rintro e w1 ⟨rfl, hb1⟩) | (go_at_call 33; refine (HEX.out _ hr1).mono ?_; rintro e w1 ⟨rfl, hb1⟩))
            refine hK.out _ _ ?_ (fun hH2 => ?_)
            · (first | (go_keep; done) | ((try go_split_ands); (repeat' apply And.intro) <;> first | assumption | (with_reducible refine Rd.below ?_ hb1; assumption) | (with_reducible refine Rd.drew ?_; repeat' (first | assumption | (with_reducible refine Rd.alloc ?_ _))) | (refine (hb1.cell (by first | omega | (simp; done) | (simp; omega))).trans ?_; first | assumption | simp) | (exact below_step hb1 (by first | omega | (simp; done) | (simp; omega)) (by assumption)) | (have hz' := hb1.size; (try simp at hz'); omega) | ((repeat' (first | assumption | (with_reducible exact Below.refl _ _) | (with_reducible refine Below.drew ?_) | (with_reducible refine Below.alloc ?_ ?_ _) | (with_reducible refine Below.setCell ?_ ?_ _) | omega | (simp; done) | (simp; omega))); done) | go_simp | (simp; done) | (simp; omega)))
            clear hK K hH1
            try simp only [Act.put, List.setIfInBounds_toArray, List.set_cons_zero, List.set_cons_succ]
            refine hold_plain 4 (v := ?_) hHC hH2 (by simp only [List.getElem?_toArray, List.getElem?_cons_succ, List.getElem?_cons_zero]; rfl) rfl (by kernel_rfl) ?_ ?_
            rotate_left 1
            · (intro w hSw; (try dsimp only at hSw); go_simp; try with_reducible rfl)
            try simp only [Act.put, List.setIfInBounds_toArray, List.set_cons_zero, List.set_cons_succ]
            refine hold_plain 6 (v := ?_) hHC hH2 (by simp only [List.getElem?_toArray, List.getElem?_cons_succ, List.getElem?_cons_zero]; rfl) rfl (by kernel_rfl) ?_ ?_
            rotate_left 1
            · (intro w hSw; (try dsimp only at hSw); go_simp; try with_reducible rfl)
            try simp only [Act.put, List.setIfInBounds_toArray, List.set_cons_zero, List.set_cons_succ]
            refine hold_plain 7 (v := ?_) hHC hH2 (by simp only [List.getElem?_toArray, List.getElem?_cons_succ, List.getElem?_cons_zero]; rfl) rfl (by kernel_rfl) ?_ ?_
            rotate_left 1
            · (intro w hSw; (try dsimp only at hSw); go_simp; try with_reducible rfl)
            try simp only [Act.put, List.setIfInBounds_toArray, List.set_cons_zero, List.set_cons_succ]
            refine hold_yes 8 (v := ?_) hHC hH2 (by simp only [List.getElem?_toArray, List.getElem?_cons_succ, List.getElem?_cons_zero]; rfl) rfl (by kernel_rfl) (by kernel_rfl) ?_ ?_
            rotate_left 1
            · (intro w hSw; (try dsimp only at hSw); go_simp; try with_reducible rfl)
            try simp only [Act.put, List.setIfInBounds_toArray, List.set_cons_zero, List.set_cons_succ]
            refine hold_yes 10 (v := ?_) hHC hH2 (by simp only [List.getElem?_toArray, List.getElem?_cons_succ, List.getElem?_cons_zero]; rfl) rfl (by kernel_rfl) (by kernel_rfl) ?_ ?_
            rotate_left 1
            · (intro w hSw; (try dsimp only at hSw); go_simp; try with_reducible rfl)
            try simp only [Act.put, List.setIfInBounds_toArray, List.set_cons_zero, List.set_cons_succ]
            refine hold_call1 9 (by simp only [List.getElem?_toArray, List.getElem?_cons_succ, List.getElem?_cons_zero]; rfl) rfl (by kernel_rfl) (by kernel_rfl) (fun K hK => ?_)
            go_simp
            (obtain ⟨_, _, hr1, hr2, _, _⟩ := id hH2; first | (go_at_call 14; refine (HPC1.out _ hr1).mono ?_; rintro e w1 ⟨rfl, hb1⟩) | (go_at_call 11; first | (with_reducible refine (HHO1.out _ hr1).mono ?_; rintro e w1 ⟨rfl, hb1⟩) | (with_reducible refine (HH9.out _ hr2).mono ?_; rintro e w1 ⟨rfl, hb1⟩)) | (go_at_call 23; refine (HSI.out _ hr1).mono ?_; rintro e w1 ⟨rfl, hb1⟩) | (go_at_call 32; refine (HBA.out _ hr1).mono ?_; rintro e w1 ⟨rfl, hb1⟩) | (go_at_call 33; refine (HEX.out _ hr1).mono ?_; rintro e w1 ⟨rfl, hb1⟩))
            refine hK.out _ _ ?_ (fun hH3 => ?_)
            · (first | (go_keep; done) | ((try go_split_ands); (repeat' apply And.intro) <;> first | assumption | (with_reducible refine Rd.below ?_ hb1; assumption) | (with_reducible refine Rd.drew ?_; repeat' (first | assumption | (with_reducible refine Rd.alloc ?_ _))) | (refine (hb1.cell (by first | omega | (simp; done) | (simp; omega))).trans ?_; first | assumption | simp) | (exact below_step hb1 (by first | omega | (simp; done) | (simp; omega)) (by assumption)) | (have hz' := hb1.size; (try simp at hz'); omega) | ((repeat' (first | assumption | (with_reducible exact Below.refl _ _) | (with_reducible refine Below.drew ?_) | (with_reducible refine Below.alloc ?_ ?_ _) | (with_reducible refine Below.setCell ?_ ?_ _) | omega | (simp; done) | (simp; omega))); done) | go_simp | (simp; done) | (simp; omega)))
            clear hK K hH2
            try simp only [Act.put, List.setIfInBounds_toArray, List.set_cons_zero, List.set_cons_succ]
            refine hold_call1 11 (by simp only [List.getElem?_toArray, List.getElem?_cons_succ, List.getElem?_cons_zero]; rfl) rfl (by kernel_rfl) (by kernel_rfl) (fun K hK => ?_)
            go_simp
            (obtain ⟨_, _, hr1, hr2, _, _⟩ := id hH3; first | (go_at_call 14; refine (HPC1.out _ hr1).mono ?_; rintro e w1 ⟨rfl, hb1⟩) | (go_at_call 11; first | (with_reducible refine (HHO1.out _ hr1).mono ?_; rintro e w1 ⟨rfl, hb1⟩) | (with_reducible refine (HH9.out _ hr2).mono ?_; rintro e w1 ⟨rfl, hb1⟩)) | (go_at_call 23; refine (HSI.out _ hr1).mono ?_; rintro e w1 ⟨rfl, hb1⟩) | (go_at_call 32; refine (HBA.out _ hr1).mono ?_; rintro e w1 ⟨rfl, hb1⟩) | (go_at_call 33; refine (HEX.out _ hr1).mono ?_; rintro e w1 ⟨rfl, hb1⟩))
            refine hK.out _ _ ?_ (fun hH4 => ?_)
            · (first | (go_keep; done) | ((try go_split_ands); (repeat' apply And.intro) <;> first | assumption | (with_reducible refine Rd.below ?_ hb1; assumption) | (with_reducible refine Rd.drew ?_; repeat' (first | assumption | (with_reducible refine Rd.alloc ?_ _))) | (refine (hb1.cell (by first | omega | (simp; done) | (simp; omega))).trans ?_; first | assumption | simp) | (exact below_step hb1 (by first | omega | (simp; done) | (simp; omega)) (by assumption)) | (have hz' := hb1.size; (try simp at hz'); omega) | ((repeat' (first | assumption | (with_reducible exact Below.refl _ _) | (with_reducible refine Below.drew ?_) | (with_reducible refine Below.alloc ?_ ?_ _) | (with_reducible refine Below.setCell ?_ ?_ _) | omega | (simp; done) | (simp; omega))); done) | go_simp | (simp; done) | (simp; omega)))
            clear hK K hH3
            try simp only [Act.put, List.setIfInBounds_toArray, List.set_cons_zero, List.set_cons_succ]
            refine hold_yes 12 (v := ?_) hHC hH4 (by simp only [List.getElem?_toArray, List.getElem?_cons_succ, List.getElem?_cons_zero]; rfl) rfl (by kernel_rfl) (by kernel_rfl) ?_ ?_
            rotate_left 1
            · (intro w hSw; (try dsimp only at hSw); go_simp; try with_reducible rfl)
            try simp only [Act.put, List.setIfInBounds_toArray, List.set_cons_zero, List.set_cons_succ]
            refine hold_yes 13 (v := ?_) hHC hH4 (by simp only [List.getElem?_toArray, List.getElem?_cons_succ, List.getElem?_cons_zero]; rfl) rfl (by kernel_rfl) (by kernel_rfl) ?_ ?_
            rotate_left 1
            · (intro w hSw; (try dsimp only at hSw); go_simp; try with_reducible rfl)
            try simp only [Act.put, List.setIfInBounds_toArray, List.set_cons_zero, List.set_cons_succ]
            refine hold_no 14 hHC hH4 (by simp only [List.getElem?_toArray, List.getElem?_cons_succ, List.getElem?_cons_zero]; rfl) rfl (by kernel_rfl) (by kernel_rfl) ?_
            try simp only [Act.put, List.setIfInBounds_toArray, List.set_cons_zero, List.set_cons_succ]
            refine hold_no 15 hHC hH4 (by simp only [List.getElem?_toArray, List.getElem?_cons_succ, List.getElem?_cons_zero]; rfl) rfl (by kernel_rfl) (by kernel_rfl) ?_
            try simp only [Act.put, List.setIfInBounds_toArray, List.set_cons_zero, List.set_cons_succ]
            refine hold_no 16 hHC hH4 (by simp only [List.getElem?_toArray, List.getElem?_cons_succ, List.getElem?_cons_zero]; rfl) rfl (by kernel_rfl) (by kernel_rfl) ?_
            try simp only [Act.put, List.setIfInBounds_toArray, List.set_cons_zero, List.set_cons_succ]
            refine hold_yes 17 (v := ?_) hHC hH4 (by simp only [List.getElem?_toArray, List.getElem?_cons_succ, List.getElem?_cons_zero]; rfl) rfl (by kernel_rfl) (by kernel_rfl) ?_ ?_
            rotate_left 1
            · (intro w hSw; (try dsimp only at hSw); go_simp; try with_reducible rfl)
            try simp only [Act.put, List.setIfInBounds_toArray, List.set_cons_zero, List.set_cons_succ]
            refine hold_yes 18 (v := ?_) hHC hH4 (by simp only [List.getElem?_toArray, List.getElem?_cons_succ, List.getElem?_cons_zero]; rfl) rfl (by kernel_rfl) (by kernel_rfl) ?_ ?_
            rotate_left 1
            · (intro w hSw; (try dsimp only at hSw); go_simp; try with_reducible rfl)
            try simp only [Act.put, List.setIfInBounds_toArray, List.set_cons_zero, List.set_cons_succ]
            refine hold_no 19 hHC hH4 (by simp only [List.getElem?_toArray, List.getElem?_cons_succ, List.getElem?_cons_zero]; rfl) rfl (by kernel_rfl) (by kernel_rfl) ?_
            try simp only [Act.put, List.setIfInBounds_toArray, List.set_cons_zero, List.set_cons_succ]
            refine hold_no 20 hHC hH4 (by simp only [List.getElem?_toArray, List.getElem?_cons_succ, List.getElem?_cons_zero]; rfl) rfl (by kernel_rfl) (by kernel_rfl) ?_
            try simp only [Act.put, List.setIfInBounds_toArray, List.set_cons_zero, List.set_cons_succ]
            refine hold_yes 21 (v := ?_) hHC hH4 (by simp only [List.getElem?_toArray, List.getElem?_cons_succ, List.getElem?_cons_zero]; rfl) rfl (by kernel_rfl) (by kernel_rfl) ?_ ?_
            rotate_left 1
            · (intro w hSw; (try dsimp only at hSw); go_simp; try with_reducible rfl)
            try simp only [Act.put, List.setIfInBounds_toArray, List.set_cons_zero, List.set_cons_succ]
            refine hold_yes 22 (v := ?_) hHC hH4 (by simp only [List.getElem?_toArray, List.getElem?_cons_succ, List.getElem?_cons_zero]; rfl) rfl (by kernel_rfl) (by kernel_rfl) ?_ ?_
            rotate_left 1
            · (intro w hSw; (try dsimp only at hSw); go_simp; try with_reducible rfl)
            try simp only [Act.put, List.setIfInBounds_toArray, List.set_cons_zero, List.set_cons_succ]
            refine hold_plain 23 (v := ?_) hHC hH4 (by simp only [List.getElem?_toArray, List.getElem?_cons_succ, List.getElem?_cons_zero]; rfl) rfl (by kernel_rfl) ?_ ?_
            rotate_left 1
            · (intro w hSw; (try dsimp only at hSw); go_simp; try with_reducible rfl)
            try simp only [Act.put, List.setIfInBounds_toArray, List.set_cons_zero, List.set_cons_succ]
            refine hold_plain 24 (v := ?_) hHC hH4 (by simp only [List.getElem?_toArray, List.getElem?_cons_succ, List.getElem?_cons_zero]; rfl) rfl (by kernel_rfl) ?_ ?_
            rotate_left 1
            · (intro w hSw; (try dsimp only at hSw); go_simp; try with_reducible rfl)
            try simp only [Act.put, List.setIfInBounds_toArray, List.set_cons_zero, List.set_cons_succ]
            refine hold_yes 25 (v := ?_) hHC hH4 (by simp only [List.getElem?_toArray, List.getElem?_cons_succ, List.getElem?_cons_zero]; rfl) rfl (by kernel_rfl) (by kernel_rfl) ?_ ?_
            rotate_left 1
            · (intro w hSw; (try dsimp only at hSw); go_simp; try with_reducible rfl)
            try simp only [Act.put, List.setIfInBounds_toArray, List.set_cons_zero, List.set_cons_succ]
            refine hold_yes 27 (v := ?_) hHC hH4 (by simp only [List.getElem?_toArray, List.getElem?_cons_succ, List.getElem?_cons_zero]; rfl) rfl (by kernel_rfl) (by kernel_rfl) ?_ ?_
            rotate_left 1
            · (intro w hSw; (try dsimp only at hSw); go_simp; try with_reducible rfl)
            try simp only [Act.put, List.setIfInBounds_toArray, List.set_cons_zero, List.set_cons_succ]
            refine hold_call1 26 (by simp only [List.getElem?_toArray, List.getElem?_cons_succ, List.getElem?_cons_zero]; rfl) rfl (by kernel_rfl) (by kernel_rfl) (fun K hK => ?_)
            go_simp
            (obtain ⟨_, _, hr1, hr2, _, _⟩ := id hH4; first | (go_at_call 14; refine (HPC1.out _ hr1).mono ?_; rintro e w1 ⟨rfl, hb1⟩) | (go_at_call 11; first | (with_reducible refine (HHO1.out _ hr1).mono ?_; rintro e w1 ⟨rfl, hb1⟩) | (with_reducible refine (HH9.out _ hr2).mono ?_; rintro e w1 ⟨rfl, hb1⟩)) | (go_at_call 23; refine (HSI.out _ hr1).mono ?_; rintro e w1 ⟨rfl, hb1⟩) | (go_at_call 32; refine (HBA.out _ hr1).mono ?_; rintro e w1 ⟨rfl, hb1⟩) | (go_at_call 33; refine (HEX.out _ hr1).mono ?_; rintro e w1 ⟨rfl, hb1⟩))
            refine hK.out _ _ ?_ (fun hH5 => ?_)
            · (first | (go_keep; done) | ((try go_split_ands); (repeat' apply And.intro) <;> first | assumption | (with_reducible refine Rd.below ?_ hb1; assumption) | (with_reducible refine Rd.drew ?_; repeat' (first | assumption | (with_reducible refine Rd.alloc ?_ _))) | (refine (hb1.cell (by first | omega | (simp; done) | (simp; omega))).trans ?_; first | assumption | simp) | (exact below_step hb1 (by first | omega | (simp; done) | (simp; omega)) (by assumption)) | (have hz' := hb1.size; (try simp at hz'); omega) | ((repeat' (first | assumption | (with_reducible exact Below.refl _ _) | (with_reducible refine Below.drew ?_) | (with_reducible refine Below.alloc ?_ ?_ _) | (with_reducible refine Below.setCell ?_ ?_ _) | omega | (simp; done) | (simp; omega))); done) | go_simp | (simp; done) | (simp; omega)))
            clear hK K hH4
            try simp only [Act.put, List.setIfInBounds_toArray, List.set_cons_zero, List.set_cons_succ]
            refine hold_call1 28 (by simp only [List.getElem?_toArray, List.getElem?_cons_succ, List.getElem?_cons_zero]; rfl) rfl (by kernel_rfl) (by kernel_rfl) (fun K hK => ?_)
            go_simp
            (obtain ⟨_, _, hr1, hr2, _, _⟩ := id hH5; first | (go_at_call 14; refine (HPC1.out _ hr1).mono ?_; rintro e w1 ⟨rfl, hb1⟩) | (go_at_call 11; first | (with_reducible refine (HHO1.out _ hr1).mono ?_; rintro e w1 ⟨rfl, hb1⟩) | (with_reducible refine (HH9.out _ hr2).mono ?_; rintro e w1 ⟨rfl, hb1⟩)) | (go_at_call 23; refine (HSI.out _ hr1).mono ?_; rintro e w1 ⟨rfl, hb1⟩) | (go_at_call 32; refine (HBA.out _ hr1).mono ?_; rintro e w1 ⟨rfl, hb1⟩) | (go_at_call 33; refine (HEX.out _ hr1).mono ?_; rintro e w1 ⟨rfl, hb1⟩))
            refine hK.out _ _ ?_ (fun hH6 => ?_)
            · (first | (go_keep; done) | ((try go_split_ands); (repeat' apply And.intro) <;> first | assumption | (with_reducible refine Rd.below ?_ hb1; assumption) | (with_reducible refine Rd.drew ?_; repeat' (first | assumption | (with_reducible refine Rd.alloc ?_ _))) | (refine (hb1.cell (by first | omega | (simp; done) | (simp; omega))).trans ?_; first | assumption | simp) | (exact below_step hb1 (by first | omega | (simp; done) | (simp; omega)) (by assumption)) | (have hz' := hb1.size; (try simp at hz'); omega) | ((repeat' (first | assumption | (with_reducible exact Below.refl _ _) | (with_reducible refine Below.drew ?_) | (with_reducible refine Below.alloc ?_ ?_ _) | (with_reducible refine Below.setCell ?_ ?_ _) | omega | (simp; done) | (simp; omega))); done) | go_simp | (simp; done) | (simp; omega)))
            clear hK K hH5
            try simp only [Act.put, List.setIfInBounds_toArray, List.set_cons_zero, List.set_cons_succ]
            refine hold_yes 29 (v := ?_) hHC hH6 (by simp only [List.getElem?_toArray, List.getElem?_cons_succ, List.getElem?_cons_zero]; rfl) rfl (by kernel_rfl) (by kernel_rfl) ?_ ?_
            rotate_left 1
            · (intro w hSw; (try dsimp only at hSw); go_simp; try with_reducible rfl)
            try simp only [Act.put, List.setIfInBounds_toArray, List.set_cons_zero, List.set_cons_succ]
            refine hold_yes 30 (v := ?_) hHC hH6 (by simp only [List.getElem?_toArray, List.getElem?_cons_succ, List.getElem?_cons_zero]; rfl) rfl (by kernel_rfl) (by kernel_rfl) ?_ ?_
            rotate_left 1
            · (intro w hSw; (try dsimp only at hSw); go_simp; try with_reducible rfl)
            try simp only [Act.put, List.setIfInBounds_toArray, List.set_cons_zero, List.set_cons_succ]
            refine hold_plain 31 (v := ?_) hHC hH6 (by simp only [List.getElem?_toArray, List.getElem?_cons_succ, List.getElem?_cons_zero]; rfl) rfl (by kernel_rfl) ?_ ?_
            rotate_left 1
            · (intro w hSw; (try dsimp only at hSw); go_simp; try with_reducible rfl)
            try simp only [Act.put, List.setIfInBounds_toArray, List.set_cons_zero, List.set_cons_succ]
            refine hold_plain 32 (v := ?_) hHC hH6 (by simp only [List.getElem?_toArray, List.getElem?_cons_succ, List.getElem?_cons_zero]; rfl) rfl (by kernel_rfl) ?_ ?_
            rotate_left 1
            · (intro w hSw; (try dsimp only at hSw); go_simp; try with_reducible rfl)
            try simp only [Act.put, List.setIfInBounds_toArray, List.set_cons_zero, List.set_cons_succ]
            refine hold_yes 33 (v := ?_) hHC hH6 (by simp only [List.getElem?_toArray, List.getElem?_cons_succ, List.getElem?_cons_zero]; rfl) rfl (by kernel_rfl) (by kernel_rfl) ?_ ?_
            rotate_left 1
            · (intro w hSw; (try dsimp only at hSw); go_simp; try with_reducible rfl)
            try simp only [Act.put, List.setIfInBounds_toArray, List.set_cons_zero, List.set_cons_succ]
            refine hold_call1 34 (by simp only [List.getElem?_toArray, List.getElem?_cons_succ, List.getElem?_cons_zero]; rfl) rfl (by kernel_rfl) (by kernel_rfl) (fun K hK => ?_)
            go_simp
            (obtain ⟨_, _, hr1, hr2, _, _⟩ := id hH6; first | (go_at_call 14; refine (HPC1.out _ hr1).mono ?_; rintro e w1 ⟨rfl, hb1⟩) | (go_at_call 11; first | (with_reducible refine (HHO1.out _ hr1).mono ?_; rintro e w1 ⟨rfl, hb1⟩) | (with_reducible refine (HH9.out _ hr2).mono ?_; rintro e w1 ⟨rfl, hb1⟩)) | (go_at_call 23; refine (HSI.out _ hr1).mono ?_; rintro e w1 ⟨rfl, hb1⟩) | (go_at_call 32; refine (HBA.out _ hr1).mono ?_; rintro e w1 ⟨rfl, hb1⟩) | (go_at_call 33; refine (HEX.out _ hr1).mono ?_; rintro e w1 ⟨rfl, hb1⟩))
            refine hK.out _ _ ?_ (fun hH7 => ?_)
            · (first | (go_keep; done) | ((try go_split_ands); (repeat' apply And.intro) <;> first | assumption | (with_reducible refine Rd.below ?_ hb1; assumption) | (with_reducible refine Rd.drew ?_; repeat' (first | assumption | (with_reducible refine Rd.alloc ?_ _))) | (refine (hb1.cell (by first | omega | (simp; done) | (simp; omega))).trans ?_; first | assumption | simp) | (exact below_step hb1 (by first | omega | (simp; done) | (simp; omega)) (by assumption)) | (have hz' := hb1.size; (try simp at hz'); omega) | ((repeat' (first | assumption | (with_reducible exact Below.refl _ _) | (with_reducible refine Below.drew ?_) | (with_reducible refine Below.alloc ?_ ?_ _) | (with_reducible refine Below.setCell ?_ ?_ _) | omega | (simp; done) | (simp; omega))); done) | go_simp | (simp; done) | (simp; omega)))
            clear hK K hH6
            try simp only [Act.put, List.setIfInBounds_toArray, List.set_cons_zero, List.set_cons_succ]
            refine hold_yes 35 (v := ?_) hHC hH7 (by simp only [List.getElem?_toArray, List.getElem?_cons_succ, List.getElem?_cons_zero]; rfl) rfl (by kernel_rfl) (by kernel_rfl) ?_ ?_
            rotate_left 1
            · (intro w hSw; (try dsimp only at hSw); go_simp; try with_reducible rfl)
            try simp only [Act.put, List.setIfInBounds_toArray, List.set_cons_zero, List.set_cons_succ]
            refine hold_plain 36 (v := ?_) hHC hH7 (by simp only [List.getElem?_toArray, List.getElem?_cons_succ, List.getElem?_cons_zero]; rfl) rfl (by kernel_rfl) ?_ ?_
            rotate_left 1
            · (intro w hSw; (try dsimp only at hSw); go_simp; try with_reducible rfl)
            try simp only [Act.put, List.setIfInBounds_toArray, List.set_cons_zero, List.set_cons_succ]
            refine hold_plain 37 (v := ?_) hHC hH7 (by simp only [List.getElem?_toArray, List.getElem?_cons_succ, List.getElem?_cons_zero]; rfl) rfl (by kernel_rfl) ?_ ?_
            rotate_left 1
            · (intro w hSw; (try dsimp only at hSw); go_simp; try with_reducible rfl)
            try simp only [Act.put, List.setIfInBounds_toArray, List.set_cons_zero, List.set_cons_succ]
            refine wpAnyH_done (by kernel_rfl) ?_ _
            (try dsimp only at hH7)
            go_split_ands
            clear hHC
            go_wp2_with fail
            go_ret
            exact ⟨rfl, by assumption⟩
    · have hsim : simB zs = false := sim_no hok
      have HO := Lib.hid (fun (W : World) (h : RdI W ad zs) => rok_valP (d := d) HZ.out hm9 hok h)
      rw [hsim] at HSI
      have HRC := Lib.hid (fun (W : World) (x y : Int) (hx : x = ((1 : Nat) : Int)) (hy : y = ((1 : Nat) : Int)) => rectI_at 1 1 W x y hx hy (by omega) (by omega) (by omega) (by omega))
      clear hok hsim
      go_wp2_with (go_at_call 26; fail)
      refine (HO.out _ (Rd.alloc HR2.out _)).mono ?_
      rintro e w3 ⟨rfl, hb3⟩
      have hbox3 : w3.cell? ⟨w2.heap.size, 0, none⟩ = some (.slice ad m d) := (hb3.cell (p := ⟨w2.heap.size, 0, none⟩) (by first | omega | (simp; done) | (simp; omega))).trans (by go_simp)
      have hlt3 : w2.heap.size < w3.heap.size := Nat.lt_of_lt_of_le (by simp) hb3.size
      have HR3 := Lib.hid (Rd.below (Rd.alloc HR2.out _) hb3)
      have HB3 : Below w.heap.size w w3 := below_step hb3 (by first | omega | (simp; done) | (simp; omega)) (by repeat' (first | assumption | (with_reducible exact Below.refl _ _) | (with_reducible refine Below.drew ?_) | (with_reducible refine Below.alloc ?_ ?_ _) | (with_reducible refine Below.setCell ?_ ?_ _) | omega | (simp; done) | (simp; omega)))
      clear hb3 HO HR2 hB2 hs2
      go_wp2_with (go_at_call 23; fail)
      refine (HSI.out _ HR3.out).mono ?_
      rintro e w4 ⟨rfl, hb4⟩
      have HB4 : Below w.heap.size w w4 := HB3.trans (hb4.mono HB3.size)
      clear hb4 hbox3 hlt3
      go_wp2_with (go_at_call 27; fail)
      refine (HRC.out _ _ _ (by omega) (by omega)).mono ?_
      rintro e w5 ⟨b8, c8, rfl, hb8, hr8, hbb⟩
      have HB5 : Below w.heap.size w w5 := HB4.trans (hbb.mono HB4.size)
      rw [show List.replicate 1 ((2 : Int) ^ 1 - 1) = [1] by decide] at hr8
      have HR5 : Hid (RdI w5 (some ⟨b8, 0, none⟩) [1]) := Lib.hid (.inr ⟨b8, 0, rfl, hb8, hr8⟩)
      have HPC5 := Lib.hid (fun (W : World) (h : RdI W (some ⟨b8, 0, none⟩) [1]) => pcs_one b8 c8 W h)
      clear hbb hr8 hb8 HPC
      go_wp2_with (go_at_call 14; fail)
      refine (HPC5.out _ HR5.out).mono ?_
      rintro e w6 ⟨rfl, hb6⟩
      have HB6 : Below w.heap.size w w6 := HB5.trans (hb6.mono HB5.size)
      clear hb6
      go_wp2_with fail
      go_ret
      exact ⟨rfl, HB6⟩
end Go.Proofs.Ytghakmhglneckaa.fnPieces
