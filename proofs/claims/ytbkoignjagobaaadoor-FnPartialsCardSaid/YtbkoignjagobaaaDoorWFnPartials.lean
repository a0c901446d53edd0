/-
  The walk of the law FnPartials.
-/
import Derived.Test.YtbkoignjagobaaaDoorDrawPar
import Derived.Test.YtbkoignjagobaaaDoorTilTI
import Derived.Test.YtbkoignjagobaaaDoorSortI
import Derived.Test.YtbkoignjagobaaaDoorUnc
import Derived.Test.YtbkoignjagobaaaDoorPartW
import Derived.Test.YtbkoignjagobaaaDoorCountB
import Derived.Deep.DeepCutAuto
namespace Go.Proofs.YtbkoignjagobaaaDoor.fnPartials
open Go.RowKit
set_option linter.unusedVariables false
set_option linter.unusedSimpArgs false

/-- What the law keeps on its way. -/
structure Kp (w W : World) (q b m d : Nat) (rs : List Int) (ao : Option Addr) (G : List DomI) (a1 : Option Addr) : Prop where
  box : W.cell? ⟨q, 0, none⟩ = some (.slice (some ⟨b, 0, none⟩) m d)
  lt : q < W.heap.size
  rd : RdI W (some ⟨b, 0, none⟩) rs
  ls : RdD W ao G
  so : RdD W a1 G
  be : Below w.heap.size w W
theorem Kp.below {w W W' : World} {q b m d : Nat} {rs : List Int} {ao : Option Addr} {G : List DomI} {a1 : Option Addr} (h : Kp w W q b m d rs ao G a1) (hb : Below W.heap.size W W') : Kp w W' q b m d rs ao G a1 :=
  ⟨(hb.cell (p := ⟨q, 0, none⟩) h.lt).trans h.box, Nat.lt_of_lt_of_le h.lt hb.size, Rd.below h.rd hb, Rd.below h.ls hb, Rd.below h.so hb, h.be.trans (hb.mono h.be.size)⟩
theorem rev_step {G B : List DomI} {i : Nat} {p : DomI} (h : G[i]? = some p) (hB : B = (G.drop (i + 1)).reverse) : B ++ [p] = (G.drop i).reverse := by
  obtain ⟨hl, rfl⟩ := List.getElem?_eq_some_iff.1 h
  rw [List.drop_eq_getElem_cons hl, List.reverse_cons, hB]
theorem ar_g {n : Nat} (h : n ≤ 64) : wrap64 (2 * (n : Int)) = 2 * (n : Int) := wrap_small64 (by omega) (by omega)
theorem ar_u {U n c : Nat} (hU : U ≤ 64) (h : n ≤ 64) (hs : U + 2 * n = c) : wrap64 ((U : Int) + 2 * (n : Int)) = (c : Int) := (wrap_small64 (by omega) (by omega)).trans (by omega)
theorem ar_s {U n c : Nat} (hs : U + 2 * n = c) : (U : Int) + 2 * (n : Int) = (c : Int) := by omega
theorem ar_l {n : Nat} (h : n ≤ 64) : wrap64 ((n : Int) - 1) = (n : Int) - 1 := wrap_small64 (by omega) (by omega)
theorem ar_d (U : Nat) : decide (U = 0) = ((U : Int) == 0) := by
  by_cases h : U = 0
  · subst h; rfl
  · rw [decide_eq_false h]; symm; rw [beq_eq_false_iff_ne]; omega
set_option maxHeartbeats 6400000 in
set_option maxRecDepth 100000 in
theorem walk (a0 : Option Addr) (len0 cap0 : Nat) (z0 : List Int) (w : World) (w0 : IsRow .u8 w a0 len0 cap0 z0) (hT : TabB w) :
    Calls Tryd.prog 3 #[.slice a0 len0 cap0] w fun e w' => e = .returned (.bool true) ∧ Below w.heap.size w w' := by
  obtain ⟨i0, hinf, hz0, hz1, hz2⟩ := info_parts domInfo
  have HB := Lib.hid (big_any a0 len0 cap0 w w0.max_)
  by_cases hbig : 1048576 < len0
  · clear w0 hT
    go_enter Tryd.func3, Tryd.ntmps3
    go_wp2_with (go_at_call 4; refine (HB.out).mono ?_; rintro e w1 ⟨rfl, hb⟩; simp only [hbig, decide_true])
    go_ret
    exact ⟨rfl, hb⟩
  · have HK := Lib.hid (w0.code hbig)
    clear w0 hT
    go_enter Tryd.func3, Tryd.ntmps3
    go_wp2_with (first | (go_at_call 4; refine (HB.out).mono ?_; rintro e w1 ⟨rfl, hb⟩; simp only [hbig, decide_false]) | (go_at_call 5; fail))
    refine (drawPar_any a0 len0 cap0 _ w1 (HK.out.below hb)).mono ?_
    rintro e w2 ⟨b, m, d, rs, o, d', G, rfl, hlen, hm5, hok, hacc, hG64, hrd, hds, hb2⟩
    obtain ⟨ao, hao⟩ : ∃ ao : Option Addr, ao = some ⟨o, 0, none⟩ := ⟨_, rfl⟩
    rw [← hao] at hds ⊢
    clear hao
    have hB2 : Below w.heap.size w w2 := below_step hb2 hb.size hb
    have hs2 := hB2.size
    have HOKD := Lib.hid (acc_okd hacc)
    have HACC := Lib.hid hacc
    have hself := srt_self (acc_okd hacc) (acc_srt hacc)
    have hrev := srt_rev (acc_okd hacc) (acc_srt hacc)
    have hsum := unc_sum hok hacc
    have htil := til_unc hok hacc
    have HSO := Lib.hid (fun (a' : Option Addr) (c' : Nat) (W : World) (h : RdD W a' G) => implSort_any a' G.length c' G W rfl (by omega) h)
    rw [hself] at HSO
    have HSB := Lib.hid (fun (a' : Option Addr) (c' : Nat) (W : World) (h : RdD W a' G.reverse) => implSort_any a' G.length c' G.reverse W List.length_reverse (by omega) h)
    rw [hrev] at HSB
    have HUN := Lib.hid (fun (W : World) (hr : RdI W (some ⟨b, 0, none⟩) rs) (hs : RdD W ao G) => implUnc_any (some ⟨b, 0, none⟩) m d rs ao G.length d' G W hlen (by omega) hr rfl (by omega) hs)
    have HCN := Lib.hid (fun (W : World) (hr : RdI W (some ⟨b, 0, none⟩) rs) => specCount_any (some ⟨b, 0, none⟩) m d rs W hlen (by omega) hr)
    have HPA := Lib.hid (fun (a' : Option Addr) (c' : Nat) (W : World) (hr : RdI W (some ⟨b, 0, none⟩) rs) (hs : RdD W a' G) => (by have g0 := implPart_any (some ⟨b, 0, none⟩) m d rs a' G.length c' G W hlen (by omega) hr rfl (by omega) hs; rw [partB_yes hok hacc] at g0; exact g0 : Calls Tryd.prog 10 #[.agg #[.slice (some ⟨b, 0, none⟩) m d], .slice a' G.length c'] W (fun e w' => e = .returned (.bool true) ∧ Below W.heap.size W w')))
    have HTI := Lib.hid (fun (W : World) (hr : RdI W (some ⟨b, 0, none⟩) rs) (hs : RdD W ao G) => implTil_any (some ⟨b, 0, none⟩) m d rs ao G.length d' G W hlen (by omega) hr rfl (by omega) hs)
    have HTT := Lib.hid (fun (a' : Option Addr) (c' : Nat) (W : World) (hs : RdD W a' G) => implTt_any a' G.length c' G W rfl (by omega) hs)
    have hU64 := uncL_len rs G
    rw [htil] at HTI
    obtain ⟨U, hU⟩ : ∃ U, U = (uncL rs G).length := ⟨_, rfl⟩
    rw [← hU] at HUN HTI hsum hU64
    obtain ⟨tx, htx⟩ : ∃ tx, tx = ttB G := ⟨_, rfl⟩
    rw [← htx] at HTT
    obtain ⟨C, hC⟩ : ∃ C : Int, C = ((coL rs).length : Int) := ⟨_, rfl⟩
    rw [← hC] at HCN
    have WG := Lib.hid (ar_g hG64)
    have WU : Hid ((U : Int) + 2 * (G.length : Int) = C) := Lib.hid (by rw [hC]; exact ar_s hsum)
    have wl := ar_l hG64
    have hdec := ar_d U
    rw [hdec] at HTI
    obtain ⟨bu, hbu⟩ : ∃ bu, ((U : Int) == 0) = bu := ⟨_, rfl⟩
    rw [hbu] at HTI
    clear hself hrev htil hU htx hC hsum hdec hok hacc hlen
    go_wp2_with (go_at_call 6; fail)
    refine (HSO.out _ _ _ (Rd.alloc hds _)).mono ?_
    rintro e w3 ⟨a1, c1, rfl, hO3, hb3⟩
    obtain ⟨q, hq⟩ : ∃ q, q = w2.heap.size := ⟨_, rfl⟩
    have K3 : Hid (Kp w w3 q b m d rs ao G a1) := Lib.hid (by
      have e3 : Below w2.heap.size w2 w3 := Below.trans (Below.alloc (Below.refl _ _) (Nat.le_refl _) _) (hb3.mono (by simp))
      rw [hq]
      exact ⟨(hb3.cell (p := ⟨w2.heap.size, 0, none⟩) (by simp)).trans (by simp), Nat.lt_of_lt_of_le (by simp) hb3.size, Rd.below (Rd.alloc hrd _) hb3, Rd.below (Rd.alloc hds _) hb3, OwnD.rd hO3 rfl, below_step e3 hs2 hB2⟩)
    rw [← hq]
    have x3 := K3.out.box
    clear hq hO3 hb3 hrd hds hB2 hs2 hb2 hb HB HK HSO
    go_wp2_with (go_at_call 7; fail)
    refine (HUN.out _ K3.out.rd K3.out.ls).mono ?_
    rintro e w4 ⟨a2, c2, rfl, -, hb4⟩
    have K4 := Lib.hid (K3.out.below hb4)
    clear hb4 K3 x3 HUN
    go_wp2_with fail
    clear wl
    obtain ⟨oz, hoz⟩ : ∃ oz, oz = w4.heap.size := ⟨_, rfl⟩
    have hsz4 : w4.heap.size ≤ (w4.alloc (.cells #[] 34)).heap.size := by simp
    have OB : Hid (OwnD (w4.alloc (.cells #[] 34)) w4.heap.size (.slice (some ⟨oz, 0, none⟩) 0 0) []) := Lib.hid (by rw [hoz]; exact OwnD.new w4 w4.heap.size (Nat.le_refl _) _ rfl)
    have BB : Below w4.heap.size w4 (w4.alloc (.cells #[] 34)) := Below.alloc (Below.refl _ _) (Nat.le_refl _) _
    rw [← hoz]
    obtain ⟨wB, hwB⟩ : ∃ wB, wB = w4.alloc (.cells #[] 34) := ⟨_, rfl⟩
    rw [← hwB] at OB BB ⊢
    clear hwB hoz hsz4
    go_loopw [7, 8] (fun v i wr => ∃ (k : Int) (j o3 c3 : Nat) (B : List DomI), k = (j : Int) - 1 ∧ j ≤ G.length ∧ i = .int .i64 k ∧ v = .slice (some ⟨o3, 0, none⟩) B.length c3 ∧ Hid (OwnD wr w4.heap.size (.slice (some ⟨o3, 0, none⟩) B.length c3) B) ∧ Hid (B = (G.drop j).reverse) ∧ Below w4.heap.size w4 wr) (fun _ i _ => (intOf i + 1).toNat)
    case atStart => exact ⟨(G.length : Int) - 1, G.length, oz, 0, [], rfl, Nat.le_refl _, rfl, rfl, OB, Lib.hid (by simp), BB⟩
    case round =>
      clear OB BB
      obtain ⟨k, j, o3, c3, B, hkj, hj, rfl, rfl, hO, hBr, hbr⟩ := hrel
      have hBl : B.length ≤ 64 := by rw [hBr.out, List.length_reverse, List.length_drop]; omega
      have hsr := hbr.size
      have KR := Lib.hid (K4.out.below hbr)
      by_cases hjp : 0 < j
      · obtain ⟨i, rfl⟩ : ∃ i, j = i + 1 := ⟨j - 1, by omega⟩
        obtain rfl : k = (i : Int) := by omega
        have hlt : i < G.length := by omega
        have hiI : (i : Int) < (G.length : Int) := by omega
        have hi0 : (0 : Int) ≤ (i : Int) := by omega
        have hi64 : i ≤ 64 := by omega
        have hwi := ar_l hi64
        obtain ⟨bk, off, x, y, dd, hal, hbl, hcx, hcy, hcd, hv⟩ := RdD_at KR.out.ls hlt
        subst hal
        have HBN := Lib.hid (rev_step hv.out hBr.out)
        clear KR hkj hv
        go_wp2_with (at_builtin; go_must (refine wpList_append_own_at _ rfl _ _ 27 rfl w4.heap.size 34 i0 (.agg #[.int .i64 0, .int .i64 0, .bool false]) 3 24 Tryd.underlying27 hinf hz0 hz1 hz2 rfl (by decide) (.slice (some ⟨o3, 0, none⟩) B.length c3) B.length (flatD B) (by rfl) (OwnD.alloc hO.out _) ⟨wr.heap.size, 0, none⟩ 1 1 [.int .i64 x, .int .i64 y, .bool dd] (by rfl) rfl (dom_three_new _ _ _ _ _) (by intro u hu; simp at hu; rcases hu with rfl | rfl | rfl <;> rfl) (by unfold maxLen; omega) (by omega) (by simp; omega) ?_); intro v3 w9 hown hgrow hnil hat)
        obtain ⟨g3, c9, rfl, hg3, hg3', hc3⟩ := own_some hown (fun h => by have := (hnil.1 h).1; cases this)
        have hB9 : Below w4.heap.size w4 w9 := (hbr.alloc (by omega) _).trans (grown_below (World.ownsRow.alloc hO.out _) hgrow (by simp; omega))
        have HO9 : Hid (OwnD w9 w4.heap.size (.slice (some ⟨g3, 0, none⟩) (B ++ [(x, y, dd)]).length c9) (B ++ [(x, y, dd)])) := Lib.hid (by rw [List.length_append]; exact OwnD.snoc hown)
        clear hown hgrow hnil hat hO hbr hcx hcy hcd hbl
        go_simp
        go_wp2_with fail
        go_roundw
        case rel => exact ⟨(i : Int) - 1, i, rfl, by omega, rfl, g3, c9, B ++ [(x, y, dd)], ⟨rfl, by rw [List.length_append]; rfl, rfl⟩, HO9, HBN⟩
        case measure => simp [intOf]; omega
      · obtain rfl : j = 0 := by omega
        obtain rfl : k = -1 := by omega
        have hBrev : B = G.reverse := by rw [hBr.out, List.drop_zero]
        have B20 : Hid (RdD wr (some ⟨o3, 0, none⟩) G.reverse) := Lib.hid (by rw [← hBrev]; exact OwnD.rd hO.out rfl)
        have hBlen : B.length = G.length := by rw [hBrev, List.length_reverse]
        rw [hBlen]
        clear hBlen hBrev hO hBr hkj hj hBl hjp
        obtain ⟨wz, rfl⟩ : ∃ wz, wz = wr := ⟨_, rfl⟩
        go_wp2_with fail
        go_loopw [9] (fun i ws => ∃ k : Nat, k ≤ G.length ∧ i = .int .i64 (k : Int) ∧ Below wz.heap.size wz ws) (fun i _ => G.length - (intOf i).toNat)
        case atStart => exact ⟨0, Nat.zero_le _, rfl, Below.refl _ _⟩
        case round =>
          obtain ⟨k, hk, rfl, hbs⟩ := hrel
          have KS := Lib.hid (KR.out.below hbs)
          have hss := hbs.size
          by_cases hlt : k < G.length
          · have hkI : (k : Int) < (G.length : Int) := by omega
            obtain ⟨bk, off, x, y, dd, hal, hbl, hcx, hcy, hcd, hv⟩ := RdD_at KS.out.ls hlt
            subst hal
            have hdd := HOKD.out _ (List.mem_of_getElem? hv.out)
            obtain ⟨ds1, ds2⟩ := dat_self HACC.out hv.out
            have HCU := Lib.hid (fun W : World => (by have g0 := specUnd_any x y dd W; rw [(und_yes hdd).1, (und_yes hdd).2.1, (und_yes hdd).2.2.1, (und_yes hdd).2.2.2] at g0; exact g0 : Calls Tryd.prog 8 #[.agg #[.int .i64 x, .int .i64 y, .bool dd]] W (fun e w' => e = .returned (.tuple #[.agg #[.int .i64 x, .int .i64 y], .agg #[.int .i64 (secX x dd), .int .i64 (secY y dd)]]) ∧ Below W.heap.size W w')))
            have HD1 := Lib.hid (fun (W : World) (h : RdD W (some ⟨bk, off, none⟩) G) => (by have g0 := implDat_any (some ⟨bk, off, none⟩) G.length d' G x y W rfl (by omega) h; rw [ds1] at g0; exact g0 : Calls Tryd.prog 9 #[.slice (some ⟨bk, off, none⟩) G.length d', .agg #[.int .i64 x, .int .i64 y]] W (fun e w' => e = .returned (.int .i64 (k : Int)) ∧ Below W.heap.size W w')))
            have HD2 := Lib.hid (fun (W : World) (h : RdD W (some ⟨bk, off, none⟩) G) => (by have g0 := implDat_any (some ⟨bk, off, none⟩) G.length d' G (secX x dd) (secY y dd) W rfl (by omega) h; rw [ds2] at g0; exact g0 : Calls Tryd.prog 9 #[.slice (some ⟨bk, off, none⟩) G.length d', .agg #[.int .i64 (secX x dd), .int .i64 (secY y dd)]] W (fun e w' => e = .returned (.int .i64 (k : Int)) ∧ Below W.heap.size W w')))
            clear ds1 ds2 hdd hv
            go_wp2_with (go_at_call 8; fail)
            refine (HCU.out _).mono ?_
            rintro e w6 ⟨rfl, hb6⟩
            have b6 : Below wz.heap.size wz w6 := below_step hb6 hss hbs
            have K6 := Lib.hid (KS.out.below hb6)
            have hs6 := b6.size
            clear hb6 hbs KS hcx hcy hcd hbl HCU
            have e7 : Below w6.heap.size w6 ((w6.alloc (.cells #[.int .i64 x, .int .i64 y] 36)).alloc (.cells #[.int .i64 (secX x dd), .int .i64 (secY y dd)] 36)) := Below.alloc (Below.alloc (Below.refl _ _) (Nat.le_refl _) _) (by simp) _
            have K7 := Lib.hid (K6.out.below e7)
            have b7 : Below wz.heap.size wz ((w6.alloc (.cells #[.int .i64 x, .int .i64 y] 36)).alloc (.cells #[.int .i64 (secX x dd), .int .i64 (secY y dd)] 36)) := below_step e7 hs6 b6
            have q0 : ((w6.alloc (.cells #[.int .i64 x, .int .i64 y] 36)).alloc (.cells #[.int .i64 (secX x dd), .int .i64 (secY y dd)] 36)).cell? ⟨w6.heap.size + 1, 0, none⟩ = some (.int .i64 (secX x dd)) := by simp
            have q1 : ((w6.alloc (.cells #[.int .i64 x, .int .i64 y] 36)).alloc (.cells #[.int .i64 (secX x dd), .int .i64 (secY y dd)] 36)).cell? ⟨w6.heap.size + 1, 1, none⟩ = some (.int .i64 (secY y dd)) := by simp
            have ql : w6.heap.size + 1 < ((w6.alloc (.cells #[.int .i64 x, .int .i64 y] 36)).alloc (.cells #[.int .i64 (secX x dd), .int .i64 (secY y dd)] 36)).heap.size := by simp
            have hs7 := b7.size
            clear e7
            go_wp2_with (go_at_call 9; fail)
            refine (HD1.out _ K7.out.ls).mono ?_
            rintro e w8 ⟨rfl, hb8⟩
            have b8 : Below wz.heap.size wz w8 := below_step hb8 hs7 b7
            have K8 := Lib.hid (K7.out.below hb8)
            have q08 := (hb8.cell (p := ⟨w6.heap.size + 1, 0, none⟩) ql).trans q0
            have q18 := (hb8.cell (p := ⟨w6.heap.size + 1, 1, none⟩) ql).trans q1
            have hs8 := b8.size
            clear hb8 q0 q1 ql K7 b7 hs7
            go_wp2_with (go_at_call 9; fail)
            refine (HD2.out _ K8.out.ls).mono ?_
            rintro e w9 ⟨rfl, hb9⟩
            have b9 : Below wz.heap.size wz w9 := below_step hb9 hs8 b8
            clear hb9 q08 q18 K8 b8
            go_wp2_with fail
            go_roundw
            case rel => exact ⟨k + 1, by omega, by go_num, b9⟩
            case measure => simp [intOf]; omega
          · have hkI : ¬ (k : Int) < (G.length : Int) := by omega
            have B30 := Lib.hid (Rd.below B20.out hbs)
            have K30 := KS
            have x30 := K30.out.box
            clear KS KR B20 hbs hss hk
            clear hlt
            have wg := WG.out
            have wu := WU.out
            clear WG WU
            go_wp2_with (go_at_call 10; fail)
            refine (HPA.out _ _ _ K30.out.rd K30.out.ls).mono ?_
            rintro e w31 ⟨rfl, hb⟩
            have K31 := Lib.hid (K30.out.below hb)
            have B31 := Lib.hid (Rd.below B30.out hb)
            have x31 := K31.out.box
            clear hb K30 B30 x30
            go_wp2_with (go_at_call 10; fail)
            refine (HPA.out _ _ _ K31.out.rd K31.out.so).mono ?_
            rintro e w32 ⟨rfl, hb⟩
            have K32 := Lib.hid (K31.out.below hb)
            have B32 := Lib.hid (Rd.below B31.out hb)
            have x32 := K32.out.box
            clear hb K31 B31 x31
            go_wp2_with (go_at_call 11; fail)
            refine (HCN.out _ K32.out.rd).mono ?_
            rintro e w33 ⟨rfl, hb⟩
            have K33 := Lib.hid (K32.out.below hb)
            have B33 := Lib.hid (Rd.below B32.out hb)
            have x33 := K33.out.box
            clear hb K32 B32 x32
            go_wp2_with (go_at_call 12; fail)
            refine (HTI.out _ K33.out.rd K33.out.ls).mono ?_
            rintro e w34 ⟨rfl, hb⟩
            have K34 := Lib.hid (K33.out.below hb)
            have B34 := Lib.hid (Rd.below B33.out hb)
            have x34 := K34.out.box
            clear hb K33 B33 x33
            go_wp2_with (go_at_call 6; fail)
            refine (HSB.out _ _ _ B34.out).mono ?_
            rintro e w35 ⟨a5, c5, rfl, hO5, hb⟩
            have K35 := Lib.hid (K34.out.below hb)
            have B35 := Lib.hid (Rd.below B34.out hb)
            have R35 : Hid (RdD w35 a5 G) := Lib.hid (OwnD.rd hO5 rfl)
            clear hO5
            have x35 := K35.out.box
            clear hb K34 B34 x34
            go_wp2_with (go_at_call 13; fail)
            refine (HTT.out _ _ _ R35.out).mono ?_
            rintro e w36 ⟨rfl, hb⟩
            have K36 := Lib.hid (K35.out.below hb)
            have B36 := Lib.hid (Rd.below B35.out hb)
            have x36 := K36.out.box
            clear hb K35 B35 x35
            go_wp2_with (go_at_call 13; fail)
            refine (HTT.out _ _ _ K36.out.so).mono ?_
            rintro e w37 ⟨rfl, hb⟩
            have K37 := Lib.hid (K36.out.below hb)
            have B37 := Lib.hid (Rd.below B36.out hb)
            have x37 := K37.out.box
            clear hb K36 B36 x36
            go_wp2_with (go_at_call 13; fail)
            refine (HTT.out _ _ _ K37.out.so).mono ?_
            rintro e w38 ⟨rfl, hb⟩
            have K38 := Lib.hid (K37.out.below hb)
            have B38 := Lib.hid (Rd.below B37.out hb)
            have x38 := K38.out.box
            clear hb K37 B37 x37
            go_wp2_with (go_at_call 13; fail)
            refine (HTT.out _ _ _ K38.out.ls).mono ?_
            rintro e w39 ⟨rfl, hb⟩
            have K39 := Lib.hid (K38.out.below hb)
            have B39 := Lib.hid (Rd.below B38.out hb)
            have x39 := K39.out.box
            clear hb K38 B38 x38
            have BE := K39.out.be
            go_wp2_with fail
            go_ret
            exact ⟨rfl, BE⟩
end Go.Proofs.YtbkoignjagobaaaDoor.fnPartials
