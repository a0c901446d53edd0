/-
  One cell is one piece; a ring has one hole; a piece has the cell from which it was asked: plain.
-/
import Derived.Test.YtghakmhglneckaaEulC
import Derived.Test.YtghakmhglneckaaPcI
import Derived.Test.YtghakmhglneckaaPieceI
import Derived.Test.YtghakmhglneckaaWith
namespace Go.Proofs.Ytghakmhglneckaa
open Plain
set_option linter.unusedVariables false
set_option linter.unusedSimpArgs false

theorem one_pairs : pairs 64 (adj4 (Nat.testBit 1)) = [] := by decide +kernel
theorem one_piece : pcB [1] = 1 := by
  have h1 : setS [1] = 1 := by decide
  have h2 : rokB [1] = true := by decide
  unfold pcB
  rw [if_pos h2, h1]
  unfold pcN pieces
  rw [one_pairs]
  decide +kernel
def RING : List Int := [7, 5, 7, 0, 0, 0, 0, 0]
theorem ring_set : setS RING = 460039 := by decide
theorem ring_rok : rokB RING = true := by decide
theorem ring_adj : ∀ a : Fin 100, ∀ b : Fin 100, adj8 (Nat.testBit 460039) a.val b.val = true → (a.val == 22) = (b.val == 22) := by decide +kernel
theorem ring_par : ∀ v : Fin 100, free (Nat.testBit 460039) v.val = true → v.val ≠ 0 → v.val ≠ 22 → (List.range v.val).any (fun u => adj8 (Nat.testBit 460039) u v.val) = true := by decide +kernel
theorem ring_blanks : blanks (Nat.testBit 460039) = 2 := by
  have hK : ∀ v, (labs (es8 460039) v == 22) = (v == 22) := labs_const (fun v => v == 22) (es8 460039) (fun e he => by
    obtain ⟨h1, h2, h3⟩ := mem_pairs.1 he
    exact ring_adj ⟨e.1, h1⟩ ⟨e.2, h2⟩ h3)
  have h0 : ∀ v, v < 100 → free (Nat.testBit 460039) v = true → v ≠ 22 → labs (es8 460039) v = labs (es8 460039) 0 := by
    intro v
    induction v using Nat.strongRecOn with
    | _ v ih =>
      intro hv hf hn
      by_cases hz : v = 0
      · rw [hz]
      · obtain ⟨u, hu, ha⟩ := List.any_eq_true.1 (ring_par ⟨v, hv⟩ hf hz hn)
        rw [List.mem_range] at hu
        have hu22 : u ≠ 22 := by
          have hu9 : u < 100 := by have : u < v := hu; omega
          have this : (u == 22) = (v == 22) := ring_adj ⟨u, hu9⟩ ⟨v, hv⟩ ha
          intro e
          rw [e] at this
          have h3 : (v == 22) = true := this.symm
          exact hn (by simpa using h3)
        have hfu : free (Nat.testBit 460039) u = true := by
          unfold adj8 at ha
          simp only [Bool.and_eq_true] at ha
          exact ha.1.1
        have he : labs (es8 460039) u = labs (es8 460039) v := labs_edge (es8 460039) (u, v) (mem_pairs.2 ⟨by show u < 100; omega, hv, ha⟩)
        rw [← he]
        exact ih u hu (by omega) hfu hu22
  rw [← hcN_all 460039]
  unfold hcN
  have hc : ∀ v, v < 100 → (free (Nat.testBit 460039) v && isMin (es8 460039) v) = (v == 0 || v == 22) := by
    intro v hv
    by_cases hz : v = 0
    · subst hz
      have h1 : free (Nat.testBit 460039) 0 = true := by decide
      have h2 : isMin (es8 460039) 0 = true := isMin_iff.2 (fun u hu => absurd hu (by omega))
      rw [h1, h2]
      rfl
    · by_cases h22 : v = 22
      · subst h22
        have h1 : free (Nat.testBit 460039) 22 = true := by decide
        have h2 : isMin (es8 460039) 22 = true := isMin_iff.2 (fun u hu he => by
          have k1 := hK u
          rw [he, hK 22] at k1
          have : (u == 22) = true := k1.symm
          have : u = 22 := by simpa using this
          omega)
        rw [h1, h2]
        rfl
      · have e1 : (v == 0 || v == 22) = false := by simp [hz, h22]
        rw [e1]
        cases hf : free (Nat.testBit 460039) v with
        | false => rfl
        | true =>
          rw [Bool.true_and, Bool.eq_false_iff]
          intro hm
          exact isMin_iff.1 hm 0 (by omega) (h0 v hv hf h22).symm
  rw [cnt_congr hc]
  decide +kernel
theorem ring_holes : hlB RING = 1 := by
  unfold hlB
  rw [if_pos ring_rok, ring_set, ring_blanks]
  rfl
theorem ring_off : offL [7, 7, 7] 1 1 = RING := by decide
theorem piece_self {zs : List Int} {u v : Int} (h : rokB zs = true) (hb : hasB (setS zs) u v = true) : (pieceL zs u v).any (fun p => p == (u, v)) = true := by
  rw [List.any_eq_true]
  refine ⟨(u, v), ?_, by simp⟩
  unfold pieceL
  rw [if_pos (by rw [hcB_yes h]; exact hb)]
  have hb2 := hb
  unfold hasB at hb2
  rw [Bool.and_eq_true] at hb2
  obtain ⟨⟨x0, x7⟩, y0, y7⟩ := okB_iff.1 hb2.1
  have hc : cellOf (v * 8 + u).toNat = (u, v) := by
    unfold cellOf
    apply Prod.ext
    · show (((v * 8 + u).toNat % 8 : Nat) : Int) = u
      omega
    · show (((v * 8 + u).toNat / 8 : Nat) : Int) = v
      omega
  rw [List.mem_map]
  refine ⟨(v * 8 + u).toNat, ?_, hc⟩
  rw [List.mem_filter, List.mem_range]
  refine ⟨by omega, ?_⟩
  rw [hc]
  simp only [decide_eq_true_eq]
  exact bfs_start (setS zs) (u, v) 64
theorem take_bd (S : Nat) (p : Int × Int) : -1 ≤ takeI S p ∧ takeI S p ≤ 2 := by
  unfold takeI oneI
  cases hasB S (p.1 + 1) p.2 <;> cases hasB S p.1 (p.2 + 1) <;> cases hasB S (p.1 + 1) (p.2 + 1) <;> decide
theorem sum_step {S k : Nat} {L : List (Int × Int)} {p : Int × Int} (h : L[k]? = some p) : ((L.take (k + 1)).map (takeI S)).sum = ((L.take k).map (takeI S)).sum + takeI S p := by
  rw [take_one h, List.map_append, List.sum_append]
  simp
theorem any_step {S k : Nat} {L : List (Int × Int)} {p : Int × Int} (h : L[k]? = some p) : (L.take (k + 1)).any (seeB S) = ((L.take k).any (seeB S) || seeB S p) := by
  rw [take_one h, List.any_append]
  simp
theorem btoi_any (b : Bool) (w : World) : Calls Try.prog 30 #[.bool b] w fun e w' => e = .returned (.int .i64 (oneI b)) ∧ w = w' := by
  cases b
  · go_enter Try.func30, Try.ntmps30
    go_wp2
    go_ret
    exact ⟨rfl, rfl⟩
  · go_enter Try.func30, Try.ntmps30
    go_wp2
    go_ret
    exact ⟨rfl, rfl⟩
end Go.Proofs.Ytghakmhglneckaa
