/-
  The fields of fields that are joined by spaces: plain lists.
-/
import Derived.Test.YtlbmmdkmelcedaaDoorSplP
import Derived.Test.YtlbmmdkmelcedaaDoorDec
namespace Go.Proofs.YtlbmmdkmelcedaaDoor
set_option linter.unusedVariables false
set_option linter.unusedSimpArgs false

def spl : List UInt8 → List UInt8 → List (List UInt8)
  | [], cur => if cur = [] then [] else [cur]
  | c :: r, cur => if c = 32 then (if cur = [] then spl r [] else cur :: spl r []) else spl r (cur ++ [c])
theorem spl_in : ∀ (l cur : List UInt8), (∀ c ∈ cur, c ≠ 32) → ∀ w ∈ spl l cur, w ≠ [] ∧ (∀ c ∈ w, c ≠ 32 ∧ (c ∈ cur ∨ c ∈ l)) ∧ w.length ≤ cur.length + l.length := by
  intro l
  induction l with
  | nil =>
    intro cur hc w hw
    unfold spl at hw
    split at hw
    · simp at hw
    · rename_i h
      simp at hw
      subst hw
      exact ⟨h, fun c h' => ⟨hc c h', .inl h'⟩, by simp⟩
  | cons c r ih =>
    intro cur hc w hw
    rw [spl] at hw
    split at hw
    · split at hw
      · obtain ⟨h1, h2, h3⟩ := ih [] (by simp) w hw
        refine ⟨h1, fun d hd => ⟨(h2 d hd).1, .inr ?_⟩, by simp at h3 ⊢; omega⟩
        rcases (h2 d hd).2 with h | h
        · simp at h
        · simp [h]
      · rename_i hn
        rw [List.mem_cons] at hw
        rcases hw with hw | hw
        · subst hw
          exact ⟨hn, fun d hd => ⟨hc d hd, .inl hd⟩, by simp⟩
        · obtain ⟨h1, h2, h3⟩ := ih [] (by simp) w hw
          refine ⟨h1, fun d hd => ⟨(h2 d hd).1, .inr ?_⟩, by simp at h3 ⊢; omega⟩
          rcases (h2 d hd).2 with h | h
          · simp at h
          · simp [h]
    · rename_i hcn
      obtain ⟨h1, h2, h3⟩ := ih (cur ++ [c]) (by
        intro d hd
        rw [List.mem_append] at hd
        rcases hd with hd | hd
        · exact hc d hd
        · simp at hd; subst hd; exact hcn) w hw
      refine ⟨h1, fun d hd => ⟨(h2 d hd).1, ?_⟩, by simp at h3 ⊢; omega⟩
      rcases (h2 d hd).2 with h | h
      · rw [List.mem_append] at h
        rcases h with h | h
        · exact .inl h
        · simp at h; simp [h]
      · simp [h]
theorem spl_word (rest : List UInt8) : ∀ (t : List UInt8), (∀ c ∈ t, c ≠ 32) → ∀ cur, spl (t ++ 32 :: rest) cur = if cur ++ t = [] then spl rest [] else (cur ++ t) :: spl rest [] := by
  intro t
  induction t with
  | nil =>
    intro _ cur
    rw [List.nil_append, spl, if_pos rfl, List.append_nil]
  | cons c t ih =>
    intro h cur
    rw [List.cons_append, spl, if_neg (h c (by simp)), ih (fun d hd => h d (by simp [hd])) (cur ++ [c])]
    simp
def joinW (W : List (List UInt8)) : List UInt8 := W.flatMap fun t => t ++ [32]
theorem spl_join {W : List (List UInt8)} (h : ∀ t ∈ W, t ≠ [] ∧ ∀ c ∈ t, c ≠ 32) : spl (joinW W) [] = W := by
  induction W with
  | nil => simp [joinW, spl]
  | cons t W ih =>
    have e : joinW (t :: W) = t ++ 32 :: joinW W := by simp [joinW]
    obtain ⟨h1, h2⟩ := h t (by simp)
    rw [e, spl_word _ t h2 [], List.nil_append, if_neg h1, ih (fun u hu => h u (by simp [hu]))]
theorem ext_list (s : ByteArray) (b k : Nat) : (s.extract b k).data.toList = (s.data.toList.take k).drop b := by
  rw [ByteArray.data_extract, Array.toList_extract, List.drop_take]
theorem sizeL (s : ByteArray) : s.data.toList.length = s.size := rfl
theorem fldK_spl (s : ByteArray) : ∀ k, k ≤ s.size → ((fldK s k).1.map (·.data.toList)) ++ spl (s.data.toList.drop k) ((s.data.toList.take k).drop (fldK s k).2) = spl s.data.toList [] := by
  intro k
  induction k with
  | zero => intro _; simp [fldK]
  | succ k ih =>
    intro hk
    have hl : k < s.data.toList.length := by rw [sizeL]; omega
    have hih := ih (by omega)
    have hb := (fldK_inv s k).1
    obtain ⟨c, hc⟩ : ∃ c, c = s.data.toList[k] := ⟨_, rfl⟩
    have hd : s.data.toList.drop k = c :: s.data.toList.drop (k + 1) := by rw [hc]; exact List.drop_eq_getElem_cons hl
    have ht : s.data.toList.take (k + 1) = s.data.toList.take k ++ [c] := by rw [hc]; exact List.take_succ_eq_append_getElem hl
    have hch : chN s k = c.toNat := by
      unfold chN
      rw [List.getD_eq_getElem?_getD, List.getElem?_eq_getElem hl, ← hc]
      rfl
    have htl : (s.data.toList.take k).length = k := by rw [List.length_take]; omega
    rw [hd, spl] at hih
    by_cases h32 : chN s k = 32
    · have hc32 : c = 32 := by
        rw [hch] at h32
        exact UInt8.toNat_inj.1 h32
      rw [fldK_sep h32]
      rw [if_pos hc32] at hih
      have e0 : (s.data.toList.take (k + 1)).drop (k + 1) = [] := List.drop_eq_nil_of_le (by rw [List.length_take]; omega)
      by_cases hbk : (fldK s k).2 < k
      · simp only [hbk, if_true, List.map_append, List.map_cons, List.map_nil]
        rw [e0, ext_list]
        have hne : ¬ (s.data.toList.take k).drop (fldK s k).2 = [] := by
          intro h
          have := congrArg List.length h
          rw [List.length_drop, htl] at this
          simp at this
          omega
        rw [if_neg hne] at hih
        rw [← hih]
        simp
      · simp only [hbk, if_false]
        rw [e0]
        have he : (s.data.toList.take k).drop (fldK s k).2 = [] := List.drop_eq_nil_of_le (by rw [htl]; omega)
        rw [if_pos he] at hih
        exact hih
    · have hc32 : ¬ c = 32 := by
        intro h
        rw [hch, h] at h32
        exact h32 rfl
      rw [fldK_in h32]
      rw [if_neg hc32] at hih
      rw [ht, List.drop_append_of_le_length (by rw [htl]; exact hb)]
      exact hih
theorem fldE_spl (s : ByteArray) : (fldE s).map (·.data.toList) = spl s.data.toList [] := by
  have h := fldK_spl s s.size (Nat.le_refl _)
  have e1 : s.data.toList.drop s.size = [] := List.drop_eq_nil_of_le (by rw [sizeL]; exact Nat.le_refl _)
  have e2 : s.data.toList.take s.size = s.data.toList := List.take_of_length_le (by rw [sizeL]; exact Nat.le_refl _)
  rw [e1, e2, spl] at h
  have hb := (fldK_inv s s.size).1
  unfold fldE
  by_cases hbk : (fldK s s.size).2 < s.size
  · rw [if_pos hbk, List.map_append, List.map_cons, List.map_nil, ext_list, e2]
    have hne : ¬ s.data.toList.drop (fldK s s.size).2 = [] := by
      intro h'
      have := congrArg List.length h'
      rw [List.length_drop, sizeL] at this
      simp at this
      omega
    rw [if_neg hne] at h
    exact h
  · rw [if_neg hbk]
    have he : s.data.toList.drop (fldK s s.size).2 = [] := List.drop_eq_nil_of_le (by rw [sizeL]; omega)
    rw [if_pos he] at h
    simpa using h
def jnT (X : List ByteArray) : List UInt8 := joinW (X.map (·.data.toList))
theorem jnT_snoc (X : List ByteArray) (t : ByteArray) : strD (jnT X) ++ t ++ ⟨#[32]⟩ = strD (jnT (X ++ [t])) := by
  apply ByteArray.ext
  simp [jnT, joinW, strD]
theorem fld_facts {s : ByteArray} (h : fokB s = true) : (∀ t ∈ fldE s, t.size ≤ 600) ∧ plnB (strD (jnT (fldE s))) = true ∧ fldE (strD (jnT (fldE s))) = fldE s := by
  have hmap := fldE_spl s
  simp only [fokB, Bool.and_eq_true, decide_eq_true_eq] at h
  obtain ⟨⟨h600, hp⟩, h24⟩ := h
  have hin := spl_in s.data.toList [] (by simp)
  have hall : ∀ c ∈ s.data.toList, 32 ≤ c.toNat ∧ c.toNat ≤ 126 := by
    intro c hc
    obtain ⟨i, hi, rfl⟩ := List.getElem_of_mem hc
    rw [sizeL] at hi
    have h1 := (List.all_eq_true.1 hp) i (List.mem_range.2 hi)
    simp only [Bool.and_eq_true, decide_eq_true_eq] at h1
    have h2 : chN s i = (s.data.toList[i]).toNat := by
      unfold chN
      rw [List.getD_eq_getElem?_getD, List.getElem?_eq_getElem (by rw [sizeL]; exact hi)]
      rfl
    rw [h2] at h1
    exact h1
  have hw : ∀ t ∈ fldE s, t.data.toList ≠ [] ∧ (∀ c ∈ t.data.toList, c ≠ 32 ∧ (32 ≤ c.toNat ∧ c.toNat ≤ 126)) ∧ t.data.toList.length ≤ 600 := by
    intro t ht
    have hm : t.data.toList ∈ spl s.data.toList [] := by rw [← hmap]; exact List.mem_map.2 ⟨t, ht, rfl⟩
    obtain ⟨w1, w2, w3⟩ := hin _ hm
    refine ⟨w1, fun c hc => ⟨(w2 c hc).1, ?_⟩, ?_⟩
    · rcases (w2 c hc).2 with h' | h'
      · simp at h'
      · exact hall c h'
    · rw [sizeL] at w3
      simp at w3
      rw [sizeL]
      omega
  refine ⟨fun t ht => (hw t ht).2.2, ?_, ?_⟩
  · unfold plnB
    rw [List.all_eq_true]
    intro i hi
    have hi2 := List.mem_range.1 hi
    have hl : i < (jnT (fldE s)).length := by rw [strD_size] at hi2; exact hi2
    have hc : chN (strD (jnT (fldE s))) i = ((jnT (fldE s))[i]).toNat := by
      unfold chN
      show ((jnT (fldE s)).getD i 0).toNat = _
      rw [List.getD_eq_getElem?_getD, List.getElem?_eq_getElem hl]
      rfl
    have hm := List.getElem_mem hl
    have : 32 ≤ ((jnT (fldE s))[i]).toNat ∧ ((jnT (fldE s))[i]).toNat ≤ 126 := by
      generalize (jnT (fldE s))[i] = c at hm
      unfold jnT joinW at hm
      rw [List.mem_flatMap] at hm
      obtain ⟨u, hu, hcu⟩ := hm
      rw [List.mem_map] at hu
      obtain ⟨t, ht, rfl⟩ := hu
      rw [List.mem_append] at hcu
      rcases hcu with hcu | hcu
      · exact ((hw t ht).2.1 c hcu).2
      · simp at hcu
        subst hcu
        decide
    rw [hc]
    simp
    exact this
  · have h1 := fldE_spl (strD (jnT (fldE s)))
    have h2 : spl (strD (jnT (fldE s))).data.toList [] = (fldE s).map (·.data.toList) := spl_join (by
      intro u hu
      rw [List.mem_map] at hu
      obtain ⟨t, ht, rfl⟩ := hu
      exact ⟨(hw t ht).1, fun c hc => ((hw t ht).2.1 c hc).1⟩)
    rw [h2] at h1
    have inj : ∀ {X Y : List ByteArray}, X.map (·.data.toList) = Y.map (·.data.toList) → X = Y := by
      intro X
      induction X with
      | nil => intro Y e; cases Y with
        | nil => rfl
        | cons y Y => simp at e
      | cons x X ih => intro Y e; cases Y with
        | nil => simp at e
        | cons y Y =>
          simp only [List.map_cons, List.cons.injEq] at e
          rw [ih e.2, ByteArray.ext (Array.toList_inj.1 e.1)]
    exact inj h1
theorem fok_again {s : ByteArray} (h : fokB s = true) (h6 : (strD (jnT (fldE s))).size ≤ 600) : fokB (strD (jnT (fldE s))) = true ∧ fldR (strD (jnT (fldE s))) = fldE s := by
  obtain ⟨f1, f2, f3⟩ := fld_facts h
  have h24 : (fldE s).length ≤ 24 := by
    simp only [fokB, Bool.and_eq_true, decide_eq_true_eq] at h
    exact h.2
  have : fokB (strD (jnT (fldE s))) = true := by
    unfold fokB
    rw [f2, f3]
    simp
    exact ⟨h6, h24⟩
  exact ⟨this, by rw [fldR_yes this, f3]⟩
end Go.Proofs.YtlbmmdkmelcedaaDoor
