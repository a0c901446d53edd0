/-
  Plain: cells minus pairs of neighbors plus squares of four is pieces minus holes (a planar graph and its dual, their components counted).
-/
import Derived.Test.YtghakmhglneckaaClass
namespace Go.Proofs.Ytghakmhglneckaa.Plain
set_option linter.unusedVariables false
set_option linter.unusedSimpArgs false

/-- The number of components: how many bear their own label. -/
def comps (n : Nat) (es : List (Nat × Nat)) : Nat := cnt n fun v => labs es v == v
theorem comps_nil (n : Nat) : comps n [] = n := by
  have h := cnt_not (n := n) (fun v => labs [] v == v)
  have h0 : cnt n (fun v => !(labs [] v == v)) = 0 := cnt_false (fun v _ => by simp [labs])
  unfold comps
  omega
theorem comps_cons_same (n : Nat) (es : List (Nat × Nat)) (e : Nat × Nat) (h : labs es e.1 = labs es e.2) : comps n (e :: es) = comps n es := by
  unfold comps
  refine cnt_congr fun v _ => ?_
  have : labs (e :: es) v = labs es v := by
    by_cases h2 : labs es v = labs es e.2
    · rw [labs_in h2, h2, h]
    · rw [labs_out h2]
  rw [this]
theorem comps_cons_join (n : Nat) (es : List (Nat × Nat)) (e : Nat × Nat) (hes : ∀ f ∈ es, f.1 < n) (h2 : e.2 < n) (h : labs es e.1 ≠ labs es e.2) : comps n es = comps n (e :: es) + 1 := by
  have hr : labs es e.2 < n := labs_lt es hes _ h2
  unfold comps
  rw [cnt_drop (a := labs es e.2) hr (by simp [labs_idem])]
  congr 1
  refine cnt_congr fun v _ => ?_
  by_cases hv : labs es v = labs es e.2
  · rw [labs_in hv]
    by_cases h3 : v = labs es e.2
    · have h4 : (v == labs es e.2) = true := by simpa using h3
      have h5 : ¬ labs es e.1 = v := by rw [h3]; exact h
      simp [h4, h5]
    · have h4 : ¬ labs es v = v := fun h5 => h3 (by rw [← hv, h5])
      have h6 : ¬ labs es e.1 = v := fun h5 => h4 (by rw [← h5, labs_idem])
      have h7 : (labs es v == v) = false := by simpa using h4
      have h8 : (labs es e.1 == v) = false := by simpa using h6
      rw [h7, h8]; rfl
  · rw [labs_out hv]
    have h3 : ¬ v = labs es e.2 := fun h3 => hv (by rw [h3, labs_idem])
    simp [h3]
/-- An edge with the edge that crosses it. -/
abbrev Cross := (Nat × Nat) × (Nat × Nat)
def form (K D : Nat → Bool) : List Cross → Bool
  | [] => false
  | e :: es => ((K e.1.1 ^^ K e.1.2) && (D e.2.1 ^^ D e.2.2)) ^^ form K D es
theorem form_addK (K K' D : Nat → Bool) (es : List Cross) : form (fun v => K v ^^ K' v) D es = (form K D es ^^ form K' D es) := by
  induction es with
  | nil => rfl
  | cons e es ih =>
    simp only [form, ih]
    cases K e.1.1 <;> cases K e.1.2 <;> cases K' e.1.1 <;> cases K' e.1.2 <;> cases D e.2.1 <;> cases D e.2.2 <;> cases form K D es <;> cases form K' D es <;> rfl
theorem form_addD (K D D' : Nat → Bool) (es : List Cross) : form K (fun v => D v ^^ D' v) es = (form K D es ^^ form K D' es) := by
  induction es with
  | nil => rfl
  | cons e es ih =>
    simp only [form, ih]
    cases K e.1.1 <;> cases K e.1.2 <;> cases D' e.2.1 <;> cases D' e.2.2 <;> cases D e.2.1 <;> cases D e.2.2 <;> cases form K D es <;> cases form K D' es <;> rfl
theorem form_append (K D : Nat → Bool) (a b : List Cross) : form K D (a ++ b) = (form K D a ^^ form K D b) := by
  induction a with
  | nil => simp [form]
  | cons e a ih => simp [form, ih]
theorem form_falseK (D : Nat → Bool) (es : List Cross) : form (fun _ => false) D es = false := by
  induction es with
  | nil => rfl
  | cons e es ih => simp [form, ih]
theorem form_falseD (K : Nat → Bool) (es : List Cross) : form K (fun _ => false) es = false := by
  induction es with
  | nil => rfl
  | cons e es ih => simp [form, ih]
theorem form_congr {K K' D D' : Nat → Bool} {n m : Nat} (es : List Cross) (hb : ∀ e ∈ es, e.1.1 < n ∧ e.1.2 < n ∧ e.2.1 < m ∧ e.2.2 < m) (hK : ∀ v, v < n → K v = K' v) (hD : ∀ v, v < m → D v = D' v) :
    form K D es = form K' D' es := by
  induction es with
  | nil => rfl
  | cons e es ih =>
    obtain ⟨h1, h2, h3, h4⟩ := hb e (List.mem_cons_self ..)
    simp only [form, hK _ h1, hK _ h2, hD _ h3, hD _ h4, ih (fun f hf => hb f (List.mem_cons_of_mem _ hf))]
/-- A set out of its single members. -/
theorem form_spanK (D : Nat → Bool) (es : List Cross) (n : Nat) (h : ∀ a, a < n → form (fun v => v == a) D es = false) (K : Nat → Bool) :
    form (fun v => decide (v < n) && K v) D es = false := by
  induction n with
  | zero => simpa using form_falseK D es
  | succ n ih =>
    have e : (fun v => decide (v < n + 1) && K v) = fun v => ((fun v => decide (v < n) && K v) v ^^ (fun v => v == n && K n) v) := by
      funext v
      by_cases h1 : v < n
      · have h0 : (v == n) = false := by simp; omega
        have h2 : v < n + 1 := by omega
        simp [h1, h0, h2]
      · by_cases h2 : v = n
        · subst h2; simp
        · have h3 : ¬ v < n + 1 := by omega
          have h0 : (v == n) = false := by simpa using h2
          simp [h1, h0, h3]
    rw [e, form_addK, ih (fun a ha => h a (by omega))]
    cases hk : K n
    · simpa using form_falseK D es
    · simpa using h n (by omega)
theorem form_spanD (K : Nat → Bool) (es : List Cross) (m : Nat) (h : ∀ a, a < m → form K (fun v => v == a) es = false) (D : Nat → Bool) :
    form K (fun v => decide (v < m) && D v) es = false := by
  induction m with
  | zero => simpa using form_falseD K es
  | succ n ih =>
    have e : (fun v => decide (v < n + 1) && D v) = fun v => ((fun v => decide (v < n) && D v) v ^^ (fun v => v == n && D n) v) := by
      funext v
      by_cases h1 : v < n
      · have h0 : (v == n) = false := by simp; omega
        have h2 : v < n + 1 := by omega
        simp [h1, h0, h2]
      · by_cases h2 : v = n
        · subst h2; simp
        · have h3 : ¬ v < n + 1 := by omega
          have h0 : (v == n) = false := by simpa using h2
          simp [h1, h0, h3]
    rw [e, form_addD, ih (fun a ha => h a (by omega))]
    cases hk : D n
    · simpa using form_falseD K es
    · simpa using h n (by omega)
def Even (n m : Nat) (es : List Cross) : Prop :=
  (∀ e ∈ es, e.1.1 < n ∧ e.1.2 < n ∧ e.2.1 < m ∧ e.2.2 < m) ∧ ∀ K D : Nat → Bool, form K D es = false
theorem even_of_basis {n m : Nat} {es : List Cross} (hb : ∀ e ∈ es, e.1.1 < n ∧ e.1.2 < n ∧ e.2.1 < m ∧ e.2.2 < m)
    (h : ∀ a, a < n → ∀ b, b < m → form (fun v => v == a) (fun v => v == b) es = false) : Even n m es := by
  refine ⟨hb, fun K D => ?_⟩
  have h1 : form (fun v => decide (v < n) && K v) (fun v => decide (v < m) && D v) es = false :=
    form_spanD _ es m (fun b hb' => form_spanK _ es n (fun a ha => h a ha b hb') K) D
  rw [form_congr (K' := K) (D' := D) es hb (fun v hv => by simp [hv]) (fun v hv => by simp [hv])] at h1
  exact h1
theorem form_perm {K D : Nat → Bool} {a b : List Cross} (h : a.Perm b) : form K D a = form K D b := by
  induction h with
  | nil => rfl
  | cons x _ ih => simp [form, ih]
  | swap x y l => simp only [form]; rw [← Bool.xor_assoc, ← Bool.xor_assoc, Bool.xor_comm (_ && _) (_ && _)]
  | trans _ _ h1 h2 => exact h1.trans h2
theorem Even.perm {n m : Nat} {a b : List Cross} (h : Even n m a) (hp : a.Perm b) : Even n m b :=
  ⟨fun e he => h.1 e (hp.mem_iff.2 he), fun K D => by rw [← form_perm hp]; exact h.2 K D⟩
def prim (es : List Cross) : List (Nat × Nat) := es.map (·.1)
def dual (es : List Cross) : List (Nat × Nat) := es.map (·.2)
/-- THE STEP: an edge that joins two components of A: its crossing edge closes a ring with the others that are out. -/
theorem ring_closes {n m : Nat} {A B : List Cross} {e : Cross} (h : Even n m (A ++ e :: B)) (hj : labs (prim A) e.1.1 ≠ labs (prim A) e.1.2) :
    labs (dual B) e.2.1 = labs (dual B) e.2.2 := by
  apply Classical.byContradiction
  intro hd
  have hf := h.2 (fun v => labs (prim A) v == labs (prim A) e.1.1) (fun r => labs (dual B) r == labs (dual B) e.2.1)
  rw [form_append] at hf
  simp only [form] at hf
  have hA : form (fun v => labs (prim A) v == labs (prim A) e.1.1) (fun r => labs (dual B) r == labs (dual B) e.2.1) A = false := by
    have : ∀ A' : List Cross, (∀ f ∈ A', f ∈ A) → form (fun v => labs (prim A) v == labs (prim A) e.1.1) (fun r => labs (dual B) r == labs (dual B) e.2.1) A' = false := by
      intro A'
      induction A' with
      | nil => intro _; rfl
      | cons f A' ih =>
        intro hm
        have h1 := labs_edge (prim A) f.1 (List.mem_map.2 ⟨f, hm f (List.mem_cons_self ..), rfl⟩)
        simp only [form, h1, ih (fun g hg => hm g (List.mem_cons_of_mem _ hg))]
        simp
    exact this A (fun f hf => hf)
  have hB : form (fun v => labs (prim A) v == labs (prim A) e.1.1) (fun r => labs (dual B) r == labs (dual B) e.2.1) B = false := by
    have : ∀ B' : List Cross, (∀ f ∈ B', f ∈ B) → form (fun v => labs (prim A) v == labs (prim A) e.1.1) (fun r => labs (dual B) r == labs (dual B) e.2.1) B' = false := by
      intro B'
      induction B' with
      | nil => intro _; rfl
      | cons f B' ih =>
        intro hm
        have h1 := labs_edge (dual B) f.2 (List.mem_map.2 ⟨f, hm f (List.mem_cons_self ..), rfl⟩)
        simp only [form, h1, ih (fun g hg => hm g (List.mem_cons_of_mem _ hg))]
        simp
    exact this B (fun f hf => hf)
  rw [hA, hB] at hf
  have e1 : (labs (prim A) e.1.2 == labs (prim A) e.1.1) = false := by simpa using fun h => hj h.symm
  have e2 : (labs (dual B) e.2.2 == labs (dual B) e.2.1) = false := by simpa using fun h => hd h.symm
  simp [e1, e2] at hf
/-- c + edges - d, kept from sinking. -/
theorem step_le {n m : Nat} {A B : List Cross} {e : Cross} (h : Even n m (A ++ e :: B)) :
    comps n (prim A) + comps m (dual B) ≤ comps n (prim (e :: A)) + 1 + comps m (dual (e :: B)) := by
  have hAn : ∀ f ∈ prim A, f.1 < n := by
    intro f hf
    obtain ⟨g, hg, rfl⟩ := List.mem_map.1 hf
    exact (h.1 g (List.mem_append_left _ hg)).1
  have hBm : ∀ f ∈ dual B, f.1 < m := by
    intro f hf
    obtain ⟨g, hg, rfl⟩ := List.mem_map.1 hf
    exact (h.1 g (List.mem_append_right _ (List.mem_cons_of_mem _ hg))).2.2.1
  obtain ⟨b1, b2, b3, b4⟩ := h.1 e (List.mem_append_right _ (List.mem_cons_self ..))
  show _ ≤ comps n (e.1 :: prim A) + 1 + comps m (e.2 :: dual B)
  by_cases hj : labs (prim A) e.1.1 = labs (prim A) e.1.2
  · rw [comps_cons_same n _ _ hj]
    by_cases hd : labs (dual B) e.2.1 = labs (dual B) e.2.2
    · rw [comps_cons_same m _ _ hd]; omega
    · rw [comps_cons_join m (dual B) e.2 hBm b4 hd]; omega
  · rw [comps_cons_same m _ _ (ring_closes h hj)]
    rw [comps_cons_join n (prim A) e.1 hAn b2 hj]; omega
theorem chain_le {n m : Nat} (A B C : List Cross) (h : Even n m (A ++ (B ++ C))) :
    comps n (prim A) + comps m (dual C) ≤ comps n (prim (B.reverse ++ A)) + B.length + comps m (dual (B ++ C)) := by
  induction B generalizing A with
  | nil => simp
  | cons e B ih =>
    have h1 : Even n m (A ++ e :: (B ++ C)) := by simpa using h
    have h2 : Even n m (e :: A ++ (B ++ C)) := h1.perm (by simp)
    have s1 := step_le h1
    have s2 := ih (e :: A) h2
    simp only [List.reverse_cons, List.append_assoc, List.cons_append, List.nil_append, List.length_cons] at s2 ⊢
    have e1 : dual (e :: (B ++ C)) = e.2 :: dual (B ++ C) := rfl
    omega
def outer : Nat := 49
def hEdge (y x : Nat) : Cross := ((8 * y + x, 8 * y + x + 1), (if y = 0 then 49 else 7 * (y - 1) + x, if y = 7 then 49 else 7 * y + x))
def vEdge (y x : Nat) : Cross := ((8 * y + x, 8 * y + x + 8), (if x = 0 then 49 else 7 * y + (x - 1), if x = 7 then 49 else 7 * y + x))
def gridEdges : List Cross := ((List.range 8).flatMap fun y => (List.range 7).map (hEdge y)) ++ ((List.range 7).flatMap fun y => (List.range 8).map (vEdge y))
theorem grid_length : gridEdges.length = 112 := by decide +kernel
theorem grid_bounds : ∀ e ∈ gridEdges, e.1.1 < 64 ∧ e.1.2 < 64 ∧ e.2.1 < 50 ∧ e.2.2 < 50 := by
  have h : (gridEdges.all fun e => decide (e.1.1 < 64 ∧ e.1.2 < 64 ∧ e.2.1 < 50 ∧ e.2.2 < 50)) = true := by decide +kernel
  intro e he
  simpa using List.all_eq_true.1 h e he
theorem form_filter (K D : Nat → Bool) (es : List Cross) : form K D (es.filter fun e => D e.2.1 ^^ D e.2.2) = form K D es := by
  induction es with
  | nil => rfl
  | cons e es ih =>
    by_cases h : (D e.2.1 ^^ D e.2.2) = true
    · rw [List.filter_cons, if_pos h]
      simp only [form, ih]
    · rw [List.filter_cons, if_neg h, ih]
      have h0 : (D e.2.1 ^^ D e.2.2) = false := by simpa using h
      simp only [form, h0, Bool.and_false, Bool.false_xor]
def evenAt (b : Nat) (es : List Cross) : Bool := (List.range 64).all fun a => !(form (fun v => v == a) (fun v => v == b) es)
theorem grid_basis : ((List.range 50).all fun b => evenAt b (gridEdges.filter fun e => (e.2.1 == b) ^^ (e.2.2 == b))) = true := by decide +kernel
theorem grid_even : Even 64 50 gridEdges :=
  even_of_basis grid_bounds fun a ha b hb => by
    have h1 := List.all_eq_true.1 grid_basis b (List.mem_range.2 hb)
    have h2 := List.all_eq_true.1 h1 a (List.mem_range.2 ha)
    have h3 : form (fun v => v == a) (fun v => v == b) gridEdges = form (fun v => v == a) (fun v => v == b) (gridEdges.filter fun e => (e.2.1 == b) ^^ (e.2.2 == b)) :=
      (form_filter (fun v => v == a) (fun v => v == b) gridEdges).symm
    rw [h3]
    simpa using h2
theorem comps_one {n root : Nat} (hr : root < n) (es : List (Nat × Nat)) (hb : ∀ e ∈ es, e.1 < n) (h : ∀ v, v < n → labs es v = labs es root) : comps n es = 1 := by
  refine cnt_one (a := labs es root) (labs_lt es hb root hr) (by simp [labs_idem]) fun v hv hp => ?_
  have h1 := h v hv
  have h2 : labs es v = v := by simpa using hp
  omega
theorem prim_all {es : List Cross} (hm : ∀ e, e ∈ gridEdges → e ∈ es) : ∀ v, v < 64 → labs (prim es) v = labs (prim es) 0 := by
  have hp : ((List.range 64).all fun v => v == 0 || gridEdges.any fun e => e.1.2 == v && decide (e.1.1 < v)) = true := by decide +kernel
  intro v
  induction v using Nat.strongRecOn with
  | _ v ih =>
    intro hv
    have h1 := List.all_eq_true.1 hp v (List.mem_range.2 hv)
    simp only [Bool.or_eq_true, List.any_eq_true, Bool.and_eq_true, beq_iff_eq, decide_eq_true_eq] at h1
    rcases h1 with rfl | ⟨e, he, h2, h3⟩
    · rfl
    · have h4 := labs_edge (prim es) e.1 (List.mem_map.2 ⟨e, hm e he, rfl⟩)
      rw [h2] at h4
      rw [← h4]
      exact ih e.1.1 h3 (by omega)
theorem dual_all {es : List Cross} (hm : ∀ e, e ∈ gridEdges → e ∈ es) : ∀ v, v < 50 → labs (dual es) v = labs (dual es) 49 := by
  have hp : ((List.range 50).all fun v => v == 49 || gridEdges.any fun e => e.2.1 == v && decide (v < e.2.2)) = true := by decide +kernel
  have hg : ∀ k v, v < 50 → 49 - v = k → labs (dual es) v = labs (dual es) 49 := by
    intro k
    induction k using Nat.strongRecOn with
    | _ k ih =>
      intro v hv hk
      have h1 := List.all_eq_true.1 hp v (List.mem_range.2 hv)
      simp only [Bool.or_eq_true, List.any_eq_true, Bool.and_eq_true, beq_iff_eq, decide_eq_true_eq] at h1
      rcases h1 with rfl | ⟨e, he, h2, h3⟩
      · rfl
      · have h4 := labs_edge (dual es) e.2 (List.mem_map.2 ⟨e, hm e he, rfl⟩)
        rw [h2] at h4
        rw [h4]
        have h5 := (grid_bounds e he).2.2.2
        exact ih (49 - e.2.2) (by omega) e.2.2 h5 rfl
  exact fun v hv => hg _ v hv rfl
theorem perm_parts (p : Cross → Bool) (es : List Cross) : es.Perm (es.filter p ++ es.filter fun e => !p e) := by
  induction es with
  | nil => exact List.Perm.refl _
  | cons e es ih =>
    by_cases h : p e = true
    · simpa [List.filter_cons, h] using ih.cons e
    · simp only [List.filter_cons, h]
      simp only [Bool.not_false, if_true, Bool.false_eq_true, if_false]
      exact (ih.cons e).trans List.perm_middle.symm
/-- Components plus edges of a part = 63 plus the components of the dual graph's rest. -/
theorem grid_euler (p : Cross → Bool) : comps 64 (prim (gridEdges.filter p)) + (gridEdges.filter p).length = 63 + comps 50 (dual (gridEdges.filter fun e => !p e)) := by
  have hperm := perm_parts p gridEdges
  have hlen : (gridEdges.filter p).length + (gridEdges.filter fun e => !p e).length = 112 := by
    rw [← List.length_append, ← hperm.length_eq, grid_length]
  generalize hA : gridEdges.filter p = A at *
  generalize hB : (gridEdges.filter fun e => !p e) = B at *
  have e1 : Even 64 50 ([] ++ (A.reverse ++ B)) := grid_even.perm (hperm.trans ((List.reverse_perm A).symm.append_right B))
  have s1 := chain_le [] A.reverse B e1
  have e2 : Even 64 50 (A ++ (B ++ [])) := grid_even.perm (by simpa using hperm)
  have s2 := chain_le A B [] e2
  have hbn : ∀ es : List Cross, (∀ e ∈ es, e ∈ gridEdges) → (∀ f ∈ prim es, f.1 < 64) ∧ ∀ f ∈ dual es, f.1 < 50 := by
    intro es hes
    constructor
    · intro f hf
      obtain ⟨g, hg, rfl⟩ := List.mem_map.1 hf
      exact (grid_bounds g (hes g hg)).1
    · intro f hf
      obtain ⟨g, hg, rfl⟩ := List.mem_map.1 hf
      exact (grid_bounds g (hes g hg)).2.2.1
  have hAB : ∀ e, e ∈ A ++ B ↔ e ∈ gridEdges := fun e => hperm.symm.mem_iff
  have d1 : comps 50 (dual (A.reverse ++ B)) = 1 :=
    comps_one (root := 49) (by omega) _ (hbn _ (fun e he => (hAB e).1 (by simpa using he))).2 (dual_all (fun e he => by simpa using (hAB e).2 he))
  have c1 : comps 64 (prim (B.reverse ++ A)) = 1 :=
    comps_one (root := 0) (by omega) _ (hbn _ (fun e he => (hAB e).1 (by simp at he ⊢; exact he.symm))).1 (prim_all (fun e he => by have := (hAB e).2 he; simp at this ⊢; exact this.symm))
  have n1 : comps 64 (prim []) = 64 := comps_nil 64
  have n2 : comps 50 (dual []) = 50 := comps_nil 50
  simp only [List.reverse_reverse, List.append_nil, List.length_reverse] at s1 s2
  rw [n1, d1] at s1
  rw [c1, n2] at s2
  omega
/-! ### Classes counted through maps -/
theorem cls_le {n m : Nat} {es1 es2 : List (Nat × Nat)} (P Q : Nat → Bool) (f g : Nat → Nat) (hb : ∀ e ∈ es2, e.1 < m) (hQ : ∀ e ∈ es2, Q e.1 = Q e.2)
    (hf : ∀ v, v < n → P v = true → f v < m ∧ Q (f v) = true) (hg : ∀ e ∈ es2, labs es1 (g e.1) = labs es1 (g e.2)) (hgf : ∀ v, v < n → P v = true → labs es1 (g (f v)) = labs es1 v) :
    cnt n (fun v => P v && labs es1 v == v) ≤ cnt m (fun v => Q v && labs es2 v == v) := by
  refine cnt_inj (fun v => labs es2 (f v)) (fun v hv hp => ?_) (fun u v hu hv hp hq he => ?_)
  · simp only [Bool.and_eq_true, beq_iff_eq] at hp
    obtain ⟨h1, h2⟩ := hf v hv hp.1
    refine ⟨labs_lt es2 hb _ h1, ?_⟩
    rw [labs_const Q es2 hQ, h2, labs_idem]
    simp
  · simp only [Bool.and_eq_true, beq_iff_eq] at hp hq
    have h1 : labs es1 (g (labs es2 (f u))) = labs es1 (g (f u)) := labs_const (fun r => labs es1 (g r)) es2 hg (f u)
    have h2 : labs es1 (g (labs es2 (f v))) = labs es1 (g (f v)) := labs_const (fun r => labs es1 (g r)) es2 hg (f v)
    have he' : labs es2 (f u) = labs es2 (f v) := he
    rw [he'] at h1
    have h3 := h1.symm.trans h2
    rw [hgf u hu hp.1, hgf v hv hq.1, hp.2, hq.2] at h3
    exact h3
theorem cls_eq {n m : Nat} {es1 es2 : List (Nat × Nat)} (P Q : Nat → Bool) (f g : Nat → Nat) (hb1 : ∀ e ∈ es1, e.1 < n) (hb2 : ∀ e ∈ es2, e.1 < m)
    (hP : ∀ e ∈ es1, P e.1 = P e.2) (hQ : ∀ e ∈ es2, Q e.1 = Q e.2)
    (hf : ∀ v, v < n → P v = true → f v < m ∧ Q (f v) = true) (hg : ∀ v, v < m → Q v = true → g v < n ∧ P (g v) = true)
    (hfe : ∀ e ∈ es1, labs es2 (f e.1) = labs es2 (f e.2)) (hge : ∀ e ∈ es2, labs es1 (g e.1) = labs es1 (g e.2))
    (hgf : ∀ v, v < n → P v = true → labs es1 (g (f v)) = labs es1 v) (hfg : ∀ v, v < m → Q v = true → labs es2 (f (g v)) = labs es2 v) :
    cnt n (fun v => P v && labs es1 v == v) = cnt m (fun v => Q v && labs es2 v == v) :=
  Nat.le_antisymm (cls_le P Q f g hb2 hQ hf hge hgf) (cls_le Q P g f hb1 hP hg hfe hfg)
/-! ### Corners -/
def cor (i j : Nat) : Nat := if i = 0 ∨ 8 ≤ i ∨ j = 0 ∨ 8 ≤ j then 49 else 7 * (j - 1) + (i - 1)
def touch (r v : Nat) : Prop := ∃ i j, (i + 1 = v % 10 ∨ i = v % 10) ∧ (j + 1 = v / 10 ∨ j = v / 10) ∧ r = cor i j
def inS (S : Nat → Bool) (e : Cross) : Bool := S e.1.1 && S e.1.2
def full (S : Nat → Bool) (r : Nat) : Bool := decide (r < 49) && S (8 * (r / 7) + r % 7) && S (8 * (r / 7) + r % 7 + 1) && S (8 * (r / 7) + r % 7 + 8) && S (8 * (r / 7) + r % 7 + 9)
def emb (c : Nat) : Nat := 10 * (c / 8 + 1) + (c % 8 + 1)
theorem cor_lt (i j : Nat) : cor i j < 50 := by unfold cor; split <;> omega
theorem free_emb {S : Nat → Bool} {c : Nat} (hc : c < 64) : free S (emb c) = !S c := by
  have h1 : emb c % 10 = c % 8 + 1 := by unfold emb; omega
  have h2 : emb c / 10 = c / 8 + 1 := by unfold emb; omega
  unfold free
  rw [h1, h2]
  have h3 : 8 * (c / 8 + 1 - 1) + (c % 8 + 1 - 1) = c := by omega
  rw [h3]
  have h4 : (1 ≤ c % 8 + 1 ∧ c % 8 + 1 ≤ 8 ∧ 1 ≤ c / 8 + 1 ∧ c / 8 + 1 ≤ 8) := by omega
  simp [h4]
theorem hEdge_eq {y x : Nat} (hy : y < 8) (hx : x < 7) : hEdge y x = ((8 * y + x, 8 * y + x + 1), (cor (x + 1) y, cor (x + 1) (y + 1))) := by
  unfold hEdge cor
  congr 2
  · by_cases h : y = 0
    · simp [h]
    · rw [if_neg h, if_neg (by omega)]; omega
  · by_cases h : y = 7
    · simp [h]
    · rw [if_neg h, if_neg (by omega)]; omega
theorem vEdge_eq {y x : Nat} (hy : y < 7) (hx : x < 8) : vEdge y x = ((8 * y + x, 8 * y + x + 8), (cor x (y + 1), cor (x + 1) (y + 1))) := by
  unfold vEdge cor
  congr 2
  · by_cases h : x = 0
    · simp [h]
    · rw [if_neg h, if_neg (by omega)]; omega
  · by_cases h : x = 7
    · simp [h]
    · rw [if_neg h, if_neg (by omega)]; omega
theorem mem_grid {e : Cross} : e ∈ gridEdges ↔ (∃ y x, y < 8 ∧ x < 7 ∧ e = hEdge y x) ∨ ∃ y x, y < 7 ∧ x < 8 ∧ e = vEdge y x := by
  unfold gridEdges
  simp only [List.mem_append, List.mem_flatMap, List.mem_range, List.mem_map]
  constructor
  · rintro (⟨y, hy, x, hx, rfl⟩ | ⟨y, hy, x, hx, rfl⟩)
    · exact .inl ⟨y, x, hy, hx, rfl⟩
    · exact .inr ⟨y, x, hy, hx, rfl⟩
  · rintro (⟨y, x, hy, hx, rfl⟩ | ⟨y, x, hy, hx, rfl⟩)
    · exact .inl ⟨y, hy, x, hx, rfl⟩
    · exact .inr ⟨y, hy, x, hx, rfl⟩
theorem and_no {a b : Bool} : (a && b) = false ↔ a = false ∨ b = false := by cases a <;> cases b <;> simp
theorem inS_no {S : Nat → Bool} {e : Cross} : (!inS S e) = true ↔ (S e.1.1 && S e.1.2) = false := by
  unfold inS
  cases (S e.1.1 && S e.1.2) <;> simp
section
variable (S : Nat → Bool)
def restE : List (Nat × Nat) := dual (gridEdges.filter fun e => !inS S e)
theorem mem_rest {f : Nat × Nat} : f ∈ restE S ↔ (∃ y x, y < 8 ∧ x < 7 ∧ (S (8 * y + x) && S (8 * y + x + 1)) = false ∧ f = (cor (x + 1) y, cor (x + 1) (y + 1))) ∨
    ∃ y x, y < 7 ∧ x < 8 ∧ (S (8 * y + x) && S (8 * y + x + 8)) = false ∧ f = (cor x (y + 1), cor (x + 1) (y + 1)) := by
  unfold restE dual
  simp only [List.mem_map, List.mem_filter, mem_grid, inS_no]
  constructor
  · rintro ⟨e, ⟨⟨y, x, hy, hx, rfl⟩ | ⟨y, x, hy, hx, rfl⟩, h⟩, rfl⟩
    · rw [hEdge_eq hy hx] at h ⊢
      exact .inl ⟨y, x, hy, hx, h, rfl⟩
    · rw [vEdge_eq hy hx] at h ⊢
      exact .inr ⟨y, x, hy, hx, h, rfl⟩
  · rintro (⟨y, x, hy, hx, h, rfl⟩ | ⟨y, x, hy, hx, h, rfl⟩)
    · exact ⟨hEdge y x, ⟨.inl ⟨y, x, hy, hx, rfl⟩, by rw [hEdge_eq hy hx]; exact h⟩, by rw [hEdge_eq hy hx]⟩
    · exact ⟨vEdge y x, ⟨.inr ⟨y, x, hy, hx, rfl⟩, by rw [vEdge_eq hy hx]; exact h⟩, by rw [vEdge_eq hy hx]⟩
/-- All corners of a cell that does not belong lie in one piece of the dual graph. -/
theorem one_piece {v : Nat} (_hv : v < 100) (hf : free S v = true) {i j i' j' : Nat} (hi : i + 1 = v % 10 ∨ i = v % 10) (hj : j + 1 = v / 10 ∨ j = v / 10)
    (hi' : i' + 1 = v % 10 ∨ i' = v % 10) (hj' : j' + 1 = v / 10 ∨ j' = v / 10) : labs (restE S) (cor i j) = labs (restE S) (cor i' j') := by
  by_cases hin : 1 ≤ v % 10 ∧ v % 10 ≤ 8 ∧ 1 ≤ v / 10 ∧ v / 10 ≤ 8
  · obtain ⟨h1, h2, h3, h4⟩ := hin
    obtain ⟨x, hx⟩ : ∃ x, v % 10 = x + 1 := ⟨v % 10 - 1, by omega⟩
    obtain ⟨y, hy⟩ : ∃ y, v / 10 = y + 1 := ⟨v / 10 - 1, by omega⟩
    have hS : S (8 * y + x) = false := by
      unfold free at hf
      rw [hx, hy] at hf
      have h5 : 1 ≤ x + 1 ∧ x + 1 ≤ 8 ∧ 1 ≤ y + 1 ∧ y + 1 ≤ 8 := by omega
      simpa [h5] using hf
    -- the four sides
    have left : labs (restE S) (cor x y) = labs (restE S) (cor x (y + 1)) := by
      by_cases h0 : x = 0
      · subst h0; rfl
      · refine labs_edge (restE S) (cor x y, cor x (y + 1)) ((mem_rest S).2 (.inl ⟨y, x - 1, by omega, by omega, ?_, ?_⟩))
        · rw [show 8 * y + (x - 1) + 1 = 8 * y + x by omega, hS]; simp
        · rw [show x - 1 + 1 = x by omega]
    have right : labs (restE S) (cor (x + 1) y) = labs (restE S) (cor (x + 1) (y + 1)) := by
      by_cases h0 : x = 7
      · subst h0; rfl
      · refine labs_edge (restE S) (cor (x + 1) y, cor (x + 1) (y + 1)) ((mem_rest S).2 (.inl ⟨y, x, by omega, by omega, ?_, rfl⟩))
        rw [hS]; simp
    have up : labs (restE S) (cor x y) = labs (restE S) (cor (x + 1) y) := by
      by_cases h0 : y = 0
      · subst h0
        have e1 : cor x 0 = 49 := by unfold cor; rw [if_pos (by omega)]
        have e2 : cor (x + 1) 0 = 49 := by unfold cor; rw [if_pos (by omega)]
        rw [e1, e2]
      · refine labs_edge (restE S) (cor x y, cor (x + 1) y) ((mem_rest S).2 (.inr ⟨y - 1, x, by omega, by omega, ?_, ?_⟩))
        · rw [show 8 * (y - 1) + x + 8 = 8 * y + x by omega, hS]; simp
        · rw [show y - 1 + 1 = y by omega]
    have down : labs (restE S) (cor x (y + 1)) = labs (restE S) (cor (x + 1) (y + 1)) := by
      by_cases h0 : y = 7
      · subst h0
        have e1 : cor x 8 = 49 := by unfold cor; rw [if_pos (by omega)]
        have e2 : cor (x + 1) 8 = 49 := by unfold cor; rw [if_pos (by omega)]
        rw [e1, e2]
      · refine labs_edge (restE S) (cor x (y + 1), cor (x + 1) (y + 1)) ((mem_rest S).2 (.inr ⟨y, x, by omega, by omega, ?_, rfl⟩))
        rw [hS]; simp
    have all : ∀ i j, (i = x ∨ i = x + 1) → (j = y ∨ j = y + 1) → labs (restE S) (cor i j) = labs (restE S) (cor x y) := by
      intro i j hi hj
      rcases hi with rfl | rfl <;> rcases hj with rfl | rfl
      · rfl
      · exact left.symm
      · exact up.symm
      · rw [← right]; exact up.symm
    rw [all i j (by omega) (by omega), all i' j' (by omega) (by omega)]
  · have hout : ∀ i j, (i + 1 = v % 10 ∨ i = v % 10) → (j + 1 = v / 10 ∨ j = v / 10) → cor i j = 49 := by
      intro i j hi hj
      unfold cor
      rw [if_pos (by omega)]
    rw [hout i j hi hj, hout i' j' hi' hj']
/-- What touches the outer corner is in the ring's piece. -/
theorem ring_piece {v : Nat} (hv : v < 100) (hf : free S v = true) (ho : v % 10 ≤ 1 ∨ 8 ≤ v % 10 ∨ v / 10 ≤ 1 ∨ 8 ≤ v / 10) : labs (pairs 100 (adj8 S)) v = labs (pairs 100 (adj8 S)) 0 := by
  have hring : ∀ u, u < 100 → (u % 10 = 0 ∨ u % 10 = 9 ∨ u / 10 = 0 ∨ u / 10 = 9) → free S u = true := by
    intro u hu h
    unfold free
    have : ¬ (1 ≤ u % 10 ∧ u % 10 ≤ 8 ∧ 1 ≤ u / 10 ∧ u / 10 ≤ 8) := by omega
    simp [this]
  have hp : ((List.range 100).all fun u => !(u % 10 == 0 || u % 10 == 9 || u / 10 == 0 || u / 10 == 9) || u == 0 ||
      (List.range 100).any fun t => decide (t < u) && (t % 10 == 0 || t % 10 == 9 || t / 10 == 0 || t / 10 == 9) && near t u) = true := by decide +kernel
  have hr : ∀ u, u < 100 → (u % 10 = 0 ∨ u % 10 = 9 ∨ u / 10 = 0 ∨ u / 10 = 9) → labs (pairs 100 (adj8 S)) u = labs (pairs 100 (adj8 S)) 0 := by
    intro u
    induction u using Nat.strongRecOn with
    | _ u ih =>
      intro hu h
      have h1 := List.all_eq_true.1 hp u (List.mem_range.2 hu)
      have h2 : (u % 10 == 0 || u % 10 == 9 || u / 10 == 0 || u / 10 == 9) = true := by simp; omega
      rw [h2] at h1
      simp only [Bool.not_true, Bool.false_or, Bool.or_eq_true, beq_iff_eq, List.any_eq_true, List.mem_range, Bool.and_eq_true, decide_eq_true_eq] at h1
      rcases h1 with rfl | ⟨t, ht, ⟨h3, h4⟩, h5⟩
      · rfl
      · have h6 : t % 10 = 0 ∨ t % 10 = 9 ∨ t / 10 = 0 ∨ t / 10 = 9 := by
          rcases h4 with ((h | h) | h) | h
          · exact .inl h
          · exact .inr (.inl h)
          · exact .inr (.inr (.inl h))
          · exact .inr (.inr (.inr h))
        rw [← ih t h3 ht h6]
        exact (labs_edge (pairs 100 (adj8 S)) (t, u) (mem_pairs.2 ⟨ht, hu, by simp [adj8, hring t ht h6, hring u hu h, h5]⟩)).symm
  -- the ring's cell beside v
  obtain ⟨u, hu, hur, hn⟩ : ∃ u, u < 100 ∧ (u % 10 = 0 ∨ u % 10 = 9 ∨ u / 10 = 0 ∨ u / 10 = 9) ∧ near v u = true := by
    rcases ho with h | h | h | h
    · refine ⟨10 * (v / 10), by omega, by omega, ?_⟩
      unfold near
      rw [show 10 * (v / 10) % 10 = 0 by omega, show 10 * (v / 10) / 10 = v / 10 by omega]
      simp; omega
    · refine ⟨10 * (v / 10) + 9, by omega, by omega, ?_⟩
      unfold near
      rw [show (10 * (v / 10) + 9) % 10 = 9 by omega, show (10 * (v / 10) + 9) / 10 = v / 10 by omega]
      simp; omega
    · refine ⟨v % 10, by omega, by omega, ?_⟩
      unfold near
      rw [show v % 10 % 10 = v % 10 by omega, show v % 10 / 10 = 0 by omega]
      simp; omega
    · refine ⟨90 + v % 10, by omega, by omega, ?_⟩
      unfold near
      rw [show (90 + v % 10) % 10 = v % 10 by omega, show (90 + v % 10) / 10 = 9 by omega]
      simp; omega
  rw [← hr u hu hur]
  exact labs_edge (pairs 100 (adj8 S)) (v, u) (mem_pairs.2 ⟨hv, hu, by simp [adj8, hf, hring u hu hur, hn]⟩)
/-- Two cells that do not belong and touch one corner are in one piece. -/
theorem same_piece {u v r : Nat} (hu : u < 100) (hv : v < 100) (hfu : free S u = true) (hfv : free S v = true) (hru : touch r u) (hrv : touch r v) :
    labs (pairs 100 (adj8 S)) u = labs (pairs 100 (adj8 S)) v := by
  obtain ⟨i, j, hi, hj, h1⟩ := hru
  obtain ⟨i', j', hi', hj', h2⟩ := hrv
  have hc : cor i j = cor i' j' := h1.symm.trans h2
  by_cases ho : i = 0 ∨ 8 ≤ i ∨ j = 0 ∨ 8 ≤ j
  · have ho' : i' = 0 ∨ 8 ≤ i' ∨ j' = 0 ∨ 8 ≤ j' := by
      apply Classical.byContradiction
      intro h
      unfold cor at hc
      rw [if_pos ho, if_neg h] at hc
      omega
    rw [ring_piece S hu hfu (by omega), ring_piece S hv hfv (by omega)]
  · have ho' : ¬ (i' = 0 ∨ 8 ≤ i' ∨ j' = 0 ∨ 8 ≤ j') := by
      intro h
      unfold cor at hc
      rw [if_neg ho, if_pos h] at hc
      omega
    unfold cor at hc
    rw [if_neg ho, if_neg ho'] at hc
    have e1 : i = i' := by omega
    have e2 : j = j' := by omega
    refine labs_edge (pairs 100 (adj8 S)) (u, v) (mem_pairs.2 ⟨hu, hv, ?_⟩)
    have hn : near u v = true := by unfold near; simp; omega
    simp [adj8, hfu, hfv, hn]
/-- A cell's corner. -/
def toCor (v : Nat) : Nat := cor (v % 10) (v / 10)
/-- A corner's cell. -/
def toCell (r : Nat) : Nat :=
  if 49 ≤ r then 0
  else if S (8 * (r / 7) + r % 7) = false then emb (8 * (r / 7) + r % 7)
  else if S (8 * (r / 7) + r % 7 + 1) = false then emb (8 * (r / 7) + r % 7 + 1)
  else if S (8 * (r / 7) + r % 7 + 8) = false then emb (8 * (r / 7) + r % 7 + 8)
  else emb (8 * (r / 7) + r % 7 + 9)
theorem touch_toCor (v : Nat) : touch (toCor v) v := ⟨v % 10, v / 10, .inr rfl, .inr rfl, rfl⟩
theorem toCell_fine {r : Nat} (hr : r < 50) (hq : full S r = false) : toCell S r < 100 ∧ free S (toCell S r) = true ∧ touch r (toCell S r) := by
  unfold toCell
  by_cases h49 : 49 ≤ r
  · rw [if_pos h49]
    have : r = 49 := by omega
    subst this
    refine ⟨by omega, by simp [free], 0, 0, .inr rfl, .inr rfl, by simp [cor]⟩
  · rw [if_neg h49]
    have hlt : r < 49 := by omega
    have he : ∀ d, (d = 0 ∨ d = 1 ∨ d = 8 ∨ d = 9) → S (8 * (r / 7) + r % 7 + d) = false → emb (8 * (r / 7) + r % 7 + d) < 100 ∧ free S (emb (8 * (r / 7) + r % 7 + d)) = true ∧ touch r (emb (8 * (r / 7) + r % 7 + d)) := by
      intro d hd hS
      have hc : 8 * (r / 7) + r % 7 + d < 64 := by omega
      refine ⟨by unfold emb; omega, by rw [free_emb hc, hS]; rfl, r % 7 + 1, r / 7 + 1, ?_, ?_, ?_⟩
      · unfold emb; omega
      · unfold emb; omega
      · unfold cor
        rw [if_neg (by omega)]
        omega
    by_cases h0 : S (8 * (r / 7) + r % 7) = false
    · rw [if_pos h0]; exact he 0 (by omega) h0
    rw [if_neg h0]
    by_cases h1 : S (8 * (r / 7) + r % 7 + 1) = false
    · rw [if_pos h1]; exact he 1 (by omega) h1
    rw [if_neg h1]
    by_cases h2 : S (8 * (r / 7) + r % 7 + 8) = false
    · rw [if_pos h2]; exact he 8 (by omega) h2
    rw [if_neg h2]
    refine he 9 (by omega) ?_
    simp only [Bool.not_eq_false] at h0 h1 h2
    simpa [full, hlt, h0, h1, h2] using hq
/-- A corner that a cell touches which does not belong is no full one. -/
theorem not_full {r v : Nat} (hv : v < 100) (hf : free S v = true) (ht : touch r v) : full S r = false := by
  obtain ⟨i, j, hi, hj, rfl⟩ := ht
  cases h : full S (cor i j)
  · rfl
  · exfalso
    simp only [full, Bool.and_eq_true, decide_eq_true_eq] at h
    obtain ⟨⟨⟨⟨h49, h0⟩, h1⟩, h2⟩, h3⟩ := h
    by_cases ho : i = 0 ∨ 8 ≤ i ∨ j = 0 ∨ 8 ≤ j
    · unfold cor at h49; rw [if_pos ho] at h49; omega
    · have hc : cor i j = 7 * (j - 1) + (i - 1) := by unfold cor; rw [if_neg ho]
      have e1 : cor i j / 7 = j - 1 := by omega
      have e2 : cor i j % 7 = i - 1 := by omega
      rw [e1, e2] at h0 h1 h2 h3
      unfold free at hf
      have hin : 1 ≤ v % 10 ∧ v % 10 ≤ 8 ∧ 1 ≤ v / 10 ∧ v / 10 ≤ 8 := by omega
      have hS : S (8 * (v / 10 - 1) + (v % 10 - 1)) = false := by simpa [hin] using hf
      have : 8 * (v / 10 - 1) + (v % 10 - 1) = 8 * (j - 1) + (i - 1) ∨ 8 * (v / 10 - 1) + (v % 10 - 1) = 8 * (j - 1) + (i - 1) + 1 ∨ 8 * (v / 10 - 1) + (v % 10 - 1) = 8 * (j - 1) + (i - 1) + 8 ∨ 8 * (v / 10 - 1) + (v % 10 - 1) = 8 * (j - 1) + (i - 1) + 9 := by omega
      rcases this with e | e | e | e <;> rw [e] at hS
      · rw [h0] at hS; cases hS
      · rw [h1] at hS; cases hS
      · rw [h2] at hS; cases hS
      · rw [h3] at hS; cases hS
theorem rest_lt : ∀ e ∈ restE S, e.1 < 50 ∧ e.2 < 50 := by
  intro e he
  rcases (mem_rest S).1 he with ⟨y, x, _, _, _, rfl⟩ | ⟨y, x, _, _, _, rfl⟩ <;> exact ⟨cor_lt .., cor_lt ..⟩
/-- An edge of the dual graph lies along a cell that does not belong, which touches both its ends. -/
theorem rest_cell {e : Nat × Nat} (he : e ∈ restE S) : ∃ v, v < 100 ∧ free S v = true ∧ touch e.1 v ∧ touch e.2 v := by
  rcases (mem_rest S).1 he with ⟨y, x, hy, hx, h, rfl⟩ | ⟨y, x, hy, hx, h, rfl⟩
  · have h' : S (8 * y + x) = false ∨ S (8 * y + x + 1) = false := and_no.1 h
    rcases h' with h1 | h1
    · refine ⟨emb (8 * y + x), by unfold emb; omega, by rw [free_emb (by omega), h1]; rfl, ⟨x + 1, y, by unfold emb; omega, by unfold emb; omega, rfl⟩, ⟨x + 1, y + 1, by unfold emb; omega, by unfold emb; omega, rfl⟩⟩
    · refine ⟨emb (8 * y + x + 1), by unfold emb; omega, by rw [free_emb (by omega), h1]; rfl, ⟨x + 1, y, by unfold emb; omega, by unfold emb; omega, rfl⟩, ⟨x + 1, y + 1, by unfold emb; omega, by unfold emb; omega, rfl⟩⟩
  · have h' : S (8 * y + x) = false ∨ S (8 * y + x + 8) = false := and_no.1 h
    rcases h' with h1 | h1
    · refine ⟨emb (8 * y + x), by unfold emb; omega, by rw [free_emb (by omega), h1]; rfl, ⟨x, y + 1, by unfold emb; omega, by unfold emb; omega, rfl⟩, ⟨x + 1, y + 1, by unfold emb; omega, by unfold emb; omega, rfl⟩⟩
    · refine ⟨emb (8 * y + x + 8), by unfold emb; omega, by rw [free_emb (by omega), h1]; rfl, ⟨x, y + 1, by unfold emb; omega, by unfold emb; omega, rfl⟩, ⟨x + 1, y + 1, by unfold emb; omega, by unfold emb; omega, rfl⟩⟩
theorem touch_labs {r r' v : Nat} (hv : v < 100) (hf : free S v = true) (h : touch r v) (h' : touch r' v) : labs (restE S) r = labs (restE S) r' := by
  obtain ⟨i, j, hi, hj, rfl⟩ := h
  obtain ⟨i', j', hi', hj', rfl⟩ := h'
  exact one_piece S hv hf hi hj hi' hj'
/-- The blanks are the pieces of the dual graph without the full corners. -/
theorem blanks_dual : blanks S = cnt 50 (fun r => !full S r && labs (restE S) r == r) := by
  refine cls_eq (free S) (fun r => !full S r) toCor (toCell S) (fun e he => (mem_pairs.1 he).1) (fun e he => (rest_lt S e he).1) ?_ ?_ ?_ ?_ ?_ ?_ ?_ ?_
  · intro e he
    have h := (mem_pairs.1 he).2.2
    simp only [adj8, Bool.and_eq_true] at h
    rw [h.1.1, h.1.2]
  · intro e he
    obtain ⟨v, hv, hf, h1, h2⟩ := rest_cell S he
    rw [not_full S hv hf h1, not_full S hv hf h2]
  · intro v hv hf
    exact ⟨cor_lt .., by rw [not_full S hv hf (touch_toCor v)]; rfl⟩
  · intro r hr hq
    have h := toCell_fine S hr (by simpa using hq)
    exact ⟨h.1, h.2.1⟩
  · intro e he
    obtain ⟨h1, h2, h3⟩ := mem_pairs.1 he
    simp only [adj8, Bool.and_eq_true] at h3
    have hn : e.1 % 10 ≤ e.2 % 10 + 1 ∧ e.2 % 10 ≤ e.1 % 10 + 1 ∧ e.1 / 10 ≤ e.2 / 10 + 1 ∧ e.2 / 10 ≤ e.1 / 10 + 1 := by simpa [near] using h3.2
    have t1 : touch (cor (min (e.1 % 10) (e.2 % 10)) (min (e.1 / 10) (e.2 / 10))) e.1 := ⟨_, _, by omega, by omega, rfl⟩
    have t2 : touch (cor (min (e.1 % 10) (e.2 % 10)) (min (e.1 / 10) (e.2 / 10))) e.2 := ⟨_, _, by omega, by omega, rfl⟩
    rw [touch_labs S h1 h3.1.1 (touch_toCor e.1) t1, touch_labs S h2 h3.1.2 (touch_toCor e.2) t2]
  · intro e he
    obtain ⟨v, hv, hf, h1, h2⟩ := rest_cell S he
    obtain ⟨b1, b2⟩ := rest_lt S e he
    have f1 := toCell_fine S b1 (not_full S hv hf h1)
    have f2 := toCell_fine S b2 (not_full S hv hf h2)
    rw [same_piece S f1.1 hv f1.2.1 hf f1.2.2 h1, same_piece S f2.1 hv f2.2.1 hf f2.2.2 h2]
  · intro v hv hf
    have f1 := toCell_fine S (cor_lt (v % 10) (v / 10)) (not_full S hv hf (touch_toCor v))
    exact same_piece S f1.1 hv f1.2.1 hf f1.2.2 (touch_toCor v)
  · intro r hr hq
    have f1 := toCell_fine S hr (by simpa using hq)
    exact touch_labs S f1.1 f1.2.1 (touch_toCor _) f1.2.2
theorem dual_comps : comps 50 (restE S) = cnt 50 (full S) + blanks S := by
  rw [blanks_dual]
  unfold comps
  rw [cnt_split (fun v => labs (restE S) v == v) (full S)]
  congr 1
  · refine cnt_congr fun r hr => ?_
    cases h : full S r
    · simp
    · have : labs (restE S) r = r := by
        have hk : ∀ e ∈ restE S, (e.1 == r) = (e.2 == r) := fun e he => by
          obtain ⟨v, hv, hf, t1, t2⟩ := rest_cell S he
          have n1 : ¬ e.1 = r := fun e' => by have := not_full S hv hf t1; rw [e', h] at this; cases this
          have n2 : ¬ e.2 = r := fun e' => by have := not_full S hv hf t2; rw [e', h] at this; cases this
          rw [beq_eq_false_iff_ne.2 n1, beq_eq_false_iff_ne.2 n2]
        have h1 : (labs (restE S) r == r) = (r == r) := labs_const (fun t => t == r) (restE S) hk r
        simpa using h1
      simp [this]
  · exact cnt_congr fun r _ => Bool.and_comm _ _
theorem prim_mem {e : Nat × Nat} : e ∈ prim (gridEdges.filter (inS S)) ↔ (∃ y x, y < 8 ∧ x < 7 ∧ (S (8 * y + x) && S (8 * y + x + 1)) = true ∧ e = (8 * y + x, 8 * y + x + 1)) ∨
    ∃ y x, y < 7 ∧ x < 8 ∧ (S (8 * y + x) && S (8 * y + x + 8)) = true ∧ e = (8 * y + x, 8 * y + x + 8) := by
  unfold prim
  simp only [List.mem_map, List.mem_filter, mem_grid]
  constructor
  · rintro ⟨e, ⟨⟨y, x, hy, hx, rfl⟩ | ⟨y, x, hy, hx, rfl⟩, h⟩, rfl⟩
    · rw [hEdge_eq hy hx] at h ⊢
      exact .inl ⟨y, x, hy, hx, by simpa [inS] using h, rfl⟩
    · rw [vEdge_eq hy hx] at h ⊢
      exact .inr ⟨y, x, hy, hx, by simpa [inS] using h, rfl⟩
  · rintro (⟨y, x, hy, hx, h, rfl⟩ | ⟨y, x, hy, hx, h, rfl⟩)
    · exact ⟨hEdge y x, ⟨.inl ⟨y, x, hy, hx, rfl⟩, by rw [hEdge_eq hy hx]; simpa [inS] using h⟩, by rw [hEdge_eq hy hx]⟩
    · exact ⟨vEdge y x, ⟨.inr ⟨y, x, hy, hx, rfl⟩, by rw [vEdge_eq hy hx]; simpa [inS] using h⟩, by rw [vEdge_eq hy hx]⟩
theorem prim_comps : comps 64 (prim (gridEdges.filter (inS S))) + cnt 64 S = pieces S + 64 := by
  have hS : ∀ e ∈ prim (gridEdges.filter (inS S)), S e.1 = true ∧ S e.2 = true ∧ e.1 < 64 ∧ e.2 < 64 ∧ side4 e.1 e.2 = true := by
    intro e he
    rcases (prim_mem S).1 he with ⟨y, x, hy, hx, h, rfl⟩ | ⟨y, x, hy, hx, h, rfl⟩
    · simp only [Bool.and_eq_true] at h
      refine ⟨h.1, h.2, by simp only; omega, by simp only; omega, ?_⟩
      have h1 : (8 * y + x) / 8 = (8 * y + x + 1) / 8 := by omega
      simp [side4, h1]
    · simp only [Bool.and_eq_true] at h
      refine ⟨h.1, h.2, by simp only; omega, by simp only; omega, ?_⟩
      have h2 : ((8 * y + x) % 8 == (8 * y + x + 8) % 8) = true := beq_iff_eq.2 (by omega)
      have h3 : (8 * y + x + 8 == 8 * y + x + 8) = true := beq_self_eq_true _
      show side4 (8 * y + x) (8 * y + x + 8) = true
      unfold side4
      rw [h2, h3]
      rfl
  have h1 : cnt 64 (fun v => S v && labs (prim (gridEdges.filter (inS S))) v == v) = pieces S := by
    refine cls_eq S S (fun v => v) (fun v => v) (fun e he => (hS e he).2.2.1) (fun e he => (mem_pairs.1 he).1) (fun e he => by rw [(hS e he).1, (hS e he).2.1]) ?_ (fun v hv h => ⟨hv, h⟩) (fun v hv h => ⟨hv, h⟩) ?_ ?_ (fun _ _ _ => rfl) (fun _ _ _ => rfl)
    · intro e he
      have h := (mem_pairs.1 he).2.2
      simp only [adj4, Bool.and_eq_true] at h
      rw [h.1.1, h.1.2]
    · intro e he
      obtain ⟨a, b, c, d, f⟩ := hS e he
      exact labs_edge (pairs 64 (adj4 S)) e (mem_pairs.2 ⟨c, d, by simp [adj4, a, b, f]⟩)
    · rintro ⟨a, b⟩ he
      obtain ⟨ha, hb, h⟩ := mem_pairs.1 he
      simp only [adj4, Bool.and_eq_true] at ha hb h
      obtain ⟨⟨sa, sb⟩, hs⟩ := h
      simp only [side4, Bool.or_eq_true, Bool.and_eq_true, beq_iff_eq] at hs
      simp only
      rcases hs with ⟨h1, h2 | h2⟩ | ⟨h1, h2 | h2⟩
      · subst h2
        exact labs_edge _ (a, a + 8) ((prim_mem S).2 (.inr ⟨a / 8, a % 8, by omega, by omega, by rw [show 8 * (a / 8) + a % 8 = a by omega, sa, sb]; rfl, by rw [show 8 * (a / 8) + a % 8 = a by omega]⟩))
      · subst h2
        exact (labs_edge _ (b, b + 8) ((prim_mem S).2 (.inr ⟨b / 8, b % 8, by omega, by omega, by rw [show 8 * (b / 8) + b % 8 = b by omega, sa, sb]; rfl, by rw [show 8 * (b / 8) + b % 8 = b by omega]⟩))).symm
      · subst h2
        exact labs_edge _ (a, a + 1) ((prim_mem S).2 (.inl ⟨a / 8, a % 8, by omega, by omega, by rw [show 8 * (a / 8) + a % 8 = a by omega, sa, sb]; rfl, by rw [show 8 * (a / 8) + a % 8 = a by omega]⟩))
      · subst h2
        exact (labs_edge _ (b, b + 1) ((prim_mem S).2 (.inl ⟨b / 8, b % 8, by omega, by omega, by rw [show 8 * (b / 8) + b % 8 = b by omega, sa, sb]; rfl, by rw [show 8 * (b / 8) + b % 8 = b by omega]⟩))).symm
  have h2 : cnt 64 (fun v => labs (prim (gridEdges.filter (inS S))) v == v && !S v) = cnt 64 (fun v => !S v) := by
    refine cnt_congr fun v _ => ?_
    cases h : S v
    · have h3 : labs (prim (gridEdges.filter (inS S))) v = v := by
        have hk : ∀ e ∈ prim (gridEdges.filter (inS S)), (e.1 == v) = (e.2 == v) := fun e he => by
          obtain ⟨a, b, _⟩ := hS e he
          have n1 : ¬ e.1 = v := fun e' => by rw [e', h] at a; cases a
          have n2 : ¬ e.2 = v := fun e' => by rw [e', h] at b; cases b
          rw [beq_eq_false_iff_ne.2 n1, beq_eq_false_iff_ne.2 n2]
        have h4 : (labs (prim (gridEdges.filter (inS S))) v == v) = (v == v) := labs_const (fun t => t == v) (prim (gridEdges.filter (inS S))) hk v
        simpa using h4
      simp [h3]
    · simp
  have h3 := cnt_split (n := 64) (fun v => labs (prim (gridEdges.filter (inS S))) v == v) S
  have h4 := cnt_not (n := 64) S
  have h5 : cnt 64 (fun v => labs (prim (gridEdges.filter (inS S))) v == v && S v) = pieces S := by
    rw [← h1]; exact cnt_congr fun v _ => Bool.and_comm _ _
  unfold comps
  omega
/-- CELLS MINUS PAIRS PLUS SQUARES IS PIECES MINUS HOLES. -/
theorem euler : pieces S + 1 + (gridEdges.filter (inS S)).length = cnt 64 S + cnt 50 (full S) + blanks S := by
  have h1 := grid_euler (inS S)
  have h2 := prim_comps S
  have h3 := dual_comps S
  have h4 : dual (gridEdges.filter fun e => !inS S e) = restE S := rfl
  rw [h4] at h1
  have h5 := cnt_le (n := 64) S
  omega
end
end Go.Proofs.Ytghakmhglneckaa.Plain
