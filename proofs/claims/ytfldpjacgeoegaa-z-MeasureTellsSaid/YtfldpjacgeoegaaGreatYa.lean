/- The order of rows of numbers: written down falling, compared word by word; plain lemmas. -/
namespace Go.Dk

def ltL : List Int → List Int → Bool
  | [], [] => false
  | [], _ :: _ => true
  | _ :: _, [] => false
  | x :: xs, y :: ys => decide (x < y) || (decide (x = y) && ltL xs ys)

/-- cmp.Compare's and slices.Compare's answer. -/
def cmpL : List Int → List Int → Int
  | [], [] => 0
  | [], _ :: _ => -1
  | _ :: _, [] => 1
  | x :: xs, y :: ys => if x < y then -1 else if y < x then 1 else cmpL xs ys

theorem cmpL_lt (xs ys : List Int) : decide (cmpL xs ys < 0) = ltL xs ys := by
  induction xs generalizing ys with
  | nil => cases ys <;> simp [cmpL, ltL]
  | cons x xs ih =>
    cases ys with
    | nil => simp [cmpL, ltL]
    | cons y ys =>
      simp only [cmpL, ltL]
      by_cases h1 : x < y
      · simp [h1]
      · by_cases h2 : y < x
        · have : ¬ x = y := by omega
          simp [h1, h2, this]
        · have : x = y := by omega
          subst this
          simp [ih]

theorem ltL_irrefl (xs : List Int) : ltL xs xs = false := by
  induction xs with
  | nil => rfl
  | cons x xs ih => simp [ltL, ih]

theorem ltL_asymm {xs ys : List Int} (h : ltL xs ys = true) : ltL ys xs = false := by
  induction xs generalizing ys with
  | nil => cases ys with
    | nil => simp [ltL] at h
    | cons y ys => rfl
  | cons x xs ih =>
    cases ys with
    | nil => simp [ltL] at h
    | cons y ys =>
      simp only [ltL, Bool.or_eq_true, Bool.and_eq_true, decide_eq_true_eq] at h
      rcases h with h | ⟨rfl, h⟩
      · have h1 : ¬ y < x := by omega
        have h2 : ¬ y = x := by omega
        simp [ltL, h1, h2]
      · simp [ltL, ih h]

theorem ltL_trans {xs ys zs : List Int} (h : ltL xs ys = true) (g : ltL ys zs = true) : ltL xs zs = true := by
  induction xs generalizing ys zs with
  | nil =>
    cases ys with
    | nil => simp [ltL] at h
    | cons y ys =>
      cases zs with
      | nil => simp [ltL] at g
      | cons z zs => rfl
  | cons x xs ih =>
    cases ys with
    | nil => simp [ltL] at h
    | cons y ys =>
      cases zs with
      | nil => simp [ltL] at g
      | cons z zs =>
        simp only [ltL, Bool.or_eq_true, Bool.and_eq_true, decide_eq_true_eq] at h g ⊢
        rcases h with h | ⟨rfl, h⟩
        · rcases g with g | ⟨rfl, g⟩
          · exact .inl (by omega)
          · exact .inl h
        · rcases g with g | ⟨rfl, g⟩
          · exact .inl g
          · exact .inr ⟨rfl, ih h g⟩

theorem ltL_total {xs ys : List Int} (h : ltL xs ys = false) (g : ltL ys xs = false) : xs = ys := by
  induction xs generalizing ys with
  | nil => cases ys with
    | nil => rfl
    | cons y ys => simp [ltL] at h
  | cons x xs ih =>
    cases ys with
    | nil => simp [ltL] at g
    | cons y ys =>
      simp only [ltL, Bool.or_eq_false_iff, Bool.and_eq_false_iff, decide_eq_false_iff_not] at h g
      have e : x = y := by omega
      subst e
      rw [ih (by rcases h.2 with h | h <;> first | exact absurd rfl h | exact h) (by rcases g.2 with h | h <;> first | exact absurd rfl h | exact h)]

/-! ### written down falling -/
def fall (xs : List Int) : List Int := (xs.mergeSort fun x y => decide (x ≤ y)).reverse
theorem fall_length (xs : List Int) : (fall xs).length = xs.length := by simp [fall, List.length_mergeSort]
theorem fall_perm (xs : List Int) : (fall xs).Perm xs := (List.reverse_perm _).trans (List.mergeSort_perm _ _)
theorem fall_pairwise (xs : List Int) : (fall xs).Pairwise (fun x y => y ≤ x) := by
  unfold fall
  rw [List.pairwise_reverse]
  have := List.pairwise_mergeSort (le := fun x y : Int => decide (x ≤ y)) (fun a b c h1 h2 => by simp at *; omega) (fun a b => by simp; omega) xs
  exact this.imp (fun h => by simpa using h)
theorem fall_unique {xs ys : List Int} (hp : ys.Perm xs) (hs : ys.Pairwise (fun x y => y ≤ x)) : ys = fall xs :=
  List.Perm.eq_of_pairwise (le := fun x y : Int => y ≤ x) (fun _ _ _ _ h1 h2 => Int.le_antisymm h2 h1) hs (fall_pairwise xs) (hp.trans (fall_perm xs).symm)
theorem fall_perm_eq {xs ys : List Int} (hp : xs.Perm ys) : fall xs = fall ys := fall_unique ((fall_perm xs).trans hp) (fall_pairwise xs)

/-- What Less answers. -/
def lessL (a b : List Int) : Bool := ltL (fall a) (fall b)

theorem lessL_irrefl (a : List Int) : lessL a a = false := ltL_irrefl _
theorem lessL_asymm {a b : List Int} (h : lessL a b = true) : lessL b a = false := ltL_asymm h
theorem lessL_trans {a b c : List Int} (h : lessL a b = true) (g : lessL b c = true) : lessL a c = true := ltL_trans h g
theorem lessL_perm {a b : List Int} (h : a.Perm b) : lessL a b = false := by unfold lessL; rw [fall_perm_eq h]; exact ltL_irrefl _
theorem lessL_total {a b : List Int} (h : lessL a b = false) (g : lessL b a = false) : a.Perm b := by
  have := ltL_total h g
  exact (fall_perm a).symm.trans ((this ▸ List.Perm.refl _ : (fall a).Perm (fall b)).trans (fall_perm b))

/-! ### insertion makes greater -/
def ins (z : Int) : List Int → List Int
  | [] => [z]
  | x :: xs => if z ≤ x then x :: ins z xs else z :: x :: xs
theorem ins_perm (z : Int) (xs : List Int) : (ins z xs).Perm (z :: xs) := by
  induction xs with
  | nil => exact List.Perm.refl _
  | cons x xs ih =>
    unfold ins
    split
    · exact (ih.cons x).trans (List.Perm.swap _ _ _)
    · exact List.Perm.refl _
theorem ins_pairwise (z : Int) (xs : List Int) (h : xs.Pairwise (fun x y => y ≤ x)) : (ins z xs).Pairwise (fun x y => y ≤ x) := by
  induction xs with
  | nil => simp [ins]
  | cons x xs ih =>
    have h' := List.pairwise_cons.1 h
    unfold ins
    split
    · rename_i hz
      refine List.pairwise_cons.2 ⟨fun y hy => ?_, ih h'.2⟩
      rcases List.mem_cons.1 ((ins_perm z xs).mem_iff.1 hy) with rfl | hy
      · exact hz
      · exact h'.1 y hy
    · rename_i hz
      refine List.pairwise_cons.2 ⟨fun y hy => ?_, h⟩
      rcases List.mem_cons.1 hy with rfl | hy
      · omega
      · have := h'.1 y hy; omega
theorem ltL_ins (z : Int) (xs : List Int) : ltL xs (ins z xs) = true := by
  induction xs with
  | nil => rfl
  | cons x xs ih =>
    unfold ins
    split
    · simp [ltL, ih]
    · rename_i hz
      have : x < z := by omega
      simp [ltL, this]
theorem lessL_snoc (a : List Int) (z : Int) : lessL a (a ++ [z]) = true := by
  unfold lessL
  have : fall (a ++ [z]) = ins z (fall a) := by
    refine (fall_unique ?_ (ins_pairwise z _ (fall_pairwise a))).symm
    exact (ins_perm z _).trans ((List.Perm.cons z (fall_perm a)).trans (List.perm_append_singleton z a).symm)
  rw [this]
  exact ltL_ins z _

/-! ### alike -/
theorem perm_of_counts : ∀ (a b : List Int), a.length = b.length → (∀ x ∈ a, a.count x = b.count x) → a.Perm b
  | [], b, hl, _ => by
    have : b = [] := List.eq_nil_of_length_eq_zero hl.symm
    subst this; exact List.Perm.refl _
  | x :: a, b, hl, h => by
    have hx : x ∈ b := by
      have := h x (by simp)
      rw [List.count_cons_self] at this
      exact List.count_pos_iff.1 (by omega)
    have hb := List.perm_cons_erase hx
    refine (List.Perm.cons x (perm_of_counts a (b.erase x) ?_ ?_)).trans hb.symm
    · have := hb.length_eq
      simp only [List.length_cons] at this hl
      omega
    · intro y hy
      have h1 := h y (List.mem_cons_of_mem _ hy)
      rw [hb.count_eq] at h1
      simp only [List.count_cons] at h1
      omega

/-- What alike answers. -/
def alikeL (a b : List Int) : Bool := decide (a.length = b.length) && a.all fun x => a.count x == b.count x
theorem alikeL_iff (a b : List Int) : alikeL a b = true ↔ a.Perm b := by
  unfold alikeL
  simp only [Bool.and_eq_true, decide_eq_true_eq, List.all_eq_true, beq_iff_eq]
  constructor
  · rintro ⟨h1, h2⟩; exact perm_of_counts a b h1 h2
  · intro h; exact ⟨h.length_eq, fun x _ => h.count_eq x⟩


end Go.Dk

