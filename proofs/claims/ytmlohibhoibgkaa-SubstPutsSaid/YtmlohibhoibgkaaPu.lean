/- The plain part of layers 3, 6 and 7: names, rows, what put does, what lies below; numbers of rows; counts; orders; trees; made anew; simpler. No program in sight. -/
/- Rows of formulas as lists: names, what fits, what 'put' does; plain lemmas. -/
namespace Go.Dk

structure ND where
  kind : Int
  name : ByteArray
  l : Int
  r : Int
deriving DecidableEq

/-! ### names -/
def letterB (c : UInt8) : Bool := (97 ≤ c && c ≤ 122) || (65 ≤ c && c ≤ 90)
def wordB (c : UInt8) : Bool := letterB c || (48 ≤ c && c ≤ 57) || c == 95 || c == 39
def reservedL : List (List UInt8) :=
  [[97, 98, 111, 114, 116], [99, 97, 115, 101], [102, 97, 108, 115, 101], [102, 115, 116], [102, 117, 110], [105, 110], [105, 110, 108], [105, 110, 114], [108, 101, 116], [111, 102], [115, 110, 100], [116, 114, 117, 101]]
def wordL (l : List UInt8) : Bool :=
  match l with
  | [] => false
  | c :: t => letterB c && t.all wordB && decide (l.length ≤ 31) && !reservedL.contains l
def word (s : ByteArray) : Bool := wordL s.data.toList

theorem word_size {s : ByteArray} (h : word s = true) : 1 ≤ s.size ∧ s.size ≤ 31 := by
  unfold word wordL at h
  have hs : s.data.toList.length = s.size := by simp
  split at h
  · cases h
  · rename_i c t e
    simp only [Bool.and_eq_true, decide_eq_true_eq] at h
    have h1 := h.1.2
    have h2 := congrArg List.length e
    simp only [List.length_cons] at h2
    rw [hs] at h1 h2
    omega

/-! ### rows -/
def hasB (n : Nat) (i : Int) : Bool := decide (0 ≤ i) && decide (i < (n : Int))

def fits (m : Nat) (n : ND) : Int :=
  if n.kind = 1 then (if n.l ≠ 0 ∨ n.r ≠ 0 then 31 else if word n.name = true then 0 else 32)
  else if n.kind = 2 then (if n.name.size ≠ 0 ∨ n.l ≠ 0 ∨ n.r ≠ 0 then 31 else 0)
  else if n.kind = 3 ∨ n.kind = 4 ∨ n.kind = 5 then (if n.name.size ≠ 0 ∨ hasB m n.l = false ∨ hasB m n.r = false then 31 else 0)
  else 31

structure Put where
  rows : List ND
  id : Int
  err : Int

def put (rows : List ND) (n : ND) : Put :=
  if fits rows.length n ≠ 0 then ⟨rows, 0, fits rows.length n⟩
  else match rows.idxOf? n with
    | some i => ⟨rows, i, 0⟩
    | none => if 1024 ≤ rows.length then ⟨rows, 0, 30⟩ else ⟨rows ++ [n], rows.length, 0⟩

def atomN (s : ByteArray) : ND := ⟨1, s, 0, 0⟩
def botN : ND := ⟨2, ByteArray.empty, 0, 0⟩
def twoN (k l r : Int) : ND := ⟨k, ByteArray.empty, l, r⟩

def notP (rows : List ND) (a : Int) : Put :=
  if hasB rows.length a = false then ⟨rows, 0, 31⟩
  else
    let p := put rows botN
    if p.err ≠ 0 then ⟨p.rows, 0, p.err⟩ else put p.rows (twoN 5 a p.id)

/-- A table's rows. -/
structure Ok (rows : List ND) : Prop where
  le : rows.length ≤ 1024
  nodup : rows.Nodup
  fit : ∀ i n, rows[i]? = some n → fits i n = 0

theorem Ok.nil : Ok [] := ⟨by simp, by simp, by simp⟩

theorem fits_mono {m m' : Nat} {n : ND} (h : fits m n = 0) (hm : m ≤ m') : fits m' n = 0 := by
  unfold fits at *
  split
  · rename_i h1; rw [if_pos h1] at h; exact h
  · rename_i h1
    rw [if_neg h1] at h
    split
    · rename_i h2; rw [if_pos h2] at h; exact h
    · rename_i h2
      rw [if_neg h2] at h
      split
      · rename_i h3
        rw [if_pos h3] at h
        split
        · rename_i h4
          exfalso
          split at h
          · cases h
          · rename_i h5
            simp only [not_or, hasB, Bool.and_eq_false_iff, decide_eq_false_iff_not, not_or, Classical.not_not] at h4 h5
            omega
        · rfl
      · rename_i h3; rw [if_neg h3] at h; cases h

theorem fits_le {m : Nat} {n : ND} (h : fits m n = 0) : n.name.size ≤ 31 ∧ (1 ≤ n.kind ∧ n.kind ≤ 5) ∧ (0 ≤ n.l ∧ (n.l < m ∨ n.l = 0)) ∧ (0 ≤ n.r ∧ (n.r < m ∨ n.r = 0)) := by
  unfold fits at h
  split at h
  · split at h
    · cases h
    · rename_i h1 h2
      split at h
      · rename_i h3
        have := word_size h3
        omega
      · cases h
  · split at h
    · split at h
      · cases h
      · omega
    · split at h
      · split at h
        · cases h
        · rename_i h1 h2 h3 h4
          simp only [not_or, hasB, Bool.and_eq_false_iff, decide_eq_false_iff_not, not_or, Classical.not_not] at h4
          omega
      · cases h

theorem Ok.snoc {rows : List ND} (h : Ok rows) {n : ND} (hf : fits rows.length n = 0) (hn : rows.idxOf? n = none) (hl : ¬ 1024 ≤ rows.length) : Ok (rows ++ [n]) := by
  refine ⟨by simp; omega, ?_, ?_⟩
  · refine List.nodup_append.2 ⟨h.nodup, by simp, ?_⟩
    intro a ha b hb e
    simp only [List.mem_singleton] at hb
    subst hb; subst e
    exact (List.idxOf?_eq_none_iff.1 hn) ha
  · intro i m hi
    rcases Nat.lt_trichotomy i rows.length with h1 | h1 | h1
    · rw [List.getElem?_append_left h1] at hi; exact h.fit i m hi
    · subst h1; simp at hi; subst hi; exact hf
    · rw [List.getElem?_eq_none (by simp; omega)] at hi; cases hi

theorem Ok.put {rows : List ND} (h : Ok rows) (n : ND) : Ok (put rows n).rows := by
  unfold Dk.put
  split
  · exact h
  · rename_i hf
    simp only [Classical.not_not] at hf
    split
    · exact h
    · rename_i hn
      split
      · exact h
      · rename_i hl; exact h.snoc hf hn hl

theorem Ok.take {rows : List ND} (h : Ok rows) (k : Nat) : Ok (rows.take k) := by
  refine ⟨by simp; have := h.le; omega, h.nodup.sublist (List.take_sublist _ _), ?_⟩
  intro i n hi
  rw [List.getElem?_take] at hi
  split at hi
  · exact h.fit i n hi
  · cases hi

theorem put_rows (rows : List ND) (n : ND) : (put rows n).rows = rows ∨ ((put rows n).rows = rows ++ [n] ∧ (put rows n).id = rows.length ∧ (put rows n).err = 0 ∧ fits rows.length n = 0 ∧ n ∉ rows ∧ rows.length < 1024) := by
  unfold put
  split
  · exact .inl rfl
  · rename_i hf
    simp only [Classical.not_not] at hf
    split
    · exact .inl rfl
    · rename_i hn
      split
      · exact .inl rfl
      · rename_i hl; exact .inr ⟨rfl, rfl, rfl, hf, List.idxOf?_eq_none_iff.1 hn, by omega⟩

theorem idxOf?_snoc (rows : List ND) (n x : ND) (hn : rows.idxOf? n = none) : (rows ++ [n]).idxOf? x = if x = n then some rows.length else rows.idxOf? x := by
  have hn' := List.idxOf?_eq_none_iff.1 hn
  unfold List.idxOf?
  rw [List.findIdx?_append]
  by_cases h : x = n
  · subst h
    rw [if_pos rfl]
    have : List.findIdx? (· == x) rows = none := hn
    rw [this]
    simp
  · rw [if_neg h]
    have : List.findIdx? (· == x) [n] = none := by simp [List.findIdx?_cons]; exact fun e => h e.symm
    rw [this]
    simp

/-! ### cutting -/
def cutF (rows : List ND) (n j : Nat) (x : ND) : Option Nat := (rows.idxOf? x).bind fun i => if n ≤ i ∧ i < n + j then none else some i

theorem cutF_zero (rows : List ND) (n : Nat) : cutF rows n 0 = fun x => rows.idxOf? x := by
  funext x
  unfold cutF
  cases rows.idxOf? x with
  | none => rfl
  | some i => simp

theorem idxOf?_get {rows : List ND} (h : rows.Nodup) {i : Nat} {x : ND} (hi : rows[i]? = some x) : rows.idxOf? x = some i := by
  obtain ⟨hl, e⟩ := List.getElem?_eq_some_iff.1 hi
  unfold List.idxOf?
  rw [List.findIdx?_eq_some_iff_getElem]
  refine ⟨hl, by simp [e], ?_⟩
  intro j hj
  simp only [beq_iff_eq]
  intro e2
  have := (List.getElem_inj h (h₀ := by omega) (h₁ := hl)).1 (e2.trans e.symm)
  omega

theorem get_of_idxOf? {rows : List ND} {i : Nat} {x : ND} (h : rows.idxOf? x = some i) : rows[i]? = some x := by
  unfold List.idxOf? at h
  rw [List.findIdx?_eq_some_iff_getElem] at h
  obtain ⟨hl, e, _⟩ := h
  rw [List.getElem?_eq_getElem hl]
  simp only [beq_iff_eq] at e
  rw [e]

theorem cutF_end {rows : List ND} (h : rows.Nodup) (n : Nat) (hn : n ≤ rows.length) : cutF rows n (rows.length - n) = fun x => (rows.take n).idxOf? x := by
  funext x
  unfold cutF
  cases hi : rows.idxOf? x with
  | none =>
    simp only [Option.bind_none]
    refine (List.idxOf?_eq_none_iff.2 fun hm => ?_).symm
    exact (List.idxOf?_eq_none_iff.1 hi) (List.mem_of_mem_take hm)
  | some i =>
    have hg := get_of_idxOf? hi
    have hl := (List.getElem?_eq_some_iff.1 hg).1
    simp only [Option.bind_some]
    by_cases h1 : i < n
    · rw [if_neg (by omega)]
      exact (idxOf?_get (h.sublist (List.take_sublist _ _)) (by rw [List.getElem?_take, if_pos h1]; exact hg)).symm
    · rw [if_pos (by omega)]
      refine (List.idxOf?_eq_none_iff.2 fun hm => ?_).symm
      obtain ⟨j, hj⟩ := List.mem_iff_getElem?.1 hm
      rw [List.getElem?_take] at hj
      split at hj
      · have := idxOf?_get h hj
        rw [hi] at this
        cases this
        omega
      · cases hj


end Go.Dk

/- What lies below a formula: plain. -/
namespace Go.Dk

/-- The rows of which row i is made. -/
inductive Reach (rows : List ND) : Nat → Nat → Prop
  | refl (i : Nat) : Reach rows i i
  | left {i j : Nat} {n : ND} : rows[i]? = some n → 3 ≤ n.kind → Reach rows n.l.toNat j → Reach rows i j
  | right {i j : Nat} {n : ND} : rows[i]? = some n → 3 ≤ n.kind → Reach rows n.r.toNat j → Reach rows i j

theorem Ok.parts {rows : List ND} (h : Ok rows) {i : Nat} {n : ND} (hi : rows[i]? = some n) (hk : 3 ≤ n.kind) : (0 ≤ n.l ∧ n.l < i) ∧ (0 ≤ n.r ∧ n.r < i) := by
  have hf := h.fit i n hi
  unfold fits at hf
  split at hf
  · omega
  · split at hf
    · omega
    · split at hf
      · split at hf
        · cases hf
        · rename_i h1 h2 h3 h4
          simp only [not_or, hasB, Bool.and_eq_false_iff, decide_eq_false_iff_not, not_or, Classical.not_not] at h4
          omega
      · cases hf

theorem Reach.le {rows : List ND} (h : Ok rows) {i j : Nat} (hr : Reach rows i j) : j ≤ i := by
  induction hr with
  | refl => exact Nat.le_refl _
  | left h1 h2 _ ih => have := h.parts h1 h2; omega
  | right h1 h2 _ ih => have := h.parts h1 h2; omega

theorem Reach.trans {rows : List ND} {i j k : Nat} (h1 : Reach rows i j) (h2 : Reach rows j k) : Reach rows i k := by
  induction h1 with
  | refl => exact h2
  | left a b _ ih => exact .left a b (ih h2)
  | right a b _ ih => exact .right a b (ih h2)

open Classical in
noncomputable def below (rows : List ND) (i : Nat) : List Nat := (List.range (i + 1)).filter fun j => decide (Reach rows i j)

theorem mem_below {rows : List ND} (h : Ok rows) {i j : Nat} : j ∈ below rows i ↔ Reach rows i j := by
  unfold below
  simp only [List.mem_filter, List.mem_range, decide_eq_true_eq]
  exact ⟨fun h => h.2, fun hr => ⟨Nat.lt_succ_of_le (hr.le h), hr⟩⟩

theorem below_pairwise (rows : List ND) (i : Nat) : (below rows i).Pairwise (· < ·) := by
  unfold below
  exact List.Pairwise.filter _ List.pairwise_lt_range

theorem below_le (rows : List ND) (i : Nat) : (below rows i).length ≤ i + 1 := by
  unfold below
  exact Nat.le_trans (List.length_filter_le _ _) (by simp)

def natInts (l : List Nat) : List Int := l.map Int.ofNat

/-- Whatever collects the same numbers, each once, sorts to the rising list. -/
theorem sort_below {rows : List ND} (h : Ok rows) {i : Nat} {l : List Nat} (hd : l.Nodup) (hm : ∀ j, j ∈ l ↔ Reach rows i j) : (natInts l).mergeSort (fun x y => decide (x ≤ y)) = natInts (below rows i) := by
  have hp : l.Perm (below rows i) := by
    refine (List.perm_ext_iff_of_nodup hd ((below_pairwise rows i).imp (fun h => Nat.ne_of_lt h))).2 fun j => ?_
    rw [hm, mem_below h]
  have hp' : ((natInts l).mergeSort (fun x y => decide (x ≤ y))).Perm (natInts (below rows i)) := (List.mergeSort_perm _ _).trans (hp.map Int.ofNat)
  refine List.Perm.eq_of_pairwise (le := fun x y : Int => x ≤ y) (fun a b _ _ h1 h2 => Int.le_antisymm h1 h2) ?_ ?_ hp'
  · have := List.pairwise_mergeSort (le := fun x y : Int => decide (x ≤ y)) (fun a b c h1 h2 => by simp at *; omega) (fun a b => by simp; omega) (natInts l)
    exact this.imp (fun h => by simpa using h)
  · unfold natInts
    rw [List.pairwise_map]
    exact (below_pairwise rows i).imp (fun h => by simp; omega)


end Go.Dk

/- The order of rows of numbers: written down falling, compared word by word; plain lemmas. -/
namespace Go.Dk

def ltL : List Int → List Int → Bool
  | [], [] => false
  | [], _ :: _ => true
  | _ :: _, [] => false
  | x :: xs, y :: ys => decide (x < y) || (decide (x = y) && ltL xs ys)

/-- cmp.Compare's and slices.Compare's answer. -/
def cmpL : List Int → List Int → Int
  | [], [] => 0
  | [], _ :: _ => -1
  | _ :: _, [] => 1
  | x :: xs, y :: ys => if x < y then -1 else if y < x then 1 else cmpL xs ys

theorem cmpL_lt (xs ys : List Int) : decide (cmpL xs ys < 0) = ltL xs ys := by
  induction xs generalizing ys with
  | nil => cases ys <;> simp [cmpL, ltL]
  | cons x xs ih =>
    cases ys with
    | nil => simp [cmpL, ltL]
    | cons y ys =>
      simp only [cmpL, ltL]
      by_cases h1 : x < y
      · simp [h1]
      · by_cases h2 : y < x
        · have : ¬ x = y := by omega
          simp [h1, h2, this]
        · have : x = y := by omega
          subst this
          simp [ih]

theorem ltL_irrefl (xs : List Int) : ltL xs xs = false := by
  induction xs with
  | nil => rfl
  | cons x xs ih => simp [ltL, ih]

theorem ltL_asymm {xs ys : List Int} (h : ltL xs ys = true) : ltL ys xs = false := by
  induction xs generalizing ys with
  | nil => cases ys with
    | nil => simp [ltL] at h
    | cons y ys => rfl
  | cons x xs ih =>
    cases ys with
    | nil => simp [ltL] at h
    | cons y ys =>
      simp only [ltL, Bool.or_eq_true, Bool.and_eq_true, decide_eq_true_eq] at h
      rcases h with h | ⟨rfl, h⟩
      · have h1 : ¬ y < x := by omega
        have h2 : ¬ y = x := by omega
        simp [ltL, h1, h2]
      · simp [ltL, ih h]

theorem ltL_trans {xs ys zs : List Int} (h : ltL xs ys = true) (g : ltL ys zs = true) : ltL xs zs = true := by
  induction xs generalizing ys zs with
  | nil =>
    cases ys with
    | nil => simp [ltL] at h
    | cons y ys =>
      cases zs with
      | nil => simp [ltL] at g
      | cons z zs => rfl
  | cons x xs ih =>
    cases ys with
    | nil => simp [ltL] at h
    | cons y ys =>
      cases zs with
      | nil => simp [ltL] at g
      | cons z zs =>
        simp only [ltL, Bool.or_eq_true, Bool.and_eq_true, decide_eq_true_eq] at h g ⊢
        rcases h with h | ⟨rfl, h⟩
        · rcases g with g | ⟨rfl, g⟩
          · exact .inl (by omega)
          · exact .inl h
        · rcases g with g | ⟨rfl, g⟩
          · exact .inl g
          · exact .inr ⟨rfl, ih h g⟩

theorem ltL_total {xs ys : List Int} (h : ltL xs ys = false) (g : ltL ys xs = false) : xs = ys := by
  induction xs generalizing ys with
  | nil => cases ys with
    | nil => rfl
    | cons y ys => simp [ltL] at h
  | cons x xs ih =>
    cases ys with
    | nil => simp [ltL] at g
    | cons y ys =>
      simp only [ltL, Bool.or_eq_false_iff, Bool.and_eq_false_iff, decide_eq_false_iff_not] at h g
      have e : x = y := by omega
      subst e
      rw [ih (by rcases h.2 with h | h <;> first | exact absurd rfl h | exact h) (by rcases g.2 with h | h <;> first | exact absurd rfl h | exact h)]

/-! ### written down falling -/
def fall (xs : List Int) : List Int := (xs.mergeSort fun x y => decide (x ≤ y)).reverse
theorem fall_length (xs : List Int) : (fall xs).length = xs.length := by simp [fall, List.length_mergeSort]
theorem fall_perm (xs : List Int) : (fall xs).Perm xs := (List.reverse_perm _).trans (List.mergeSort_perm _ _)
theorem fall_pairwise (xs : List Int) : (fall xs).Pairwise (fun x y => y ≤ x) := by
  unfold fall
  rw [List.pairwise_reverse]
  have := List.pairwise_mergeSort (le := fun x y : Int => decide (x ≤ y)) (fun a b c h1 h2 => by simp at *; omega) (fun a b => by simp; omega) xs
  exact this.imp (fun h => by simpa using h)
theorem fall_unique {xs ys : List Int} (hp : ys.Perm xs) (hs : ys.Pairwise (fun x y => y ≤ x)) : ys = fall xs :=
  List.Perm.eq_of_pairwise (le := fun x y : Int => y ≤ x) (fun _ _ _ _ h1 h2 => Int.le_antisymm h2 h1) hs (fall_pairwise xs) (hp.trans (fall_perm xs).symm)
theorem fall_perm_eq {xs ys : List Int} (hp : xs.Perm ys) : fall xs = fall ys := fall_unique ((fall_perm xs).trans hp) (fall_pairwise xs)

/-- What Less answers. -/
def lessL (a b : List Int) : Bool := ltL (fall a) (fall b)

theorem lessL_irrefl (a : List Int) : lessL a a = false := ltL_irrefl _
theorem lessL_asymm {a b : List Int} (h : lessL a b = true) : lessL b a = false := ltL_asymm h
theorem lessL_trans {a b c : List Int} (h : lessL a b = true) (g : lessL b c = true) : lessL a c = true := ltL_trans h g
theorem lessL_perm {a b : List Int} (h : a.Perm b) : lessL a b = false := by unfold lessL; rw [fall_perm_eq h]; exact ltL_irrefl _
theorem lessL_total {a b : List Int} (h : lessL a b = false) (g : lessL b a = false) : a.Perm b := by
  have := ltL_total h g
  exact (fall_perm a).symm.trans ((this ▸ List.Perm.refl _ : (fall a).Perm (fall b)).trans (fall_perm b))

/-! ### insertion makes greater -/
def ins (z : Int) : List Int → List Int
  | [] => [z]
  | x :: xs => if z ≤ x then x :: ins z xs else z :: x :: xs
theorem ins_perm (z : Int) (xs : List Int) : (ins z xs).Perm (z :: xs) := by
  induction xs with
  | nil => exact List.Perm.refl _
  | cons x xs ih =>
    unfold ins
    split
    · exact (ih.cons x).trans (List.Perm.swap _ _ _)
    · exact List.Perm.refl _
theorem ins_pairwise (z : Int) (xs : List Int) (h : xs.Pairwise (fun x y => y ≤ x)) : (ins z xs).Pairwise (fun x y => y ≤ x) := by
  induction xs with
  | nil => simp [ins]
  | cons x xs ih =>
    have h' := List.pairwise_cons.1 h
    unfold ins
    split
    · rename_i hz
      refine List.pairwise_cons.2 ⟨fun y hy => ?_, ih h'.2⟩
      rcases List.mem_cons.1 ((ins_perm z xs).mem_iff.1 hy) with rfl | hy
      · exact hz
      · exact h'.1 y hy
    · rename_i hz
      refine List.pairwise_cons.2 ⟨fun y hy => ?_, h⟩
      rcases List.mem_cons.1 hy with rfl | hy
      · omega
      · have := h'.1 y hy; omega
theorem ltL_ins (z : Int) (xs : List Int) : ltL xs (ins z xs) = true := by
  induction xs with
  | nil => rfl
  | cons x xs ih =>
    unfold ins
    split
    · simp [ltL, ih]
    · rename_i hz
      have : x < z := by omega
      simp [ltL, this]
theorem lessL_snoc (a : List Int) (z : Int) : lessL a (a ++ [z]) = true := by
  unfold lessL
  have : fall (a ++ [z]) = ins z (fall a) := by
    refine (fall_unique ?_ (ins_pairwise z _ (fall_pairwise a))).symm
    exact (ins_perm z _).trans ((List.Perm.cons z (fall_perm a)).trans (List.perm_append_singleton z a).symm)
  rw [this]
  exact ltL_ins z _

/-! ### alike -/
theorem perm_of_counts : ∀ (a b : List Int), a.length = b.length → (∀ x ∈ a, a.count x = b.count x) → a.Perm b
  | [], b, hl, _ => by
    have : b = [] := List.eq_nil_of_length_eq_zero hl.symm
    subst this; exact List.Perm.refl _
  | x :: a, b, hl, h => by
    have hx : x ∈ b := by
      have := h x (by simp)
      rw [List.count_cons_self] at this
      exact List.count_pos_iff.1 (by omega)
    have hb := List.perm_cons_erase hx
    refine (List.Perm.cons x (perm_of_counts a (b.erase x) ?_ ?_)).trans hb.symm
    · have := hb.length_eq
      simp only [List.length_cons] at this hl
      omega
    · intro y hy
      have h1 := h y (List.mem_cons_of_mem _ hy)
      rw [hb.count_eq] at h1
      simp only [List.count_cons] at h1
      omega

/-- What alike answers. -/
def alikeL (a b : List Int) : Bool := decide (a.length = b.length) && a.all fun x => a.count x == b.count x
theorem alikeL_iff (a b : List Int) : alikeL a b = true ↔ a.Perm b := by
  unfold alikeL
  simp only [Bool.and_eq_true, decide_eq_true_eq, List.all_eq_true, beq_iff_eq]
  constructor
  · rintro ⟨h1, h2⟩; exact perm_of_counts a b h1 h2
  · intro h; exact ⟨h.length_eq, fun x _ => h.count_eq x⟩


end Go.Dk

/- What layer 6 reckons of a table's rows, row by row; plain. -/
namespace Go.Dk

def MC : Int := 1099511627776

section
variable {α : Type} [Inhabited α]
/-- A number of each row, of its parts' numbers. -/
def foldL (of : ND → α → α → α) : List ND → List α → List α
  | [], acc => acc
  | n :: t, acc => foldL of t (acc ++ [of n (acc.getD n.l.toNat default) (acc.getD n.r.toNat default)])
def vals (of : ND → α → α → α) (rows : List ND) : List α := foldL of rows []

theorem foldL_snoc (of : ND → α → α → α) (rows : List ND) (n : ND) (acc : List α) :
    foldL of (rows ++ [n]) acc = foldL of rows acc ++ [of n ((foldL of rows acc).getD n.l.toNat default) ((foldL of rows acc).getD n.r.toNat default)] := by
  induction rows generalizing acc with
  | nil => rfl
  | cons a t ih => simp only [List.cons_append, foldL, ih]
theorem vals_snoc (of : ND → α → α → α) (rows : List ND) (n : ND) : vals of (rows ++ [n]) = vals of rows ++ [of n ((vals of rows).getD n.l.toNat default) ((vals of rows).getD n.r.toNat default)] := foldL_snoc _ _ _ _
theorem foldL_length (of : ND → α → α → α) (rows : List ND) (acc : List α) : (foldL of rows acc).length = acc.length + rows.length := by
  induction rows generalizing acc with
  | nil => simp [foldL]
  | cons a t ih => simp only [foldL, ih]; simp; omega
theorem vals_length (of : ND → α → α → α) (rows : List ND) : (vals of rows).length = rows.length := by simp [vals, foldL_length]
theorem vals_take (of : ND → α → α → α) (rows : List ND) (j : Nat) : vals of (rows.take j) = (vals of rows).take j := by
  induction j with
  | zero => simp [vals, foldL]
  | succ j ih =>
    by_cases h : j < rows.length
    · rw [List.take_succ_eq_append_getElem h, vals_snoc, ih]
      have hs : ∀ m, (vals of (rows.take (j + 1) ++ rows.drop (j + 1))).take m = (vals of rows).take m := by simp
      clear hs
      have key : ∀ (t : List ND) (acc : List α), ∃ s, foldL of t acc = acc ++ s := by
        intro t
        induction t with
        | nil => intro acc; exact ⟨[], by simp [foldL]⟩
        | cons a t ih => intro acc; obtain ⟨s, hs⟩ := ih (acc ++ [of a (acc.getD a.l.toNat default) (acc.getD a.r.toNat default)]); exact ⟨[of a (acc.getD a.l.toNat default) (acc.getD a.r.toNat default)] ++ s, by rw [foldL, hs, List.append_assoc]⟩
      have app : ∀ (a b : List ND) (acc : List α), foldL of (a ++ b) acc = foldL of b (foldL of a acc) := by
        intro a
        induction a with
        | nil => intro b acc; rfl
        | cons x a ih => intro b acc; simp only [List.cons_append, foldL, ih]
      have e1 : vals of rows = foldL of (rows.drop (j + 1)) (vals of (rows.take (j + 1))) := by
        unfold vals; rw [← app, List.take_append_drop]
      obtain ⟨s, hs⟩ := key (rows.drop (j + 1)) (vals of (rows.take (j + 1)))
      rw [hs] at e1
      have hl : (vals of (rows.take (j + 1))).length = j + 1 := by rw [vals_length]; simp; omega
      have e2 : (vals of rows).take (j + 1) = vals of (rows.take (j + 1)) := by rw [e1, List.take_append_of_le_length (by omega), List.take_of_length_le (by omega)]
      rw [e2, List.take_succ_eq_append_getElem h, vals_snoc, ih]
    · rw [List.take_of_length_le (by omega), List.take_of_length_le (by rw [vals_length]; omega)]

/-- A row's number. -/
def val (of : ND → α → α → α) (rows : List ND) (i : Nat) : α := (vals of rows).getD i default

theorem vals_get (of : ND → α → α → α) (rows : List ND) {i : Nat} {n : ND} (hi : rows[i]? = some n) :
    (vals of rows)[i]? = some (of n (((vals of rows).take i).getD n.l.toNat default) (((vals of rows).take i).getD n.r.toNat default)) := by
  have hl := (List.getElem?_eq_some_iff.1 hi).1
  have h1 : (vals of rows).take (i + 1) = vals of (rows.take (i + 1)) := (vals_take _ _ _).symm
  rw [List.take_succ_eq_append_getElem hl, vals_snoc, vals_take] at h1
  have h2 : ((vals of rows).take (i + 1))[i]? = (vals of rows)[i]? := by simp
  rw [← h2, h1]
  have hlen : ((vals of rows).take i).length = i := by rw [List.length_take, vals_length]; omega
  rw [List.getElem?_append_right (by omega), hlen]
  have : rows[i] = n := (List.getElem?_eq_some_iff.1 hi).2
  simp [this]

theorem getD_take {l : List α} {i j : Nat} (h : j < i) : (l.take i).getD j default = l.getD j default := by
  simp [List.getD, h]

/-- A row with parts: its number, of its parts' own numbers. -/
theorem val_two {of : ND → α → α → α} {rows : List ND} (ok : Ok rows) {i : Nat} {n : ND} (hi : rows[i]? = some n) (hk : 3 ≤ n.kind) : val of rows i = of n (val of rows n.l.toNat) (val of rows n.r.toNat) := by
  have := vals_get of rows hi
  obtain ⟨h1, h2⟩ := ok.parts hi hk
  unfold val
  rw [List.getD, this, Option.getD_some, getD_take (by omega), getD_take (by omega)]
theorem val_one {of : ND → α → α → α} {rows : List ND} (ho : ∀ n l r l' r', n.kind < 3 → of n l r = of n l' r') {i : Nat} {n : ND} (hi : rows[i]? = some n) (hk : n.kind < 3) (x y : α) : val of rows i = of n x y := by
  have := vals_get of rows hi
  unfold val
  rw [List.getD, this, Option.getD_some]; exact ho _ _ _ _ _ hk

/-- By induction over rows. -/
theorem val_ind {of : ND → α → α → α} {rows : List ND} (ok : Ok rows) (ho : ∀ n l r l' r', n.kind < 3 → of n l r = of n l' r') (P : Nat → α → Prop)
    (h1 : ∀ i n l r, rows[i]? = some n → n.kind < 3 → P i (of n l r)) (h2 : ∀ i n l r, rows[i]? = some n → 3 ≤ n.kind → n.l.toNat < i → n.r.toNat < i → P n.l.toNat l → P n.r.toNat r → P i (of n l r)) (i : Nat) (hi : i < rows.length) : P i (val of rows i) := by
  induction i using Nat.strongRecOn with
  | _ i ih =>
    have hn : rows[i]? = some rows[i] := List.getElem?_eq_getElem hi
    by_cases hk : 3 ≤ rows[i].kind
    · obtain ⟨p1, p2⟩ := ok.parts hn hk
      rw [val_two ok hn hk]
      exact h2 i _ _ _ hn hk (by omega) (by omega) (ih _ (by omega) (by omega)) (ih _ (by omega) (by omega))
    · rw [val_one ho hn (by omega) default default]
      exact h1 i _ _ _ hn (by omega)


end


/-! ### the four -/
def capI (x : Int) : Int := if MC < x then MC else x
def sizeOf (n : ND) (l r : Int) : Int := if n.kind < 3 then 1 else capI (1 + l + r)
def depthOf (n : ND) (l r : Int) : Int := if n.kind < 3 then 0 else 1 + max l r
def weightOf (n : ND) (l r : Int) : Int := if n.kind < 3 then 1 else if n.kind = 3 then capI (2 + l + r) else capI (1 + l + r)
def gradeOf (n : ND) (l r : Int) : Int := if n.kind < 3 then 0 else if n.kind = 5 then max (1 + l) r else max l r

theorem size_one (n : ND) (l r l' r' : Int) (h : n.kind < 3) : sizeOf n l r = sizeOf n l' r' := by simp [sizeOf, h]
theorem depth_one (n : ND) (l r l' r' : Int) (h : n.kind < 3) : depthOf n l r = depthOf n l' r' := by simp [depthOf, h]
theorem weight_one (n : ND) (l r l' r' : Int) (h : n.kind < 3) : weightOf n l r = weightOf n l' r' := by simp [weightOf, h]
theorem grade_one (n : ND) (l r l' r' : Int) (h : n.kind < 3) : gradeOf n l r = gradeOf n l' r' := by simp [gradeOf, h]

theorem size_two {n : ND} (h : 3 ≤ n.kind) (l r : Int) : sizeOf n l r = capI (1 + l + r) := by unfold sizeOf; rw [if_neg (by omega)]
theorem weight_two {n : ND} (h : 3 ≤ n.kind) (l r : Int) : weightOf n l r = capI ((if n.kind = 3 then 2 else 1) + l + r) := by unfold weightOf; rw [if_neg (by omega)]; split <;> rfl
theorem capI_le (x : Int) : capI x ≤ MC := by unfold capI; split <;> omega
theorem capI_lo (x y : Int) (h : y ≤ x) (h2 : y ≤ MC) : y ≤ capI x := by unfold capI; split <;> omega
theorem capI_of {x : Int} (h : x ≤ MC) : capI x = x := by unfold capI; rw [if_neg (by omega)]

theorem size_bd {rows : List ND} (ok : Ok rows) (i : Nat) (hi : i < rows.length) : 1 ≤ val sizeOf rows i ∧ val sizeOf rows i ≤ MC :=
  val_ind ok size_one (fun _ v => 1 ≤ v ∧ v ≤ MC) (fun _ n _ _ _ h => by simp [sizeOf, h, MC]) (fun _ n l r _ h _ _ h1 h2 => by
    unfold sizeOf; rw [if_neg (by omega)]; exact ⟨capI_lo _ _ (by omega) (by unfold MC; omega), capI_le _⟩) i hi
theorem weight_bd {rows : List ND} (ok : Ok rows) (i : Nat) (hi : i < rows.length) : 1 ≤ val weightOf rows i ∧ val weightOf rows i ≤ MC :=
  val_ind ok weight_one (fun _ v => 1 ≤ v ∧ v ≤ MC) (fun _ n _ _ _ h => by simp [weightOf, h, MC]) (fun _ n l r _ h _ _ h1 h2 => by
    unfold weightOf; rw [if_neg (by omega)]; split <;> exact ⟨capI_lo _ _ (by omega) (by unfold MC; omega), capI_le _⟩) i hi
theorem depth_bd {rows : List ND} (ok : Ok rows) (i : Nat) (hi : i < rows.length) : 0 ≤ val depthOf rows i ∧ val depthOf rows i ≤ i :=
  val_ind ok depth_one (fun i v => 0 ≤ v ∧ v ≤ (i : Int)) (fun i n _ _ _ h => by simp [depthOf, h]) (fun i n l r _ h a b h1 h2 => by
    unfold depthOf; rw [if_neg (by omega)]; omega) i hi
theorem grade_bd {rows : List ND} (ok : Ok rows) (i : Nat) (hi : i < rows.length) : 0 ≤ val gradeOf rows i ∧ val gradeOf rows i ≤ i :=
  val_ind ok grade_one (fun i v => 0 ≤ v ∧ v ≤ (i : Int)) (fun i n _ _ _ h => by simp [gradeOf, h]) (fun i n l r _ h a b h1 h2 => by
    unfold gradeOf; rw [if_neg (by omega)]; split <;> omega) i hi

/-- A size is at most the weight. -/
theorem size_weight {rows : List ND} (ok : Ok rows) (i : Nat) (hi : i < rows.length) : val sizeOf rows i ≤ val weightOf rows i := by
  induction i using Nat.strongRecOn with
  | _ i ih =>
    have hn : rows[i]? = some rows[i] := List.getElem?_eq_getElem hi
    by_cases hk : 3 ≤ rows[i].kind
    · obtain ⟨p1, p2⟩ := ok.parts hn hk
      rw [val_two ok hn hk, val_two ok hn hk]
      have h1 := ih rows[i].l.toNat (by omega) (by omega)
      have h2 := ih rows[i].r.toNat (by omega) (by omega)
      rw [size_two hk, weight_two hk]
      split <;> (unfold capI; split <;> split <;> omega)
    · rw [val_one size_one hn (by omega) 0 0, val_one weight_one hn (by omega) 0 0]
      have h3 : rows[i].kind < 3 := by omega
      simp [sizeOf, weightOf, h3]

/-- A part weighs less, where counts do not end. -/
theorem weight_parts {rows : List ND} (ok : Ok rows) {i : Nat} {n : ND} (hi : rows[i]? = some n) (hk : 3 ≤ n.kind) (hw : val weightOf rows i < MC) :
    val weightOf rows n.l.toNat < val weightOf rows i ∧ val weightOf rows n.r.toNat < val weightOf rows i := by
  have hl := (List.getElem?_eq_some_iff.1 hi).1
  obtain ⟨p1, p2⟩ := ok.parts hi hk
  have b1 := weight_bd ok n.l.toNat (by omega)
  have b2 := weight_bd ok n.r.toNat (by omega)
  rw [val_two ok hi hk, weight_two hk] at hw ⊢
  unfold capI at hw ⊢
  split at hw
  · omega
  · rename_i h4
    rw [if_neg h4]
    split <;> omega
theorem weight_below {rows : List ND} (ok : Ok rows) {i j : Nat} (h : Reach rows i j) (hi : i < rows.length) (hw : val weightOf rows i < MC) : j = i ∨ val weightOf rows j < val weightOf rows i := by
  induction h with
  | refl => exact .inl rfl
  | left h1 h2 h3 ih =>
    obtain ⟨p1, p2⟩ := ok.parts h1 h2
    have := (weight_parts ok h1 h2 hw).1
    right
    rcases ih (by omega) (by omega) with rfl | h
    · exact this
    · omega
  | right h1 h2 h3 ih =>
    obtain ⟨p1, p2⟩ := ok.parts h1 h2
    have := (weight_parts ok h1 h2 hw).2
    right
    rcases ih (by omega) (by omega) with rfl | h
    · exact this
    · omega


end Go.Dk

/- How often each row stands in one, positively and negatively; plain. -/
namespace Go.Dk

abbrev Cnt := Nat → Int × Int
def addC (f : Cnt) (x : Nat) (p n : Int) : Cnt := fun y => if y = x then (capI ((f x).1 + p), capI ((f x).2 + n)) else f y
def stepC (n : ND) (i : Nat) (f : Cnt) : Cnt :=
  if n.kind < 3 then f
  else addC (if n.kind = 5 then addC f n.l.toNat (f i).2 (f i).1 else addC f n.l.toNat (f i).1 (f i).2) n.r.toNat (f i).1 (f i).2
def rowAt (rows : List ND) (i : Nat) : ND := rows.getD i ⟨0, ByteArray.empty, 0, 0⟩
/-- When k rows have been gone through, from row id down. -/
def occ (rows : List ND) (id : Nat) : Nat → Cnt
  | 0 => fun x => if x = id then (1, 0) else (0, 0)
  | k + 1 => stepC (rowAt rows (id - k)) (id - k) (occ rows id k)

theorem rowAt_of {rows : List ND} {i : Nat} {n : ND} (h : rows[i]? = some n) : rowAt rows i = n := by simp [rowAt, List.getD, h]
theorem rowAt_get {rows : List ND} {i : Nat} (h : i < rows.length) : rows[i]? = some (rowAt rows i) := by simp [rowAt, List.getD, List.getElem?_eq_getElem h]

structure CIn (f : Cnt) : Prop where
  lo1 : ∀ x, 0 ≤ (f x).1
  lo2 : ∀ x, 0 ≤ (f x).2
  hi1 : ∀ x, (f x).1 ≤ MC
  hi2 : ∀ x, (f x).2 ≤ MC

theorem CIn.add {f : Cnt} (h : CIn f) (x : Nat) {p n : Int} (hp : 0 ≤ p) (hn : 0 ≤ n) : CIn (addC f x p n) := by
  have a := h.lo1 x
  have b := h.lo2 x
  refine ⟨fun y => ?_, fun y => ?_, fun y => ?_, fun y => ?_⟩ <;> unfold addC <;> split
  · exact capI_lo _ _ (by omega) (by unfold MC; omega)
  · exact h.lo1 y
  · exact capI_lo _ _ (by omega) (by unfold MC; omega)
  · exact h.lo2 y
  · exact capI_le _
  · exact h.hi1 y
  · exact capI_le _
  · exact h.hi2 y
theorem CIn.step {f : Cnt} (h : CIn f) (n : ND) (i : Nat) : CIn (stepC n i f) := by
  unfold stepC
  split
  · exact h
  · split
    · exact (h.add _ (h.lo2 i) (h.lo1 i)).add _ (h.lo1 i) (h.lo2 i)
    · exact (h.add _ (h.lo1 i) (h.lo2 i)).add _ (h.lo1 i) (h.lo2 i)
theorem occ_in (rows : List ND) (id k : Nat) : CIn (occ rows id k) := by
  induction k with
  | zero =>
    refine ⟨fun y => ?_, fun y => ?_, fun y => ?_, fun y => ?_⟩ <;> simp only [occ] <;> split <;> simp [MC]
  | succ k ih => exact ih.step _ _

def tot (f : Cnt) (x : Nat) : Int := (f x).1 + (f x).2

theorem add_mono {f : Cnt} (h : CIn f) (x : Nat) {p n : Int} (hp : 0 ≤ p) (hn : 0 ≤ n) (y : Nat) : (f y).1 ≤ (addC f x p n y).1 ∧ (f y).2 ≤ (addC f x p n y).2 := by
  unfold addC
  split
  · rename_i e
    subst e
    exact ⟨capI_lo _ _ (by omega) (h.hi1 y), capI_lo _ _ (by omega) (h.hi2 y)⟩
  · exact ⟨Int.le_refl _, Int.le_refl _⟩
theorem step_mono {f : Cnt} (h : CIn f) (n : ND) (i y : Nat) : (f y).1 ≤ (stepC n i f y).1 ∧ (f y).2 ≤ (stepC n i f y).2 := by
  unfold stepC
  split
  · exact ⟨Int.le_refl _, Int.le_refl _⟩
  · split
    · have a := add_mono h n.l.toNat (h.lo2 i) (h.lo1 i) y
      have b := add_mono (h.add n.l.toNat (h.lo2 i) (h.lo1 i)) n.r.toNat (h.lo1 i) (h.lo2 i) y
      exact ⟨Int.le_trans a.1 b.1, Int.le_trans a.2 b.2⟩
    · have a := add_mono h n.l.toNat (h.lo1 i) (h.lo2 i) y
      have b := add_mono (h.add n.l.toNat (h.lo1 i) (h.lo2 i)) n.r.toNat (h.lo1 i) (h.lo2 i) y
      exact ⟨Int.le_trans a.1 b.1, Int.le_trans a.2 b.2⟩
theorem occ_mono (rows : List ND) (id : Nat) {k k' : Nat} (h : k ≤ k') (y : Nat) : (occ rows id k y).1 ≤ (occ rows id k' y).1 ∧ (occ rows id k y).2 ≤ (occ rows id k' y).2 := by
  induction k' with
  | zero =>
    have : k = 0 := by omega
    subst this; exact ⟨Int.le_refl _, Int.le_refl _⟩
  | succ k' ih =>
    by_cases e : k = k' + 1
    · subst e; exact ⟨Int.le_refl _, Int.le_refl _⟩
    · have a := ih (by omega)
      have b := step_mono (occ_in rows id k') (rowAt rows (id - k')) (id - k') y
      exact ⟨Int.le_trans a.1 b.1, Int.le_trans a.2 b.2⟩
theorem tot_mono (rows : List ND) (id : Nat) {k k' : Nat} (h : k ≤ k') (y : Nat) : tot (occ rows id k) y ≤ tot (occ rows id k') y := by
  have := occ_mono rows id h y; unfold tot; omega

/-- Nothing there, nothing added. -/
theorem add_zero {f : Cnt} (h : CIn f) (x : Nat) : addC f x 0 0 = f := by
  funext y
  unfold addC
  split
  · rename_i e
    subst e
    rw [Int.add_zero, Int.add_zero, capI_of (h.hi1 y), capI_of (h.hi2 y)]
  · rfl
theorem step_zero {f : Cnt} (h : CIn f) {n : ND} {i : Nat} (hz : tot f i = 0) : stepC n i f = f := by
  have a := h.lo1 i
  have b := h.lo2 i
  unfold tot at hz
  have e1 : (f i).1 = 0 := by omega
  have e2 : (f i).2 = 0 := by omega
  unfold stepC
  rw [e1, e2]
  split
  · rfl
  · simp only [ite_self]
    rw [add_zero h, add_zero h]
theorem step_leaf {f : Cnt} {n : ND} {i : Nat} (hk : n.kind < 3) : stepC n i f = f := by unfold stepC; rw [if_pos hk]

/-- A step changes the parts' counts alone. -/
theorem add_other {f : Cnt} {x y : Nat} {p n : Int} (h : y ≠ x) : addC f x p n y = f y := by unfold addC; rw [if_neg h]
theorem step_other {f : Cnt} {n : ND} {i y : Nat} (h1 : y ≠ n.l.toNat) (h2 : y ≠ n.r.toNat) : stepC n i f y = f y := by
  unfold stepC
  split
  · rfl
  · rw [add_other h2]
    split <;> exact add_other h1

/-- From its own turn on a row's count stays. -/
theorem occ_stays {rows : List ND} (ok : Ok rows) {id x k : Nat} (hid : id < rows.length) (hx : x ≤ id) (hk : id - x ≤ k) (hk2 : k ≤ id + 1) : occ rows id k x = occ rows id (id - x) x := by
  induction k with
  | zero =>
    have : id - x = 0 := by omega
    rw [this]
  | succ k ih =>
    by_cases e : id - x = k + 1
    · rw [e]
    · rw [← ih (by omega) (by omega)]
      by_cases hkd : 3 ≤ (rowAt rows (id - k)).kind
      · obtain ⟨p1, p2⟩ := ok.parts (rowAt_get (i := id - k) (by omega)) hkd
        exact step_other (by omega) (by omega)
      · show stepC _ _ _ x = _
        rw [step_leaf (by omega)]

/-- What is counted is reached. -/
theorem reach_snoc {rows : List ND} {i j : Nat} (h : Reach rows i j) {n : ND} (hj : rows[j]? = some n) (hk : 3 ≤ n.kind) : Reach rows i n.l.toNat ∧ Reach rows i n.r.toNat :=
  ⟨h.trans (.left hj hk (.refl _)), h.trans (.right hj hk (.refl _))⟩
theorem tot_of_zero (f : Cnt) (x : Nat) (h : f x = (0, 0)) : tot f x = 0 := by simp [tot, h]
theorem occ_reach {rows : List ND} {id k x : Nat} (hid : id < rows.length) (hk : k ≤ id + 1) (h : tot (occ rows id k) x ≠ 0) : Reach rows id x := by
  induction k generalizing x with
  | zero =>
    by_cases e : x = id
    · subst e; exact .refl _
    · exact absurd (tot_of_zero _ _ (by simp [occ, e])) h
  | succ k ih =>
    by_cases hx : tot (occ rows id k) x = 0
    · by_cases hi : tot (occ rows id k) (id - k) = 0
      · have : occ rows id (k + 1) = occ rows id k := step_zero (occ_in rows id k) hi
        rw [this] at h; exact absurd hx h
      · have hr := ih (by omega) hi
        have hn := rowAt_get (rows := rows) (i := id - k) (by omega)
        by_cases hkd : 3 ≤ (rowAt rows (id - k)).kind
        · obtain ⟨r1, r2⟩ := reach_snoc hr hn hkd
          by_cases e1 : x = (rowAt rows (id - k)).l.toNat
          · rw [e1]; exact r1
          · by_cases e2 : x = (rowAt rows (id - k)).r.toNat
            · rw [e2]; exact r2
            · have : occ rows id (k + 1) x = occ rows id k x := step_other e1 e2
              unfold tot at h hx; rw [this] at h; exact absurd hx h
        · have : occ rows id (k + 1) = occ rows id k := step_leaf (by omega)
          rw [this] at h; exact absurd hx h
    · exact ih (by omega) hx

/-- What is reached is counted. -/
theorem add_pos {f : Cnt} (h : CIn f) (x : Nat) {p n : Int} (hp : 0 ≤ p) (hn : 0 ≤ n) (ht : 0 < p + n) : 0 < tot (addC f x p n) x := by
  have a := h.lo1 x
  have b := h.lo2 x
  unfold tot addC
  rw [if_pos rfl]
  show 0 < capI _ + capI _
  unfold capI MC
  split <;> split <;> omega
theorem step_pos {f : Cnt} (h : CIn f) {n : ND} {i : Nat} (hk : 3 ≤ n.kind) (ht : 0 < tot f i) : 0 < tot (stepC n i f) n.l.toNat ∧ 0 < tot (stepC n i f) n.r.toNat := by
  unfold tot at ht
  unfold stepC
  rw [if_neg (by omega)]
  split
  · refine ⟨?_, add_pos (h.add _ (h.lo2 i) (h.lo1 i)) _ (h.lo1 i) (h.lo2 i) ht⟩
    have a := add_pos h n.l.toNat (h.lo2 i) (h.lo1 i) (by omega)
    have b := add_mono (h.add n.l.toNat (h.lo2 i) (h.lo1 i)) n.r.toNat (h.lo1 i) (h.lo2 i) n.l.toNat
    unfold tot at a ⊢; omega
  · refine ⟨?_, add_pos (h.add _ (h.lo1 i) (h.lo2 i)) _ (h.lo1 i) (h.lo2 i) ht⟩
    have a := add_pos h n.l.toNat (h.lo1 i) (h.lo2 i) (by omega)
    have b := add_mono (h.add n.l.toNat (h.lo1 i) (h.lo2 i)) n.r.toNat (h.lo1 i) (h.lo2 i) n.l.toNat
    unfold tot at a ⊢; omega
theorem reach_occ {rows : List ND} (ok : Ok rows) {id i j : Nat} (hr : Reach rows i j) (hi : i ≤ id) (ht : 0 < tot (occ rows id (id - i)) i) : 0 < tot (occ rows id (id - j)) j := by
  induction hr with
  | refl => exact ht
  | @left i j n h1 h2 h3 ih =>
    obtain ⟨p1, p2⟩ := ok.parts h1 h2
    refine ih (by omega) ?_
    have := step_pos (occ_in rows id (id - i)) h2 ht
    have e : occ rows id (id - i + 1) = stepC n i (occ rows id (id - i)) := by
      show stepC (rowAt rows (id - (id - i))) (id - (id - i)) _ = _
      rw [show id - (id - i) = i by omega, rowAt_of h1]
    rw [← e] at this
    have m := tot_mono rows id (show id - i + 1 ≤ id - n.l.toNat by omega) n.l.toNat
    omega
  | @right i j n h1 h2 h3 ih =>
    obtain ⟨p1, p2⟩ := ok.parts h1 h2
    refine ih (by omega) ?_
    have := step_pos (occ_in rows id (id - i)) h2 ht
    have e : occ rows id (id - i + 1) = stepC n i (occ rows id (id - i)) := by
      show stepC (rowAt rows (id - (id - i))) (id - (id - i)) _ = _
      rw [show id - (id - i) = i by omega, rowAt_of h1]
    rw [← e] at this
    have m := tot_mono rows id (show id - i + 1 ≤ id - n.r.toNat by omega) n.r.toNat
    omega

/-- How often a row stands in another one. -/
def occs (rows : List ND) (id x : Nat) : Int × Int := occ rows id (id + 1) x
theorem occs_in (rows : List ND) (id x : Nat) : (0 ≤ (occs rows id x).1 ∧ (occs rows id x).1 ≤ MC) ∧ 0 ≤ (occs rows id x).2 ∧ (occs rows id x).2 ≤ MC :=
  let h := occ_in rows id (id + 1); ⟨⟨h.lo1 x, h.hi1 x⟩, h.lo2 x, h.hi2 x⟩
theorem occs_iff {rows : List ND} (ok : Ok rows) {id x : Nat} (hid : id < rows.length) : 0 < (occs rows id x).1 + (occs rows id x).2 ↔ Reach rows id x := by
  constructor
  · intro h; exact occ_reach hid (Nat.le_refl _) (by unfold tot; unfold occs at h; omega)
  · intro h
    have hx := h.le ok
    have h0 : 0 < tot (occ rows id (id - id)) id := by simp [tot, occ]
    have := reach_occ ok h (Nat.le_refl _) h0
    unfold occs
    rw [occ_stays ok hid hx (by omega) (Nat.le_refl _)]
    exact this
theorem occs_zero {rows : List ND} (ok : Ok rows) {id x : Nat} (hid : id < rows.length) (h : ¬ Reach rows id x) : occs rows id x = (0, 0) := by
  have h1 := mt (occs_iff ok hid (x := x)).1 h
  obtain ⟨⟨a, _⟩, b, _⟩ := occs_in rows id x
  exact Prod.ext (by show _ = (0 : Int); omega) (by show _ = (0 : Int); omega)

/-! ### the sum -/
def sumTo (g : Nat → Int) : Nat → Int
  | 0 => 0
  | n + 1 => sumTo g n + g n
theorem sumTo_congr {g h : Nat → Int} {n : Nat} (e : ∀ x, x < n → g x = h x) : sumTo g n = sumTo h n := by
  induction n with
  | zero => rfl
  | succ n ih => simp only [sumTo]; rw [ih (fun x hx => e x (by omega)), e n (by omega)]
theorem sumTo_bump {g h : Nat → Int} {n x : Nat} {d : Int} (hx : x < n) (e : ∀ y, y < n → h y = g y + if y = x then d else 0) : sumTo h n = sumTo g n + d := by
  induction n with
  | zero => omega
  | succ n ih =>
    simp only [sumTo]
    by_cases hn : x = n
    · subst hn
      rw [e x (by omega), if_pos rfl, sumTo_congr (g := h) (h := g) (fun y hy => by rw [e y (by omega), if_neg (by omega)]; omega)]
      omega
    · rw [ih (by omega) (fun y hy => e y (by omega)), e n (by omega), if_neg (by omega)]
      omega
theorem sumTo_nonneg {g : Nat → Int} {n : Nat} (h : ∀ x, x < n → 0 ≤ g x) : 0 ≤ sumTo g n := by
  induction n with
  | zero => exact Int.le_refl _
  | succ n ih => simp only [sumTo]; have := ih (fun x hx => h x (by omega)); have := h n (by omega); omega
theorem le_sumTo {g : Nat → Int} {n x : Nat} (h : ∀ x, x < n → 0 ≤ g x) (hx : x < n) : g x ≤ sumTo g n := by
  have e := sumTo_bump (g := fun y => if y = x then 0 else g y) (h := g) (n := n) (x := x) (d := g x) hx (fun y _ => by split <;> simp_all)
  have := sumTo_nonneg (g := fun y => if y = x then 0 else g y) (n := n) (fun y hy => by split <;> first | exact Int.le_refl _ | exact h y hy)
  omega
theorem two_le_sumTo {g : Nat → Int} {n x y : Nat} (h : ∀ x, x < n → 0 ≤ g x) (hx : x < n) (hy : y < n) (hne : x ≠ y) : g x + g y ≤ sumTo g n := by
  have e := sumTo_bump (g := fun z => if z = x then 0 else g z) (h := g) (n := n) (x := x) (d := g x) hx (fun z _ => by split <;> simp_all)
  have := le_sumTo (g := fun z => if z = x then 0 else g z) (n := n) (x := y) (fun z hz => by split <;> first | exact Int.le_refl _ | exact h z hz) hy
  simp only [if_neg (Ne.symm hne)] at this
  omega

/-- Where no count ends: what the rows that still stand weigh. -/
def load (rows : List ND) (id k x : Nat) : Int := tot (occ rows id k) x * (if x + k ≤ id then val sizeOf rows x else 1)

theorem tot_nonneg {f : Cnt} (h : CIn f) (x : Nat) : 0 ≤ tot f x := by have := h.lo1 x; have := h.lo2 x; unfold tot; omega
theorem size_lt {rows : List ND} (ok : Ok rows) {id x : Nat} (hid : id < rows.length) (hw : val weightOf rows id < MC) (hr : Reach rows id x) : val sizeOf rows x < MC := by
  have hx := hr.le ok
  have h1 := size_weight ok x (by omega)
  rcases weight_below ok hr hid hw with rfl | h <;> omega

theorem load_nonneg {rows : List ND} (ok : Ok rows) {id k x : Nat} (hid : id < rows.length) (hx : x ≤ id) : 0 ≤ load rows id k x := by
  unfold load
  refine Int.mul_nonneg (tot_nonneg (occ_in rows id k) x) ?_
  split
  · have := size_bd ok x (by omega); omega
  · omega

/-- One step: a row's load goes to itself and its parts. -/
theorem load_step {rows : List ND} (ok : Ok rows) {id k : Nat} (hid : id < rows.length) (hk : k ≤ id) (hw : val weightOf rows id < MC) (hs : sumTo (load rows id k) (id + 1) = val sizeOf rows id) :
    sumTo (load rows id (k + 1)) (id + 1) = val sizeOf rows id := by
  have hn := rowAt_get (rows := rows) (i := id - k) (by omega)
  have hin := occ_in rows id k
  by_cases hz : tot (occ rows id k) (id - k) = 0
  · have e : occ rows id (k + 1) = occ rows id k := step_zero hin hz
    rw [← hs]
    refine sumTo_congr fun x hx => ?_
    unfold load
    rw [e]
    by_cases e1 : x = id - k
    · subst e1; rw [hz]; simp
    · by_cases e2 : x + k ≤ id
      · rw [if_pos e2, if_pos (by omega)]
      · rw [if_neg e2, if_neg (by omega)]
  · have hr := occ_reach hid (by omega) hz
    have hsl := size_lt ok hid hw hr
    have t0 := tot_nonneg hin (id - k)
    by_cases hkd : 3 ≤ (rowAt rows (id - k)).kind
    · obtain ⟨p1, p2⟩ := ok.parts hn hkd
      have sl := size_bd ok (rowAt rows (id - k)).l.toNat (by omega)
      have sr := size_bd ok (rowAt rows (id - k)).r.toNat (by omega)
      have hv := val_two ok hn hkd (of := sizeOf)
      rw [size_two hkd] at hv
      have hv2 : val sizeOf rows (id - k) = 1 + val sizeOf rows (rowAt rows (id - k)).l.toNat + val sizeOf rows (rowAt rows (id - k)).r.toNat := by
        rw [hv]; rw [hv] at hsl; unfold capI at hsl ⊢; split at hsl
        · omega
        · rename_i h; rw [if_neg h]
      have hi0 : load rows id k (id - k) = tot (occ rows id k) (id - k) * (1 + val sizeOf rows (rowAt rows (id - k)).l.toNat + val sizeOf rows (rowAt rows (id - k)).r.toNat) := by unfold load; rw [if_pos (by omega), hv2]
      have szid : val sizeOf rows id < MC := size_lt ok hid hw (.refl _)
      have hocc : occ rows id (k + 1) = stepC (rowAt rows (id - k)) (id - k) (occ rows id k) := rfl
      generalize hN : rowAt rows (id - k) = N at *
      generalize hl : N.l.toNat = l at *
      generalize hr' : N.r.toNat = r at *
      have hli : l < id - k := by omega
      have hri : r < id - k := by omega
      generalize hT : tot (occ rows id k) (id - k) = T at *
      have lnn : ∀ x, x < id + 1 → 0 ≤ load rows id k x := fun x hx => load_nonneg ok hid (by omega)
      have hTl : T ≤ T * (1 + val sizeOf rows l + val sizeOf rows r) := by
        have := Int.mul_le_mul_of_nonneg_left (show (1 : Int) ≤ 1 + val sizeOf rows l + val sizeOf rows r by omega) t0
        omega
      have hT3 : 3 * T ≤ T * (1 + val sizeOf rows l + val sizeOf rows r) := by
        have := Int.mul_le_mul_of_nonneg_left (show (3 : Int) ≤ 1 + val sizeOf rows l + val sizeOf rows r by omega) t0
        omega
      have room : ∀ x, x ≤ id → x < id - k → tot (occ rows id k) x + 3 * T ≤ MC := by
        intro x hx hxi
        have h2 := two_le_sumTo (g := load rows id k) (n := id + 1) (x := x) (y := id - k) lnn (by omega) (by omega) (by omega)
        rw [hs, hi0] at h2
        have h3 : tot (occ rows id k) x ≤ load rows id k x := by
          unfold load
          rw [if_pos (by omega)]
          have := size_bd ok x (by omega)
          have := Int.mul_le_mul_of_nonneg_left this.1 (tot_nonneg hin x)
          omega
        omega
      have Tdef : T = (occ rows id k (id - k)).1 + (occ rows id k (id - k)).2 := hT.symm
      have b1 := hin.lo1 (id - k)
      have b2 := hin.lo2 (id - k)
      have htot : ∀ x, tot (occ rows id (k + 1)) x = tot (occ rows id k) x + (if x = l then T else 0) + (if x = r then T else 0) := by
        intro x
        have rl := room l (by omega) hli
        have rr := room r (by omega) hri
        have l1 := hin.lo1 l
        have l2 := hin.lo2 l
        have r1 := hin.lo1 r
        have r2 := hin.lo2 r
        have x1 := hin.hi1 x
        have x2 := hin.hi2 x
        rw [hocc]
        unfold stepC
        rw [if_neg (by omega), hl, hr']
        unfold tot at rl rr ⊢
        by_cases hk5 : N.kind = 5
        · rw [if_pos hk5]
          unfold addC
          by_cases xr : x = r
          · by_cases rl' : r = l
            · subst xr; subst rl'
              simp only [if_true]
              rw [capI_of (x := (occ rows id k x).1 + (occ rows id k (id - k)).2) (by omega), capI_of (x := (occ rows id k x).2 + (occ rows id k (id - k)).1) (by omega), capI_of (by omega), capI_of (by omega)]
              omega
            · subst xr
              simp only [if_true, if_neg rl']
              rw [capI_of (by omega), capI_of (by omega)]
              omega
          · by_cases xl : x = l
            · subst xl
              simp only [if_true, if_neg xr]
              rw [capI_of (by omega), capI_of (by omega)]
              omega
            · simp only [if_neg xr, if_neg xl]
              omega
        · rw [if_neg hk5]
          unfold addC
          by_cases xr : x = r
          · by_cases rl' : r = l
            · subst xr; subst rl'
              simp only [if_true]
              rw [capI_of (x := (occ rows id k x).1 + (occ rows id k (id - k)).1) (by omega), capI_of (x := (occ rows id k x).2 + (occ rows id k (id - k)).2) (by omega), capI_of (by omega), capI_of (by omega)]
              omega
            · subst xr
              simp only [if_true, if_neg rl']
              rw [capI_of (by omega), capI_of (by omega)]
              omega
          · by_cases xl : x = l
            · subst xl
              simp only [if_true, if_neg xr]
              rw [capI_of (by omega), capI_of (by omega)]
              omega
            · simp only [if_neg xr, if_neg xl]
              omega
      -- three moves
      have m1 := sumTo_bump (g := load rows id k) (h := fun y => load rows id k y + if y = id - k then T - T * (1 + val sizeOf rows l + val sizeOf rows r) else 0) (n := id + 1) (x := id - k) (d := T - T * (1 + val sizeOf rows l + val sizeOf rows r)) (by omega) (fun _ _ => rfl)
      have m2 := sumTo_bump (g := fun y => load rows id k y + if y = id - k then T - T * (1 + val sizeOf rows l + val sizeOf rows r) else 0) (h := fun y => (load rows id k y + if y = id - k then T - T * (1 + val sizeOf rows l + val sizeOf rows r) else 0) + if y = l then T * val sizeOf rows l else 0) (n := id + 1) (x := l) (d := T * val sizeOf rows l) (by omega) (fun _ _ => rfl)
      have m3 := sumTo_bump (g := fun y => (load rows id k y + if y = id - k then T - T * (1 + val sizeOf rows l + val sizeOf rows r) else 0) + if y = l then T * val sizeOf rows l else 0) (h := load rows id (k + 1)) (n := id + 1) (x := r) (d := T * val sizeOf rows r) (by omega) ?_
      · rw [m3, m2, m1, hs]
        have : T * (1 + val sizeOf rows l + val sizeOf rows r) = T + T * val sizeOf rows l + T * val sizeOf rows r := by rw [Int.mul_add, Int.mul_add, Int.mul_one]
        omega
      · intro y hy
        show load rows id (k + 1) y = (load rows id k y + if y = id - k then T - T * (1 + val sizeOf rows l + val sizeOf rows r) else 0) + (if y = l then T * val sizeOf rows l else 0) + if y = r then T * val sizeOf rows r else 0
        have hty := htot y
        by_cases ei : y = id - k
        · have n1 : ¬ y + (k + 1) ≤ id := by omega
          have n2 : ¬ y = l := by omega
          have n3 : ¬ y = r := by omega
          rw [if_neg n2, if_neg n3] at hty
          have hl1 : load rows id (k + 1) y = T := by unfold load; rw [hty, if_neg n1, ei, hT]; omega
          rw [hl1, if_pos ei, if_neg n2, if_neg n3, ei, hi0]
          omega
        · rw [if_neg ei]
          by_cases e2 : y + k ≤ id
          · have e3 : y + (k + 1) ≤ id := by omega
            have hl0 : load rows id k y = tot (occ rows id k) y * val sizeOf rows y := by unfold load; rw [if_pos e2]
            have hl1 : load rows id (k + 1) y = tot (occ rows id (k + 1)) y * val sizeOf rows y := by unfold load; rw [if_pos e3]
            rw [hl0, hl1, hty, Int.add_mul, Int.add_mul]
            by_cases yl : y = l
            · by_cases yr : y = r
              · rw [if_pos yl, if_pos yr, if_pos yl, if_pos yr, ← yl, ← yr]; omega
              · rw [if_pos yl, if_neg yr, if_pos yl, if_neg yr, ← yl]; omega
            · by_cases yr : y = r
              · rw [if_neg yl, if_pos yr, if_neg yl, if_pos yr, ← yr]; omega
              · rw [if_neg yl, if_neg yr, if_neg yl, if_neg yr]; omega
          · have yl : y ≠ l := by omega
            have yr : y ≠ r := by omega
            have n1 : ¬ y + (k + 1) ≤ id := by omega
            rw [if_neg yl, if_neg yr] at hty ⊢
            unfold load
            rw [hty, if_neg n1, if_neg e2]
            omega
    · have e : occ rows id (k + 1) = occ rows id k := step_leaf (by omega)
      rw [← hs]
      refine sumTo_congr fun x hx => ?_
      unfold load
      rw [e]
      by_cases e1 : x = id - k
      · subst e1
        rw [if_neg (by omega), if_pos (by omega), val_one size_one hn (by omega) 0 0]
        have : (rowAt rows (id - k)).kind < 3 := by omega
        simp [sizeOf, this]
      · by_cases e2 : x + k ≤ id
        · rw [if_pos e2, if_pos (by omega)]
        · rw [if_neg e2, if_neg (by omega)]

theorem load_start {rows : List ND} (id : Nat) : sumTo (load rows id 0) (id + 1) = val sizeOf rows id := by
  have m := sumTo_bump (g := fun _ => 0) (h := load rows id 0) (n := id + 1) (x := id) (d := val sizeOf rows id) (by omega) (fun y hy => by
    unfold load tot occ
    by_cases e : y = id
    · subst e; simp
    · simp [e])
  have z : sumTo (fun _ => 0) (id + 1) = 0 := by
    have : ∀ n, sumTo (fun _ => 0) n = 0 := by intro n; induction n with
      | zero => rfl
      | succ n ih => simp [sumTo, ih]
    exact this _
  rw [m, z]; omega
theorem load_all {rows : List ND} (ok : Ok rows) {id k : Nat} (hid : id < rows.length) (hk : k ≤ id + 1) (hw : val weightOf rows id < MC) : sumTo (load rows id k) (id + 1) = val sizeOf rows id := by
  induction k with
  | zero => exact load_start id
  | succ k ih => exact load_step ok hid (by omega) hw (ih (by omega))

theorem sumTo_filter (g : Nat → Int) (p : Nat → Bool) (n : Nat) (h : ∀ x, x < n → p x = false → g x = 0) : (((List.range n).filter p).map g).sum = sumTo g n := by
  induction n with
  | zero => rfl
  | succ n ih =>
    rw [List.range_succ, List.filter_append, List.map_append, List.sum_append, ih (fun x hx => h x (by omega))]
    simp only [sumTo]
    cases hp : p n with
    | true => simp [hp]
    | false => simp [hp, h n (by omega) hp]

/-- A size is what occurs. -/
theorem sum_below {rows : List ND} (ok : Ok rows) {id : Nat} (hid : id < rows.length) (hw : val weightOf rows id < MC) : ((below rows id).map fun x => (occs rows id x).1 + (occs rows id x).2).sum = val sizeOf rows id := by
  have := load_all ok hid (Nat.le_refl _) hw
  rw [← this]
  unfold below
  rw [sumTo_filter (fun x => (occs rows id x).1 + (occs rows id x).2) _ _ (fun x _ hp => by
    simp only [decide_eq_false_iff_not] at hp
    rw [occs_zero ok hid hp]; rfl)]
  refine sumTo_congr fun x hx => ?_
  unfold load tot occs
  rw [if_neg (by omega), Int.mul_one]

end Go.Dk

/- Dershowitz and Manna's order is the order of what is written down falling; plain. -/
namespace Go.Dk

def DM (a b : List Int) : Prop := (∃ v, a.count v < b.count v) ∧ ∀ u, b.count u < a.count u → ∃ v, a.count v < b.count v ∧ u < v

theorem DM_perm {a a' b b' : List Int} (ha : a.Perm a') (hb : b.Perm b') : DM a b ↔ DM a' b' := by
  unfold DM; simp only [ha.count_eq, hb.count_eq]
theorem DM_cons (x : Int) (a b : List Int) : DM (x :: a) (x :: b) ↔ DM a b := by
  unfold DM; simp only [List.count_cons, Nat.add_lt_add_iff_right]

theorem ltL_DM : ∀ (a b : List Int), a.Pairwise (fun x y => y ≤ x) → b.Pairwise (fun x y => y ≤ x) → (ltL a b = true ↔ DM a b)
  | [], [], _, _ => by simp [ltL, DM]
  | [], y :: ys, _, _ => by
    simp only [ltL, true_iff]
    exact ⟨⟨y, by simp⟩, fun u hu => by simp at hu⟩
  | x :: xs, [], _, _ => by
    simp only [ltL, Bool.false_eq_true, false_iff]
    rintro ⟨⟨v, hv⟩, _⟩
    simp at hv
  | x :: xs, y :: ys, ha, hb => by
    have ha' := List.pairwise_cons.1 ha
    have hb' := List.pairwise_cons.1 hb
    by_cases h1 : x < y
    · have hy : (x :: xs).count y = 0 := by
        rw [List.count_eq_zero]
        intro hm
        rcases List.mem_cons.1 hm with rfl | hm
        · omega
        · have := ha'.1 y hm; omega
      have hyb : 0 < (y :: ys).count y := by rw [List.count_cons_self]; omega
      simp only [ltL, h1, decide_true, Bool.true_or, true_iff]
      refine ⟨⟨y, by omega⟩, fun u hu => ⟨y, by omega, ?_⟩⟩
      have hm : u ∈ x :: xs := List.count_pos_iff.1 (by omega)
      rcases List.mem_cons.1 hm with rfl | hm
      · exact h1
      · have := ha'.1 u hm; omega
    · by_cases h2 : y < x
      · have hx : (y :: ys).count x = 0 := by
          rw [List.count_eq_zero]
          intro hm
          rcases List.mem_cons.1 hm with rfl | hm
          · omega
          · have := hb'.1 x hm; omega
        have hxa : 0 < (x :: xs).count x := by rw [List.count_cons_self]; omega
        have hne : ¬ x = y := by omega
        simp only [ltL, h1, hne, decide_false, Bool.false_and, Bool.or_false, Bool.false_eq_true, false_iff]
        rintro ⟨_, h⟩
        obtain ⟨v, hv, hlt⟩ := h x (by omega)
        have hm : v ∈ y :: ys := List.count_pos_iff.1 (by omega)
        rcases List.mem_cons.1 hm with rfl | hm
        · omega
        · have := hb'.1 v hm; omega
      · have e : x = y := by omega
        subst e
        rw [DM_cons, ← ltL_DM xs ys ha'.2 hb'.2]
        simp [ltL]

theorem lessL_DM (a b : List Int) : lessL a b = true ↔ DM a b := by
  unfold lessL
  rw [ltL_DM _ _ (fall_pairwise a) (fall_pairwise b)]
  exact DM_perm (fall_perm a) (fall_perm b)

/-- What is left of a when b's numbers are taken out, each once. -/
def withoutL : List Int → List Int → List Int
  | [], _ => []
  | x :: a, b => if x ∈ b then withoutL a (b.erase x) else x :: withoutL a b
theorem withoutL_count (a b : List Int) (v : Int) : (withoutL a b).count v = a.count v - b.count v := by
  induction a generalizing b with
  | nil => simp [withoutL]
  | cons x a ih =>
    unfold withoutL
    split
    · rename_i hx
      rw [ih]
      have hp := List.perm_cons_erase hx
      have hc : b.count v = (x :: b.erase x).count v := hp.count_eq v
      rw [hc, List.count_cons, List.count_cons]
      omega
    · rename_i hx
      rw [List.count_cons, ih, List.count_cons]
      by_cases e : x = v
      · subst e
        rw [List.count_eq_zero.2 hx]
        omega
      · have : (x == v) = false := by simpa using e
        simp [this]

def dmB (a b : List Int) : Bool := !(withoutL b a).isEmpty && (withoutL a b).all fun u => (withoutL b a).any fun v => decide (u < v)
theorem mem_without (a b : List Int) (v : Int) : v ∈ withoutL a b ↔ b.count v < a.count v := by
  rw [← List.count_pos_iff, withoutL_count]; omega
theorem dmB_iff (a b : List Int) : dmB a b = true ↔ DM a b := by
  unfold dmB DM
  simp only [Bool.and_eq_true, Bool.not_eq_true', List.all_eq_true, List.any_eq_true, decide_eq_true_eq, mem_without]
  refine and_congr ?_ Iff.rfl
  cases h : withoutL b a with
  | nil =>
    simp only [List.isEmpty_nil, Bool.true_eq_false, false_iff]
    rintro ⟨v, hv⟩
    have := (mem_without b a v).2 hv
    rw [h] at this; simp at this
  | cons v t =>
    simp only [List.isEmpty_cons, true_iff]
    exact ⟨v, (mem_without b a v).1 (by rw [h]; simp)⟩
/-- The document's answer is the program's. -/
theorem dmB_eq (a b : List Int) : dmB a b = lessL a b := by
  rw [Bool.eq_iff_iff, dmB_iff, lessL_DM]

/-- Insertion sorts. -/
theorem ins_fold (xs : List Int) : xs.foldl (fun acc z => ins z acc) [] = fall xs := by
  suffices h : ∀ (xs acc : List Int), acc.Pairwise (fun x y => y ≤ x) → (xs.foldl (fun acc z => ins z acc) acc).Pairwise (fun x y => y ≤ x) ∧ (xs.foldl (fun acc z => ins z acc) acc).Perm (xs ++ acc) by
    obtain ⟨h1, h2⟩ := h xs [] List.Pairwise.nil
    exact fall_unique (by simpa using h2) h1
  intro xs
  induction xs with
  | nil => intro acc h; exact ⟨h, List.Perm.refl _⟩
  | cons x xs ih =>
    intro acc h
    obtain ⟨h1, h2⟩ := ih (ins x acc) (ins_pairwise x acc h)
    refine ⟨h1, h2.trans ?_⟩
    exact (List.Perm.append_left xs (ins_perm x acc)).trans List.perm_middle
/-- Insertion place by place: at the end, then down past what is less. -/
theorem ins_split (z : Int) : ∀ (l : List Int), l.Pairwise (fun x y => y ≤ x) → ∀ k, k ≤ l.length → (∀ j x, k ≤ j → l[j]? = some x → x < z) → (k = 0 ∨ ∃ x, l[k - 1]? = some x ∧ z ≤ x) → ins z l = l.take k ++ z :: l.drop k
  | [], _, k, hk, _, _ => by
    have : k = 0 := by simpa using hk
    subst this; rfl
  | x :: xs, h, k, hk, h1, h2 => by
    have h' := List.pairwise_cons.1 h
    unfold ins
    cases k with
    | zero =>
      have := h1 0 x (Nat.le_refl _) rfl
      rw [if_neg (by omega)]; rfl
    | succ k =>
      have hx : z ≤ x := by
        rcases h2 with h2 | ⟨y, hy, hz⟩
        · omega
        · simp only [Nat.add_sub_cancel] at hy
          cases k with
          | zero => simp at hy; omega
          | succ k =>
            simp only [List.getElem?_cons_succ] at hy
            have := h'.1 y (List.mem_of_getElem? hy)
            omega
      rw [if_pos hx, ins_split z xs h'.2 k (by simpa using hk) (fun j y hj hy => h1 (j + 1) y (by omega) (by simpa using hy)) ?_]
      · rfl
      · rcases h2 with h2 | ⟨y, hy, hz⟩
        · omega
        · simp only [Nat.add_sub_cancel] at hy
          cases k with
          | zero => exact .inl rfl
          | succ k => exact .inr ⟨y, by simpa using hy, hz⟩

end Go.Dk

/- What is left of a row of numbers when another one's are taken out, by marks; plain. -/
namespace Go.Dk

theorem without_snoc (a : List Int) (x : Int) : ∀ b : List Int, withoutL (a ++ [x]) b = withoutL a b ++ (if a.count x < b.count x then [] else [x]) := by
  induction a with
  | nil =>
    intro b
    simp only [List.nil_append, withoutL, List.count_nil, List.count_pos_iff]
  | cons y a ih =>
    intro b
    simp only [List.cons_append, withoutL]
    by_cases hy : y ∈ b
    · rw [if_pos hy, if_pos hy, ih]
      have hc : b.count x = (y :: b.erase y).count x := (List.perm_cons_erase hy).count_eq x
      have h1 : (a.count x < (b.erase y).count x) ↔ ((y :: a).count x < b.count x) := by
        rw [hc, List.count_cons, List.count_cons]; omega
      simp only [h1]
    · rw [if_neg hy, if_neg hy, ih, List.cons_append]
      by_cases e : y = x
      · subst e
        rw [List.count_eq_zero.2 hy, if_neg (by omega), if_neg (by omega)]
      · rw [List.count_cons_of_ne e]

/-- How many of those that bear a mark are v. -/
def ucount (v : Int) : List Int → List Bool → Nat
  | x :: b, m :: ms => ucount v b ms + if m = true ∧ x = v then 1 else 0
  | _, _ => 0
theorem ucount_start (v : Int) (b : List Int) (n : Nat) : ucount v b (List.replicate n false) = 0 := by
  induction b generalizing n with
  | nil => cases n <;> rfl
  | cons x b ih =>
    cases n with
    | zero => rfl
    | succ n => simp [List.replicate_succ, ucount, ih]
theorem ucount_set (v : Int) : ∀ (b : List Int) (ms : List Bool) (k : Nat) (x : Int), b[k]? = some x → ms[k]? = some false → ucount v b (ms.set k true) = ucount v b ms + if x = v then 1 else 0
  | [], _, k, _, h, _ => by simp at h
  | _ :: _, [], k, _, _, h => by simp at h
  | y :: b, m :: ms, 0, x, h1, h2 => by
    simp at h1 h2
    subst h1 h2
    simp [ucount]
  | y :: b, m :: ms, k + 1, x, h1, h2 => by
    simp only [List.getElem?_cons_succ] at h1 h2
    simp only [List.set_cons_succ, ucount, ucount_set v b ms k x h1 h2]
    omega
theorem ucount_le (v : Int) : ∀ (b : List Int) (ms : List Bool), ucount v b ms ≤ b.count v
  | [], ms => by cases ms <;> simp [ucount]
  | x :: b, [] => by simp [ucount]
  | x :: b, m :: ms => by
    have := ucount_le v b ms
    simp only [ucount, List.count_cons]
    by_cases e : x = v
    · simp only [e, and_true, beq_self_eq_true, if_true]; split <;> omega
    · have e2 : (x == v) = false := by simpa using e
      simp only [e, and_false, if_false, e2]
      simpa using this
theorem ucount_full (v : Int) : ∀ (b : List Int) (ms : List Bool), ms.length = b.length → (∀ k : Nat, b[k]? = some v → ms[k]? = some true) → ucount v b ms = b.count v
  | [], ms, _, _ => by cases ms <;> simp [ucount]
  | x :: b, [], h, _ => by simp at h
  | x :: b, m :: ms, hl, h => by
    have := ucount_full v b ms (by simpa using hl) (fun k hk => by simpa using h (k + 1) (by simpa using hk))
    simp only [ucount, List.count_cons, this]
    by_cases e : x = v
    · have := h 0 (by simp [e])
      simp at this
      simp [e, this]
    · simp [e]
theorem ucount_lt (v : Int) (b : List Int) (ms : List Bool) (k : Nat) (h1 : b[k]? = some v) (h2 : ms[k]? = some false) : ucount v b ms < b.count v := by
  have := ucount_set v b ms k v h1 h2
  have h3 := ucount_le v b (ms.set k true)
  rw [this, if_pos rfl] at h3
  omega

/-- The marks when so many have been gone through. -/
structure Used (a b : List Int) (i : Nat) (ms : List Bool) : Prop where
  len : ms.length = b.length
  cnt : ∀ v, ucount v b ms = min ((a.take i).count v) (b.count v)
theorem Used.start (a b : List Int) : Used a b 0 (List.replicate b.length false) := ⟨by simp, fun v => by rw [ucount_start]; simp⟩
theorem take_count {a : List Int} {i : Nat} {x : Int} (h : a[i]? = some x) (v : Int) : (a.take (i + 1)).count v = (a.take i).count v + if x = v then 1 else 0 := by
  rw [List.take_add_one, h]
  simp only [Option.toList_some, List.count_append, List.count_singleton]
  by_cases e : x = v <;> simp [e]
/-- One is taken. -/
theorem Used.take {a b : List Int} {i k : Nat} {ms : List Bool} {x : Int} (h : Used a b i ms) (hx : a[i]? = some x) (hk : b[k]? = some x) (hm : ms[k]? = some false) : Used a b (i + 1) (ms.set k true) ∧ withoutL (a.take (i + 1)) b = withoutL (a.take i) b := by
  have h1 := ucount_lt x b ms k hk hm
  have h2 := h.cnt x
  refine ⟨⟨by simpa using h.len, fun v => ?_⟩, ?_⟩
  · rw [ucount_set v b ms k x hk hm, h.cnt, take_count hx]
    by_cases e : x = v
    · subst e; simp only [if_true]; omega
    · simp [e]
  · rw [List.take_add_one, hx]
    simp only [Option.toList_some]
    rw [without_snoc, if_pos (by omega), List.append_nil]
/-- None is left to take. -/
theorem Used.left {a b : List Int} {i : Nat} {ms : List Bool} {x : Int} (h : Used a b i ms) (hx : a[i]? = some x) (hall : ∀ k : Nat, b[k]? = some x → ms[k]? = some true) : Used a b (i + 1) ms ∧ withoutL (a.take (i + 1)) b = withoutL (a.take i) b ++ [x] := by
  have h1 := ucount_full x b ms h.len hall
  have h2 := h.cnt x
  refine ⟨⟨h.len, fun v => ?_⟩, ?_⟩
  · rw [h.cnt, take_count hx]
    by_cases e : x = v
    · subst e; simp only [if_true]; omega
    · simp [e]
  · rw [List.take_add_one, hx]
    simp only [Option.toList_some]
    rw [without_snoc, if_neg (by omega)]
theorem without_le (a b : List Int) : (withoutL a b).length ≤ a.length := by
  induction a generalizing b with
  | nil => simp [withoutL]
  | cons x a ih =>
    unfold withoutL
    split
    · have := ih (b.erase x); simp; omega
    · have := ih b; simp; omega

/-! ### what some formulas weigh -/
def allB (n : Nat) (zs : List Int) : Bool := zs.all fun z => decide (0 ≤ z) && decide (z < (n : Int))
theorem ins_length (z : Int) (l : List Int) : (ins z l).length = l.length + 1 := by have := (ins_perm z l).length_eq; simpa using this
def fallTo (xs : List Int) : List Int := xs.foldl (fun acc z => ins z acc) []
theorem fallTo_snoc (xs : List Int) (x : Int) : fallTo (xs ++ [x]) = ins x (fallTo xs) := by simp [fallTo]
theorem fallTo_eq (xs : List Int) : fallTo xs = fall xs := ins_fold xs
theorem fallTo_length (xs : List Int) : (fallTo xs).length = xs.length := by rw [fallTo_eq]; exact fall_length xs
theorem fallTo_pairwise (xs : List Int) : (fallTo xs).Pairwise (fun x y => y ≤ x) := by rw [fallTo_eq]; exact fall_pairwise xs

end Go.Dk

/- Formulas as trees; the tree of a row; plain. -/
namespace Go.Dk

inductive Fm
  | atom (s : ByteArray)
  | bot
  | and (a b : Fm)
  | or (a b : Fm)
  | imp (a b : Fm)
deriving DecidableEq, Inhabited

def treeOf (n : ND) (l r : Fm) : Fm :=
  if n.kind = 1 then .atom n.name else if n.kind = 2 then .bot else if n.kind = 3 then .and l r else if n.kind = 4 then .or l r else if n.kind = 5 then .imp l r else .bot
theorem tree_leaf (n : ND) (l r l' r' : Fm) (h : n.kind < 3) : treeOf n l r = treeOf n l' r' := by
  have h3 : ¬ n.kind = 3 := by omega
  have h4 : ¬ n.kind = 4 := by omega
  have h5 : ¬ n.kind = 5 := by omega
  simp [treeOf, h3, h4, h5]
abbrev tree (rows : List ND) (i : Nat) : Fm := val treeOf rows i

theorem Ok.kindsP {rows : List ND} (h : Ok rows) {i : Nat} {n : ND} (hi : rows[i]? = some n) : 1 ≤ n.kind ∧ n.kind ≤ 5 := (fits_le (h.fit i n hi)).2.1

/-- A row of a table, by its kind. -/
theorem Ok.row {rows : List ND} (h : Ok rows) {i : Nat} {n : ND} (hi : rows[i]? = some n) :
    (n.kind = 1 ∧ n.l = 0 ∧ n.r = 0 ∧ word n.name = true) ∨ (n = ⟨2, ByteArray.empty, 0, 0⟩) ∨
      ((n.kind = 3 ∨ n.kind = 4 ∨ n.kind = 5) ∧ n.name = ByteArray.empty ∧ 0 ≤ n.l ∧ n.l < i ∧ 0 ≤ n.r ∧ n.r < i) := by
  have hf := h.fit i n hi
  have ez : ∀ s : ByteArray, s.size = 0 → s = ByteArray.empty := fun s hs => by
    cases s with
    | mk d => have : d = #[] := Array.eq_empty_of_size_eq_zero hs; rw [this]; rfl
  unfold fits at hf
  split at hf
  · rename_i h1
    left
    split at hf
    · cases hf
    · rename_i h2
      split at hf
      · rename_i h3; exact ⟨h1, by omega, by omega, h3⟩
      · cases hf
  · rename_i h1
    split at hf
    · rename_i h2
      right; left
      split at hf
      · cases hf
      · rename_i h3
        obtain ⟨k, nm, l, r⟩ := n
        simp only [not_or, Classical.not_not] at h2 h3
        obtain ⟨a, rfl, rfl⟩ := h3
        subst h2
        rw [ez nm a]
    · split at hf
      · rename_i h3
        right; right
        split at hf
        · cases hf
        · rename_i h4
          simp only [not_or, hasB, Bool.and_eq_false_iff, decide_eq_false_iff_not, Classical.not_not] at h4
          exact ⟨h3, ez _ h4.1, by omega, by omega, by omega, by omega⟩
      · cases hf

theorem tree_atom {rows : List ND} {i : Nat} {n : ND} (hi : rows[i]? = some n) (hk : n.kind = 1) : tree rows i = .atom n.name := by
  rw [tree, val_one tree_leaf hi (by omega) .bot .bot]; simp [treeOf, hk]
theorem tree_bot {rows : List ND} {i : Nat} {n : ND} (hi : rows[i]? = some n) (hk : n.kind = 2) : tree rows i = .bot := by
  rw [tree, val_one tree_leaf hi (by omega) .bot .bot]; simp [treeOf, hk]
theorem tree_two {rows : List ND} (ok : Ok rows) {i : Nat} {n : ND} (hi : rows[i]? = some n) (hk : 3 ≤ n.kind) : tree rows i = treeOf n (tree rows n.l.toNat) (tree rows n.r.toNat) := val_two ok hi hk

/-- The kind that a tree's row has. -/
def Fm.kind : Fm → Int
  | .atom _ => 1
  | .bot => 2
  | .and _ _ => 3
  | .or _ _ => 4
  | .imp _ _ => 5
theorem treeOf_kind (n : ND) (h : 1 ≤ n.kind ∧ n.kind ≤ 5) (l r : Fm) : (treeOf n l r).kind = n.kind := by
  unfold treeOf
  by_cases h1 : n.kind = 1
  · simp [h1, Fm.kind]
  · by_cases h2 : n.kind = 2
    · simp [h2, Fm.kind]
    · by_cases h3 : n.kind = 3
      · simp [h3, Fm.kind]
      · by_cases h4 : n.kind = 4
        · simp [h4, Fm.kind]
        · have h5 : n.kind = 5 := by omega
          simp [h5, Fm.kind]
theorem tree_kind {rows : List ND} (ok : Ok rows) {i : Nat} {n : ND} (hi : rows[i]? = some n) : (tree rows i).kind = n.kind := by
  have hk := ok.kindsP hi
  by_cases h : 3 ≤ n.kind
  · rw [tree_two ok hi h]; exact treeOf_kind n hk _ _
  · rw [tree, val_one tree_leaf hi (by omega) .bot .bot]; exact treeOf_kind n hk _ _

/-- Each formula stands once. -/
theorem treeOf_inj {k : Int} (hk : k = 3 ∨ k = 4 ∨ k = 5) {n m : ND} (hn : n.kind = k) (hm : m.kind = k) {a b c d : Fm} (h : treeOf n a b = treeOf m c d) : a = c ∧ b = d := by
  unfold treeOf at h
  rw [hn, hm] at h
  rcases hk with rfl | rfl | rfl <;> simpa using h
theorem tree_inj {rows : List ND} (ok : Ok rows) {i j : Nat} (hi : i < rows.length) (hj : j < rows.length) (h : tree rows i = tree rows j) : i = j := by
  induction i using Nat.strongRecOn generalizing j with
  | _ i ih =>
    have ni := List.getElem?_eq_getElem hi
    have nj := List.getElem?_eq_getElem hj
    generalize rows[i] = n at ni
    generalize rows[j] = m at nj
    have hk : n.kind = m.kind := by rw [← tree_kind ok ni, ← tree_kind ok nj, h]
    suffices hs : n = m by
      subst hs
      exact (List.getElem_inj ok.nodup (h₀ := hi) (h₁ := hj)).1 ((List.getElem?_eq_some_iff.1 ni).2.trans (List.getElem?_eq_some_iff.1 nj).2.symm)
    rcases ok.row ni with ⟨a1, a2, a3, _⟩ | a1 | ⟨a1, a2, a3, a4, a5, a6⟩
    · rcases ok.row nj with ⟨b1, b2, b3, _⟩ | b1 | ⟨b1, _⟩
      · rw [tree_atom ni a1, tree_atom nj b1] at h
        obtain ⟨nk, nn, nl, nr⟩ := n
        obtain ⟨mk, mn, ml, mr⟩ := m
        simp only [Fm.atom.injEq] at *
        subst h a2 a3 b2 b3 hk
        rfl
      · rw [b1] at hk; simp only at hk; omega
      · omega
    · rcases ok.row nj with ⟨b1, b2, b3, _⟩ | b1 | ⟨b1, _⟩
      · rw [a1] at hk; simp only at hk; omega
      · rw [a1, b1]
      · rw [a1] at hk; simp only at hk; omega
    · rcases ok.row nj with ⟨b1, _⟩ | b1 | ⟨b1, b2, b3, b4, b5, b6⟩
      · omega
      · rw [b1] at hk; simp only at hk; omega
      · rw [tree_two ok ni (by omega), tree_two ok nj (by omega)] at h
        obtain ⟨h1, h2⟩ := treeOf_inj (k := n.kind) (by omega) rfl hk.symm h
        have e1 := ih n.l.toNat (by omega) (by omega) (j := m.l.toNat) (by omega) h1
        have e2 := ih n.r.toNat (by omega) (by omega) (j := m.r.toNat) (by omega) h2
        obtain ⟨nk, nn, nl, nr⟩ := n
        obtain ⟨mk, mn, ml, mr⟩ := m
        simp only at *
        subst hk a2 b2
        have : nl = ml := by omega
        have : nr = mr := by omega
        simp_all

/-! ### more rows -/
theorem tree_ext {rows s : List ND} {i : Nat} (hi : i < rows.length) : tree (rows ++ s) i = tree rows i := by
  unfold tree val
  have h : vals treeOf rows = (vals treeOf (rows ++ s)).take rows.length := by rw [← vals_take]; simp
  rw [h]
  simp [List.getD, hi]
theorem tree_prefix {rows rows' : List ND} (h : rows <+: rows') {i : Nat} (hi : i < rows.length) : tree rows' i = tree rows i := by
  obtain ⟨s, rfl⟩ := h; exact tree_ext hi
theorem put_prefix (rows : List ND) (n : ND) : rows <+: (put rows n).rows := by
  rcases put_rows rows n with h | ⟨h, _⟩
  · rw [h]; exact List.prefix_refl _
  · rw [h]; exact ⟨[n], rfl⟩

/-- What a put that does not fail comes to. -/
theorem put_ok {rows : List ND} {n : ND} (he : (put rows n).err = 0) : ∃ k : Nat, (put rows n).id = (k : Int) ∧ (put rows n).rows[k]? = some n ∧ fits rows.length n = 0 := by
  unfold put at he ⊢
  split
  · rename_i hf
    rw [if_pos hf] at he
    exact absurd he hf
  · rename_i hf
    rw [if_neg hf] at he
    simp only [Classical.not_not] at hf
    cases hi : rows.idxOf? n with
    | some i => exact ⟨i, rfl, get_of_idxOf? hi, hf⟩
    | none =>
      simp only [hi] at he
      simp only
      split
      · rename_i hl; rw [if_pos hl] at he; cases he
      · exact ⟨rows.length, rfl, by simp, hf⟩
theorem put_there {rows : List ND} (ok : Ok rows) {n : ND} {i : Nat} (hi : rows[i]? = some n) : put rows n = ⟨rows, i, 0⟩ := by
  have hl := (List.getElem?_eq_some_iff.1 hi).1
  have hf := fits_mono (ok.fit i n hi) (Nat.le_of_lt hl)
  unfold put
  rw [if_neg (by simpa using hf), idxOf?_get ok.nodup hi]

/-- A row of a tree. -/
def rowOf (f : Fm) (l r : Nat) : ND := ⟨f.kind, match f with | .atom s => s | _ => ByteArray.empty, l, r⟩
theorem tree_row {rows : List ND} (ok : Ok rows) {i : Nat} {n : ND} (hi : rows[i]? = some n) : (∃ s, n = ⟨1, s, 0, 0⟩ ∧ tree rows i = .atom s ∧ word s = true) ∨ (n = ⟨2, ByteArray.empty, 0, 0⟩ ∧ tree rows i = .bot) ∨
    ∃ l r : Nat, l < i ∧ r < i ∧ ((n = ⟨3, ByteArray.empty, l, r⟩ ∧ tree rows i = .and (tree rows l) (tree rows r)) ∨ (n = ⟨4, ByteArray.empty, l, r⟩ ∧ tree rows i = .or (tree rows l) (tree rows r)) ∨ (n = ⟨5, ByteArray.empty, l, r⟩ ∧ tree rows i = .imp (tree rows l) (tree rows r))) := by
  rcases ok.row hi with ⟨a1, a2, a3, a4⟩ | a1 | ⟨a1, a2, a3, a4, a5, a6⟩
  · left
    refine ⟨n.name, ?_, tree_atom hi a1, a4⟩
    obtain ⟨nk, nn, nl, nr⟩ := n
    simp only at *; subst a1 a2 a3; rfl
  · right; left
    exact ⟨a1, tree_bot hi (by rw [a1])⟩
  · right; right
    have ht := tree_two ok hi (by omega)
    refine ⟨n.l.toNat, n.r.toNat, by omega, by omega, ?_⟩
    obtain ⟨nk, nn, nl, nr⟩ := n
    simp only at *
    obtain ⟨l, rfl⟩ := Int.eq_ofNat_of_zero_le a3
    obtain ⟨r, rfl⟩ := Int.eq_ofNat_of_zero_le a5
    subst a2
    rcases a1 with rfl | rfl | rfl
    · left; exact ⟨rfl, by rw [ht]; simp [treeOf]⟩
    · right; left; exact ⟨rfl, by rw [ht]; simp [treeOf]⟩
    · right; right; exact ⟨rfl, by rw [ht]; simp [treeOf]⟩

/-- A two-part put that does not fail: its tree. -/
theorem put_two {rows : List ND} (ok : Ok rows) {k : Int} (hk : k = 3 ∨ k = 4 ∨ k = 5) {l r : Nat} (hl : l < rows.length) (hr : r < rows.length) (he : (put rows ⟨k, ByteArray.empty, l, r⟩).err = 0) :
    ∃ i : Nat, (put rows ⟨k, ByteArray.empty, l, r⟩).id = (i : Int) ∧ i < (put rows ⟨k, ByteArray.empty, l, r⟩).rows.length ∧ tree (put rows ⟨k, ByteArray.empty, l, r⟩).rows i = treeOf ⟨k, ByteArray.empty, l, r⟩ (tree rows l) (tree rows r) := by
  obtain ⟨i, h1, h2, h3⟩ := put_ok he
  refine ⟨i, h1, (List.getElem?_eq_some_iff.1 h2).1, ?_⟩
  rw [tree_two (ok.put _) h2 (by simp only; omega)]
  simp only [Int.toNat_natCast]
  rw [tree_prefix (put_prefix _ _) hl, tree_prefix (put_prefix _ _) hr]

end Go.Dk

/- Formulas made anew: images row by row, and what they are as trees; plain. -/
namespace Go.Dk

abbrev OfF := List ND → Nat → ND → Int → Int → Put

def anewGo (of : OfF) : List Nat → List ND → (Nat → Int) → List ND × (Nat → Int) × Int
  | [], rows, img => (rows, img, 0)
  | k :: t, rows, img =>
    let n := rowAt rows k
    let p := of rows k n (if 3 ≤ n.kind then img n.l.toNat else 0) (if 3 ≤ n.kind then img n.r.toNat else 0)
    if p.err = 0 then anewGo of t p.rows (fun x => if x = k then p.id else img x) else (p.rows, img, p.err)
noncomputable def anewP (of : OfF) (rows : List ND) (id : Nat) : Put :=
  let q := anewGo of (below rows id) rows (fun _ => 0)
  if q.2.2 = 0 then ⟨q.1, q.2.1 id, 0⟩ else ⟨rows, 0, q.2.2⟩

/-- A put that did not fail: its tree. -/
def ImgOk (rows : List ND) (p : Put) (T : Fm) : Prop := Ok p.rows ∧ rows <+: p.rows ∧ ∃ i : Nat, p.id = (i : Int) ∧ i < p.rows.length ∧ tree p.rows i = T
theorem imgOk_there {rows : List ND} (ok : Ok rows) {k : Nat} (hk : k < rows.length) {T : Fm} (ht : tree rows k = T) : ImgOk rows ⟨rows, k, 0⟩ T := ⟨ok, List.prefix_refl _, k, rfl, hk, ht⟩
theorem imgOk_two {rows : List ND} (ok : Ok rows) {kd : Int} (hk : kd = 3 ∨ kd = 4 ∨ kd = 5) {l r : Nat} (hl : l < rows.length) (hr : r < rows.length) (he : (put rows ⟨kd, ByteArray.empty, l, r⟩).err = 0) :
    ImgOk rows (put rows ⟨kd, ByteArray.empty, l, r⟩) (treeOf ⟨kd, ByteArray.empty, l, r⟩ (tree rows l) (tree rows r)) := by
  obtain ⟨i, a, b, c⟩ := put_two ok hk hl hr he
  exact ⟨ok.put _, put_prefix _ _, i, a, b, c⟩

/-- What an image is as a tree. -/
structure Sem (of : OfF) (F : Fm → Fm) (rows0 : List ND) : Prop where
  img : ∀ rows k l r, Ok rows → rows0 <+: rows → k < rows0.length → (3 ≤ (rowAt rows0 k).kind → l < rows.length ∧ r < rows.length ∧ tree rows l = F (tree rows0 (rowAt rows0 k).l.toNat) ∧ tree rows r = F (tree rows0 (rowAt rows0 k).r.toNat)) →
    (of rows k (rowAt rows0 k) (if 3 ≤ (rowAt rows0 k).kind then (l : Int) else 0) (if 3 ≤ (rowAt rows0 k).kind then (r : Int) else 0)).err = 0 →
    ImgOk rows (of rows k (rowAt rows0 k) (if 3 ≤ (rowAt rows0 k).kind then (l : Int) else 0) (if 3 ≤ (rowAt rows0 k).kind then (r : Int) else 0)) (F (tree rows0 k))

theorem rowAt_prefix {rows rows' : List ND} (h : rows <+: rows') {i : Nat} (hi : i < rows.length) : rowAt rows' i = rowAt rows i := by
  obtain ⟨s, rfl⟩ := h
  simp [rowAt, List.getD, List.getElem?_append_left hi]
theorem prefix_length {rows rows' : List ND} (h : rows <+: rows') : rows.length ≤ rows'.length := h.length_le

structure AnI (F : Fm → Fm) (rows0 rows : List ND) (img : Nat → Int) (done : Nat → Prop) : Prop where
  ok : Ok rows
  pre : rows0 <+: rows
  img : ∀ x, done x → x < rows0.length → ∃ i : Nat, img x = (i : Int) ∧ i < rows.length ∧ tree rows i = F (tree rows0 x)

theorem anewGo_sem {of : OfF} {F : Fm → Fm} {rows0 : List ND} (ok0 : Ok rows0) (hs : Sem of F rows0) : ∀ (todo : List Nat) (rows : List ND) (img : Nat → Int) (done : Nat → Prop), AnI F rows0 rows img done →
    (∀ k ∈ todo, k < rows0.length) → todo.Pairwise (· < ·) → (∀ k ∈ todo, 3 ≤ (rowAt rows0 k).kind → (done (rowAt rows0 k).l.toNat ∨ (rowAt rows0 k).l.toNat ∈ todo) ∧ (done (rowAt rows0 k).r.toNat ∨ (rowAt rows0 k).r.toNat ∈ todo)) →
    (anewGo of todo rows img).2.2 = 0 → AnI F rows0 (anewGo of todo rows img).1 (anewGo of todo rows img).2.1 (fun x => done x ∨ x ∈ todo)
  | [], rows, img, done, h, _, _, _, _ => by
    refine ⟨h.ok, h.pre, fun x hx hl => h.img x (hx.resolve_right (by simp)) hl⟩
  | k :: t, rows, img, done, h, hlt, hp, hd, he => by
    have hp' := List.pairwise_cons.1 hp
    have hk := hlt k (by simp)
    have hrow : rowAt rows k = rowAt rows0 k := rowAt_prefix h.pre hk
    have parts : 3 ≤ (rowAt rows0 k).kind → ∃ l r : Nat, img (rowAt rows0 k).l.toNat = (l : Int) ∧ img (rowAt rows0 k).r.toNat = (r : Int) ∧ l < rows.length ∧ r < rows.length ∧ tree rows l = F (tree rows0 (rowAt rows0 k).l.toNat) ∧ tree rows r = F (tree rows0 (rowAt rows0 k).r.toNat) := by
      intro h3
      obtain ⟨p1, p2⟩ := ok0.parts (rowAt_get hk) h3
      obtain ⟨d1, d2⟩ := hd k (by simp) h3
      have notin : ∀ x, x < k → x ∉ k :: t := by
        intro x hx hm
        rcases List.mem_cons.1 hm with rfl | hm
        · omega
        · have := hp'.1 x hm; omega
      obtain ⟨l, a1, a2, a3⟩ := h.img _ (d1.resolve_right (notin _ (by omega))) (by omega)
      obtain ⟨r, b1, b2, b3⟩ := h.img _ (d2.resolve_right (notin _ (by omega))) (by omega)
      exact ⟨l, r, a1, b1, a2, b2, a3, b3⟩
    obtain ⟨l, r, hlr⟩ : ∃ l r : Nat, (if 3 ≤ (rowAt rows0 k).kind then img (rowAt rows0 k).l.toNat else 0) = (if 3 ≤ (rowAt rows0 k).kind then (l : Int) else 0) ∧ (if 3 ≤ (rowAt rows0 k).kind then img (rowAt rows0 k).r.toNat else 0) = (if 3 ≤ (rowAt rows0 k).kind then (r : Int) else 0) ∧
        (3 ≤ (rowAt rows0 k).kind → l < rows.length ∧ r < rows.length ∧ tree rows l = F (tree rows0 (rowAt rows0 k).l.toNat) ∧ tree rows r = F (tree rows0 (rowAt rows0 k).r.toNat)) := by
      by_cases h3 : 3 ≤ (rowAt rows0 k).kind
      · obtain ⟨l, r, a, b, c⟩ := parts h3
        exact ⟨l, r, by rw [if_pos h3, if_pos h3, a], by rw [if_pos h3, if_pos h3, b], fun _ => c⟩
      · exact ⟨0, 0, by rw [if_neg h3, if_neg h3], by rw [if_neg h3, if_neg h3], fun h => absurd h h3⟩
    obtain ⟨e1, e2, e3⟩ := hlr
    have hI := hs.img rows k l r h.ok h.pre hk e3
    unfold anewGo at he ⊢
    simp only [hrow, e1, e2] at he ⊢
    generalize of rows k (rowAt rows0 k) (if 3 ≤ (rowAt rows0 k).kind then (l : Int) else 0) (if 3 ≤ (rowAt rows0 k).kind then (r : Int) else 0) = p at *
    by_cases hz : p.err = 0
    · rw [if_pos hz] at he ⊢
      obtain ⟨o1, o2, i, o3, o4, o5⟩ := hI hz
      have := anewGo_sem ok0 hs t p.rows (fun x => if x = k then p.id else img x) (fun x => done x ∨ x = k) ⟨o1, h.pre.trans o2, fun x hx hl => ?_⟩ (fun x hx => hlt x (by simp [hx])) hp'.2 (fun x hx h3 => ?_) he
      · refine ⟨this.ok, this.pre, fun x hx hl => this.img x ?_ hl⟩
        rcases hx with hx | hx
        · exact .inl (.inl hx)
        · rcases List.mem_cons.1 hx with rfl | hx
          · exact .inl (.inr rfl)
          · exact .inr hx
      · by_cases e : x = k
        · subst e
          rw [if_pos rfl]
          exact ⟨i, o3, o4, o5⟩
        · rw [if_neg e]
          obtain ⟨j, a, b, c⟩ := h.img x (hx.resolve_right e) hl
          exact ⟨j, a, Nat.lt_of_lt_of_le b (prefix_length o2), by rw [tree_prefix o2 b, c]⟩
      · obtain ⟨a, b⟩ := hd x (by simp [hx]) h3
        have conv : ∀ y, (done y ∨ y ∈ k :: t) → ((done y ∨ y = k) ∨ y ∈ t) := by
          intro y hy
          rcases hy with hy | hy
          · exact .inl (.inl hy)
          · rcases List.mem_cons.1 hy with rfl | hy
            · exact .inl (.inr rfl)
            · exact .inr hy
        exact ⟨conv _ a, conv _ b⟩
    · rw [if_neg hz] at he
      exact absurd he hz

theorem below_parts {rows : List ND} (ok : Ok rows) {id k : Nat} (hid : id < rows.length) (hk : k ∈ below rows id) (h3 : 3 ≤ (rowAt rows k).kind) : (rowAt rows k).l.toNat ∈ below rows id ∧ (rowAt rows k).r.toNat ∈ below rows id := by
  have hr := (mem_below ok).1 hk
  have hx := hr.le ok
  obtain ⟨a, b⟩ := reach_snoc hr (rowAt_get (by omega)) h3
  exact ⟨(mem_below ok).2 a, (mem_below ok).2 b⟩

/-- Made anew: its tree. -/
theorem anewP_sem {of : OfF} {F : Fm → Fm} {rows : List ND} (ok : Ok rows) (hs : Sem of F rows) {id : Nat} (hid : id < rows.length) (he : (anewP of rows id).err = 0) :
    Ok (anewP of rows id).rows ∧ rows <+: (anewP of rows id).rows ∧ ∃ i : Nat, (anewP of rows id).id = (i : Int) ∧ i < (anewP of rows id).rows.length ∧ tree (anewP of rows id).rows i = F (tree rows id) := by
  unfold anewP at he ⊢
  simp only at he ⊢
  by_cases hz : (anewGo of (below rows id) rows (fun _ => 0)).2.2 = 0
  · rw [if_pos hz]
    have := anewGo_sem ok hs (below rows id) rows (fun _ => 0) (fun _ => False) ⟨ok, List.prefix_refl _, fun _ h => h.elim⟩ (fun k hk => by have := ((mem_below ok).1 hk).le ok; omega) (below_pairwise rows id) (fun k hk h3 => by
      obtain ⟨a, b⟩ := below_parts ok hid hk h3; exact ⟨.inr a, .inr b⟩) hz
    obtain ⟨i, a, b, c⟩ := this.img id (.inr ((mem_below ok).2 (.refl _))) hid
    exact ⟨this.ok, this.pre, i, a, b, c⟩
  · rw [if_neg hz] at he
    exact absurd he hz
theorem anewP_rows {of : OfF} {rows : List ND} {id : Nat} (he : (anewP of rows id).err ≠ 0) : (anewP of rows id).rows = rows ∧ (anewP of rows id).id = 0 := by
  unfold anewP at he ⊢
  simp only at he ⊢
  split
  · rename_i h; rw [if_pos h] at he; exact absurd rfl he
  · exact ⟨rfl, rfl⟩

/-- Where every image is the row itself: nothing changes. -/
theorem anewGo_same {of : OfF} {rows : List ND} (ok : Ok rows) : ∀ (todo : List Nat) (img : Nat → Int) (done : Nat → Prop), (∀ x, done x → img x = (x : Int)) → (∀ k ∈ todo, k < rows.length) → todo.Pairwise (· < ·) →
    (∀ k ∈ todo, 3 ≤ (rowAt rows k).kind → (done (rowAt rows k).l.toNat ∨ (rowAt rows k).l.toNat ∈ todo) ∧ (done (rowAt rows k).r.toNat ∨ (rowAt rows k).r.toNat ∈ todo)) →
    (∀ k ∈ todo, of rows k (rowAt rows k) (if 3 ≤ (rowAt rows k).kind then (rowAt rows k).l else 0) (if 3 ≤ (rowAt rows k).kind then (rowAt rows k).r else 0) = ⟨rows, k, 0⟩) →
    (anewGo of todo rows img).1 = rows ∧ (anewGo of todo rows img).2.2 = 0 ∧ ∀ x, done x ∨ x ∈ todo → (anewGo of todo rows img).2.1 x = (x : Int)
  | [], img, done, hi, _, _, _, _ => ⟨rfl, rfl, fun x hx => hi x (hx.resolve_right (by simp))⟩
  | k :: t, img, done, hi, hlt, hp, hd, hof => by
    have hp' := List.pairwise_cons.1 hp
    have hk := hlt k (by simp)
    have notin : ∀ x, x < k → x ∉ k :: t := by
      intro x hx hm
      rcases List.mem_cons.1 hm with rfl | hm
      · omega
      · have := hp'.1 x hm; omega
    have e : (if 3 ≤ (rowAt rows k).kind then img (rowAt rows k).l.toNat else 0) = (if 3 ≤ (rowAt rows k).kind then (rowAt rows k).l else 0) ∧ (if 3 ≤ (rowAt rows k).kind then img (rowAt rows k).r.toNat else 0) = (if 3 ≤ (rowAt rows k).kind then (rowAt rows k).r else 0) := by
      by_cases h3 : 3 ≤ (rowAt rows k).kind
      · obtain ⟨p1, p2⟩ := ok.parts (rowAt_get hk) h3
        obtain ⟨d1, d2⟩ := hd k (by simp) h3
        rw [if_pos h3, if_pos h3, if_pos h3, if_pos h3, hi _ (d1.resolve_right (notin _ (by omega))), hi _ (d2.resolve_right (notin _ (by omega)))]
        exact ⟨by omega, by omega⟩
      · rw [if_neg h3, if_neg h3, if_neg h3, if_neg h3]; exact ⟨rfl, rfl⟩
    have hh := hof k (by simp)
    unfold anewGo
    simp only [e.1, e.2, hh, if_true]
    have conv : ∀ y, (done y ∨ y ∈ k :: t) → ((done y ∨ y = k) ∨ y ∈ t) := by
      intro y hy
      rcases hy with hy | hy
      · exact .inl (.inl hy)
      · rcases List.mem_cons.1 hy with rfl | hy
        · exact .inl (.inr rfl)
        · exact .inr hy
    obtain ⟨a, b, c⟩ := anewGo_same ok t (fun x => if x = k then (k : Int) else img x) (fun x => done x ∨ x = k) (fun x hx => by
        by_cases e : x = k
        · simp [e]
        · simp only [if_neg e]; exact hi x (hx.resolve_right e)) (fun x hx => hlt x (by simp [hx])) hp'.2 (fun x hx h3 => by
        obtain ⟨a, b⟩ := hd x (by simp [hx]) h3
        exact ⟨conv _ a, conv _ b⟩) (fun x hx => hof x (by simp [hx]))
    exact ⟨a, b, fun x hx => c x (conv x hx)⟩
theorem anewP_same {of : OfF} {rows : List ND} (ok : Ok rows) {id : Nat} (hid : id < rows.length)
    (hof : ∀ k ∈ below rows id, of rows k (rowAt rows k) (if 3 ≤ (rowAt rows k).kind then (rowAt rows k).l else 0) (if 3 ≤ (rowAt rows k).kind then (rowAt rows k).r else 0) = ⟨rows, k, 0⟩) : anewP of rows id = ⟨rows, id, 0⟩ := by
  obtain ⟨a, b, c⟩ := anewGo_same ok (below rows id) (fun _ => 0) (fun _ => False) (fun _ h => h.elim) (fun k hk => by have := ((mem_below ok).1 hk).le ok; omega) (below_pairwise rows id) (fun k hk h3 => by
      obtain ⟨a, b⟩ := below_parts ok hid hk h3; exact ⟨.inr a, .inr b⟩) hof
  unfold anewP
  simp only
  rw [if_pos b, a, c id (.inr ((mem_below ok).2 (.refl _)))]

/-! ### formulas for atoms -/
def sub (σ : ByteArray → Option Fm) : Fm → Fm
  | .atom s => (σ s).getD (.atom s)
  | .bot => .bot
  | .and a b => .and (sub σ a) (sub σ b)
  | .or a b => .or (sub σ a) (sub σ b)
  | .imp a b => .imp (sub σ a) (sub σ b)
def atoms : Fm → List ByteArray
  | .atom s => [s]
  | .bot => []
  | .and a b => atoms a ++ atoms b
  | .or a b => atoms a ++ atoms b
  | .imp a b => atoms a ++ atoms b
theorem sub_congr {σ τ : ByteArray → Option Fm} (f : Fm) (h : ∀ s ∈ atoms f, (σ s).getD (.atom s) = (τ s).getD (.atom s)) : sub σ f = sub τ f := by
  induction f with
  | atom s => exact h s (by simp [atoms])
  | bot => rfl
  | and a b iha ihb => simp only [sub]; rw [iha (fun s hs => h s (by simp [atoms, hs])), ihb (fun s hs => h s (by simp [atoms, hs]))]
  | or a b iha ihb => simp only [sub]; rw [iha (fun s hs => h s (by simp [atoms, hs])), ihb (fun s hs => h s (by simp [atoms, hs]))]
  | imp a b iha ihb => simp only [sub]; rw [iha (fun s hs => h s (by simp [atoms, hs])), ihb (fun s hs => h s (by simp [atoms, hs]))]
theorem sub_none (f : Fm) : sub (fun _ => none) f = f := by
  induction f with
  | atom s => rfl
  | bot => rfl
  | and a b iha ihb => simp only [sub, iha, ihb]
  | or a b iha ihb => simp only [sub, iha, ihb]
  | imp a b iha ihb => simp only [sub, iha, ihb]
theorem sub_id {σ : ByteArray → Option Fm} (f : Fm) (h : ∀ s ∈ atoms f, (σ s).getD (.atom s) = .atom s) : sub σ f = f := by
  rw [sub_congr (τ := fun _ => none) f (by simpa using h), sub_none]
theorem sub_sub (σ τ : ByteArray → Option Fm) (f : Fm) : sub τ (sub σ f) = sub (fun s => some (sub τ ((σ s).getD (.atom s)))) f := by
  induction f with
  | atom s => simp [sub]
  | bot => rfl
  | and a b iha ihb => simp only [sub, iha, ihb]
  | or a b iha ihb => simp only [sub, iha, ihb]
  | imp a b iha ihb => simp only [sub, iha, ihb]
/-- What is put in is told by the whole. -/
theorem sub_inj {σ τ : ByteArray → Option Fm} (f : Fm) (h : sub σ f = sub τ f) : ∀ s ∈ atoms f, (σ s).getD (.atom s) = (τ s).getD (.atom s) := by
  induction f with
  | atom s => intro t ht; simp only [atoms, List.mem_singleton] at ht; subst ht; exact h
  | bot => intro s hs; simp [atoms] at hs
  | and a b iha ihb =>
    simp only [sub, Fm.and.injEq] at h
    intro s hs
    simp only [atoms, List.mem_append] at hs
    exact hs.elim (iha h.1 s) (ihb h.2 s)
  | or a b iha ihb =>
    simp only [sub, Fm.or.injEq] at h
    intro s hs
    simp only [atoms, List.mem_append] at hs
    exact hs.elim (iha h.1 s) (ihb h.2 s)
  | imp a b iha ihb =>
    simp only [sub, Fm.imp.injEq] at h
    intro s hs
    simp only [atoms, List.mem_append] at hs
    exact hs.elim (iha h.1 s) (ihb h.2 s)

/-- The image that Put tells. -/
def putOf (named : ByteArray → Option Int) : OfF := fun rows k n l r =>
  if n.kind < 3 then (if n.kind = 1 then ⟨rows, (named n.name).getD k, 0⟩ else ⟨rows, k, 0⟩) else put rows ⟨n.kind, ByteArray.empty, l, r⟩
def sig (named : ByteArray → Option Int) (rows : List ND) (s : ByteArray) : Option Fm := (named s).map fun f => tree rows f.toNat

theorem putOf_sem {named : ByteArray → Option Int} {rows0 : List ND} (ok0 : Ok rows0) (hn : ∀ s f, named s = some f → hasB rows0.length f = true) : Sem (putOf named) (sub (sig named rows0)) rows0 := by
  refine ⟨fun rows k l r ok hp hk h3 he => ?_⟩
  have hrow := rowAt_get hk
  generalize hN : rowAt rows0 k = n at *
  rcases tree_row ok0 hrow with ⟨s, rfl, ht, hw⟩ | ⟨rfl, ht⟩ | ⟨x, y, hx, hy, ht⟩
  · simp only [putOf]
    simp only [show (1 : Int) < 3 by decide, if_true, ht, sub, sig]
    cases hns : named s with
    | none => exact imgOk_there ok (Nat.lt_of_lt_of_le hk (prefix_length hp)) (by rw [tree_prefix hp hk, ht]; rfl)
    | some f =>
      have := hn s f hns
      simp only [hasB, Bool.and_eq_true, decide_eq_true_eq] at this
      obtain ⟨i, rfl⟩ := Int.eq_ofNat_of_zero_le this.1
      have hi : i < rows0.length := by omega
      exact imgOk_there ok (Nat.lt_of_lt_of_le hi (prefix_length hp)) (by rw [tree_prefix hp hi]; rfl)
  · simp only [putOf]
    simp only [show (2 : Int) < 3 by decide, if_true, show ¬ (2 : Int) = 1 by decide, if_false, ht, sub]
    exact imgOk_there ok (Nat.lt_of_lt_of_le hk (prefix_length hp)) (by rw [tree_prefix hp hk, ht])
  · rcases ht with ⟨rfl, ht⟩ | ⟨rfl, ht⟩ | ⟨rfl, ht⟩
    · simp [putOf] at he h3 ⊢
      have := imgOk_two ok (.inl rfl) h3.1 h3.2.1 he
      rw [h3.2.2.1, h3.2.2.2] at this
      rw [ht]; simpa [treeOf, sub] using this
    · simp [putOf] at he h3 ⊢
      have := imgOk_two ok (.inr (.inl rfl)) h3.1 h3.2.1 he
      rw [h3.2.2.1, h3.2.2.2] at this
      rw [ht]; simpa [treeOf, sub] using this
    · simp [putOf] at he h3 ⊢
      have := imgOk_two ok (.inr (.inr rfl)) h3.1 h3.2.1 he
      rw [h3.2.2.1, h3.2.2.2] at this
      rw [ht]; simpa [treeOf, sub] using this

end Go.Dk

/- What is simply simpler; plain. -/
namespace Go.Dk

def topF : Fm := .imp .bot .bot
def simpN (k : Int) (l r : Fm) : Fm :=
  if k = 3 then (if l = .bot ∨ r = .bot then .bot else if l = topF then r else if r = topF ∨ l = r then l else .and l r)
  else if k = 4 then (if l = topF ∨ r = topF then topF else if l = .bot then r else if r = .bot ∨ l = r then l else .or l r)
  else (if l = .bot ∨ r = topF ∨ l = r then topF else if l = topF then r else .imp l r)
def simpF : Fm → Fm
  | .atom s => .atom s
  | .bot => .bot
  | .and a b => simpN 3 (simpF a) (simpF b)
  | .or a b => simpN 4 (simpF a) (simpF b)
  | .imp a b => simpN 5 (simpF a) (simpF b)

/-- Simple all through. -/
inductive HS : Fm → Prop
  | atom (s : ByteArray) : HS (.atom s)
  | bot : HS .bot
  | and {a b : Fm} : HS a → HS b → simpN 3 a b = .and a b → HS (.and a b)
  | or {a b : Fm} : HS a → HS b → simpN 4 a b = .or a b → HS (.or a b)
  | imp {a b : Fm} : HS a → HS b → simpN 5 a b = .imp a b → HS (.imp a b)
theorem HS.top : HS topF := .imp .bot .bot (by simp [simpN, topF])
theorem HS.node {a b : Fm} (ha : HS a) (hb : HS b) {k : Int} (hk : k = 3 ∨ k = 4 ∨ k = 5) : HS (simpN k a b) := by
  rcases hk with rfl | rfl | rfl
  · have : simpN 3 a b = if a = .bot ∨ b = .bot then .bot else if a = topF then b else if b = topF ∨ a = b then a else .and a b := by simp [simpN]
    by_cases h1 : a = .bot ∨ b = .bot
    · rw [this, if_pos h1]; exact .bot
    · by_cases h2 : a = topF
      · rw [this, if_neg h1, if_pos h2]; exact hb
      · by_cases h3 : b = topF ∨ a = b
        · rw [this, if_neg h1, if_neg h2, if_pos h3]; exact ha
        · rw [if_neg h1, if_neg h2, if_neg h3] at this
          rw [this]; exact .and ha hb this
  · have : simpN 4 a b = if a = topF ∨ b = topF then topF else if a = .bot then b else if b = .bot ∨ a = b then a else .or a b := by simp [simpN]
    by_cases h1 : a = topF ∨ b = topF
    · rw [this, if_pos h1]; exact .top
    · by_cases h2 : a = .bot
      · rw [this, if_neg h1, if_pos h2]; exact hb
      · by_cases h3 : b = .bot ∨ a = b
        · rw [this, if_neg h1, if_neg h2, if_pos h3]; exact ha
        · rw [if_neg h1, if_neg h2, if_neg h3] at this
          rw [this]; exact .or ha hb this
  · have : simpN 5 a b = if a = .bot ∨ b = topF ∨ a = b then topF else if a = topF then b else .imp a b := by simp [simpN]
    by_cases h1 : a = .bot ∨ b = topF ∨ a = b
    · rw [this, if_pos h1]; exact .top
    · by_cases h2 : a = topF
      · rw [this, if_neg h1, if_pos h2]; exact hb
      · rw [if_neg h1, if_neg h2] at this
        rw [this]; exact .imp ha hb this
theorem HS.simpF (f : Fm) : HS (simpF f) := by
  induction f with
  | atom s => exact .atom s
  | bot => exact .bot
  | and a b iha ihb => exact iha.node ihb (.inl rfl)
  | or a b iha ihb => exact iha.node ihb (.inr (.inl rfl))
  | imp a b iha ihb => exact iha.node ihb (.inr (.inr rfl))

/-! ### rows -/
def noB (rows : List ND) (i : Int) : Bool := decide ((rowAt rows i.toNat).kind = 2)
def yesB (rows : List ND) (i : Int) : Bool := decide ((rowAt rows i.toNat).kind = 5) && noB rows (rowAt rows i.toNat).l && noB rows (rowAt rows i.toNat).r
def topP (rows : List ND) : Put := if (put rows ⟨2, ByteArray.empty, 0, 0⟩).err ≠ 0 then ⟨(put rows ⟨2, ByteArray.empty, 0, 0⟩).rows, 0, (put rows ⟨2, ByteArray.empty, 0, 0⟩).err⟩ else put (put rows ⟨2, ByteArray.empty, 0, 0⟩).rows ⟨5, ByteArray.empty, (put rows ⟨2, ByteArray.empty, 0, 0⟩).id, (put rows ⟨2, ByteArray.empty, 0, 0⟩).id⟩
/-- The document's image. -/
def simpOf : OfF := fun rows k n l r =>
  if n.kind = 3 then (if noB rows l then ⟨rows, l, 0⟩ else if noB rows r then ⟨rows, r, 0⟩ else if yesB rows l then ⟨rows, r, 0⟩ else if yesB rows r ∨ l = r then ⟨rows, l, 0⟩ else put rows ⟨3, ByteArray.empty, l, r⟩)
  else if n.kind = 4 then (if yesB rows l then ⟨rows, l, 0⟩ else if yesB rows r then ⟨rows, r, 0⟩ else if noB rows l then ⟨rows, r, 0⟩ else if noB rows r ∨ l = r then ⟨rows, l, 0⟩ else put rows ⟨4, ByteArray.empty, l, r⟩)
  else if n.kind = 5 then (if noB rows l ∨ yesB rows r ∨ l = r then topP rows else if yesB rows l then ⟨rows, r, 0⟩ else put rows ⟨5, ByteArray.empty, l, r⟩)
  else ⟨rows, k, 0⟩
/-- The program's. -/
def simpOf' : OfF := fun rows k n l r =>
  if n.kind = 3 then (if noB rows l ∨ noB rows r then put rows ⟨2, ByteArray.empty, 0, 0⟩ else if yesB rows l then ⟨rows, r, 0⟩ else if yesB rows r ∨ l = r then ⟨rows, l, 0⟩ else put rows ⟨3, ByteArray.empty, l, r⟩)
  else if n.kind = 4 then (if yesB rows l ∨ yesB rows r then topP rows else if noB rows l then ⟨rows, r, 0⟩ else if noB rows r ∨ l = r then ⟨rows, l, 0⟩ else put rows ⟨4, ByteArray.empty, l, r⟩)
  else if n.kind = 5 then (if noB rows l ∨ yesB rows r ∨ l = r then topP rows else if yesB rows l then ⟨rows, r, 0⟩ else put rows ⟨5, ByteArray.empty, l, r⟩)
  else ⟨rows, k, 0⟩

theorem no_iff {rows : List ND} (ok : Ok rows) {i : Nat} (hi : i < rows.length) : noB rows (i : Int) = true ↔ tree rows i = .bot := by
  unfold noB
  simp only [Int.toNat_natCast, decide_eq_true_eq]
  have hr := rowAt_get hi
  constructor
  · intro h; exact tree_bot hr h
  · intro h; have := tree_kind ok hr; rw [h] at this; exact this.symm
theorem no_row {rows : List ND} (ok : Ok rows) {i : Nat} (hi : i < rows.length) (h : noB rows (i : Int) = true) : rows[i]? = some ⟨2, ByteArray.empty, 0, 0⟩ := by
  have hr := rowAt_get hi
  unfold noB at h
  simp only [Int.toNat_natCast, decide_eq_true_eq] at h
  rcases ok.row hr with ⟨a, _⟩ | a | ⟨a, _⟩
  · omega
  · rw [hr, a]
  · omega
theorem no_put {rows : List ND} (ok : Ok rows) {i : Nat} (hi : i < rows.length) (h : noB rows (i : Int) = true) : put rows ⟨2, ByteArray.empty, 0, 0⟩ = ⟨rows, i, 0⟩ := put_there ok (no_row ok hi h)
theorem yes_row {rows : List ND} (ok : Ok rows) {i : Nat} (hi : i < rows.length) (h : yesB rows (i : Int) = true) : ∃ b : Nat, b < i ∧ rows[b]? = some ⟨2, ByteArray.empty, 0, 0⟩ ∧ rows[i]? = some ⟨5, ByteArray.empty, b, b⟩ := by
  have hr := rowAt_get hi
  unfold yesB at h
  simp only [Int.toNat_natCast, Bool.and_eq_true, decide_eq_true_eq] at h
  obtain ⟨⟨h1, h2⟩, h3⟩ := h
  rcases ok.row hr with ⟨a, _⟩ | a | ⟨a1, a2, a3, a4, a5, a6⟩
  · omega
  · rw [a] at h1; simp only at h1; omega
  · generalize rowAt rows i = n at *
    obtain ⟨nk, nn, nl, nr⟩ := n
    simp only at *
    subst h1 a2
    obtain ⟨l, rfl⟩ := Int.eq_ofNat_of_zero_le a3
    obtain ⟨r, rfl⟩ := Int.eq_ofNat_of_zero_le a5
    have e1 := no_row ok (i := l) (by omega) h2
    have e2 := no_row ok (i := r) (by omega) h3
    have : l = r := (List.getElem_inj ok.nodup (h₀ := by omega) (h₁ := by omega)).1 ((List.getElem?_eq_some_iff.1 e1).2.trans (List.getElem?_eq_some_iff.1 e2).2.symm)
    subst this
    exact ⟨l, by omega, e1, hr⟩
theorem yes_iff {rows : List ND} (ok : Ok rows) {i : Nat} (hi : i < rows.length) : yesB rows (i : Int) = true ↔ tree rows i = topF := by
  constructor
  · intro h
    obtain ⟨b, hb, h1, h2⟩ := yes_row ok hi h
    rw [tree_two ok h2 (by simp only; omega)]
    simp only [Int.toNat_natCast]
    rw [tree_bot h1 rfl]; rfl
  · intro h
    have hr := rowAt_get hi
    rcases tree_row ok hr with ⟨s, e, ht, _⟩ | ⟨e, ht⟩ | ⟨l, r, hl, hr', ht⟩
    · rw [ht] at h; cases h
    · rw [ht] at h; cases h
    · rcases ht with ⟨e, ht⟩ | ⟨e, ht⟩ | ⟨e, ht⟩
      · rw [ht] at h; cases h
      · rw [ht] at h; cases h
      · rw [ht] at h
        simp only [topF, Fm.imp.injEq] at h
        unfold yesB
        simp only [Int.toNat_natCast, e, decide_true, Bool.true_and, Bool.and_eq_true]
        exact ⟨(no_iff ok (by omega)).2 h.1, (no_iff ok (by omega)).2 h.2⟩
theorem yes_top {rows : List ND} (ok : Ok rows) {i : Nat} (hi : i < rows.length) (h : yesB rows (i : Int) = true) : topP rows = ⟨rows, i, 0⟩ := by
  obtain ⟨b, hb, h1, h2⟩ := yes_row ok hi h
  unfold topP
  rw [put_there ok h1]
  simp only [ne_eq, not_true_eq_false, if_false]
  exact put_there ok h2

theorem simpOf_eq {rows : List ND} (ok : Ok rows) (k : Nat) (n : ND) {l r : Nat} (hl : l < rows.length) (hr : r < rows.length) : simpOf' rows k n l r = simpOf rows k n l r := by
  unfold simpOf' simpOf
  by_cases h3 : n.kind = 3
  · rw [if_pos h3, if_pos h3]
    by_cases h1 : noB rows l = true
    · rw [if_pos (.inl h1), if_pos h1, no_put ok hl h1]
    · by_cases h2 : noB rows r = true
      · rw [if_pos (.inr h2), if_neg h1, if_pos h2, no_put ok hr h2]
      · rw [if_neg (by simp [h1, h2]), if_neg h1, if_neg h2]
  · rw [if_neg h3, if_neg h3]
    by_cases h4 : n.kind = 4
    · rw [if_pos h4, if_pos h4]
      by_cases h1 : yesB rows l = true
      · rw [if_pos (.inl h1), if_pos h1, yes_top ok hl h1]
      · by_cases h2 : yesB rows r = true
        · rw [if_pos (.inr h2), if_neg h1, if_pos h2, yes_top ok hr h2]
        · rw [if_neg (by simp [h1, h2]), if_neg h1, if_neg h2]
    · rw [if_neg h4, if_neg h4]

theorem topP_ok {rows : List ND} (ok : Ok rows) (he : (topP rows).err = 0) : ImgOk rows (topP rows) topF := by
  unfold topP at he ⊢
  by_cases hz : (put rows ⟨2, ByteArray.empty, 0, 0⟩).err = 0
  · rw [if_neg (by simpa using hz)] at he ⊢
    obtain ⟨b, h1, h2, _⟩ := put_ok hz
    rw [h1] at he ⊢
    have ok2 := ok.put ⟨2, ByteArray.empty, 0, 0⟩
    have hb := (List.getElem?_eq_some_iff.1 h2).1
    obtain ⟨o1, o2, i, o3, o4, o5⟩ := imgOk_two ok2 (.inr (.inr rfl)) hb hb he
    refine ⟨o1, (put_prefix _ _).trans o2, i, o3, o4, ?_⟩
    rw [o5, tree_bot h2 rfl]; rfl
  · rw [if_pos hz] at he; exact absurd he hz

theorem simpOf_img {rows : List ND} (ok : Ok rows) {k : Nat} {n : ND} (hn : n.kind = 3 ∨ n.kind = 4 ∨ n.kind = 5) {l r : Nat} (hl : l < rows.length) (hr : r < rows.length) (he : (simpOf rows k n l r).err = 0) :
    ImgOk rows (simpOf rows k n l r) (simpN n.kind (tree rows l) (tree rows r)) := by
  have l1 := no_iff ok hl
  have l2 := yes_iff ok hl
  have r1 := no_iff ok hr
  have r2 := yes_iff ok hr
  have le : (l : Int) = r ↔ tree rows l = tree rows r := ⟨fun h => by rw [show l = r by omega], fun h => by rw [tree_inj ok hl hr h]⟩
  unfold simpOf at he ⊢
  unfold simpN
  rcases hn with h | h | h
  · simp only [h, if_true] at he ⊢
    by_cases c1 : noB rows l = true
    · rw [if_pos c1, if_pos (.inl (l1.1 c1))]; exact imgOk_there ok hl (l1.1 c1)
    · by_cases c2 : noB rows r = true
      · rw [if_neg c1, if_pos c2, if_pos (.inr (r1.1 c2))]; exact imgOk_there ok hr (r1.1 c2)
      · have d1 : ¬ (tree rows l = .bot ∨ tree rows r = .bot) := by rw [← l1, ← r1]; simp [c1, c2]
        rw [if_neg d1]
        rw [if_neg c1, if_neg c2] at he ⊢
        by_cases c3 : yesB rows l = true
        · rw [if_pos c3, if_pos (l2.1 c3)]; exact imgOk_there ok hr rfl
        · have d2 : ¬ tree rows l = topF := fun h => c3 (l2.2 h)
          rw [if_neg d2]
          rw [if_neg c3] at he ⊢
          by_cases c4 : yesB rows r = true ∨ (l : Int) = r
          · have d3 : tree rows r = topF ∨ tree rows l = tree rows r := by rw [← r2, ← le]; exact c4
            rw [if_pos c4, if_pos d3]; exact imgOk_there ok hl rfl
          · have d3 : ¬ (tree rows r = topF ∨ tree rows l = tree rows r) := by rw [← r2, ← le]; exact c4
            rw [if_neg d3]
            rw [if_neg c4] at he ⊢
            simpa [treeOf] using imgOk_two ok (.inl rfl) hl hr he
  · simp only [h, show ¬ (4 : Int) = 3 by decide, if_true, if_false] at he ⊢
    by_cases c1 : yesB rows l = true
    · rw [if_pos c1, if_pos (.inl (l2.1 c1))]; exact imgOk_there ok hl (l2.1 c1)
    · by_cases c2 : yesB rows r = true
      · rw [if_neg c1, if_pos c2, if_pos (.inr (r2.1 c2))]; exact imgOk_there ok hr (r2.1 c2)
      · have d1 : ¬ (tree rows l = topF ∨ tree rows r = topF) := by rw [← l2, ← r2]; simp [c1, c2]
        rw [if_neg d1]
        rw [if_neg c1, if_neg c2] at he ⊢
        by_cases c3 : noB rows l = true
        · rw [if_pos c3, if_pos (l1.1 c3)]; exact imgOk_there ok hr rfl
        · have d2 : ¬ tree rows l = .bot := fun h => c3 (l1.2 h)
          rw [if_neg d2]
          rw [if_neg c3] at he ⊢
          by_cases c4 : noB rows r = true ∨ (l : Int) = r
          · have d3 : tree rows r = .bot ∨ tree rows l = tree rows r := by rw [← r1, ← le]; exact c4
            rw [if_pos c4, if_pos d3]; exact imgOk_there ok hl rfl
          · have d3 : ¬ (tree rows r = .bot ∨ tree rows l = tree rows r) := by rw [← r1, ← le]; exact c4
            rw [if_neg d3]
            rw [if_neg c4] at he ⊢
            simpa [treeOf] using imgOk_two ok (.inr (.inl rfl)) hl hr he
  · simp only [h, show ¬ (5 : Int) = 3 by decide, show ¬ (5 : Int) = 4 by decide, if_true, if_false] at he ⊢
    by_cases c1 : noB rows l = true ∨ yesB rows r = true ∨ (l : Int) = r
    · have d1 : tree rows l = .bot ∨ tree rows r = topF ∨ tree rows l = tree rows r := by rw [← l1, ← r2, ← le]; exact c1
      rw [if_pos d1]
      rw [if_pos c1] at he ⊢
      exact topP_ok ok he
    · have d1 : ¬ (tree rows l = .bot ∨ tree rows r = topF ∨ tree rows l = tree rows r) := by rw [← l1, ← r2, ← le]; exact c1
      rw [if_neg d1]
      rw [if_neg c1] at he ⊢
      by_cases c3 : yesB rows l = true
      · rw [if_pos c3, if_pos (l2.1 c3)]; exact imgOk_there ok hr rfl
      · have d2 : ¬ tree rows l = topF := fun h => c3 (l2.2 h)
        rw [if_neg d2]
        rw [if_neg c3] at he ⊢
        simpa [treeOf] using imgOk_two ok (.inr (.inr rfl)) hl hr he

theorem simpOf_sem {rows0 : List ND} (ok0 : Ok rows0) : Sem simpOf simpF rows0 := by
  refine ⟨fun rows k l r ok hp hk h3 he => ?_⟩
  have hrow := rowAt_get hk
  generalize hN : rowAt rows0 k = n at *
  rcases tree_row ok0 hrow with ⟨s, rfl, ht, hw⟩ | ⟨rfl, ht⟩ | ⟨x, y, hx, hy, ht⟩
  · simp only [simpOf]
    simp only [show ¬ (1 : Int) = 3 by decide, show ¬ (1 : Int) = 4 by decide, show ¬ (1 : Int) = 5 by decide, if_false, ht, simpF]
    exact imgOk_there ok (Nat.lt_of_lt_of_le hk (prefix_length hp)) (by rw [tree_prefix hp hk, ht])
  · simp only [simpOf]
    simp only [show ¬ (2 : Int) = 3 by decide, show ¬ (2 : Int) = 4 by decide, show ¬ (2 : Int) = 5 by decide, if_false, ht, simpF]
    exact imgOk_there ok (Nat.lt_of_lt_of_le hk (prefix_length hp)) (by rw [tree_prefix hp hk, ht])
  · rcases ht with ⟨rfl, ht⟩ | ⟨rfl, ht⟩ | ⟨rfl, ht⟩
    · simp only [show (3 : Int) ≤ 3 by decide, if_true, forall_const, Int.toNat_natCast] at h3 he ⊢
      have := simpOf_img ok (k := k) (n := ⟨3, ByteArray.empty, x, y⟩) (.inl rfl) h3.1 h3.2.1 he
      rw [h3.2.2.1, h3.2.2.2] at this
      rw [ht]; exact this
    · simp only [show (3 : Int) ≤ 4 by decide, if_true, forall_const, Int.toNat_natCast] at h3 he ⊢
      have := simpOf_img ok (k := k) (n := ⟨4, ByteArray.empty, x, y⟩) (.inr (.inl rfl)) h3.1 h3.2.1 he
      rw [h3.2.2.1, h3.2.2.2] at this
      rw [ht]; exact this
    · simp only [show (3 : Int) ≤ 5 by decide, if_true, forall_const, Int.toNat_natCast] at h3 he ⊢
      have := simpOf_img ok (k := k) (n := ⟨5, ByteArray.empty, x, y⟩) (.inr (.inr rfl)) h3.1 h3.2.1 he
      rw [h3.2.2.1, h3.2.2.2] at this
      rw [ht]; exact this

/-! ### once more changes nothing -/
theorem HS.reach {rows : List ND} (ok : Ok rows) {i j : Nat} (h : Reach rows i j) (hs : HS (tree rows i)) : HS (tree rows j) := by
  induction h with
  | refl => exact hs
  | @left i j n h1 h2 h3 ih =>
    refine ih ?_
    rcases tree_row ok h1 with ⟨s, rfl, ht, hw⟩ | ⟨rfl, ht⟩ | ⟨x, y, hx, hy, ht⟩
    · simp only at h2; omega
    · simp only at h2; omega
    · rcases ht with ⟨rfl, ht⟩ | ⟨rfl, ht⟩ | ⟨rfl, ht⟩ <;> (rw [ht] at hs; cases hs; simpa)
  | @right i j n h1 h2 h3 ih =>
    refine ih ?_
    rcases tree_row ok h1 with ⟨s, rfl, ht, hw⟩ | ⟨rfl, ht⟩ | ⟨x, y, hx, hy, ht⟩
    · simp only at h2; omega
    · simp only at h2; omega
    · rcases ht with ⟨rfl, ht⟩ | ⟨rfl, ht⟩ | ⟨rfl, ht⟩ <;> (rw [ht] at hs; cases hs; simpa)

def sz : Fm → Nat
  | .atom _ => 1
  | .bot => 1
  | .and a b => sz a + sz b + 1
  | .or a b => sz a + sz b + 1
  | .imp a b => sz a + sz b + 1

theorem simpOf_same {rows : List ND} (ok : Ok rows) {k : Nat} (hk : k < rows.length) (hs : HS (tree rows k)) :
    simpOf rows k (rowAt rows k) (if 3 ≤ (rowAt rows k).kind then (rowAt rows k).l else 0) (if 3 ≤ (rowAt rows k).kind then (rowAt rows k).r else 0) = ⟨rows, k, 0⟩ := by
  have hrow := rowAt_get hk
  generalize hN : rowAt rows k = n at *
  rcases tree_row ok hrow with ⟨s, rfl, ht, hw⟩ | ⟨rfl, ht⟩ | ⟨x, y, hx, hy, ht⟩
  · simp [simpOf]
  · simp [simpOf]
  · have l1 := no_iff ok (i := x) (by omega)
    have l2 := yes_iff ok (i := x) (by omega)
    have r1 := no_iff ok (i := y) (by omega)
    have r2 := yes_iff ok (i := y) (by omega)
    have le : (x : Int) = y ↔ tree rows x = tree rows y := ⟨fun h => by rw [show x = y by omega], fun h => by rw [tree_inj ok (by omega) (by omega) h]⟩
    rcases ht with ⟨rfl, ht⟩ | ⟨rfl, ht⟩ | ⟨rfl, ht⟩
    · rw [ht] at hs
      cases hs with
      | and ha hb hN' =>
      simp only [show (3 : Int) ≤ 3 by decide, if_true, simpOf]
      have d1 : ¬ (tree rows x = .bot ∨ tree rows y = .bot) := fun h => by simp [simpN, h] at hN'
      have d2 : ¬ tree rows x = topF := fun h => by
        simp only [simpN, if_true, if_neg d1, if_pos h] at hN'
        have := congrArg sz hN'; simp only [sz] at this; omega
      have d3 : ¬ (tree rows y = topF ∨ tree rows x = tree rows y) := fun h => by
        simp only [simpN, if_true, if_neg d1, if_neg d2, if_pos h] at hN'
        have := congrArg sz hN'; simp only [sz] at this; omega
      rw [← l1, ← r1] at d1
      rw [← l2] at d2
      rw [← r2, ← le] at d3
      rw [if_neg (fun h => d1 (.inl h)), if_neg (fun h => d1 (.inr h)), if_neg d2, if_neg d3]
      exact put_there ok hrow
    · rw [ht] at hs
      cases hs with
      | or ha hb hN' =>
      simp only [show (3 : Int) ≤ 4 by decide, if_true, simpOf, show ¬ (4 : Int) = 3 by decide, if_false]
      have d1 : ¬ (tree rows x = topF ∨ tree rows y = topF) := fun h => by
        simp only [simpN, show ¬ (4 : Int) = 3 by decide, if_false, if_true, if_pos h] at hN'
        cases hN'
      have d2 : ¬ tree rows x = .bot := fun h => by
        simp only [simpN, show ¬ (4 : Int) = 3 by decide, if_false, if_true, if_neg d1, if_pos h] at hN'
        have := congrArg sz hN'; simp only [sz] at this; omega
      have d3 : ¬ (tree rows y = .bot ∨ tree rows x = tree rows y) := fun h => by
        simp only [simpN, show ¬ (4 : Int) = 3 by decide, if_false, if_true, if_neg d1, if_neg d2, if_pos h] at hN'
        have := congrArg sz hN'; simp only [sz] at this; omega
      rw [← l2, ← r2] at d1
      rw [← l1] at d2
      rw [← r1, ← le] at d3
      rw [if_neg (fun h => d1 (.inl h)), if_neg (fun h => d1 (.inr h)), if_neg d2, if_neg d3]
      exact put_there ok hrow
    · rw [ht] at hs
      cases hs with
      | imp ha hb hN' =>
      simp only [show (3 : Int) ≤ 5 by decide, if_true, simpOf, show ¬ (5 : Int) = 3 by decide, show ¬ (5 : Int) = 4 by decide, if_false]
      by_cases d1 : tree rows x = .bot ∨ tree rows y = topF ∨ tree rows x = tree rows y
      · have hN2 : topF = .imp (tree rows x) (tree rows y) := by simpa only [simpN, show ¬ (5 : Int) = 3 by decide, show ¬ (5 : Int) = 4 by decide, if_false, if_pos d1] using hN'
        rw [if_pos (by rw [l1, r2, le]; exact d1)]
        exact yes_top ok hk ((yes_iff ok hk).2 (by rw [ht, ← hN2]))
      · have d2 : ¬ tree rows x = topF := fun h => by
          simp only [simpN, show ¬ (5 : Int) = 3 by decide, show ¬ (5 : Int) = 4 by decide, if_false, if_neg d1, if_pos h] at hN'
          have := congrArg sz hN'; simp only [sz] at this; omega
        rw [← l1, ← r2, ← le] at d1
        rw [← l2] at d2
        rw [if_neg d1, if_neg d2]
        exact put_there ok hrow

theorem simple_twice {rows : List ND} (ok : Ok rows) {id : Nat} (hid : id < rows.length) (he : (anewP simpOf rows id).err = 0) :
    ∃ i : Nat, (anewP simpOf rows id).id = (i : Int) ∧ i < (anewP simpOf rows id).rows.length ∧ anewP simpOf (anewP simpOf rows id).rows i = ⟨(anewP simpOf rows id).rows, i, 0⟩ := by
  obtain ⟨o1, o2, i, o3, o4, o5⟩ := anewP_sem ok (simpOf_sem ok) hid he
  refine ⟨i, o3, o4, anewP_same o1 o4 fun k hk => ?_⟩
  have hr := (mem_below o1).1 hk
  refine simpOf_same o1 (by have := hr.le o1; omega) (HS.reach o1 hr ?_)
  rw [o5]; exact HS.simpF _

end Go.Dk

