/- Rows of formulas as lists: names, what fits, what 'put' does; plain lemmas. -/
namespace Go.Dk

structure ND where
  kind : Int
  name : ByteArray
  l : Int
  r : Int
deriving DecidableEq

/-! ### names -/
def letterB (c : UInt8) : Bool := (97 ≤ c && c ≤ 122) || (65 ≤ c && c ≤ 90)
def wordB (c : UInt8) : Bool := letterB c || (48 ≤ c && c ≤ 57) || c == 95 || c == 39
def reservedL : List (List UInt8) :=
  [[97, 98, 111, 114, 116], [99, 97, 115, 101], [102, 97, 108, 115, 101], [102, 115, 116], [102, 117, 110], [105, 110], [105, 110, 108], [105, 110, 114], [108, 101, 116], [111, 102], [115, 110, 100], [116, 114, 117, 101]]
def wordL (l : List UInt8) : Bool :=
  match l with
  | [] => false
  | c :: t => letterB c && t.all wordB && decide (l.length ≤ 31) && !reservedL.contains l
def word (s : ByteArray) : Bool := wordL s.data.toList

theorem word_size {s : ByteArray} (h : word s = true) : 1 ≤ s.size ∧ s.size ≤ 31 := by
  unfold word wordL at h
  have hs : s.data.toList.length = s.size := by simp
  split at h
  · cases h
  · rename_i c t e
    simp only [Bool.and_eq_true, decide_eq_true_eq] at h
    have h1 := h.1.2
    have h2 := congrArg List.length e
    simp only [List.length_cons] at h2
    rw [hs] at h1 h2
    omega

/-! ### rows -/
def hasB (n : Nat) (i : Int) : Bool := decide (0 ≤ i) && decide (i < (n : Int))

def fits (m : Nat) (n : ND) : Int :=
  if n.kind = 1 then (if n.l ≠ 0 ∨ n.r ≠ 0 then 31 else if word n.name = true then 0 else 32)
  else if n.kind = 2 then (if n.name.size ≠ 0 ∨ n.l ≠ 0 ∨ n.r ≠ 0 then 31 else 0)
  else if n.kind = 3 ∨ n.kind = 4 ∨ n.kind = 5 then (if n.name.size ≠ 0 ∨ hasB m n.l = false ∨ hasB m n.r = false then 31 else 0)
  else 31

structure Put where
  rows : List ND
  id : Int
  err : Int

def put (rows : List ND) (n : ND) : Put :=
  if fits rows.length n ≠ 0 then ⟨rows, 0, fits rows.length n⟩
  else match rows.idxOf? n with
    | some i => ⟨rows, i, 0⟩
    | none => if 1024 ≤ rows.length then ⟨rows, 0, 30⟩ else ⟨rows ++ [n], rows.length, 0⟩

def atomN (s : ByteArray) : ND := ⟨1, s, 0, 0⟩
def botN : ND := ⟨2, ByteArray.empty, 0, 0⟩
def twoN (k l r : Int) : ND := ⟨k, ByteArray.empty, l, r⟩

def notP (rows : List ND) (a : Int) : Put :=
  if hasB rows.length a = false then ⟨rows, 0, 31⟩
  else
    let p := put rows botN
    if p.err ≠ 0 then ⟨p.rows, 0, p.err⟩ else put p.rows (twoN 5 a p.id)

/-- A table's rows. -/
structure Ok (rows : List ND) : Prop where
  le : rows.length ≤ 1024
  nodup : rows.Nodup
  fit : ∀ i n, rows[i]? = some n → fits i n = 0

theorem Ok.nil : Ok [] := ⟨by simp, by simp, by simp⟩

theorem fits_mono {m m' : Nat} {n : ND} (h : fits m n = 0) (hm : m ≤ m') : fits m' n = 0 := by
  unfold fits at *
  split
  · rename_i h1; rw [if_pos h1] at h; exact h
  · rename_i h1
    rw [if_neg h1] at h
    split
    · rename_i h2; rw [if_pos h2] at h; exact h
    · rename_i h2
      rw [if_neg h2] at h
      split
      · rename_i h3
        rw [if_pos h3] at h
        split
        · rename_i h4
          exfalso
          split at h
          · cases h
          · rename_i h5
            simp only [not_or, hasB, Bool.and_eq_false_iff, decide_eq_false_iff_not, not_or, Classical.not_not] at h4 h5
            omega
        · rfl
      · rename_i h3; rw [if_neg h3] at h; cases h

theorem fits_le {m : Nat} {n : ND} (h : fits m n = 0) : n.name.size ≤ 31 ∧ (1 ≤ n.kind ∧ n.kind ≤ 5) ∧ (0 ≤ n.l ∧ (n.l < m ∨ n.l = 0)) ∧ (0 ≤ n.r ∧ (n.r < m ∨ n.r = 0)) := by
  unfold fits at h
  split at h
  · split at h
    · cases h
    · rename_i h1 h2
      split at h
      · rename_i h3
        have := word_size h3
        omega
      · cases h
  · split at h
    · split at h
      · cases h
      · omega
    · split at h
      · split at h
        · cases h
        · rename_i h1 h2 h3 h4
          simp only [not_or, hasB, Bool.and_eq_false_iff, decide_eq_false_iff_not, not_or, Classical.not_not] at h4
          omega
      · cases h

theorem Ok.snoc {rows : List ND} (h : Ok rows) {n : ND} (hf : fits rows.length n = 0) (hn : rows.idxOf? n = none) (hl : ¬ 1024 ≤ rows.length) : Ok (rows ++ [n]) := by
  refine ⟨by simp; omega, ?_, ?_⟩
  · refine List.nodup_append.2 ⟨h.nodup, by simp, ?_⟩
    intro a ha b hb e
    simp only [List.mem_singleton] at hb
    subst hb; subst e
    exact (List.idxOf?_eq_none_iff.1 hn) ha
  · intro i m hi
    rcases Nat.lt_trichotomy i rows.length with h1 | h1 | h1
    · rw [List.getElem?_append_left h1] at hi; exact h.fit i m hi
    · subst h1; simp at hi; subst hi; exact hf
    · rw [List.getElem?_eq_none (by simp; omega)] at hi; cases hi

theorem Ok.put {rows : List ND} (h : Ok rows) (n : ND) : Ok (put rows n).rows := by
  unfold Dk.put
  split
  · exact h
  · rename_i hf
    simp only [Classical.not_not] at hf
    split
    · exact h
    · rename_i hn
      split
      · exact h
      · rename_i hl; exact h.snoc hf hn hl

theorem Ok.take {rows : List ND} (h : Ok rows) (k : Nat) : Ok (rows.take k) := by
  refine ⟨by simp; have := h.le; omega, h.nodup.sublist (List.take_sublist _ _), ?_⟩
  intro i n hi
  rw [List.getElem?_take] at hi
  split at hi
  · exact h.fit i n hi
  · cases hi

theorem put_rows (rows : List ND) (n : ND) : (put rows n).rows = rows ∨ ((put rows n).rows = rows ++ [n] ∧ (put rows n).id = rows.length ∧ (put rows n).err = 0 ∧ fits rows.length n = 0 ∧ n ∉ rows ∧ rows.length < 1024) := by
  unfold put
  split
  · exact .inl rfl
  · rename_i hf
    simp only [Classical.not_not] at hf
    split
    · exact .inl rfl
    · rename_i hn
      split
      · exact .inl rfl
      · rename_i hl; exact .inr ⟨rfl, rfl, rfl, hf, List.idxOf?_eq_none_iff.1 hn, by omega⟩

theorem idxOf?_snoc (rows : List ND) (n x : ND) (hn : rows.idxOf? n = none) : (rows ++ [n]).idxOf? x = if x = n then some rows.length else rows.idxOf? x := by
  have hn' := List.idxOf?_eq_none_iff.1 hn
  unfold List.idxOf?
  rw [List.findIdx?_append]
  by_cases h : x = n
  · subst h
    rw [if_pos rfl]
    have : List.findIdx? (· == x) rows = none := hn
    rw [this]
    simp
  · rw [if_neg h]
    have : List.findIdx? (· == x) [n] = none := by simp [List.findIdx?_cons]; exact fun e => h e.symm
    rw [this]
    simp

/-! ### cutting -/
def cutF (rows : List ND) (n j : Nat) (x : ND) : Option Nat := (rows.idxOf? x).bind fun i => if n ≤ i ∧ i < n + j then none else some i

theorem cutF_zero (rows : List ND) (n : Nat) : cutF rows n 0 = fun x => rows.idxOf? x := by
  funext x
  unfold cutF
  cases rows.idxOf? x with
  | none => rfl
  | some i => simp

theorem idxOf?_get {rows : List ND} (h : rows.Nodup) {i : Nat} {x : ND} (hi : rows[i]? = some x) : rows.idxOf? x = some i := by
  obtain ⟨hl, e⟩ := List.getElem?_eq_some_iff.1 hi
  unfold List.idxOf?
  rw [List.findIdx?_eq_some_iff_getElem]
  refine ⟨hl, by simp [e], ?_⟩
  intro j hj
  simp only [beq_iff_eq]
  intro e2
  have := (List.getElem_inj h (h₀ := by omega) (h₁ := hl)).1 (e2.trans e.symm)
  omega

theorem get_of_idxOf? {rows : List ND} {i : Nat} {x : ND} (h : rows.idxOf? x = some i) : rows[i]? = some x := by
  unfold List.idxOf? at h
  rw [List.findIdx?_eq_some_iff_getElem] at h
  obtain ⟨hl, e, _⟩ := h
  rw [List.getElem?_eq_getElem hl]
  simp only [beq_iff_eq] at e
  rw [e]

theorem cutF_end {rows : List ND} (h : rows.Nodup) (n : Nat) (hn : n ≤ rows.length) : cutF rows n (rows.length - n) = fun x => (rows.take n).idxOf? x := by
  funext x
  unfold cutF
  cases hi : rows.idxOf? x with
  | none =>
    simp only [Option.bind_none]
    refine (List.idxOf?_eq_none_iff.2 fun hm => ?_).symm
    exact (List.idxOf?_eq_none_iff.1 hi) (List.mem_of_mem_take hm)
  | some i =>
    have hg := get_of_idxOf? hi
    have hl := (List.getElem?_eq_some_iff.1 hg).1
    simp only [Option.bind_some]
    by_cases h1 : i < n
    · rw [if_neg (by omega)]
      exact (idxOf?_get (h.sublist (List.take_sublist _ _)) (by rw [List.getElem?_take, if_pos h1]; exact hg)).symm
    · rw [if_pos (by omega)]
      refine (List.idxOf?_eq_none_iff.2 fun hm => ?_).symm
      obtain ⟨j, hj⟩ := List.mem_iff_getElem?.1 hm
      rw [List.getElem?_take] at hj
      split at hj
      · have := idxOf?_get h hj
        rw [hi] at this
        cases this
        omega
      · cases hj


end Go.Dk

