/- Parts of the proof: Pu, Sg, A, Shelf, B, D, R, W. -/
import Derived.WalkKit
import Derived.Maps.Own
import Derived.Maps.OwnSet
import Derived.Lib.Hide
import Derived.WalkSpells
import Derived.WalkLawsBesides
import Derived.Maps.AppendAt
import Derived.Laws.AppendOwnNone
import Derived.Deep.AppendLies
import Derived.Shelf.Small.Bits
import Derived.Shelf.Small.Wraps
import Derived.Shelf.Strconv.Itoa0
import Derived.Shelf.Sort.Plain
import Derived.Ground.Names2Prog
import Derived.Shelf.Slices.SearchI
import Derived.Shelf.Slices.In.SortNone
import Derived.Test.YthhokkfcdbcllaaDoorProg
import Derived.Maps.RangeRun
import Derived.Maps.RangeWalk
import Derived.Sort.OwnSortedInts
import Derived.BigQuiet
import Derived.Deep.QuietTactic
import Derived.KernelRfl
import Derived.DeepKeys4
section
namespace Go.Dk
structure ND where
  kind : Int
  name : ByteArray
  l : Int
  r : Int
deriving DecidableEq
def letterB (c : UInt8) : Bool := (97 ≤ c && c ≤ 122) || (65 ≤ c && c ≤ 90)
def wordB (c : UInt8) : Bool := letterB c || (48 ≤ c && c ≤ 57) || c == 95 || c == 39
def reservedL : List (List UInt8) :=
  [[97, 98, 111, 114, 116], [99, 97, 115, 101], [102, 97, 108, 115, 101], [102, 115, 116], [102, 117, 110], [105, 110], [105, 110, 108], [105, 110, 114], [108, 101, 116], [111, 102], [115, 110, 100], [116, 114, 117, 101]]
def wordL (l : List UInt8) : Bool :=
  match l with
  | [] => false
  | c :: t => letterB c && t.all wordB && decide (l.length ≤ 31) && !reservedL.contains l
def word (s : ByteArray) : Bool := wordL s.data.toList
theorem word_size {s : ByteArray} (h : word s = true) : 1 ≤ s.size ∧ s.size ≤ 31 := by
  unfold word wordL at h
  have hs : s.data.toList.length = s.size := by simp
  split at h
  · cases h
  · rename_i c t e
    simp only [Bool.and_eq_true, decide_eq_true_eq] at h
    have h1 := h.1.2
    have h2 := congrArg List.length e
    simp only [List.length_cons] at h2
    rw [hs] at h1 h2
    omega
def hasB (n : Nat) (i : Int) : Bool := decide (0 ≤ i) && decide (i < (n : Int))
def fits (m : Nat) (n : ND) : Int :=
  if n.kind = 1 then (if n.l ≠ 0 ∨ n.r ≠ 0 then 31 else if word n.name = true then 0 else 32)
  else if n.kind = 2 then (if n.name.size ≠ 0 ∨ n.l ≠ 0 ∨ n.r ≠ 0 then 31 else 0)
  else if n.kind = 3 ∨ n.kind = 4 ∨ n.kind = 5 then (if n.name.size ≠ 0 ∨ hasB m n.l = false ∨ hasB m n.r = false then 31 else 0)
  else 31
structure Put where
  rows : List ND
  id : Int
  err : Int
def put (rows : List ND) (n : ND) : Put :=
  if fits rows.length n ≠ 0 then ⟨rows, 0, fits rows.length n⟩
  else match rows.idxOf? n with
    | some i => ⟨rows, i, 0⟩
    | none => if 1024 ≤ rows.length then ⟨rows, 0, 30⟩ else ⟨rows ++ [n], rows.length, 0⟩
def atomN (s : ByteArray) : ND := ⟨1, s, 0, 0⟩
def botN : ND := ⟨2, ByteArray.empty, 0, 0⟩
def twoN (k l r : Int) : ND := ⟨k, ByteArray.empty, l, r⟩
/-- A table's rows. -/
structure Ok (rows : List ND) : Prop where
  le : rows.length ≤ 1024
  nodup : rows.Nodup
  fit : ∀ i n, rows[i]? = some n → fits i n = 0
theorem Ok.nil : Ok [] := ⟨by simp, by simp, by simp⟩
theorem fits_le {m : Nat} {n : ND} (h : fits m n = 0) : n.name.size ≤ 31 ∧ (1 ≤ n.kind ∧ n.kind ≤ 5) ∧ (0 ≤ n.l ∧ (n.l < m ∨ n.l = 0)) ∧ (0 ≤ n.r ∧ (n.r < m ∨ n.r = 0)) := by
  unfold fits at h
  split at h
  · split at h
    · cases h
    · rename_i h1 h2
      split at h
      · rename_i h3
        have := word_size h3
        omega
      · cases h
  · split at h
    · split at h
      · cases h
      · omega
    · split at h
      · split at h
        · cases h
        · rename_i h1 h2 h3 h4
          simp only [not_or, hasB, Bool.and_eq_false_iff, decide_eq_false_iff_not, not_or, Classical.not_not] at h4
          omega
      · cases h
theorem Ok.snoc {rows : List ND} (h : Ok rows) {n : ND} (hf : fits rows.length n = 0) (hn : rows.idxOf? n = none) (hl : ¬ 1024 ≤ rows.length) : Ok (rows ++ [n]) := by
  refine ⟨by simp; omega, ?_, ?_⟩
  · refine List.nodup_append.2 ⟨h.nodup, by simp, ?_⟩
    intro a ha b hb e
    simp only [List.mem_singleton] at hb
    subst hb; subst e
    exact (List.idxOf?_eq_none_iff.1 hn) ha
  · intro i m hi
    rcases Nat.lt_trichotomy i rows.length with h1 | h1 | h1
    · rw [List.getElem?_append_left h1] at hi; exact h.fit i m hi
    · subst h1; simp at hi; subst hi; exact hf
    · rw [List.getElem?_eq_none (by simp; omega)] at hi; cases hi
theorem Ok.put {rows : List ND} (h : Ok rows) (n : ND) : Ok (put rows n).rows := by
  unfold Dk.put
  split
  · exact h
  · rename_i hf
    simp only [Classical.not_not] at hf
    split
    · exact h
    · rename_i hn
      split
      · exact h
      · rename_i hl; exact h.snoc hf hn hl
theorem Ok.take {rows : List ND} (h : Ok rows) (k : Nat) : Ok (rows.take k) := by
  refine ⟨by simp; have := h.le; omega, h.nodup.sublist (List.take_sublist _ _), ?_⟩
  intro i n hi
  rw [List.getElem?_take] at hi
  split at hi
  · exact h.fit i n hi
  · cases hi
theorem put_rows (rows : List ND) (n : ND) : (put rows n).rows = rows ∨ ((put rows n).rows = rows ++ [n] ∧ (put rows n).id = rows.length ∧ (put rows n).err = 0 ∧ fits rows.length n = 0 ∧ n ∉ rows ∧ rows.length < 1024) := by
  unfold put
  split
  · exact .inl rfl
  · rename_i hf
    simp only [Classical.not_not] at hf
    split
    · exact .inl rfl
    · rename_i hn
      split
      · exact .inl rfl
      · rename_i hl; exact .inr ⟨rfl, rfl, rfl, hf, List.idxOf?_eq_none_iff.1 hn, by omega⟩
theorem idxOf?_snoc (rows : List ND) (n x : ND) (hn : rows.idxOf? n = none) : (rows ++ [n]).idxOf? x = if x = n then some rows.length else rows.idxOf? x := by
  have hn' := List.idxOf?_eq_none_iff.1 hn
  unfold List.idxOf?
  rw [List.findIdx?_append]
  by_cases h : x = n
  · subst h
    rw [if_pos rfl]
    have : List.findIdx? (· == x) rows = none := hn
    rw [this]
    simp
  · rw [if_neg h]
    have : List.findIdx? (· == x) [n] = none := by simp [List.findIdx?_cons]; exact fun e => h e.symm
    rw [this]
    simp
def cutF (rows : List ND) (n j : Nat) (x : ND) : Option Nat := (rows.idxOf? x).bind fun i => if n ≤ i ∧ i < n + j then none else some i
theorem cutF_zero (rows : List ND) (n : Nat) : cutF rows n 0 = fun x => rows.idxOf? x := by
  funext x
  unfold cutF
  cases rows.idxOf? x with
  | none => rfl
  | some i => simp
theorem idxOf?_get {rows : List ND} (h : rows.Nodup) {i : Nat} {x : ND} (hi : rows[i]? = some x) : rows.idxOf? x = some i := by
  obtain ⟨hl, e⟩ := List.getElem?_eq_some_iff.1 hi
  unfold List.idxOf?
  rw [List.findIdx?_eq_some_iff_getElem]
  refine ⟨hl, by simp [e], ?_⟩
  intro j hj
  simp only [beq_iff_eq]
  intro e2
  have := (List.getElem_inj h (h₀ := by omega) (h₁ := hl)).1 (e2.trans e.symm)
  omega
theorem get_of_idxOf? {rows : List ND} {i : Nat} {x : ND} (h : rows.idxOf? x = some i) : rows[i]? = some x := by
  unfold List.idxOf? at h
  rw [List.findIdx?_eq_some_iff_getElem] at h
  obtain ⟨hl, e, _⟩ := h
  rw [List.getElem?_eq_getElem hl]
  simp only [beq_iff_eq] at e
  rw [e]
theorem cutF_end {rows : List ND} (h : rows.Nodup) (n : Nat) (hn : n ≤ rows.length) : cutF rows n (rows.length - n) = fun x => (rows.take n).idxOf? x := by
  funext x
  unfold cutF
  cases hi : rows.idxOf? x with
  | none =>
    simp only [Option.bind_none]
    refine (List.idxOf?_eq_none_iff.2 fun hm => ?_).symm
    exact (List.idxOf?_eq_none_iff.1 hi) (List.mem_of_mem_take hm)
  | some i =>
    have hg := get_of_idxOf? hi
    have hl := (List.getElem?_eq_some_iff.1 hg).1
    simp only [Option.bind_some]
    by_cases h1 : i < n
    · rw [if_neg (by omega)]
      exact (idxOf?_get (h.sublist (List.take_sublist _ _)) (by rw [List.getElem?_take, if_pos h1]; exact hg)).symm
    · rw [if_pos (by omega)]
      refine (List.idxOf?_eq_none_iff.2 fun hm => ?_).symm
      obtain ⟨j, hj⟩ := List.mem_iff_getElem?.1 hm
      rw [List.getElem?_take] at hj
      split at hj
      · have := idxOf?_get h hj
        rw [hi] at this
        cases this
        omega
      · cases hj
end Go.Dk
namespace Go.Dk
/-- The rows of which row i is made. -/
inductive Reach (rows : List ND) : Nat → Nat → Prop
  | refl (i : Nat) : Reach rows i i
  | left {i j : Nat} {n : ND} : rows[i]? = some n → 3 ≤ n.kind → Reach rows n.l.toNat j → Reach rows i j
  | right {i j : Nat} {n : ND} : rows[i]? = some n → 3 ≤ n.kind → Reach rows n.r.toNat j → Reach rows i j
theorem Ok.parts {rows : List ND} (h : Ok rows) {i : Nat} {n : ND} (hi : rows[i]? = some n) (hk : 3 ≤ n.kind) : (0 ≤ n.l ∧ n.l < i) ∧ (0 ≤ n.r ∧ n.r < i) := by
  have hf := h.fit i n hi
  unfold fits at hf
  split at hf
  · omega
  · split at hf
    · omega
    · split at hf
      · split at hf
        · cases hf
        · rename_i h1 h2 h3 h4
          simp only [not_or, hasB, Bool.and_eq_false_iff, decide_eq_false_iff_not, not_or, Classical.not_not] at h4
          omega
      · cases hf
theorem Reach.le {rows : List ND} (h : Ok rows) {i j : Nat} (hr : Reach rows i j) : j ≤ i := by
  induction hr with
  | refl => exact Nat.le_refl _
  | left h1 h2 _ ih => have := h.parts h1 h2; omega
  | right h1 h2 _ ih => have := h.parts h1 h2; omega
theorem Reach.trans {rows : List ND} {i j k : Nat} (h1 : Reach rows i j) (h2 : Reach rows j k) : Reach rows i k := by
  induction h1 with
  | refl => exact h2
  | left a b _ ih => exact .left a b (ih h2)
  | right a b _ ih => exact .right a b (ih h2)
open Classical in
noncomputable def below (rows : List ND) (i : Nat) : List Nat := (List.range (i + 1)).filter fun j => decide (Reach rows i j)
theorem mem_below {rows : List ND} (h : Ok rows) {i j : Nat} : j ∈ below rows i ↔ Reach rows i j := by
  unfold below
  simp only [List.mem_filter, List.mem_range, decide_eq_true_eq]
  exact ⟨fun h => h.2, fun hr => ⟨Nat.lt_succ_of_le (hr.le h), hr⟩⟩
theorem below_pairwise (rows : List ND) (i : Nat) : (below rows i).Pairwise (· < ·) := by
  unfold below
  exact List.Pairwise.filter _ List.pairwise_lt_range
theorem below_le (rows : List ND) (i : Nat) : (below rows i).length ≤ i + 1 := by
  unfold below
  exact Nat.le_trans (List.length_filter_le _ _) (by simp)
def natInts (l : List Nat) : List Int := l.map Int.ofNat
/-- Whatever collects the same numbers, each once, sorts to the rising list. -/
theorem sort_below {rows : List ND} (h : Ok rows) {i : Nat} {l : List Nat} (hd : l.Nodup) (hm : ∀ j, j ∈ l ↔ Reach rows i j) : (natInts l).mergeSort (fun x y => decide (x ≤ y)) = natInts (below rows i) := by
  have hp : l.Perm (below rows i) := by
    refine (List.perm_ext_iff_of_nodup hd ((below_pairwise rows i).imp (fun h => Nat.ne_of_lt h))).2 fun j => ?_
    rw [hm, mem_below h]
  have hp' : ((natInts l).mergeSort (fun x y => decide (x ≤ y))).Perm (natInts (below rows i)) := (List.mergeSort_perm _ _).trans (hp.map Int.ofNat)
  refine List.Perm.eq_of_pairwise (le := fun x y : Int => x ≤ y) (fun a b _ _ h1 h2 => Int.le_antisymm h1 h2) ?_ ?_ hp'
  · have := List.pairwise_mergeSort (le := fun x y : Int => decide (x ≤ y)) (fun a b c h1 h2 => by simp at *; omega) (fun a b => by simp; omega) (natInts l)
    exact this.imp (fun h => by simpa using h)
  · unfold natInts
    rw [List.pairwise_map]
    exact (below_pairwise rows i).imp (fun h => by simp; omega)
end Go.Dk
namespace Go.Dk
end Go.Dk
namespace Go.Dk
def MC : Int := 1099511627776
section
variable {α : Type} [Inhabited α]
/-- A number of each row, of its parts' numbers. -/
def foldL (of : ND → α → α → α) : List ND → List α → List α
  | [], acc => acc
  | n :: t, acc => foldL of t (acc ++ [of n (acc.getD n.l.toNat default) (acc.getD n.r.toNat default)])
def vals (of : ND → α → α → α) (rows : List ND) : List α := foldL of rows []
theorem foldL_snoc (of : ND → α → α → α) (rows : List ND) (n : ND) (acc : List α) :
    foldL of (rows ++ [n]) acc = foldL of rows acc ++ [of n ((foldL of rows acc).getD n.l.toNat default) ((foldL of rows acc).getD n.r.toNat default)] := by
  induction rows generalizing acc with
  | nil => rfl
  | cons a t ih => simp only [List.cons_append, foldL, ih]
theorem vals_snoc (of : ND → α → α → α) (rows : List ND) (n : ND) : vals of (rows ++ [n]) = vals of rows ++ [of n ((vals of rows).getD n.l.toNat default) ((vals of rows).getD n.r.toNat default)] := foldL_snoc _ _ _ _
theorem foldL_length (of : ND → α → α → α) (rows : List ND) (acc : List α) : (foldL of rows acc).length = acc.length + rows.length := by
  induction rows generalizing acc with
  | nil => simp [foldL]
  | cons a t ih => simp only [foldL, ih]; simp; omega
theorem vals_length (of : ND → α → α → α) (rows : List ND) : (vals of rows).length = rows.length := by simp [vals, foldL_length]
theorem vals_take (of : ND → α → α → α) (rows : List ND) (j : Nat) : vals of (rows.take j) = (vals of rows).take j := by
  induction j with
  | zero => simp [vals, foldL]
  | succ j ih =>
    by_cases h : j < rows.length
    · rw [List.take_succ_eq_append_getElem h, vals_snoc, ih]
      have hs : ∀ m, (vals of (rows.take (j + 1) ++ rows.drop (j + 1))).take m = (vals of rows).take m := by simp
      clear hs
      have key : ∀ (t : List ND) (acc : List α), ∃ s, foldL of t acc = acc ++ s := by
        intro t
        induction t with
        | nil => intro acc; exact ⟨[], by simp [foldL]⟩
        | cons a t ih => intro acc; obtain ⟨s, hs⟩ := ih (acc ++ [of a (acc.getD a.l.toNat default) (acc.getD a.r.toNat default)]); exact ⟨[of a (acc.getD a.l.toNat default) (acc.getD a.r.toNat default)] ++ s, by rw [foldL, hs, List.append_assoc]⟩
      have app : ∀ (a b : List ND) (acc : List α), foldL of (a ++ b) acc = foldL of b (foldL of a acc) := by
        intro a
        induction a with
        | nil => intro b acc; rfl
        | cons x a ih => intro b acc; simp only [List.cons_append, foldL, ih]
      have e1 : vals of rows = foldL of (rows.drop (j + 1)) (vals of (rows.take (j + 1))) := by
        unfold vals; rw [← app, List.take_append_drop]
      obtain ⟨s, hs⟩ := key (rows.drop (j + 1)) (vals of (rows.take (j + 1)))
      rw [hs] at e1
      have hl : (vals of (rows.take (j + 1))).length = j + 1 := by rw [vals_length]; simp; omega
      have e2 : (vals of rows).take (j + 1) = vals of (rows.take (j + 1)) := by rw [e1, List.take_append_of_le_length (by omega), List.take_of_length_le (by omega)]
      rw [e2, List.take_succ_eq_append_getElem h, vals_snoc, ih]
    · rw [List.take_of_length_le (by omega), List.take_of_length_le (by rw [vals_length]; omega)]
/-- A row's number. -/
def val (of : ND → α → α → α) (rows : List ND) (i : Nat) : α := (vals of rows).getD i default
theorem vals_get (of : ND → α → α → α) (rows : List ND) {i : Nat} {n : ND} (hi : rows[i]? = some n) :
    (vals of rows)[i]? = some (of n (((vals of rows).take i).getD n.l.toNat default) (((vals of rows).take i).getD n.r.toNat default)) := by
  have hl := (List.getElem?_eq_some_iff.1 hi).1
  have h1 : (vals of rows).take (i + 1) = vals of (rows.take (i + 1)) := (vals_take _ _ _).symm
  rw [List.take_succ_eq_append_getElem hl, vals_snoc, vals_take] at h1
  have h2 : ((vals of rows).take (i + 1))[i]? = (vals of rows)[i]? := by simp
  rw [← h2, h1]
  have hlen : ((vals of rows).take i).length = i := by rw [List.length_take, vals_length]; omega
  rw [List.getElem?_append_right (by omega), hlen]
  have : rows[i] = n := (List.getElem?_eq_some_iff.1 hi).2
  simp [this]
theorem getD_take {l : List α} {i j : Nat} (h : j < i) : (l.take i).getD j default = l.getD j default := by
  simp [List.getD, h]
/-- A row with parts: its number, of its parts' own numbers. -/
theorem val_two {of : ND → α → α → α} {rows : List ND} (ok : Ok rows) {i : Nat} {n : ND} (hi : rows[i]? = some n) (hk : 3 ≤ n.kind) : val of rows i = of n (val of rows n.l.toNat) (val of rows n.r.toNat) := by
  have := vals_get of rows hi
  obtain ⟨h1, h2⟩ := ok.parts hi hk
  unfold val
  rw [List.getD, this, Option.getD_some, getD_take (by omega), getD_take (by omega)]
theorem val_one {of : ND → α → α → α} {rows : List ND} (ho : ∀ n l r l' r', n.kind < 3 → of n l r = of n l' r') {i : Nat} {n : ND} (hi : rows[i]? = some n) (hk : n.kind < 3) (x y : α) : val of rows i = of n x y := by
  have := vals_get of rows hi
  unfold val
  rw [List.getD, this, Option.getD_some]; exact ho _ _ _ _ _ hk
end
def capI (x : Int) : Int := if MC < x then MC else x
def weightOf (n : ND) (l r : Int) : Int := if n.kind < 3 then 1 else if n.kind = 3 then capI (2 + l + r) else capI (1 + l + r)
end Go.Dk
namespace Go.Dk
def rowAt (rows : List ND) (i : Nat) : ND := rows.getD i ⟨0, ByteArray.empty, 0, 0⟩
theorem rowAt_get {rows : List ND} {i : Nat} (h : i < rows.length) : rows[i]? = some (rowAt rows i) := by simp [rowAt, List.getD, List.getElem?_eq_getElem h]
/-- What is counted is reached. -/
theorem reach_snoc {rows : List ND} {i j : Nat} (h : Reach rows i j) {n : ND} (hj : rows[j]? = some n) (hk : 3 ≤ n.kind) : Reach rows i n.l.toNat ∧ Reach rows i n.r.toNat :=
  ⟨h.trans (.left hj hk (.refl _)), h.trans (.right hj hk (.refl _))⟩
end Go.Dk
namespace Go.Dk
/-- What is left of a when b's numbers are taken out, each once. -/
def withoutL : List Int → List Int → List Int
  | [], _ => []
  | x :: a, b => if x ∈ b then withoutL a (b.erase x) else x :: withoutL a b
end Go.Dk
namespace Go.Dk
theorem without_snoc (a : List Int) (x : Int) : ∀ b : List Int, withoutL (a ++ [x]) b = withoutL a b ++ (if a.count x < b.count x then [] else [x]) := by
  induction a with
  | nil =>
    intro b
    simp only [List.nil_append, withoutL, List.count_nil, List.count_pos_iff]
  | cons y a ih =>
    intro b
    simp only [List.cons_append, withoutL]
    by_cases hy : y ∈ b
    · rw [if_pos hy, if_pos hy, ih]
      have hc : b.count x = (y :: b.erase y).count x := (List.perm_cons_erase hy).count_eq x
      have h1 : (a.count x < (b.erase y).count x) ↔ ((y :: a).count x < b.count x) := by
        rw [hc, List.count_cons, List.count_cons]; omega
      simp only [h1]
    · rw [if_neg hy, if_neg hy, ih, List.cons_append]
      by_cases e : y = x
      · subst e
        rw [List.count_eq_zero.2 hy, if_neg (by omega), if_neg (by omega)]
      · rw [List.count_cons_of_ne e]
/-- How many of those that bear a mark are v. -/
def ucount (v : Int) : List Int → List Bool → Nat
  | x :: b, m :: ms => ucount v b ms + if m = true ∧ x = v then 1 else 0
  | _, _ => 0
theorem ucount_set (v : Int) : ∀ (b : List Int) (ms : List Bool) (k : Nat) (x : Int), b[k]? = some x → ms[k]? = some false → ucount v b (ms.set k true) = ucount v b ms + if x = v then 1 else 0
  | [], _, k, _, h, _ => by simp at h
  | _ :: _, [], k, _, _, h => by simp at h
  | y :: b, m :: ms, 0, x, h1, h2 => by
    simp at h1 h2
    subst h1 h2
    simp [ucount]
  | y :: b, m :: ms, k + 1, x, h1, h2 => by
    simp only [List.getElem?_cons_succ] at h1 h2
    simp only [List.set_cons_succ, ucount, ucount_set v b ms k x h1 h2]
    omega
theorem ucount_le (v : Int) : ∀ (b : List Int) (ms : List Bool), ucount v b ms ≤ b.count v
  | [], ms => by cases ms <;> simp [ucount]
  | x :: b, [] => by simp [ucount]
  | x :: b, m :: ms => by
    have := ucount_le v b ms
    simp only [ucount, List.count_cons]
    by_cases e : x = v
    · simp only [e, and_true, beq_self_eq_true, if_true]; split <;> omega
    · have e2 : (x == v) = false := by simpa using e
      simp only [e, and_false, if_false, e2]
      simpa using this
theorem ucount_lt (v : Int) (b : List Int) (ms : List Bool) (k : Nat) (h1 : b[k]? = some v) (h2 : ms[k]? = some false) : ucount v b ms < b.count v := by
  have := ucount_set v b ms k v h1 h2
  have h3 := ucount_le v b (ms.set k true)
  rw [this, if_pos rfl] at h3
  omega
/-- The marks when so many have been gone through. -/
structure Used (a b : List Int) (i : Nat) (ms : List Bool) : Prop where
  len : ms.length = b.length
  cnt : ∀ v, ucount v b ms = min ((a.take i).count v) (b.count v)
theorem take_count {a : List Int} {i : Nat} {x : Int} (h : a[i]? = some x) (v : Int) : (a.take (i + 1)).count v = (a.take i).count v + if x = v then 1 else 0 := by
  rw [List.take_add_one, h]
  simp only [Option.toList_some, List.count_append, List.count_singleton]
  by_cases e : x = v <;> simp [e]
/-- One is taken. -/
theorem Used.take {a b : List Int} {i k : Nat} {ms : List Bool} {x : Int} (h : Used a b i ms) (hx : a[i]? = some x) (hk : b[k]? = some x) (hm : ms[k]? = some false) : Used a b (i + 1) (ms.set k true) ∧ withoutL (a.take (i + 1)) b = withoutL (a.take i) b := by
  have h1 := ucount_lt x b ms k hk hm
  have h2 := h.cnt x
  refine ⟨⟨by simpa using h.len, fun v => ?_⟩, ?_⟩
  · rw [ucount_set v b ms k x hk hm, h.cnt, take_count hx]
    by_cases e : x = v
    · subst e; simp only [if_true]; omega
    · simp [e]
  · rw [List.take_add_one, hx]
    simp only [Option.toList_some]
    rw [without_snoc, if_pos (by omega), List.append_nil]
end Go.Dk
namespace Go.Dk
inductive Fm
  | atom (s : ByteArray)
  | bot
  | and (a b : Fm)
  | or (a b : Fm)
  | imp (a b : Fm)
deriving DecidableEq, Inhabited
def treeOf (n : ND) (l r : Fm) : Fm :=
  if n.kind = 1 then .atom n.name else if n.kind = 2 then .bot else if n.kind = 3 then .and l r else if n.kind = 4 then .or l r else if n.kind = 5 then .imp l r else .bot
theorem tree_leaf (n : ND) (l r l' r' : Fm) (h : n.kind < 3) : treeOf n l r = treeOf n l' r' := by
  have h3 : ¬ n.kind = 3 := by omega
  have h4 : ¬ n.kind = 4 := by omega
  have h5 : ¬ n.kind = 5 := by omega
  simp [treeOf, h3, h4, h5]
abbrev tree (rows : List ND) (i : Nat) : Fm := val treeOf rows i
theorem Ok.kindsP {rows : List ND} (h : Ok rows) {i : Nat} {n : ND} (hi : rows[i]? = some n) : 1 ≤ n.kind ∧ n.kind ≤ 5 := (fits_le (h.fit i n hi)).2.1
/-- A row of a table, by its kind. -/
theorem Ok.row {rows : List ND} (h : Ok rows) {i : Nat} {n : ND} (hi : rows[i]? = some n) :
    (n.kind = 1 ∧ n.l = 0 ∧ n.r = 0 ∧ word n.name = true) ∨ (n = ⟨2, ByteArray.empty, 0, 0⟩) ∨
      ((n.kind = 3 ∨ n.kind = 4 ∨ n.kind = 5) ∧ n.name = ByteArray.empty ∧ 0 ≤ n.l ∧ n.l < i ∧ 0 ≤ n.r ∧ n.r < i) := by
  have hf := h.fit i n hi
  have ez : ∀ s : ByteArray, s.size = 0 → s = ByteArray.empty := fun s hs => by
    cases s with
    | mk d => have : d = #[] := Array.eq_empty_of_size_eq_zero hs; rw [this]; rfl
  unfold fits at hf
  split at hf
  · rename_i h1
    left
    split at hf
    · cases hf
    · rename_i h2
      split at hf
      · rename_i h3; exact ⟨h1, by omega, by omega, h3⟩
      · cases hf
  · rename_i h1
    split at hf
    · rename_i h2
      right; left
      split at hf
      · cases hf
      · rename_i h3
        obtain ⟨k, nm, l, r⟩ := n
        simp only [not_or, Classical.not_not] at h2 h3
        obtain ⟨a, rfl, rfl⟩ := h3
        subst h2
        rw [ez nm a]
    · split at hf
      · rename_i h3
        right; right
        split at hf
        · cases hf
        · rename_i h4
          simp only [not_or, hasB, Bool.and_eq_false_iff, decide_eq_false_iff_not, Classical.not_not] at h4
          exact ⟨h3, ez _ h4.1, by omega, by omega, by omega, by omega⟩
      · cases hf
theorem tree_atom {rows : List ND} {i : Nat} {n : ND} (hi : rows[i]? = some n) (hk : n.kind = 1) : tree rows i = .atom n.name := by
  rw [tree, val_one tree_leaf hi (by omega) .bot .bot]; simp [treeOf, hk]
theorem tree_bot {rows : List ND} {i : Nat} {n : ND} (hi : rows[i]? = some n) (hk : n.kind = 2) : tree rows i = .bot := by
  rw [tree, val_one tree_leaf hi (by omega) .bot .bot]; simp [treeOf, hk]
theorem tree_two {rows : List ND} (ok : Ok rows) {i : Nat} {n : ND} (hi : rows[i]? = some n) (hk : 3 ≤ n.kind) : tree rows i = treeOf n (tree rows n.l.toNat) (tree rows n.r.toNat) := val_two ok hi hk
/-- The kind that a tree's row has. -/
def Fm.kind : Fm → Int
  | .atom _ => 1
  | .bot => 2
  | .and _ _ => 3
  | .or _ _ => 4
  | .imp _ _ => 5
theorem treeOf_kind (n : ND) (h : 1 ≤ n.kind ∧ n.kind ≤ 5) (l r : Fm) : (treeOf n l r).kind = n.kind := by
  unfold treeOf
  by_cases h1 : n.kind = 1
  · simp [h1, Fm.kind]
  · by_cases h2 : n.kind = 2
    · simp [h2, Fm.kind]
    · by_cases h3 : n.kind = 3
      · simp [h3, Fm.kind]
      · by_cases h4 : n.kind = 4
        · simp [h4, Fm.kind]
        · have h5 : n.kind = 5 := by omega
          simp [h5, Fm.kind]
theorem tree_kind {rows : List ND} (ok : Ok rows) {i : Nat} {n : ND} (hi : rows[i]? = some n) : (tree rows i).kind = n.kind := by
  have hk := ok.kindsP hi
  by_cases h : 3 ≤ n.kind
  · rw [tree_two ok hi h]; exact treeOf_kind n hk _ _
  · rw [tree, val_one tree_leaf hi (by omega) .bot .bot]; exact treeOf_kind n hk _ _
/-- Each formula stands once. -/
theorem treeOf_inj {k : Int} (hk : k = 3 ∨ k = 4 ∨ k = 5) {n m : ND} (hn : n.kind = k) (hm : m.kind = k) {a b c d : Fm} (h : treeOf n a b = treeOf m c d) : a = c ∧ b = d := by
  unfold treeOf at h
  rw [hn, hm] at h
  rcases hk with rfl | rfl | rfl <;> simpa using h
theorem tree_inj {rows : List ND} (ok : Ok rows) {i j : Nat} (hi : i < rows.length) (hj : j < rows.length) (h : tree rows i = tree rows j) : i = j := by
  induction i using Nat.strongRecOn generalizing j with
  | _ i ih =>
    have ni := List.getElem?_eq_getElem hi
    have nj := List.getElem?_eq_getElem hj
    generalize rows[i] = n at ni
    generalize rows[j] = m at nj
    have hk : n.kind = m.kind := by rw [← tree_kind ok ni, ← tree_kind ok nj, h]
    suffices hs : n = m by
      subst hs
      exact (List.getElem_inj ok.nodup (h₀ := hi) (h₁ := hj)).1 ((List.getElem?_eq_some_iff.1 ni).2.trans (List.getElem?_eq_some_iff.1 nj).2.symm)
    rcases ok.row ni with ⟨a1, a2, a3, _⟩ | a1 | ⟨a1, a2, a3, a4, a5, a6⟩
    · rcases ok.row nj with ⟨b1, b2, b3, _⟩ | b1 | ⟨b1, _⟩
      · rw [tree_atom ni a1, tree_atom nj b1] at h
        obtain ⟨nk, nn, nl, nr⟩ := n
        obtain ⟨mk, mn, ml, mr⟩ := m
        simp only [Fm.atom.injEq] at *
        subst h a2 a3 b2 b3 hk
        rfl
      · rw [b1] at hk; simp only at hk; omega
      · omega
    · rcases ok.row nj with ⟨b1, b2, b3, _⟩ | b1 | ⟨b1, _⟩
      · rw [a1] at hk; simp only at hk; omega
      · rw [a1, b1]
      · rw [a1] at hk; simp only at hk; omega
    · rcases ok.row nj with ⟨b1, _⟩ | b1 | ⟨b1, b2, b3, b4, b5, b6⟩
      · omega
      · rw [b1] at hk; simp only at hk; omega
      · rw [tree_two ok ni (by omega), tree_two ok nj (by omega)] at h
        obtain ⟨h1, h2⟩ := treeOf_inj (k := n.kind) (by omega) rfl hk.symm h
        have e1 := ih n.l.toNat (by omega) (by omega) (j := m.l.toNat) (by omega) h1
        have e2 := ih n.r.toNat (by omega) (by omega) (j := m.r.toNat) (by omega) h2
        obtain ⟨nk, nn, nl, nr⟩ := n
        obtain ⟨mk, mn, ml, mr⟩ := m
        simp only at *
        subst hk a2 b2
        have : nl = ml := by omega
        have : nr = mr := by omega
        simp_all
theorem tree_ext {rows s : List ND} {i : Nat} (hi : i < rows.length) : tree (rows ++ s) i = tree rows i := by
  unfold tree val
  have h : vals treeOf rows = (vals treeOf (rows ++ s)).take rows.length := by rw [← vals_take]; simp
  rw [h]
  simp [List.getD, hi]
theorem tree_prefix {rows rows' : List ND} (h : rows <+: rows') {i : Nat} (hi : i < rows.length) : tree rows' i = tree rows i := by
  obtain ⟨s, rfl⟩ := h; exact tree_ext hi
theorem put_prefix (rows : List ND) (n : ND) : rows <+: (put rows n).rows := by
  rcases put_rows rows n with h | ⟨h, _⟩
  · rw [h]; exact List.prefix_refl _
  · rw [h]; exact ⟨[n], rfl⟩
/-- What a put that does not fail comes to. -/
theorem put_ok {rows : List ND} {n : ND} (he : (put rows n).err = 0) : ∃ k : Nat, (put rows n).id = (k : Int) ∧ (put rows n).rows[k]? = some n ∧ fits rows.length n = 0 := by
  unfold put at he ⊢
  split
  · rename_i hf
    rw [if_pos hf] at he
    exact absurd he hf
  · rename_i hf
    rw [if_neg hf] at he
    simp only [Classical.not_not] at hf
    cases hi : rows.idxOf? n with
    | some i => exact ⟨i, rfl, get_of_idxOf? hi, hf⟩
    | none =>
      simp only [hi] at he
      simp only
      split
      · rename_i hl; rw [if_pos hl] at he; cases he
      · exact ⟨rows.length, rfl, by simp, hf⟩
theorem tree_row {rows : List ND} (ok : Ok rows) {i : Nat} {n : ND} (hi : rows[i]? = some n) : (∃ s, n = ⟨1, s, 0, 0⟩ ∧ tree rows i = .atom s ∧ word s = true) ∨ (n = ⟨2, ByteArray.empty, 0, 0⟩ ∧ tree rows i = .bot) ∨
    ∃ l r : Nat, l < i ∧ r < i ∧ ((n = ⟨3, ByteArray.empty, l, r⟩ ∧ tree rows i = .and (tree rows l) (tree rows r)) ∨ (n = ⟨4, ByteArray.empty, l, r⟩ ∧ tree rows i = .or (tree rows l) (tree rows r)) ∨ (n = ⟨5, ByteArray.empty, l, r⟩ ∧ tree rows i = .imp (tree rows l) (tree rows r))) := by
  rcases ok.row hi with ⟨a1, a2, a3, a4⟩ | a1 | ⟨a1, a2, a3, a4, a5, a6⟩
  · left
    refine ⟨n.name, ?_, tree_atom hi a1, a4⟩
    obtain ⟨nk, nn, nl, nr⟩ := n
    simp only at *; subst a1 a2 a3; rfl
  · right; left
    exact ⟨a1, tree_bot hi (by rw [a1])⟩
  · right; right
    have ht := tree_two ok hi (by omega)
    refine ⟨n.l.toNat, n.r.toNat, by omega, by omega, ?_⟩
    obtain ⟨nk, nn, nl, nr⟩ := n
    simp only at *
    obtain ⟨l, rfl⟩ := Int.eq_ofNat_of_zero_le a3
    obtain ⟨r, rfl⟩ := Int.eq_ofNat_of_zero_le a5
    subst a2
    rcases a1 with rfl | rfl | rfl
    · left; exact ⟨rfl, by rw [ht]; simp [treeOf]⟩
    · right; left; exact ⟨rfl, by rw [ht]; simp [treeOf]⟩
    · right; right; exact ⟨rfl, by rw [ht]; simp [treeOf]⟩
/-- A two-part put that does not fail: its tree. -/
theorem put_two {rows : List ND} (ok : Ok rows) {k : Int} (hk : k = 3 ∨ k = 4 ∨ k = 5) {l r : Nat} (hl : l < rows.length) (hr : r < rows.length) (he : (put rows ⟨k, ByteArray.empty, l, r⟩).err = 0) :
    ∃ i : Nat, (put rows ⟨k, ByteArray.empty, l, r⟩).id = (i : Int) ∧ i < (put rows ⟨k, ByteArray.empty, l, r⟩).rows.length ∧ tree (put rows ⟨k, ByteArray.empty, l, r⟩).rows i = treeOf ⟨k, ByteArray.empty, l, r⟩ (tree rows l) (tree rows r) := by
  obtain ⟨i, h1, h2, h3⟩ := put_ok he
  refine ⟨i, h1, (List.getElem?_eq_some_iff.1 h2).1, ?_⟩
  rw [tree_two (ok.put _) h2 (by simp only; omega)]
  simp only [Int.toNat_natCast]
  rw [tree_prefix (put_prefix _ _) hl, tree_prefix (put_prefix _ _) hr]
end Go.Dk
namespace Go.Dk
abbrev OfF := List ND → Nat → ND → Int → Int → Put
def anewGo (of : OfF) : List Nat → List ND → (Nat → Int) → List ND × (Nat → Int) × Int
  | [], rows, img => (rows, img, 0)
  | k :: t, rows, img =>
    let n := rowAt rows k
    let p := of rows k n (if 3 ≤ n.kind then img n.l.toNat else 0) (if 3 ≤ n.kind then img n.r.toNat else 0)
    if p.err = 0 then anewGo of t p.rows (fun x => if x = k then p.id else img x) else (p.rows, img, p.err)
noncomputable def anewP (of : OfF) (rows : List ND) (id : Nat) : Put :=
  let q := anewGo of (below rows id) rows (fun _ => 0)
  if q.2.2 = 0 then ⟨q.1, q.2.1 id, 0⟩ else ⟨rows, 0, q.2.2⟩
/-- A put that did not fail: its tree. -/
def ImgOk (rows : List ND) (p : Put) (T : Fm) : Prop := Ok p.rows ∧ rows <+: p.rows ∧ ∃ i : Nat, p.id = (i : Int) ∧ i < p.rows.length ∧ tree p.rows i = T
theorem imgOk_there {rows : List ND} (ok : Ok rows) {k : Nat} (hk : k < rows.length) {T : Fm} (ht : tree rows k = T) : ImgOk rows ⟨rows, k, 0⟩ T := ⟨ok, List.prefix_refl _, k, rfl, hk, ht⟩
theorem imgOk_two {rows : List ND} (ok : Ok rows) {kd : Int} (hk : kd = 3 ∨ kd = 4 ∨ kd = 5) {l r : Nat} (hl : l < rows.length) (hr : r < rows.length) (he : (put rows ⟨kd, ByteArray.empty, l, r⟩).err = 0) :
    ImgOk rows (put rows ⟨kd, ByteArray.empty, l, r⟩) (treeOf ⟨kd, ByteArray.empty, l, r⟩ (tree rows l) (tree rows r)) := by
  obtain ⟨i, a, b, c⟩ := put_two ok hk hl hr he
  exact ⟨ok.put _, put_prefix _ _, i, a, b, c⟩
/-- What an image is as a tree. -/
structure Sem (of : OfF) (F : Fm → Fm) (rows0 : List ND) : Prop where
  img : ∀ rows k l r, Ok rows → rows0 <+: rows → k < rows0.length → (3 ≤ (rowAt rows0 k).kind → l < rows.length ∧ r < rows.length ∧ tree rows l = F (tree rows0 (rowAt rows0 k).l.toNat) ∧ tree rows r = F (tree rows0 (rowAt rows0 k).r.toNat)) →
    (of rows k (rowAt rows0 k) (if 3 ≤ (rowAt rows0 k).kind then (l : Int) else 0) (if 3 ≤ (rowAt rows0 k).kind then (r : Int) else 0)).err = 0 →
    ImgOk rows (of rows k (rowAt rows0 k) (if 3 ≤ (rowAt rows0 k).kind then (l : Int) else 0) (if 3 ≤ (rowAt rows0 k).kind then (r : Int) else 0)) (F (tree rows0 k))
theorem rowAt_prefix {rows rows' : List ND} (h : rows <+: rows') {i : Nat} (hi : i < rows.length) : rowAt rows' i = rowAt rows i := by
  obtain ⟨s, rfl⟩ := h
  simp [rowAt, List.getD, List.getElem?_append_left hi]
theorem prefix_length {rows rows' : List ND} (h : rows <+: rows') : rows.length ≤ rows'.length := h.length_le
structure AnI (F : Fm → Fm) (rows0 rows : List ND) (img : Nat → Int) (done : Nat → Prop) : Prop where
  ok : Ok rows
  pre : rows0 <+: rows
  img : ∀ x, done x → x < rows0.length → ∃ i : Nat, img x = (i : Int) ∧ i < rows.length ∧ tree rows i = F (tree rows0 x)
theorem anewGo_sem {of : OfF} {F : Fm → Fm} {rows0 : List ND} (ok0 : Ok rows0) (hs : Sem of F rows0) : ∀ (todo : List Nat) (rows : List ND) (img : Nat → Int) (done : Nat → Prop), AnI F rows0 rows img done →
    (∀ k ∈ todo, k < rows0.length) → todo.Pairwise (· < ·) → (∀ k ∈ todo, 3 ≤ (rowAt rows0 k).kind → (done (rowAt rows0 k).l.toNat ∨ (rowAt rows0 k).l.toNat ∈ todo) ∧ (done (rowAt rows0 k).r.toNat ∨ (rowAt rows0 k).r.toNat ∈ todo)) →
    (anewGo of todo rows img).2.2 = 0 → AnI F rows0 (anewGo of todo rows img).1 (anewGo of todo rows img).2.1 (fun x => done x ∨ x ∈ todo)
  | [], rows, img, done, h, _, _, _, _ => by
    refine ⟨h.ok, h.pre, fun x hx hl => h.img x (hx.resolve_right (by simp)) hl⟩
  | k :: t, rows, img, done, h, hlt, hp, hd, he => by
    have hp' := List.pairwise_cons.1 hp
    have hk := hlt k (by simp)
    have hrow : rowAt rows k = rowAt rows0 k := rowAt_prefix h.pre hk
    have parts : 3 ≤ (rowAt rows0 k).kind → ∃ l r : Nat, img (rowAt rows0 k).l.toNat = (l : Int) ∧ img (rowAt rows0 k).r.toNat = (r : Int) ∧ l < rows.length ∧ r < rows.length ∧ tree rows l = F (tree rows0 (rowAt rows0 k).l.toNat) ∧ tree rows r = F (tree rows0 (rowAt rows0 k).r.toNat) := by
      intro h3
      obtain ⟨p1, p2⟩ := ok0.parts (rowAt_get hk) h3
      obtain ⟨d1, d2⟩ := hd k (by simp) h3
      have notin : ∀ x, x < k → x ∉ k :: t := by
        intro x hx hm
        rcases List.mem_cons.1 hm with rfl | hm
        · omega
        · have := hp'.1 x hm; omega
      obtain ⟨l, a1, a2, a3⟩ := h.img _ (d1.resolve_right (notin _ (by omega))) (by omega)
      obtain ⟨r, b1, b2, b3⟩ := h.img _ (d2.resolve_right (notin _ (by omega))) (by omega)
      exact ⟨l, r, a1, b1, a2, b2, a3, b3⟩
    obtain ⟨l, r, hlr⟩ : ∃ l r : Nat, (if 3 ≤ (rowAt rows0 k).kind then img (rowAt rows0 k).l.toNat else 0) = (if 3 ≤ (rowAt rows0 k).kind then (l : Int) else 0) ∧ (if 3 ≤ (rowAt rows0 k).kind then img (rowAt rows0 k).r.toNat else 0) = (if 3 ≤ (rowAt rows0 k).kind then (r : Int) else 0) ∧
        (3 ≤ (rowAt rows0 k).kind → l < rows.length ∧ r < rows.length ∧ tree rows l = F (tree rows0 (rowAt rows0 k).l.toNat) ∧ tree rows r = F (tree rows0 (rowAt rows0 k).r.toNat)) := by
      by_cases h3 : 3 ≤ (rowAt rows0 k).kind
      · obtain ⟨l, r, a, b, c⟩ := parts h3
        exact ⟨l, r, by rw [if_pos h3, if_pos h3, a], by rw [if_pos h3, if_pos h3, b], fun _ => c⟩
      · exact ⟨0, 0, by rw [if_neg h3, if_neg h3], by rw [if_neg h3, if_neg h3], fun h => absurd h h3⟩
    obtain ⟨e1, e2, e3⟩ := hlr
    have hI := hs.img rows k l r h.ok h.pre hk e3
    unfold anewGo at he ⊢
    simp only [hrow, e1, e2] at he ⊢
    generalize of rows k (rowAt rows0 k) (if 3 ≤ (rowAt rows0 k).kind then (l : Int) else 0) (if 3 ≤ (rowAt rows0 k).kind then (r : Int) else 0) = p at *
    by_cases hz : p.err = 0
    · rw [if_pos hz] at he ⊢
      obtain ⟨o1, o2, i, o3, o4, o5⟩ := hI hz
      have := anewGo_sem ok0 hs t p.rows (fun x => if x = k then p.id else img x) (fun x => done x ∨ x = k) ⟨o1, h.pre.trans o2, fun x hx hl => ?_⟩ (fun x hx => hlt x (by simp [hx])) hp'.2 (fun x hx h3 => ?_) he
      · refine ⟨this.ok, this.pre, fun x hx hl => this.img x ?_ hl⟩
        rcases hx with hx | hx
        · exact .inl (.inl hx)
        · rcases List.mem_cons.1 hx with rfl | hx
          · exact .inl (.inr rfl)
          · exact .inr hx
      · by_cases e : x = k
        · subst e
          rw [if_pos rfl]
          exact ⟨i, o3, o4, o5⟩
        · rw [if_neg e]
          obtain ⟨j, a, b, c⟩ := h.img x (hx.resolve_right e) hl
          exact ⟨j, a, Nat.lt_of_lt_of_le b (prefix_length o2), by rw [tree_prefix o2 b, c]⟩
      · obtain ⟨a, b⟩ := hd x (by simp [hx]) h3
        have conv : ∀ y, (done y ∨ y ∈ k :: t) → ((done y ∨ y = k) ∨ y ∈ t) := by
          intro y hy
          rcases hy with hy | hy
          · exact .inl (.inl hy)
          · rcases List.mem_cons.1 hy with rfl | hy
            · exact .inl (.inr rfl)
            · exact .inr hy
        exact ⟨conv _ a, conv _ b⟩
    · rw [if_neg hz] at he
      exact absurd he hz
theorem below_parts {rows : List ND} (ok : Ok rows) {id k : Nat} (hid : id < rows.length) (hk : k ∈ below rows id) (h3 : 3 ≤ (rowAt rows k).kind) : (rowAt rows k).l.toNat ∈ below rows id ∧ (rowAt rows k).r.toNat ∈ below rows id := by
  have hr := (mem_below ok).1 hk
  have hx := hr.le ok
  obtain ⟨a, b⟩ := reach_snoc hr (rowAt_get (by omega)) h3
  exact ⟨(mem_below ok).2 a, (mem_below ok).2 b⟩
/-- Made anew: its tree. -/
theorem anewP_sem {of : OfF} {F : Fm → Fm} {rows : List ND} (ok : Ok rows) (hs : Sem of F rows) {id : Nat} (hid : id < rows.length) (he : (anewP of rows id).err = 0) :
    Ok (anewP of rows id).rows ∧ rows <+: (anewP of rows id).rows ∧ ∃ i : Nat, (anewP of rows id).id = (i : Int) ∧ i < (anewP of rows id).rows.length ∧ tree (anewP of rows id).rows i = F (tree rows id) := by
  unfold anewP at he ⊢
  simp only at he ⊢
  by_cases hz : (anewGo of (below rows id) rows (fun _ => 0)).2.2 = 0
  · rw [if_pos hz]
    have := anewGo_sem ok hs (below rows id) rows (fun _ => 0) (fun _ => False) ⟨ok, List.prefix_refl _, fun _ h => h.elim⟩ (fun k hk => by have := ((mem_below ok).1 hk).le ok; omega) (below_pairwise rows id) (fun k hk h3 => by
      obtain ⟨a, b⟩ := below_parts ok hid hk h3; exact ⟨.inr a, .inr b⟩) hz
    obtain ⟨i, a, b, c⟩ := this.img id (.inr ((mem_below ok).2 (.refl _))) hid
    exact ⟨this.ok, this.pre, i, a, b, c⟩
  · rw [if_neg hz] at he
    exact absurd he hz
def sub (σ : ByteArray → Option Fm) : Fm → Fm
  | .atom s => (σ s).getD (.atom s)
  | .bot => .bot
  | .and a b => .and (sub σ a) (sub σ b)
  | .or a b => .or (sub σ a) (sub σ b)
  | .imp a b => .imp (sub σ a) (sub σ b)
/-- The image that Put tells. -/
def putOf (named : ByteArray → Option Int) : OfF := fun rows k n l r =>
  if n.kind < 3 then (if n.kind = 1 then ⟨rows, (named n.name).getD k, 0⟩ else ⟨rows, k, 0⟩) else put rows ⟨n.kind, ByteArray.empty, l, r⟩
def sig (named : ByteArray → Option Int) (rows : List ND) (s : ByteArray) : Option Fm := (named s).map fun f => tree rows f.toNat
theorem putOf_sem {named : ByteArray → Option Int} {rows0 : List ND} (ok0 : Ok rows0) (hn : ∀ s f, named s = some f → hasB rows0.length f = true) : Sem (putOf named) (sub (sig named rows0)) rows0 := by
  refine ⟨fun rows k l r ok hp hk h3 he => ?_⟩
  have hrow := rowAt_get hk
  generalize hN : rowAt rows0 k = n at *
  rcases tree_row ok0 hrow with ⟨s, rfl, ht, hw⟩ | ⟨rfl, ht⟩ | ⟨x, y, hx, hy, ht⟩
  · simp only [putOf]
    simp only [show (1 : Int) < 3 by decide, if_true, ht, sub, sig]
    cases hns : named s with
    | none => exact imgOk_there ok (Nat.lt_of_lt_of_le hk (prefix_length hp)) (by rw [tree_prefix hp hk, ht]; rfl)
    | some f =>
      have := hn s f hns
      simp only [hasB, Bool.and_eq_true, decide_eq_true_eq] at this
      obtain ⟨i, rfl⟩ := Int.eq_ofNat_of_zero_le this.1
      have hi : i < rows0.length := by omega
      exact imgOk_there ok (Nat.lt_of_lt_of_le hi (prefix_length hp)) (by rw [tree_prefix hp hi]; rfl)
  · simp only [putOf]
    simp only [show (2 : Int) < 3 by decide, if_true, show ¬ (2 : Int) = 1 by decide, if_false, ht, sub]
    exact imgOk_there ok (Nat.lt_of_lt_of_le hk (prefix_length hp)) (by rw [tree_prefix hp hk, ht])
  · rcases ht with ⟨rfl, ht⟩ | ⟨rfl, ht⟩ | ⟨rfl, ht⟩
    · simp [putOf] at he h3 ⊢
      have := imgOk_two ok (.inl rfl) h3.1 h3.2.1 he
      rw [h3.2.2.1, h3.2.2.2] at this
      rw [ht]; simpa [treeOf, sub] using this
    · simp [putOf] at he h3 ⊢
      have := imgOk_two ok (.inr (.inl rfl)) h3.1 h3.2.1 he
      rw [h3.2.2.1, h3.2.2.2] at this
      rw [ht]; simpa [treeOf, sub] using this
    · simp [putOf] at he h3 ⊢
      have := imgOk_two ok (.inr (.inr rfl)) h3.1 h3.2.1 he
      rw [h3.2.2.1, h3.2.2.2] at this
      rw [ht]; simpa [treeOf, sub] using this
end Go.Dk
namespace Go.Dk
def topF : Fm := .imp .bot .bot
def simpN (k : Int) (l r : Fm) : Fm :=
  if k = 3 then (if l = .bot ∨ r = .bot then .bot else if l = topF then r else if r = topF ∨ l = r then l else .and l r)
  else if k = 4 then (if l = topF ∨ r = topF then topF else if l = .bot then r else if r = .bot ∨ l = r then l else .or l r)
  else (if l = .bot ∨ r = topF ∨ l = r then topF else if l = topF then r else .imp l r)
/-- Simple all through. -/
inductive HS : Fm → Prop
  | atom (s : ByteArray) : HS (.atom s)
  | bot : HS .bot
  | and {a b : Fm} : HS a → HS b → simpN 3 a b = .and a b → HS (.and a b)
  | or {a b : Fm} : HS a → HS b → simpN 4 a b = .or a b → HS (.or a b)
  | imp {a b : Fm} : HS a → HS b → simpN 5 a b = .imp a b → HS (.imp a b)
end Go.Dk
end

section
namespace Go.Dk
/-- What an image is asked of. -/
def pAt (of : OfF) (rows : List ND) (k : Nat) (img : Nat → Int) : Put :=
  of rows k (rowAt rows k) (if 3 ≤ (rowAt rows k).kind then img (rowAt rows k).l.toNat else 0) (if 3 ≤ (rowAt rows k).kind then img (rowAt rows k).r.toNat else 0)
theorem anewGo_cons (of : OfF) (k : Nat) (t : List Nat) (rows : List ND) (img : Nat → Int) : anewGo of (k :: t) rows img = if (pAt of rows k img).err = 0 then anewGo of t (pAt of rows k img).rows (fun x => if x = k then (pAt of rows k img).id else img x) else ((pAt of rows k img).rows, img, (pAt of rows k img).err) := rfl
theorem anewGo_app (of : OfF) : ∀ (l t : List Nat) (rows : List ND) (img : Nat → Int) (r : List ND) (i : Nat → Int), anewGo of l rows img = (r, i, 0) → anewGo of (l ++ t) rows img = anewGo of t r i
  | [], t, rows, img, r, i, h => by
    simp only [anewGo, Prod.mk.injEq] at h
    obtain ⟨rfl, rfl, _⟩ := h
    rfl
  | k :: l, t, rows, img, r, i, h => by
    rw [List.cons_append, anewGo_cons]
    rw [anewGo_cons] at h
    by_cases hz : (pAt of rows k img).err = 0
    · rw [if_pos hz] at h ⊢
      exact anewGo_app of l t _ _ r i h
    · rw [if_neg hz] at h
      simp only [Prod.mk.injEq] at h
      exact absurd h.2.2 hz
theorem anewGo_snoc {of : OfF} {l : List Nat} {k : Nat} {rows r : List ND} {img i : Nat → Int} (h : anewGo of l rows img = (r, i, 0)) (hz : (pAt of r k i).err = 0) : anewGo of (l ++ [k]) rows img = ((pAt of r k i).rows, (fun x => if x = k then (pAt of r k i).id else i x), 0) := by
  rw [anewGo_app of l [k] rows img r i h, anewGo_cons, if_pos hz]; rfl
theorem anewGo_stop {of : OfF} {l t : List Nat} {k : Nat} {rows r : List ND} {img i : Nat → Int} (h : anewGo of l rows img = (r, i, 0)) (hz : (pAt of r k i).err ≠ 0) : (anewGo of (l ++ k :: t) rows img).2.2 = (pAt of r k i).err := by
  rw [anewGo_app of l (k :: t) rows img r i h, anewGo_cons, if_neg hz]
theorem takeN_snoc {l : List Nat} {j k : Nat} (h : l[j]? = some k) : l.take (j + 1) = l.take j ++ [k] := by rw [List.take_add_one, h]; rfl
theorem split_at {l : List Nat} {j k : Nat} (h : l[j]? = some k) : l = l.take j ++ k :: l.drop (j + 1) := by
  obtain ⟨hl, e⟩ := List.getElem?_eq_some_iff.1 h
  conv => lhs; rw [← List.take_append_drop j l]
  rw [List.drop_eq_getElem_cons hl, e]
theorem anewP_stop {of : OfF} {rows r : List ND} {id j k : Nat} {i : Nat → Int} (hk : (below rows id)[j]? = some k) (h : anewGo of ((below rows id).take j) rows (fun _ => 0) = (r, i, 0)) (hz : (pAt of r k i).err ≠ 0) : anewP of rows id = ⟨rows, 0, (pAt of r k i).err⟩ := by
  have := anewGo_stop (t := (below rows id).drop (j + 1)) h hz
  rw [← split_at hk] at this
  unfold anewP
  simp only [this]
  rw [if_neg hz]
theorem anewP_end {of : OfF} {rows r : List ND} {id : Nat} {i : Nat → Int} (h : anewGo of (below rows id) rows (fun _ => 0) = (r, i, 0)) : anewP of rows id = ⟨r, i id, 0⟩ := by
  unfold anewP
  simp only [h, if_true]
/-- What is known of images. -/
def imgF (img : Nat → Int) (done : List Nat) (x : Nat) : Option Int := if x ∈ done then some (img x) else none
theorem imgF_get {img : Nat → Int} {done : List Nat} {x : Nat} (h : x ∈ done) : (imgF img done x).getD 0 = img x := by unfold imgF; rw [if_pos h]; rfl
def plainP : OfF := fun rows k n l r => if n.kind < 3 then ⟨rows, k, 0⟩ else put rows ⟨n.kind, ByteArray.empty, l, r⟩
theorem putOf_plain (named : ByteArray → Option Int) (rows : List ND) (k : Nat) (n : ND) (l r : Int) : putOf named rows k n l r = if n.kind = 1 ∧ (named n.name).isSome = true then ⟨rows, (named n.name).getD 0, 0⟩ else plainP rows k n l r := by
  unfold putOf plainP
  by_cases h3 : n.kind < 3
  · rw [if_pos h3, if_pos h3]
    by_cases h1 : n.kind = 1
    · rw [if_pos h1]
      cases hn : named n.name with
      | none => simp
      | some f => simp [h1]
    · rw [if_neg h1, if_neg (fun h => h1 h.1)]
  · rw [if_neg h3, if_neg h3, if_neg (by omega)]
def Grows (of : OfF) : Prop := ∀ rows k n l r, rows <+: (of rows k n l r).rows
theorem plainP_grows : Grows plainP := fun rows k n l r => by
  unfold plainP
  split
  · exact List.prefix_refl _
  · exact put_prefix _ _
theorem putOf_grows (named : ByteArray → Option Int) : Grows (putOf named) := fun rows k n l r => by
  rw [putOf_plain]
  split
  · exact List.prefix_refl _
  · exact plainP_grows _ _ _ _ _
structure HY where
  name : ByteArray
  form : Int
deriving DecidableEq
def namedF (by' : List HY) (s : ByteArray) : Option Int := (by'.find? fun h => decide (h.name = s)).map (·.form)
theorem namedF_snoc {l : List HY} {h : HY} (hn : namedF l h.name = none) (s : ByteArray) : namedF (l ++ [h]) s = if s = h.name then some h.form else namedF l s := by
  unfold namedF at *
  rw [List.find?_append]
  by_cases e : s = h.name
  · subst e
    simp only [Option.map_eq_none_iff] at hn
    rw [hn]
    simp
  · rw [if_neg e]
    cases hf : l.find? (fun h => decide (h.name = s)) with
    | some x => rfl
    | none =>
      have : ¬ h.name = s := fun e2 => e e2.symm
      simp [this]
theorem namedF_some {l : List HY} {s : ByteArray} {f : Int} (h : namedF l s = some f) : ∃ x ∈ l, x.name = s ∧ x.form = f := by
  unfold namedF at h
  obtain ⟨x, hx, rfl⟩ := Option.map_eq_some_iff.1 h
  exact ⟨x, List.mem_of_find?_eq_some hx, by simpa using List.find?_some hx, rfl⟩
theorem namedF_none {l : List HY} {s : ByteArray} : namedF l s = none ↔ ∀ x ∈ l, x.name ≠ s := by
  unfold namedF
  rw [Option.map_eq_none_iff, List.find?_eq_none]
  simp
def hyB (rows : List ND) (by' : List HY) : Bool := by'.all fun h => hasB rows.length h.form
/-- Are names twice? -/
def twiceB (by' : List HY) : Bool := !decide ((by'.map (·.name)).Nodup)
def wordsB (by' : List HY) : Bool := by'.all fun h => word h.name
noncomputable def putP (rows : List ND) (id : Int) (by' : List HY) : Put :=
  if hasB rows.length id = false ∨ hyB rows by' = false then ⟨rows, 0, 31⟩
  else if twiceB by' = true then ⟨rows, 0, 70⟩
  else if wordsB by' = false then ⟨rows, 0, 32⟩
  else anewP (putOf (namedF by')) rows id.toNat
/-- With a name more. -/
theorem nodup_snoc {l : List HY} {h : HY} (hd : (l.map (·.name)).Nodup) : ((l ++ [h]).map (·.name)).Nodup ↔ namedF l h.name = none := by
  rw [namedF_none, List.map_append, List.nodup_append]
  simp only [List.map_cons, List.map_nil, List.nodup_cons, List.not_mem_nil, not_false_eq_true, List.nodup_nil, and_self, true_and, hd, List.mem_map, List.mem_singleton, ne_eq]
  constructor
  · intro hh x hx e; exact hh x.name ⟨x, hx, rfl⟩ _ rfl e
  · rintro hh a ⟨x, hx, rfl⟩ b rfl e; exact hh x hx e
theorem nodup_take {l : List HY} (k : Nat) (h : (l.map (·.name)).Nodup) : ((l.take k).map (·.name)).Nodup := by
  rw [List.map_take]; exact h.sublist (List.take_sublist _ _)
theorem put_nn (rows : List ND) (n : ND) : 0 ≤ (put rows n).id := by
  unfold put
  split
  · exact Int.le_refl _
  · split
    · exact Int.natCast_nonneg _
    · split
      · exact Int.le_refl _
      · exact Int.natCast_nonneg _
theorem plainP_nn (rows : List ND) (k : Nat) (n : ND) (l r : Int) : 0 ≤ (plainP rows k n l r).id := by
  unfold plainP
  split
  · exact Int.natCast_nonneg _
  · exact put_nn _ _
theorem putOf_nn {named : ByteArray → Option Int} (hb : ∀ s f, named s = some f → 0 ≤ f) (rows : List ND) (k : Nat) (n : ND) (l r : Int) (_hl : 0 ≤ l) (_hr : 0 ≤ r) : 0 ≤ (putOf named rows k n l r).id := by
  rw [putOf_plain]
  split
  · cases hn : named n.name with
    | none => simp
    | some f => exact hb _ _ hn
  · exact plainP_nn _ _ _ _ _
end Go.Dk
end

section
namespace Go.Dk
open Go.RowKit Go.Maps Go.MapKept
abbrev Own := Nat → Nat
/-- From w to w' only blocks of colour k were written; old blocks keep their colour. -/
structure Kept (k : Nat) (ow : Own) (w : World) (ow' : Own) (w' : World) : Prop where
  os : w'.os = w.os
  tape : w'.tape = w.tape
  output : w'.output = w.output
  size : w.heap.size ≤ w'.heap.size
  own : ∀ b, b < w.heap.size → ow' b = ow b
  block : ∀ b, b < w.heap.size → ow b ≠ k → w'.heap[b]? = w.heap[b]?
theorem Kept.refl (k : Nat) (ow : Own) (w : World) : Kept k ow w ow w := ⟨rfl, rfl, rfl, Nat.le_refl _, fun _ _ => rfl, fun _ _ _ => rfl⟩
theorem Kept.trans {k : Nat} {o1 o2 o3 : Own} {w1 w2 w3 : World} (h : Kept k o1 w1 o2 w2) (g : Kept k o2 w2 o3 w3) : Kept k o1 w1 o3 w3 :=
  ⟨g.os.trans h.os, g.tape.trans h.tape, g.output.trans h.output, Nat.le_trans h.size g.size,
    fun b hb => (g.own b (Nat.lt_of_lt_of_le hb h.size)).trans (h.own b hb),
    fun b hb hk => (g.block b (Nat.lt_of_lt_of_le hb h.size) (by rw [h.own b hb]; exact hk)).trans (h.block b hb hk)⟩
theorem Kept.of_below {k : Nat} {ow : Own} {w w' : World} (h : Below w.heap.size w w') : Kept k ow w ow w' :=
  ⟨h.os, h.tape, h.output, h.size, fun _ _ => rfl, fun b hb _ => h.block b hb⟩
/-- The colours of new blocks are free. -/
theorem Kept.recolour {k : Nat} {ow ow' ow'' : Own} {w w' : World} (h : Kept k ow w ow' w') (g : ∀ b, b < w.heap.size → ow'' b = ow b) : Kept k ow w ow'' w' :=
  ⟨h.os, h.tape, h.output, h.size, g, h.block⟩
/-- The world's own relation 'Below' composed. -/
theorem below_trans {w w1 w2 : World} (h : Below w.heap.size w w1) (g : Below w1.heap.size w1 w2) : Below w.heap.size w w2 := h.trans (g.mono h.size)
theorem below_alloc (w : World) (o : Obj) : Below w.heap.size w (w.alloc o) := (Below.refl _ _).alloc (Nat.le_refl _) o
theorem below_drewN (w : World) (n : Nat) : Below w.heap.size w (w.drewN n) := ⟨rfl, rfl, rfl, Nat.le_refl _, fun _ _ => rfl⟩
theorem _root_.Go.RowKit.Below.kept_ow {w w' : World} (h : Below w.heap.size w w') {k : Nat} {ow : Own} : Kept k ow w ow w' := Kept.of_below h
/-- Nothing of colour k lies below base, the base's own colour is 0: what stood before stays. -/
theorem Kept.below {k : Nat} {ow ow' : Own} {w w' : World} {B : Nat} (h : Kept k ow w ow' w') (hB : B ≤ w.heap.size) (hz : ∀ b, b < B → ow b ≠ k) : Below B w w' :=
  ⟨h.os, h.tape, h.output, h.size, fun b hb => h.block b (Nat.lt_of_lt_of_le hb hB) (hz b hb)⟩
theorem cell_of {w : World} {b i : Nat} {cs : Array Value} {t : TypeId} {fr : Nat × Nat} {v : Value} (h : w.heap[b]? = some (.cells cs t fr)) (hi : cs[i]? = some v) : w.cell? ⟨b, i, none⟩ = some v := by
  simp [World.cell?, h, hi]
theorem frozen_of {w : World} {b i : Nat} {cs : Array Value} {t : TypeId} (h : w.heap[b]? = some (.cells cs t (0, 0))) : w.frozen? ⟨b, i, none⟩ = false := by
  simp [World.frozen?, h]
theorem lt_of_block {w : World} {b : Nat} {o : Obj} (h : w.heap[b]? = some o) : b < w.heap.size := (Array.getElem?_eq_some_iff.1 h).1
theorem kept_grown {w w' : World} {row : Option Nat} {ow : Own} {k : Nat} (hg : w.grownBy w' row) (h : ∀ g, row = some g → ow g = k) : Kept k ow w ow w' :=
  ⟨hg.os, hg.tape, hg.output, hg.size, fun _ _ => rfl, fun b hb hk => hg.block b hb (fun e => hk (h b e.symm))⟩
theorem kept_setCell (w : World) {a : Addr} {ow : Own} {k : Nat} (h : ow a.block = k) (u : Value) : Kept k ow w ow (w.setCell a u) :=
  ⟨rfl, rfl, rfl, by simp, fun _ _ => rfl, fun b _ hk => Below.heap_setCell _ _ _ _ (fun e => hk (by rw [e]; exact h))⟩
theorem grown_ad {w w' : World} {o : Obj} {row : Option Nat} (hg : (w.alloc o).drew.grownBy w' row) : w.grownBy w' row :=
  World.grownBy.trans (World.grownBy_alloc w o row) ⟨hg.os, hg.tape, hg.output, hg.size, hg.block⟩
theorem kept_drew (w : World) (ow : Own) (k : Nat) : Kept k ow w ow w.drew := ⟨rfl, rfl, rfl, Nat.le_refl _, fun _ _ => rfl, fun _ _ _ => rfl⟩
theorem own_ne {w : World} {base : Nat} {e : TypeId} {size : Nat} {v : Value} {n : Nat} {xs : List Value} (h : w.ownsRow base e size v n xs) {b : Nat} {o : Obj} (hb : w.heap[b]? = some o) (ho : ∀ cur fr, o ≠ .cells cur e fr) : v.ownBlock ≠ some b := by
  intro hk
  rcases h.2 with ⟨rfl, _⟩ | ⟨g, cap, cur, rfl, _, hg, _⟩
  · simp [Value.ownBlock] at hk
  · have : g = b := by simpa [Value.ownBlock] using hk
    subst this
    rw [hb] at hg
    cases hg
    exact ho _ _ rfl
theorem setCell_block {w : World} {b i : Nat} {cs : Array Value} {t : TypeId} {fr : Nat × Nat} (h : w.heap[b]? = some (.cells cs t fr)) (u : Value) : (w.setCell ⟨b, i, none⟩ u).heap[b]? = some (.cells (cs.setIfInBounds i u) t fr) := by
  simp [World.setCell, Array.getElem?_modify, h]
/-- Block b is a map with these entries, in this order. -/
def KV (P : Program) (k : TypeId) (w : World) (b : Nat) (l : List (Value × Value)) : Prop :=
  ∃ es clock, w.heap[b]? = some (.map es clock) ∧ Stamped es clock ∧ (es.toList.map fun e => (e.key, e.val)) = l ∧ ∀ e ∈ es.toList, ∃ q, keyOf P k e.key = some q
theorem KV.lt {P : Program} {k : TypeId} {w : World} {b : Nat} {l : List (Value × Value)} (h : KV P k w b l) : b < w.heap.size := by
  obtain ⟨es, clock, hb, _⟩ := h
  exact lt_of_block hb
theorem KV.same {P : Program} {k : TypeId} {w w' : World} {b : Nat} {l : List (Value × Value)} (h : KV P k w b l) (e : w'.heap[b]? = w.heap[b]?) : KV P k w' b l := by
  obtain ⟨es, clock, hb, r⟩ := h
  exact ⟨es, clock, e.trans hb, r⟩
theorem KV.made (P : Program) (k : TypeId) (w : World) : KV P k (w.alloc (.map #[] 0)) w.heap.size [] :=
  ⟨#[], 0, (heap_alloc w _).1, stamped_empty 0, rfl, by simp⟩
/-- A map whose keys are κ's, whose elements are ν's: as a function. -/
def TM {κ ν : Type} (P : Program) (k : TypeId) (ek : κ → Value) (ev : ν → Value) (w : World) (b : Nat) (f : κ → Option ν) : Prop :=
  ∃ l : List (κ × ν), KV P k w b (l.map fun p => (ek p.1, ev p.2)) ∧ (l.map (·.1)).Nodup ∧ ∀ x v, f x = some v ↔ (x, v) ∈ l
section
variable {κ ν : Type} {P : Program} {k : TypeId} {ek : κ → Value} {ev : ν → Value} {w : World} {b : Nat} {f : κ → Option ν}
theorem TM.lt (h : TM P k ek ev w b f) : b < w.heap.size := by obtain ⟨l, h, _⟩ := h; exact h.lt
theorem TM.same {w' : World} (h : TM P k ek ev w b f) (e : w'.heap[b]? = w.heap[b]?) : TM P k ek ev w' b f := by
  obtain ⟨l, h, r⟩ := h
  exact ⟨l, h.same e, r⟩
theorem TM.made (P : Program) (k : TypeId) (ek : κ → Value) (ev : ν → Value) (w : World) : TM P k ek ev (w.alloc (.map #[] 0)) w.heap.size (fun _ => none) :=
  ⟨[], KV.made P k w, by simp, by simp⟩
theorem TM.below {w' : World} (h : TM P k ek ev w b f) (hb : Below w.heap.size w w') : TM P k ek ev w' b f := h.same (hb.block b h.lt)
theorem TM.kept {w' : World} {ow ow' : Own} {c : Nat} (h : TM P k ek ev w b f) (hb : Kept c ow w ow' w') (hc : ow b ≠ c) : TM P k ek ev w' b f := h.same (hb.block b h.lt hc)
/-- What 'findKey' tells. -/
theorem TM.find (h : TM P k ek ev w b f) (K : Keyed P k) (inj : ∀ x y, ek x = ek y → x = y) {x : κ} {kl : Lit} (hkey : keyOf P k (ek x) = some kl) :
    ∃ es clock, w.heap[b]? = some (.map es clock) ∧ (((Instr.findKey k (ek x) es.toList).run P w = .ok none w ∧ f x = none) ∨
      ∃ j v, (Instr.findKey k (ek x) es.toList).run P w = .ok (some (j, ev v)) w ∧ f x = some v) := by
  obtain ⟨l, ⟨es, clock, hb, hs, hl, hk⟩, hnd, hf⟩ := h
  refine ⟨es, clock, hb, ?_⟩
  rcases K.find w hkey es.toList hk with ⟨h1, h2⟩ | ⟨j, e0, h1, h2, h3⟩
  · refine .inl ⟨h1, ?_⟩
    cases hx : f x with
    | none => rfl
    | some v =>
      have hm := (hf x v).1 hx
      have : (ek x, ev v) ∈ es.toList.map (fun e => (e.key, e.val)) := by rw [hl]; exact List.mem_map.2 ⟨(x, v), hm, rfl⟩
      obtain ⟨e, he, e1⟩ := List.mem_map.1 this
      simp only [Prod.mk.injEq] at e1
      exact absurd e1.1 (h2 e he)
  · have hm : (e0.key, e0.val) ∈ l.map (fun p => (ek p.1, ev p.2)) := by rw [← hl]; exact List.mem_map.2 ⟨e0, List.mem_of_getElem? h2, rfl⟩
    obtain ⟨⟨y, v⟩, hy, e1⟩ := List.mem_map.1 hm
    simp only [Prod.mk.injEq] at e1
    have : y = x := inj _ _ (e1.1.trans h3)
    subst this
    refine .inr ⟨j, v, ?_, (hf _ _).2 hy⟩
    rw [h1, e1.2]
/-- 'm[k]', 'v, ok := m[k]'. -/
theorem TM.look_none (h : TM P k ek ev w b f) (K : Keyed P k) (inj : ∀ x y, ek x = ek y → x = y) {t e : TypeId} (ht : P.underlying t = some (.map k e)) {z : Value} (hz : (zeroValue e).run P w = .ok z w)
    {x : κ} {kl : Lit} (hkey : keyOf P k (ek x) = some kl) (c : Bool) (hx : f x = none) : (Instr.lookup t (.map (some b)) (ek x) c).run P w = .ok (if c then .tuple #[z, .bool false] else z) w := by
  obtain ⟨es, clock, hb, h1 | ⟨j, v, h1, h2⟩⟩ := h.find K inj hkey
  · simp [Instr.lookup, run_underlying ht, MapKept.run_getObj_map hb, K.check w _ hkey, h1.1, hz, Result.andThen]
  · rw [hx] at h2; cases h2
theorem TM.look_some (h : TM P k ek ev w b f) (K : Keyed P k) (inj : ∀ x y, ek x = ek y → x = y) {t e : TypeId} (ht : P.underlying t = some (.map k e))
    {x : κ} {kl : Lit} (hkey : keyOf P k (ek x) = some kl) (c : Bool) {v : ν} (hx : f x = some v) : (Instr.lookup t (.map (some b)) (ek x) c).run P w = .ok (if c then .tuple #[ev v, .bool true] else ev v) w := by
  obtain ⟨es, clock, hb, h1 | ⟨j, v', h1, h2⟩⟩ := h.find K inj hkey
  · rw [hx] at h1; cases h1.2
  · rw [hx] at h2
    cases h2
    simp [Instr.lookup, run_underlying ht, MapKept.run_getObj_map hb, K.check w _ hkey, h1, Result.andThen]
def setB (w : World) (b : Nat) (o : Obj) : World := { w with heap := w.heap.setIfInBounds b o }
theorem setB_same {w : World} {b : Nat} {o : Obj} (hb : b < w.heap.size) : (setB w b o).heap[b]? = some o := by simp [setB, hb]
theorem setB_other {w : World} {b c : Nat} {o : Obj} (hc : c ≠ b) : (setB w b o).heap[c]? = w.heap[c]? := by
  simp only [setB, Array.getElem?_setIfInBounds]
  rw [if_neg (Ne.symm hc)]
open Classical in
noncomputable def upd {κ ν : Type} (f : κ → Option ν) (x : κ) (v : Option ν) : κ → Option ν := fun y => if y = x then v else f y
theorem upd_same {κ ν : Type} (f : κ → Option ν) (x : κ) (v : Option ν) : upd f x v x = v := by simp [upd]
theorem upd_other {κ ν : Type} (f : κ → Option ν) {x y : κ} (v : Option ν) (h : y ≠ x) : upd f x v y = f y := by simp [upd, h]
/-- From w to w' block b alone was written. -/
structure Only (b : Nat) (w w' : World) : Prop where
  os : w'.os = w.os
  tape : w'.tape = w.tape
  output : w'.output = w.output
  size : w'.heap.size = w.heap.size
  block : ∀ c, c ≠ b → w'.heap[c]? = w.heap[c]?
theorem only_setB (w : World) (b : Nat) (o : Obj) : Only b w (setB w b o) := ⟨rfl, rfl, rfl, by simp [setB], fun _ h => setB_other h⟩
theorem Only.kept {b : Nat} {w w' : World} (h : Only b w w') {ow : Own} {k : Nat} (hk : ow b = k) : Kept k ow w ow w' :=
  ⟨h.os, h.tape, h.output, by rw [h.size]; exact Nat.le_refl _, fun _ _ => rfl, fun c _ hc => h.block c (fun e => hc (e ▸ hk))⟩
theorem Only.below {b : Nat} {w w' : World} (h : Only b w w') {B : Nat} (hB : B ≤ b) : Below B w w' :=
  ⟨h.os, h.tape, h.output, by rw [h.size]; exact Nat.le_refl _, fun c hc => h.block c (by omega)⟩
/-- 'm[k] = v'. -/
theorem TM.put (h : TM P k ek ev w b f) (K : Keyed P k) (inj : ∀ x y, ek x = ek y → x = y) {t e : TypeId} (ht : P.underlying t = some (.map k e)) {x : κ} {kl : Lit} (hkey : keyOf P k (ek x) = some kl) (v : ν) :
    ∃ w', (Instr.mapUpdate t (.map (some b)) (ek x) (ev v)).run P w = .ok () w' ∧ TM P k ek ev w' b (upd f x (some v)) ∧ Only b w w' := by
  obtain ⟨l, ⟨es, clock, hb, hs, hl, hk⟩, hnd, hf⟩ := h
  have hbl := lt_of_block hb
  rcases K.find w hkey es.toList hk with ⟨h1, h2⟩ | ⟨j, e0, h1, h2, h3⟩
  · have hnot : ∀ v', (x, v') ∉ l := fun v' hv' => by
      have : (ek x, ev v') ∈ es.toList.map (fun e => (e.key, e.val)) := by rw [hl]; exact List.mem_map.2 ⟨(x, v'), hv', rfl⟩
      obtain ⟨e, he, e1⟩ := List.mem_map.1 this
      simp only [Prod.mk.injEq] at e1
      exact h2 e he e1.1
    refine ⟨setB w b (.map (es.push ⟨ek x, ev v, clock⟩) (clock + 1)), ?_, ⟨l ++ [(x, v)], ⟨_, _, setB_same hbl, stamped_push hs h2, ?_, ?_⟩, ?_, ?_⟩, only_setB _ _ _⟩
    · simp [Instr.mapUpdate, run_underlying ht, MapKept.run_getObj_map hb, K.check w false hkey, h1, MapKept.run_setObj_map _ hb, Result.andThen, setB]
    · simp [hl]
    · intro e he
      simp only [Array.toList_push, List.mem_append, List.mem_singleton] at he
      rcases he with he | rfl
      · exact hk e he
      · exact ⟨_, hkey⟩
    · simp only [List.map_append, List.map_cons, List.map_nil]
      refine List.nodup_append.2 ⟨hnd, by simp, ?_⟩
      intro a ha c hc e1
      simp only [List.mem_singleton] at hc
      subst hc; subst e1
      obtain ⟨⟨y, u⟩, hy, rfl⟩ := List.mem_map.1 ha
      exact hnot u hy
    · intro y u
      by_cases e1 : y = x
      · subst e1
        rw [upd_same]
        constructor
        · intro h; cases h; simp
        · intro h
          simp only [List.mem_append, List.mem_singleton, Prod.mk.injEq, true_and] at h
          rcases h with h | h
          · exact absurd h (hnot u)
          · rw [h]
      · rw [upd_other _ _ e1, hf]
        simp [e1]
  · have hj : es[j]? = some e0 := by simpa using h2
    have hjl : j < es.toList.length := (List.getElem?_eq_some_iff.1 h2).1
    have hlj : ∃ u0, l[j]? = some (x, u0) := by
      have : (es.toList.map (fun e => (e.key, e.val)))[j]? = some (e0.key, e0.val) := by simp [h2]
      rw [hl, List.getElem?_map] at this
      cases hlj : l[j]? with
      | none => simp [hlj] at this
      | some p =>
        simp only [hlj, Option.map_some, Option.some.injEq, Prod.mk.injEq] at this
        exact ⟨p.2, by rw [← inj _ _ (this.1.trans h3)]⟩
    obtain ⟨u0, hlj⟩ := hlj
    have hjl' : j < l.length := (List.getElem?_eq_some_iff.1 hlj).1
    have hkeyf : ∀ e', es[j]? = some e' → ({ e' with key := ek x, val := ev v } : MapEntry).key = e'.key := fun e' he' => by rw [hj] at he'; cases he'; exact h3.symm
    have hlist : (es.modify j (fun e' => { e' with key := ek x, val := ev v })).toList = es.toList.set j { e0 with key := ek x, val := ev v } := by rw [Array.toList_modify, Go.ChangeMaps.modify_eq_set _ _ _ _ h2]
    refine ⟨setB w b (.map (es.modify j (fun e' => { e' with key := ek x, val := ev v })) clock), ?_, ⟨l.set j (x, v), ⟨_, _, setB_same hbl, stamped_modify hs _ _ (fun _ _ => rfl) (fun e' _ he' => hkeyf e' he'), ?_, ?_⟩, ?_, ?_⟩, only_setB _ _ _⟩
    · simp [Instr.mapUpdate, run_underlying ht, MapKept.run_getObj_map hb, K.check w false hkey, h1, hj, h3, K.stays w hkey, MapKept.run_setObj_map _ hb, Result.andThen, setB]
    · rw [hlist, List.map_set, hl, List.map_set]
    · intro e he
      rw [hlist] at he
      rcases List.mem_or_eq_of_mem_set he with he | rfl
      · exact hk e he
      · exact ⟨_, hkey⟩
    · rw [List.map_set]
      have : (l.map (·.1)).set j x = l.map (·.1) := by
        apply List.ext_getElem?
        intro i
        rw [List.getElem?_set]
        split
        · rename_i e1; subst e1
          have := (List.getElem?_eq_some_iff.1 hlj).2
          simp [hjl', this]
        · rfl
      rw [this]; exact hnd
    · intro y u
      have hset : (y, u) ∈ l.set j (x, v) ↔ (y = x ∧ u = v) ∨ (y ≠ x ∧ (y, u) ∈ l) := by
        constructor
        · intro hm
          obtain ⟨i, hi⟩ := List.mem_iff_getElem?.1 hm
          rw [List.getElem?_set] at hi
          split at hi
          · rename_i e1
            subst e1
            simp only [Option.some.injEq, Prod.mk.injEq] at hi
            exact .inl ⟨hi.1.symm, hi.2.symm⟩
          · rename_i hne
            refine .inr ⟨fun e1 => hne ?_, List.mem_of_getElem? hi⟩
            subst e1
            have a1 : (l.map (·.1))[i]? = some y := by simp [hi]
            have a2 : (l.map (·.1))[j]? = some y := by simp [hlj]
            have il := (List.getElem?_eq_some_iff.1 a1).1
            have jl := (List.getElem?_eq_some_iff.1 a2).1
            exact ((List.getElem_inj hnd (h₀ := jl) (h₁ := il)).1 ((List.getElem?_eq_some_iff.1 a2).2.trans (List.getElem?_eq_some_iff.1 a1).2.symm))
        · rintro (⟨rfl, rfl⟩ | ⟨hne, hm⟩)
          · exact List.mem_iff_getElem?.2 ⟨j, by simp [hjl']⟩
          · obtain ⟨i, hi⟩ := List.mem_iff_getElem?.1 hm
            refine List.mem_iff_getElem?.2 ⟨i, ?_⟩
            rw [List.getElem?_set]
            split
            · rename_i e1; subst e1; rw [hlj] at hi; cases hi; exact absurd rfl hne
            · exact hi
      rw [hset]
      by_cases e1 : y = x
      · subst e1
        rw [upd_same]
        constructor
        · intro h; cases h; exact .inl ⟨rfl, rfl⟩
        · rintro (⟨_, rfl⟩ | ⟨h, _⟩)
          · rfl
          · exact absurd rfl h
      · rw [upd_other _ _ e1, hf]
        constructor
        · intro h; exact .inr ⟨e1, h⟩
        · rintro (⟨h, _⟩ | ⟨_, h⟩)
          · exact absurd h e1
          · exact h
/-- 'delete(m, k)'. -/
theorem TM.del (h : TM P k ek ev w b f) (K : Keyed P k) (inj : ∀ x y, ek x = ek y → x = y) {t e : TypeId} (ht : P.underlying t = some (.map k e)) {x : κ} {kl : Lit} (hkey : keyOf P k (ek x) = some kl) (ty : TypeId) :
    ∃ w', (Builtin.delete_ #[t, k] ty #[.map (some b), ek x]).run P w = .ok (.tuple #[]) w' ∧ TM P k ek ev w' b (upd f x none) ∧ Only b w w' := by
  obtain ⟨l, ⟨es, clock, hb, hs, hl, hk⟩, hnd, hf⟩ := h
  have hbl := lt_of_block hb
  rcases K.find w hkey es.toList hk with ⟨h1, h2⟩ | ⟨j, e0, h1, h2, h3⟩
  · have hnot : ∀ v', (x, v') ∉ l := fun v' hv' => by
      have : (ek x, ev v') ∈ es.toList.map (fun e => (e.key, e.val)) := by rw [hl]; exact List.mem_map.2 ⟨(x, v'), hv', rfl⟩
      obtain ⟨e, he, e1⟩ := List.mem_map.1 this
      simp only [Prod.mk.injEq] at e1
      exact h2 e he e1.1
    refine ⟨setB w b (.map es clock), ?_, ⟨l, ⟨_, _, setB_same hbl, hs, hl, hk⟩, hnd, ?_⟩, only_setB _ _ _⟩
    · simp [Builtin.delete_, run_underlying ht, MapKept.run_getObj_map hb, K.check w _ hkey, h1, MapKept.run_setObj_map _ hb, Result.andThen, setB]
    · intro y u
      by_cases e1 : y = x
      · subst e1; rw [upd_same]; simp [hnot u]
      · rw [upd_other _ _ e1, hf]
  · have hjl : j < es.toList.length := (List.getElem?_eq_some_iff.1 h2).1
    have hjs : j < es.size := by simpa using hjl
    have hsub : (es.eraseIdxIfInBounds j).toList = es.toList.eraseIdx j := by
      unfold Array.eraseIdxIfInBounds
      rw [dif_pos hjs]
      simp
    have hlj : ∃ u0, l[j]? = some (x, u0) := by
      have : (es.toList.map (fun e => (e.key, e.val)))[j]? = some (e0.key, e0.val) := by simp [h2]
      rw [hl, List.getElem?_map] at this
      cases hlj : l[j]? with
      | none => simp [hlj] at this
      | some p =>
        simp only [hlj, Option.map_some, Option.some.injEq, Prod.mk.injEq] at this
        exact ⟨p.2, by rw [← inj _ _ (this.1.trans h3)]⟩
    obtain ⟨u0, hlj⟩ := hlj
    refine ⟨setB w b (.map (es.eraseIdxIfInBounds j) clock), ?_, ⟨l.eraseIdx j, ⟨_, _, setB_same hbl, stamped_erase hs j, ?_, ?_⟩, ?_, ?_⟩, only_setB _ _ _⟩
    · simp [Builtin.delete_, run_underlying ht, MapKept.run_getObj_map hb, K.check w _ hkey, h1, MapKept.run_setObj_map _ hb, Result.andThen, setB]
    · rw [hsub, Go.ChangeMaps.map_eraseIdx, hl, Go.ChangeMaps.map_eraseIdx]
    · intro e he
      rw [hsub] at he
      exact hk e ((List.eraseIdx_sublist _ _).subset he)
    · rw [Go.ChangeMaps.map_eraseIdx]
      exact hnd.sublist (List.eraseIdx_sublist _ _)
    · intro y u
      have hset : (y, u) ∈ l.eraseIdx j ↔ y ≠ x ∧ (y, u) ∈ l := by
        rw [List.mem_eraseIdx_iff_getElem?]
        constructor
        · rintro ⟨i, hne, hi⟩
          refine ⟨fun e1 => hne ?_, List.mem_of_getElem? hi⟩
          subst e1
          have a1 : (l.map (·.1))[i]? = some y := by simp [hi]
          have a2 : (l.map (·.1))[j]? = some y := by simp [hlj]
          have il := (List.getElem?_eq_some_iff.1 a1).1
          have jl := (List.getElem?_eq_some_iff.1 a2).1
          exact ((List.getElem_inj hnd (h₀ := il) (h₁ := jl)).1 ((List.getElem?_eq_some_iff.1 a1).2.trans (List.getElem?_eq_some_iff.1 a2).2.symm))
        · rintro ⟨hne, hm⟩
          obtain ⟨i, hi⟩ := List.mem_iff_getElem?.1 hm
          refine ⟨i, fun e1 => ?_, hi⟩
          subst e1; rw [hlj] at hi; cases hi; exact hne rfl
      rw [hset]
      by_cases e1 : y = x
      · subst e1; rw [upd_same]; simp
      · rw [upd_other _ _ e1, hf]; simp [e1]
/-- 'm[k] = v' behind 'at_mapUpdate'. -/
theorem wp_put {ops : Array Oper} {rest : List Oper} {o : Oper} {a : Act} {Q : Exit → Act → World → Prop}
    (h : TM P k ek ev w b f) (K : Keyed P k) (inj : ∀ x y, ek x = ek y → x = y) (hg : o.guard = none) (m x v : Operand) (t e : TypeId) (hop : o.op = Op.mapUpdate t m x v) (ht : P.underlying t = some (.map k e))
    (hm : a.eval m = .map (some b)) (y : κ) (hx : a.eval x = ek y) (u : ν) (hv : a.eval v = ev u) {kl : Lit} (hkey : keyOf P k (ek y) = some kl)
    (hK : ∀ w', TM P k ek ev w' b (upd f y (some u)) → Only b w w' → wpList P ops Q rest (a.put o.dst undef) w') : wpList P ops Q (o :: rest) a w := by
  obtain ⟨w', hrun, h1, h2⟩ := h.put K inj ht hkey u
  refine wpList_plain hg fun C hC => ?_
  have : (execOp a.eval o).run P w = .ok .skip w' := by
    simp [execOp, hop, hm, hx, hv, hrun, Result.andThen]
  simp only [Oper.wp, this, Oper.upon_skip]
  exact hC _ _ (hK w' h1 h2)
end
/-- The slice v has n elements of size cells each, which are the cells xs. -/
structure Rd (w : World) (v : Value) (n size : Nat) (xs : List Value) : Prop where
  shape : ∃ a c, v = .slice a n c ∧ (a = none → n = 0 ∧ c = 0) ∧ ∀ ad, a = some ad → (n ≠ 0 → ad.spot = none) ∧ ∀ j u, xs[j]? = some u → w.cell? ⟨ad.block, ad.off + j, none⟩ = some u
  len : xs.length = n * size
theorem Rd.below {w w' : World} {v : Value} {n size : Nat} {xs : List Value} (h : Rd w v n size xs) (hb : Below w.heap.size w w') : Rd w' v n size xs := by
  obtain ⟨⟨a, c, e, h1, h2⟩, hl⟩ := h
  refine ⟨⟨a, c, e, h1, fun ad ha => ⟨(h2 ad ha).1, fun j u hu => ?_⟩⟩, hl⟩
  have hc := (h2 ad ha).2 j u hu
  exact (hb.cell (World.block_lt_of_cell? w _ hc)).trans hc
theorem rd_own {w : World} {base : Nat} {e : TypeId} {size : Nat} {v : Value} {n : Nat} {xs : List Value} (h : w.ownsRow base e size v n xs) : Rd w v n size xs := by
  refine ⟨?_, h.1⟩
  rcases h.2 with ⟨rfl, rfl⟩ | ⟨g, cap, cur, rfl, _⟩
  · exact ⟨none, 0, rfl, fun _ => ⟨rfl, rfl⟩, fun _ h => by cases h⟩
  · refine ⟨_, cap, rfl, fun h => by (cases h), fun ad ha => ?_⟩
    cases ha
    refine ⟨fun _ => rfl, fun j u hu => ?_⟩
    have := h.cells (g := g) rfl j u hu
    rw [show (⟨g, 0, none⟩ : Addr).add j = ⟨g, j, none⟩ by unfold Addr.add; split <;> simp_all] at this
    simpa using this
theorem Rd.some {w : World} {v : Value} {n size : Nat} {xs : List Value} (h : Rd w v n size xs) (hn : 0 < n) : ∃ b o c, v = .slice (some ⟨b, o, none⟩) n c ∧ ∀ j u, xs[j]? = some u → w.cell? ⟨b, o + j, none⟩ = some u := by
  obtain ⟨⟨a, c, rfl, h1, h2⟩, hl⟩ := h
  cases a with
  | none => have := (h1 rfl).1; omega
  | some ad =>
    obtain ⟨b, o, s⟩ := ad
    obtain ⟨h3, h4⟩ := h2 _ rfl
    have h3 := h3 (by omega)
    simp only at h3
    subst h3
    exact ⟨b, o, c, rfl, h4⟩
theorem Rd.slice {w : World} {v : Value} {n size : Nat} {xs : List Value} (h : Rd w v n size xs) : ∃ a c, v = .slice a n c := by
  obtain ⟨⟨a, c, e, _⟩, _⟩ := h; exact ⟨a, c, e⟩
/-- append(v, u...): v the call's own or nil, u whatever can be read. -/
theorem wp_append {P : Program} {w : World} {ops : Array Oper} {rest : List Oper} {o : Oper} {a : Act} {Q : Exit → Act → World → Prop} (hgd : o.guard = none) (s x : Operand) (t : TypeId)
    (ho : o.op = .call { callee := .builtin .append, args := #[s, x], argTypes := #[t, t] })
    (base : Nat) (e : TypeId) (z : Value) (size bytes : Nat) (ht : P.underlying t = some (.slice e)) (hinfo : (P.info? e).map (fun i => (i.zero, i.size, i.bytes)) = some (some z, size, bytes)) (hzs : z.cells.size = size) (hsz : 0 < size) (hby : 0 < bytes)
    (v : Value) (n : Nat) (xs : List Value) (hs : a.eval s = v) (hown : w.ownsRow base e size v n xs)
    (u : Value) (m : Nat) (ys : List Value) (hx : a.eval x = u) (hrd : Rd w u m size ys) (h1 : ∀ y ∈ ys, y.oneCell' = true)
    (hbytes : (n + m) * bytes ≤ 140737488355328) (hbase : base ≤ w.heap.size)
    (h : ∀ v' w', w'.ownsRow base e size v' (n + m) (xs ++ ys) → w.grownBy w' v.ownBlock → (v'.ownBlock = v.ownBlock ∨ v'.ownBlock = some w.heap.size) → (v' = .slice none 0 0 ↔ v = .slice none 0 0 ∧ m = 0) → wpList P ops Q rest (a.put o.dst v') w') :
    wpList P ops Q (o :: rest) a w := by
  obtain ⟨i, hi, hzz⟩ := Option.map_eq_some_iff.1 hinfo
  simp only [Prod.mk.injEq] at hzz
  obtain ⟨hz0, hz1, hz2⟩ := hzz
  obtain ⟨⟨a', c, rfl, h2, h3⟩, hl⟩ := hrd
  have h63 : n + m ≤ maxLen := by
    have := Nat.le_mul_of_pos_right (n + m) hby
    unfold maxLen; omega
  cases a' with
  | none =>
    obtain ⟨rfl, rfl⟩ := h2 rfl
    have : ys = [] := List.eq_nil_of_length_eq_zero (by rw [hl]; omega)
    subst this
    exact wpList_append_own_none hgd s x t ho base e i size ht hi v n xs hs hown hx (h v w (by simpa using hown) ⟨rfl, rfl, rfl, Nat.le_refl _, fun _ _ _ => rfl⟩ (.inl rfl) (by simp))
  | some ad =>
    obtain ⟨h4, h5⟩ := h3 _ rfl
    refine wpList_append_own_at w hgd s x t ho base e i z size bytes ht hi hz0 hz1 hz2 hzs hsz v n xs hs hown ad m c ys hx hl ?_ h1 h63 hbytes hbase ?_
    · intro j y hy
      have := h5 j y hy
      have h6 := h4 (by rintro rfl; rw [Nat.zero_mul] at hl; have := (List.getElem?_eq_some_iff.1 hy).1; omega)
      obtain ⟨b, o', sp⟩ := ad
      simp only at h6
      subst h6
      unfold Addr.add
      split
      · rename_i hj; subst hj; exact this
      · exact this
    · intro v' w' g1 g2 g3 g4
      exact h v' w' g1 g2 g4 g3
end Go.Dk
end

section
namespace Go.Proofs
open Go.Shelf
def Tryd.lays189_ren : Go.Shelf.Ren := ⟨fun | 189 => 49 | 125 => 57 | 257 => 56 | 128 => 86 | 129 => 87 | 294 => 77 | 295 => 78 | 296 => 79 | 297 => 80 | 298 => 81 | 299 => 82 | 216 => 83 | 300 => 84 | 301 => 85 | 328 => 91 | 329 => 92 | 330 => 93 | 331 => 94 | 332 => 95 | 215 => 96 | 343 => 100 | n => n, fun | 28 => 22 | 3 => 3 | 46 => 126 | 0 => 0 | 51 => 151 | 53 => 70 | 4 => 4 | 183 => 144 | 182 => 143 | 131 => 84 | 5 => 5 | 9 => 9 | 218 => 155 | 222 => 159 | 228 => 163 | 229 => 154 | n => n, fun | n => n⟩
theorem Tryd.lays189 : Go.Proofs.Lays.n189 Tryd.prog Tryd.lays189_ren := {
  mixed := by kernel_rfl
  f125 := Tryd.func57.trans (congrArg some (by kernel_rfl))
  f128 := Tryd.func86.trans (congrArg some (by kernel_rfl))
  f129 := Tryd.func87.trans (congrArg some (by kernel_rfl))
  f189 := Tryd.func49.trans (congrArg some (by kernel_rfl))
  f215 := Tryd.func96.trans (congrArg some (by kernel_rfl))
  f216 := Tryd.func83.trans (congrArg some (by kernel_rfl))
  f257 := Tryd.func56.trans (congrArg some (by kernel_rfl))
  f294 := Tryd.func77.trans (congrArg some (by kernel_rfl))
  f295 := Tryd.func78.trans (congrArg some (by kernel_rfl))
  f296 := Tryd.func79.trans (congrArg some (by kernel_rfl))
  f297 := Tryd.func80.trans (congrArg some (by kernel_rfl))
  f298 := Tryd.func81.trans (congrArg some (by kernel_rfl))
  f299 := Tryd.func82.trans (congrArg some (by kernel_rfl))
  f300 := Tryd.func84.trans (congrArg some (by kernel_rfl))
  f301 := Tryd.func85.trans (congrArg some (by kernel_rfl))
  f328 := Tryd.func91.trans (congrArg some (by kernel_rfl))
  f329 := Tryd.func92.trans (congrArg some (by kernel_rfl))
  f330 := Tryd.func93.trans (congrArg some (by kernel_rfl))
  f331 := Tryd.func94.trans (congrArg some (by kernel_rfl))
  f332 := Tryd.func95.trans (congrArg some (by kernel_rfl))
  f343 := Tryd.func100.trans (congrArg some (by kernel_rfl))
  t0 := Tryd.underlying0
  a0 := Tryd.isAgg0
  z0 := Tryd.sizeOf0
  v0 := Tryd.zeroValue0
  t3 := Tryd.underlying3
  a3 := Tryd.isAgg3
  z3 := Tryd.sizeOf3
  v3 := Tryd.zeroValue3
  t4 := Tryd.underlying4
  a4 := Tryd.isAgg4
  z4 := Tryd.sizeOf4
  v4 := Tryd.zeroValue4
  t5 := Tryd.underlying5
  a5 := Tryd.isAgg5
  z5 := Tryd.sizeOf5
  v5 := Tryd.zeroValue5
  t9 := Tryd.underlying9
  a9 := Tryd.isAgg9
  z9 := Tryd.sizeOf9
  v9 := Tryd.zeroValue9
  t28 := Tryd.underlying22
  a28 := Tryd.isAgg22
  z28 := Tryd.sizeOf22
  v28 := Tryd.zeroValue22
  t46 := Tryd.underlying126
  a46 := Tryd.isAgg126
  z46 := Tryd.sizeOf126
  v46 := Tryd.zeroValue126
  t51 := Tryd.underlying151
  a51 := Tryd.isAgg151
  z51 := Tryd.sizeOf151
  v51 := Tryd.zeroValue151
  t53 := Tryd.underlying70
  a53 := Tryd.isAgg70
  z53 := Tryd.sizeOf70
  v53 := Tryd.zeroValue70
  t131 := Tryd.underlying84
  a131 := Tryd.isAgg84
  z131 := Tryd.sizeOf84
  v131 := Tryd.zeroValue84
  t182 := Tryd.underlying143
  a182 := Tryd.isAgg143
  z182 := Tryd.sizeOf143
  v182 := Tryd.zeroValue143
  t183 := Tryd.underlying144
  a183 := Tryd.isAgg144
  z183 := Tryd.sizeOf144
  v183 := Tryd.zeroValue144
  t218 := Tryd.underlying155
  a218 := Tryd.isAgg155
  z218 := Tryd.sizeOf155
  v218 := Tryd.zeroValue155
  t222 := Tryd.underlying159
  a222 := Tryd.isAgg159
  z222 := Tryd.sizeOf159
  v222 := Tryd.zeroValue159
  t228 := Tryd.underlying163
  a228 := Tryd.isAgg163
  z228 := Tryd.sizeOf163
  v228 := Tryd.zeroValue163
  t229 := Tryd.underlying154
  a229 := Tryd.isAgg154
  z229 := Tryd.sizeOf154
  v229 := Tryd.zeroValue154 }
open Go.Sort Go.RowKit in
theorem Tryd.slices_Sort_int (blk off cap : Nat) (zs : List Int) (w : World) (hH : Holds (Value.int .i64) w blk off zs.toArray) (hblk : blk < w.heap.size) (hsz : zs.length < 4611686018427387904) :
    Calls Tryd.prog 49 #[.slice (some ⟨blk, off, none⟩) zs.length cap] w fun e w' =>
      e = .returned (.tuple #[]) ∧ ∃ n os, w' = grow (putRow (Value.int .i64) (Sort.ahead w n) blk off (zs.mergeSort fun x y => decide (x ≤ y)).toArray) os := Any.slices_Sort_int Tryd.lays189 blk off cap zs w hH hblk hsz
open Go.RowKit Go.Sort in
/-- .. and plain. (LAID: no walk: one application.) -/
theorem Tryd.slices_Sort_int_none (p : Option Addr) (cap : Nat) (w : World) :
    Calls Tryd.prog 49 #[.slice p 0 cap] w fun e w' => e = .returned (.tuple #[]) ∧ w' = w := Any.slices_Sort_int_none Tryd.lays189 p cap w
end Go.Proofs
end

section
namespace Go.Dk
open Go.RowKit Go.Maps Go.MapKept
open Go.Proofs hiding intOf
theorem nodup_map_inj {α β : Type} (f : α → β) {l : List α} (h : (l.map f).Nodup) {a b : α} (ha : a ∈ l) (hb : b ∈ l) (e : f a = f b) : a = b := by
  obtain ⟨i, hi, rfl⟩ := List.getElem_of_mem ha
  obtain ⟨j, hj, rfl⟩ := List.getElem_of_mem hb
  have := (List.getElem_inj h (h₀ := by simpa using hi) (h₁ := by simpa using hj)).1 (by simpa using e)
  subst this; rfl
/-- Block r ranges over the map b, which reads as f; the keys done have come. -/
def Rng {κ ν : Type} (P : Program) (k : TypeId) (ek : κ → Value) (ev : ν → Value) (w : World) (b r : Nat) (f : κ → Option ν) (done : List κ) : Prop :=
  ∃ es clock, ∃ l : List (κ × ν), ∃ since c0 seen, w.heap[b]? = some (.map es clock) ∧ Stamped es clock ∧ (es.toList.map fun e => (e.key, e.val)) = (l.map fun p => (ek p.1, ev p.2)) ∧ (∀ e ∈ es.toList, ∃ q, keyOf P k e.key = some q) ∧
    (l.map (·.1)).Nodup ∧ (∀ x v, f x = some v ↔ (x, v) ∈ l) ∧ w.heap[r]? = some (.mapIter (some b) since seen c0) ∧ (∀ x ∈ es.toList, x.born < since) ∧ since ≤ c0 ∧ since ≤ clock ∧
    (∀ e ∈ es.toList, seen.contains e.born = true ↔ ∃ x ∈ done, e.key = ek x) ∧ done.Nodup ∧ ∀ x ∈ done, (f x).isSome = true
section
variable {κ ν : Type} {P : Program} {k : TypeId} {ek : κ → Value} {ev : ν → Value} {w : World} {b r : Nat} {f : κ → Option ν} {done : List κ}
theorem Rng.tm (h : Rng P k ek ev w b r f done) : TM P k ek ev w b f := by
  obtain ⟨es, clock, l, since, c0, seen, h1, h2, h3, h4, h5, h6, _⟩ := h
  exact ⟨l, ⟨es, clock, h1, h2, h3, h4⟩, h5, h6⟩
theorem Rng.ltr (h : Rng P k ek ev w b r f done) : r < w.heap.size := by
  obtain ⟨es, clock, l, since, c0, seen, h1, h2, h3, h4, h5, h6, h7, _⟩ := h
  exact lt_of_block h7
theorem Rng.same {w' : World} (h : Rng P k ek ev w b r f done) (e1 : w'.heap[b]? = w.heap[b]?) (e2 : w'.heap[r]? = w.heap[r]?) : Rng P k ek ev w' b r f done ∧ w'.rangeLeft b r = w.rangeLeft b r := by
  obtain ⟨es, clock, l, since, c0, seen, h1, h2, h3, h4, h5, h6, h7, h8⟩ := h
  exact ⟨⟨es, clock, l, since, c0, seen, e1.trans h1, h2, h3, h4, h5, h6, e2.trans h7, h8⟩, by simp [World.rangeLeft, e1, e2]⟩
theorem wp_range {ops : Array Oper} {rest : List Oper} {o : Oper} {a : Act} {Q : Exit → Act → World → Prop} (h : TM P k ek ev w b f) (hg : o.guard = none) (m : Operand) (t e : TypeId) (hop : o.op = Op.range t m) (ht : P.underlying t = some (.map k e))
    (hm : a.eval m = .map (some b))
    (hK : ∀ w', Rng P k ek ev w' b w.heap.size f [] → Below w.heap.size w w' → wpList P ops Q rest (a.put o.dst (.pointer (some ⟨w.heap.size, 0, none⟩))) w') : wpList P ops Q (o :: rest) a w := by
  refine wpList_plain hg fun K' hK' => ?_
  have hlt := h.lt
  obtain ⟨l, ⟨es, clock, h1, h2, h3, h4⟩, h5, h6⟩ := h
  have hrun : (Instr.range t (.map (some b))).run P w = .ok (.pointer (some ⟨w.heap.size, 0, none⟩)) (w.alloc (.mapIter (some b) clock #[] clock)) := by
    simp [Instr.range, run_underlying ht, MapKept.run_getObj_map h1, Result.andThen]
  unfold Oper.wp
  simp [execOp, hop, hm, hrun, Result.andThen]
  refine hK' _ _ (hK _ ⟨es, clock, l, clock, clock, #[], ?_, h2, h3, h4, h5, h6, heap_alloc_new w _, fun x hx => h2.1 x hx, Nat.le_refl _, Nat.le_refl _, ?_, List.nodup_nil, by simp⟩ (below_alloc _ _))
  · exact (heap_alloc_old w _ hlt).trans h1
  · simp
theorem wp_next {ops : Array Oper} {rest : List Oper} {o : Oper} {a : Act} {Q : Exit → Act → World → Prop} (h : Rng P k ek ev w b r f done) (inj : ∀ x y, ek x = ek y → x = y) (hg : o.guard = none) (it : Operand) (hop : o.op = Op.next it false) (hit : a.eval it = .pointer (some ⟨r, 0, none⟩))
    (hDone : (∀ x, (f x).isSome = true → x ∈ done) → wpList P ops Q rest (a.put o.dst (.tuple #[.bool false])) w)
    (hMore : ∀ x v w', f x = some v → x ∉ done → Rng P k ek ev w' b r f (x :: done) → w.grownBy w' (some r) → w'.rangeLeft b r < w.rangeLeft b r →
      (Instr.entry (.pointer (some ⟨r, 0, none⟩))).run P w' = .ok (.tuple #[ek x, ev v]) w' → wpList P ops Q rest (a.put o.dst (.tuple #[.bool true, ek x, ev v])) w') : wpList P ops Q (o :: rest) a w := by
  refine wpList_plain hg fun K' hK' => ?_
  obtain ⟨es, clock, l, since, c0, seen, h1, h2, h3, h4, h5, h6, h7, h8, h9, h9', h10, h11, h12⟩ := h
  have hbr : b ≠ r := by intro e; subst e; rw [h1] at h7; cases h7
  have key_of : ∀ e ∈ es.toList, ∃ x v, (x, v) ∈ l ∧ e.key = ek x ∧ e.val = ev v := fun e he => by
    have : (e.key, e.val) ∈ l.map fun p => (ek p.1, ev p.2) := by rw [← h3]; exact List.mem_map.2 ⟨e, he, rfl⟩
    obtain ⟨⟨x, v⟩, hm, e1⟩ := List.mem_map.1 this
    simp only [Prod.mk.injEq] at e1
    exact ⟨x, v, hm, e1.1.symm, e1.2.symm⟩
  have of_key : ∀ x v, (x, v) ∈ l → ∃ e ∈ es.toList, e.key = ek x ∧ e.val = ev v := fun x v hm => by
    have : (ek x, ev v) ∈ es.toList.map fun e => (e.key, e.val) := by rw [h3]; exact List.mem_map.2 ⟨(x, v), hm, rfl⟩
    obtain ⟨e, he, e1⟩ := List.mem_map.1 this
    simp only [Prod.mk.injEq] at e1
    exact ⟨e, he, e1.1, e1.2⟩
  unfold Oper.wp
  rcases run_next_at (P := P) w o.type r b since c0 seen es clock h7 h1 h8 h9 with ⟨h0, hrun⟩ | ⟨e, he, w1, hw1, hrun⟩
  · simp [execOp, hop, hit, hrun, Result.andThen]
    refine hK' _ _ (hDone fun x hx => ?_)
    obtain ⟨v, hv⟩ := Option.isSome_iff_exists.1 hx
    obtain ⟨e, he, ek1, _⟩ := of_key x v ((h6 x v).1 hv)
    obtain ⟨y, hy, e2⟩ := (h10 e he).1 (all_seen es seen h0 e he)
    rwa [inj _ _ (ek1.symm.trans e2)]
  · obtain ⟨hes, hns⟩ := mem_left he
    obtain ⟨x, v, hm, ek1, ev1⟩ := key_of e hes
    have hw1b : ∀ c : Nat, w1.heap[c]? = w.heap[c]? := by rcases hw1 with rfl | rfl <;> exact fun _ => rfl
    have hw1s : w1.heap.size = w.heap.size := by rcases hw1 with rfl | rfl <;> rfl
    have hrl : r < w1.heap.size := by rw [hw1s]; exact lt_of_block h7
    have hsb : ∀ o', (Go.ChangeMaps.setBlock w1 r o') = setB w1 r o' := fun _ => rfl
    rw [hsb] at hrun
    have hxn : x ∉ done := fun hd => by
      have := (h10 e hes).2 ⟨x, hd, ek1⟩
      rw [hns] at this; cases this
    have hb' : (setB w1 r (.mapIter (some b) since (seen.push e.born) clock)).heap[b]? = some (.map es clock) := by rw [setB_other hbr, hw1b]; exact h1
    have hr' : (setB w1 r (.mapIter (some b) since (seen.push e.born) clock)).heap[r]? = some (.mapIter (some b) since (seen.push e.born) clock) := setB_same hrl
    simp [execOp, hop, hit, hrun, Result.andThen]
    rw [ek1, ev1]
    refine hK' _ _ (hMore x v _ ((h6 x v).2 hm) hxn ⟨es, clock, l, since, clock, seen.push e.born, hb', h2, h3, h4, h5, h6, hr', h8, h9', h9', ?_, List.nodup_cons.2 ⟨hxn, h11⟩, ?_⟩ ?_ ?_ ?_)
    · intro e' he'
      rw [Array.contains_push]
      constructor
      · intro hc
        simp only [Bool.or_eq_true, beq_iff_eq] at hc
        rcases hc with hc | hc
        · obtain ⟨y, hy, e1⟩ := (h10 e' he').1 hc
          exact ⟨y, List.mem_cons_of_mem _ hy, e1⟩
        · have e2 := nodup_map_inj (fun e : MapEntry => e.born) h2.2.1 he' hes hc
          exact ⟨x, by simp, by rw [e2, ek1]⟩
      · rintro ⟨y, hy, e1⟩
        rcases List.mem_cons.1 hy with rfl | hy
        · have e2 := nodup_map_inj (fun e : MapEntry => e.key) h2.2.2 he' hes (e1.trans ek1.symm)
          simp [e2]
        · rw [(h10 e' he').2 ⟨y, hy, e1⟩]; rfl
    · intro y hy
      rcases List.mem_cons.1 hy with rfl | hy
      · rw [(h6 _ v).2 hm]; rfl
      · exact h12 y hy
    · refine ⟨?_, ?_, ?_, ?_, ?_⟩
      · rcases hw1 with rfl | rfl <;> rfl
      · rcases hw1 with rfl | rfl <;> rfl
      · rcases hw1 with rfl | rfl <;> rfl
      · simp [setB, hw1s]
      · intro c _ hc
        rw [setB_other (fun e1 => hc (by rw [e1]))]; exact hw1b c
    · simp only [World.rangeLeft, hb', hr', h1, h7]
      exact left_shrinks es seen e he
    · have := run_entry_at (P := P) _ r b since seen es clock e hr' hb' hes h2.2.1
      rw [this, ek1, ev1]
end
def ints (zs : List Int) : List Value := zs.map (Value.int .i64)
theorem sortInts_own (w : World) (base n : Nat) (v : Value) (zs : List Int) (hb : base ≤ w.heap.size) (h : w.ownsRow base 3 1 v n (ints zs)) (hl : n < 4611686018427387904) :
    Calls Tryd.prog 49 #[v] w fun e w' => e = .returned (.tuple #[]) ∧ w'.ownsRow base 3 1 v n (ints (zs.mergeSort fun x y => decide (x ≤ y))) ∧ w.grownBy w' v.ownBlock := by
  have hn : zs.length = n := by have := h.1; simpa [ints] using this
  rcases h.2 with ⟨rfl, h0⟩ | ⟨g, cap, cur, rfl, hbg, hg, h1, h2, h3, h4⟩
  · subst h0
    have : zs = [] := List.eq_nil_of_length_eq_zero hn
    subst this
    refine (Tryd.slices_Sort_int_none none 0 w).mono ?_
    rintro e w' ⟨rfl, rfl⟩
    exact ⟨rfl, by simpa using h, ⟨rfl, rfl, rfl, Nat.le_refl _, fun _ _ _ => rfl⟩⟩
  · subst hn
    refine (Tryd.slices_Sort_int g 0 cap zs w (holds_of_blockI hg (by simpa [ints] using h4)) (lt_of_block hg) hl).mono ?_
    rintro e w' ⟨rfl, m, os, rfl⟩
    refine ⟨rfl, ?_, grownBy_sortedI _⟩
    exact ownsRow_sortedI (List.length_mergeSort _) hbg hg h1 h2 h3
end Go.Dk
end

section
namespace Go.Dk
open Go.RowKit Go.Maps Go.MapKept
open Go.Proofs (Tryd.prog)
open Go.Proofs hiding intOf
def ND.val (n : ND) : Value := .agg #[.int .i64 n.kind, .string n.name, .int .i64 n.l, .int .i64 n.r]
def ND.cells (n : ND) : List Value := [.int .i64 n.kind, .string n.name, .int .i64 n.l, .int .i64 n.r]
def nodeCells (rows : List ND) : List Value := rows.flatMap ND.cells
def natV (i : Nat) : Value := .int .i64 (i : Int)
theorem ND.val_inj : ∀ x y : ND, x.val = y.val → x = y := by
  intro x y h
  cases x; cases y
  simp only [ND.val, Value.agg.injEq, Array.mk.injEq, List.cons.injEq, Value.int.injEq, Value.string.injEq, true_and, and_true] at h
  simp [h]
/-- A living table at its blocks: pb the struct, mb the map, v the slice of rows; k the colour of all of them. -/
structure TabAt (k : Nat) (ow : Own) (w : World) (pb mb : Nat) (v : Value) (rows : List ND) : Prop where
  hp : w.heap[pb]? = some (.cells #[v, .map (some mb)] 29 (0, 0))
  hr : w.ownsRow 0 45 4 v rows.length (nodeCells rows)
  hm : TM Tryd.prog 45 ND.val natV w mb (fun n => rows.idxOf? n)
  ok : Ok rows
  cp : ow pb = k
  cm : ow mb = k
  cr : ∀ g, v.ownBlock = some g → ow g = k
/-- A living table: its rows, the colour k of all its blocks. -/
def Tab (k : Nat) (ow : Own) (w : World) (t : Value) (rows : List ND) : Prop :=
  ∃ pb mb v, t = .pointer (some ⟨pb, 0, none⟩) ∧ TabAt k ow w pb mb v rows
theorem TabAt.below {k : Nat} {ow : Own} {w w' : World} {pb mb : Nat} {v : Value} {rows : List ND} (h : TabAt k ow w pb mb v rows) (hb : Below w.heap.size w w') : TabAt k ow w' pb mb v rows :=
  ⟨(hb.block pb (lt_of_block h.hp)).trans h.hp, h.hr.kept (row := none) ⟨hb.os, hb.tape, hb.output, hb.size, fun j hj _ => hb.block j hj⟩ (by cases v.ownBlock <;> simp), h.hm.below hb, h.ok, h.cp, h.cm, h.cr⟩
theorem TabAt.kept {k c : Nat} {ow ow' : Own} {w w' : World} {pb mb : Nat} {v : Value} {rows : List ND} (h : TabAt k ow w pb mb v rows) (hb : Kept c ow w ow' w') (hc : k ≠ c) : TabAt k ow' w' pb mb v rows := by
  have l1 := lt_of_block h.hp
  refine ⟨(hb.block pb l1 (by rw [h.cp]; exact hc)).trans h.hp, ?_, h.hm.kept hb (by rw [h.cm]; exact hc), h.ok, (hb.own _ l1).trans h.cp, (hb.own _ h.hm.lt).trans h.cm, ?_⟩
  · refine ⟨h.hr.1, ?_⟩
    rcases h.hr.2 with hn | ⟨g, cap, cur, rfl, hbg, hg, rest⟩
    · exact .inl hn
    · exact .inr ⟨g, cap, cur, rfl, hbg, (hb.block g (lt_of_block hg) (by rw [h.cr g rfl]; exact hc)).trans hg, rest⟩
  · intro g hg
    have := (h.hr.lt g hg).2
    exact (hb.own g this).trans (h.cr g hg)
theorem Tab.below {k : Nat} {ow : Own} {w w' : World} {t : Value} {rows : List ND} (h : Tab k ow w t rows) (hb : Below w.heap.size w w') : Tab k ow w' t rows := by
  obtain ⟨pb, mb, v, rfl, h⟩ := h
  exact ⟨pb, mb, v, rfl, h.below hb⟩
theorem Tab.kept {k c : Nat} {ow ow' : Own} {w w' : World} {t : Value} {rows : List ND} (h : Tab k ow w t rows) (hb : Kept c ow w ow' w') (hc : k ≠ c) : Tab k ow' w' t rows := by
  obtain ⟨pb, mb, v, rfl, h⟩ := h
  exact ⟨pb, mb, v, rfl, h.kept hb hc⟩
theorem Tab.ok {k : Nat} {ow : Own} {w : World} {t : Value} {rows : List ND} (h : Tab k ow w t rows) : Ok rows := by
  obtain ⟨pb, mb, v, _, h⟩ := h; exact h.ok
theorem lawNode : Keyed Tryd.prog 45 :=
  Keyed.of_law (deep_law_laid (by kernel_rfl) (m := 3) (by omega) (of_decide_eq_true (by kernel_rfl)) (by kernel_rfl) (by rw [Tryd.underlying45]))
theorem infoNode : (Tryd.prog.info? 45).map (fun i => (i.zero, i.size, i.bytes)) = some (some (.agg #[.int .i64 0, .string ByteArray.empty, .int .i64 0, .int .i64 0]), 4, 40) := by kernel_rfl
theorem own_slice {w : World} {base n : Nat} {e : TypeId} {size : Nat} {v : Value} {xs : List Value} (h : w.ownsRow base e size v n xs) : ∃ a c, v = .slice a n c := by
  rcases h.2 with ⟨rfl, rfl⟩ | ⟨g, cap, cur, rfl, _⟩
  · exact ⟨none, 0, rfl⟩
  · exact ⟨_, cap, rfl⟩
theorem heap_alloc_new' (w : World) (o : Obj) {n : Nat} (h : n = w.heap.size) : (w.alloc o).heap[n]? = some o := by
  subst h; exact heap_alloc_new w o
theorem bytes_nil {s : ByteArray} : s.toList = [] ↔ s.size = 0 := by
  rw [ByteArray.toList_eq]
  constructor
  · intro h
    have : s.data.toList.length = 0 := by rw [h]; rfl
    simpa using this
  · intro h
    exact List.eq_nil_of_length_eq_zero (by simpa using h)
theorem ret_bool {a b : Bool} (h : a = b) : Ending.returned (.bool a) = .returned (.bool b) := by rw [h]
theorem ret_int {k : IntKind} {a b : Int} (h : a = b) : Ending.returned (.int k a) = .returned (.int k b) := by rw [h]
end Go.Dk
end

section
namespace Go.Dk
open Go.RowKit Go.Maps Go.MapKept
open Go.Proofs hiding intOf
theorem ints_at {w : World} {v : Value} {n : Nat} {zs : List Int} (h : Rd w v n 1 (ints zs)) {k : Nat} (hk : k < n) : ∃ b o c z, v = .slice (some ⟨b, o, none⟩) n c ∧ w.cell? ⟨b, o + k, none⟩ = some (.int .i64 z) ∧ zs[k]? = some z := by
  have hl : zs.length = n := by have := h.len; simpa [ints] using this
  obtain ⟨b, o, c, rfl, hc⟩ := h.some (by omega)
  obtain ⟨z, hz⟩ : ∃ z, zs[k]? = some z := ⟨_, List.getElem?_eq_getElem (by omega)⟩
  exact ⟨b, o, c, z, rfl, hc k _ (by simp [ints, hz]), hz⟩
theorem rd_lit (w : World) (cs : Array Value) (e : TypeId) {n size : Nat} {xs : List Value} (h : cs.toList = xs) (hl : xs.length = n * size) : Rd (w.alloc (.cells cs e)) (.slice (some ⟨w.heap.size, 0, none⟩) n n) n size xs := by
  subst h
  refine ⟨⟨_, _, rfl, fun h => by (cases h), fun ad ha => ?_⟩, hl⟩
  cases ha
  refine ⟨fun _ => rfl, fun j u hu => ?_⟩
  rw [World.cell?_alloc_at _ _ _ _ rfl]
  simpa using hu
end Go.Dk
end

section
namespace Go.Dk
open Go.RowKit Go.Maps Go.MapKept
open Go.Proofs hiding intOf
set_option maxRecDepth 100000 in
theorem reserved_any (s : ByteArray) (w : World) : Calls Tryd.prog 40 #[.string s] w fun e w' => e = .returned (.bool (reservedL.contains s.data.toList)) ∧ w = w' := by
  go_enter Tryd.func40, Tryd.ntmps40
  go_wp2
  all_goals (go_ret; exact ⟨ret_bool (by rw [← ByteArray.toList_eq]; simp_all [reservedL]), rfl⟩)
def wpre (l : List UInt8) : Bool := match l with | [] => true | c :: t => letterB c && t.all wordB
theorem wpre_snoc (l : List UInt8) (c : UInt8) : wpre (l ++ [c]) = (wpre l && (if l = [] then letterB c else wordB c)) := by
  cases l with
  | nil => simp [wpre]
  | cons a t => simp [wpre, List.all_append, Bool.and_assoc]
theorem take_snoc (s : ByteArray) (k : Nat) (h : k < s.size) : s.data.toList.take (k + 1) = s.data.toList.take k ++ [s[k]] := by
  rw [List.take_succ_eq_append_getElem (by simpa using h)]; rfl
theorem take_nil (s : ByteArray) (k : Nat) (h : k < s.size) : s.data.toList.take k = [] ↔ k = 0 := by
  have : s.data.toList.length = s.size := by simp
  rw [List.take_eq_nil_iff]
  constructor
  · rintro (h1 | h1)
    · exact h1
    · rw [h1] at this; simp at this; omega
  · exact .inl
theorem byte_all (p : Int → Bool → Bool → Prop) (h : ∀ n : Fin 256, p (n.val : Int) (letterB (UInt8.ofNat n.val)) (wordB (UInt8.ofNat n.val))) (c : UInt8) : p (c.toNat : Int) (letterB c) (wordB c) := by
  have := h ⟨c.toNat, c.toNat_lt⟩
  simpa using this
theorem or_cases (c : UInt8) : (letterB c = true ∧ 97 ≤ bits .or .u8 (c.toNat : Int) 32 ∧ bits .or .u8 (c.toNat : Int) 32 ≤ 122) ∨ (letterB c = false ∧ bits .or .u8 (c.toNat : Int) 32 < 97) ∨ (letterB c = false ∧ 122 < bits .or .u8 (c.toNat : Int) 32 ∧ decide (bits .or .u8 (c.toNat : Int) 32 ≤ 122) = false) :=
  byte_all (fun n a _ => (a = true ∧ 97 ≤ bits .or .u8 n 32 ∧ bits .or .u8 n 32 ≤ 122) ∨ (a = false ∧ bits .or .u8 n 32 < 97) ∨ (a = false ∧ 122 < bits .or .u8 n 32 ∧ decide (bits .or .u8 n 32 ≤ 122) = false)) (by decide +kernel) c
theorem char_cases (c : UInt8) (h : letterB c = false) :
    (wordB c = true ∧ ((c.toNat : Int) != 95) = false) ∨ (wordB c = true ∧ ((c.toNat : Int) != 95) = true ∧ ((c.toNat : Int) != 39) = false) ∨ (wordB c = true ∧ ((c.toNat : Int) != 95) = true ∧ ((c.toNat : Int) != 39) = true ∧ 48 ≤ (c.toNat : Int) ∧ (c.toNat : Int) ≤ 57) ∨
    (wordB c = false ∧ ((c.toNat : Int) != 95) = true ∧ ((c.toNat : Int) != 39) = true ∧ (c.toNat : Int) < 48) ∨ (wordB c = false ∧ ((c.toNat : Int) != 95) = true ∧ ((c.toNat : Int) != 39) = true ∧ 57 < (c.toNat : Int)) :=
  byte_all (fun n a b => a = false → (b = true ∧ (n != 95) = false) ∨ (b = true ∧ (n != 95) = true ∧ (n != 39) = false) ∨ (b = true ∧ (n != 95) = true ∧ (n != 39) = true ∧ 48 ≤ n ∧ n ≤ 57) ∨
    (b = false ∧ (n != 95) = true ∧ (n != 39) = true ∧ n < 48) ∨ (b = false ∧ (n != 95) = true ∧ (n != 39) = true ∧ 57 < n)) (by decide +kernel) c h
theorem wpre_false {l : List UInt8} {k : Nat} (h : wpre (l.take k) = false) : wpre l = false := by
  cases l with
  | nil => simp [wpre] at h
  | cons a t =>
    cases k with
    | zero => simp [wpre] at h
    | succ k =>
      simp only [List.take_succ_cons, wpre, Bool.and_eq_false_iff, List.all_eq_false] at h ⊢
      rcases h with h | ⟨x, hx, h⟩
      · exact .inl h
      · exact .inr ⟨x, List.mem_of_mem_take hx, h⟩
theorem word_eq (s : ByteArray) : word s = (wpre s.data.toList && decide (1 ≤ s.size) && decide (s.size ≤ 31) && !reservedL.contains s.data.toList) := by
  have hs : s.data.toList.length = s.size := by simp
  unfold word wordL wpre
  rw [← hs]
  cases s.data.toList with
  | nil => simp
  | cons c t => simp
theorem word_false {s : ByteArray} {k : Nat} (h : wpre (s.data.toList.take k) = false) : word s = false := by rw [word_eq, wpre_false h]; simp
set_option maxRecDepth 100000 in
set_option maxHeartbeats 400000 in
theorem word_any (s : ByteArray) (w : World) (hs : s.size ≤ maxLen) : Calls Tryd.prog 30 #[.string s] w fun e w' => e = .returned (.bool (word s)) ∧ w = w' := by
  unfold maxLen at hs
  go_enter Tryd.func30, Tryd.ntmps30
  go_wp2
  go_loop [9] (fun i => ∃ k : Nat, k ≤ s.size ∧ i = .int .i64 k ∧ wpre (s.data.toList.take k) = true) (fun i => s.size - (intOf i).toNat)
  case atStart => exact ⟨0, Nat.zero_le _, rfl, rfl⟩
  case round =>
    obtain ⟨k, hk, rfl, hp⟩ := hrel
    by_cases hlt : k < s.size
    · have hsn := wpre_snoc (s.data.toList.take k) s[k]
      rw [← take_snoc s k hlt, hp, Bool.true_and] at hsn
      have htn := take_nil s k hlt
      have HS : Hid (wpre (s.data.toList.take (k + 1)) = if s.data.toList.take k = [] then letterB s[k] else wordB s[k]) := hsn
      have HT : Hid (s.data.toList.take k = [] ↔ k = 0) := htn
      clear hsn htn hp
      rcases or_cases s[k] with ⟨hl, h1, h2⟩ | ⟨hl, h1⟩ | ⟨hl, h1, h1d⟩
      · have HL : Hid (letterB s[k] = true) := hl
        clear hl
        go_wp2
        go_round
        case rel => exact ⟨k + 1, by omega, by go_num, by rw [HS.out]; split <;> simp [wordB, HL.out]⟩
        case measure => simp [intOf]; omega
      all_goals
        by_cases h0 : k = 0
        · subst h0
          have HL : Hid (word s = false) := word_false (k := 0 + 1) (by rw [HS.out]; simp [hl])
          clear hl
          go_wp2
          go_ret
          exact ⟨ret_bool HL.out.symm, rfl⟩
        · have hk0 : ((k : Int) == 0) = false := by simp; omega
          rcases char_cases _ hl with ⟨hw, h3⟩ | ⟨hw, h3, h4⟩ | ⟨hw, h3, h4, h5, h6⟩ | ⟨hw, h3, h4, h5⟩ | ⟨hw, h3, h4, h5⟩
          iterate 3
            · have HL : Hid (wordB s[k] = true) := hw
              clear hw hl
              go_wp2
              go_round
              case rel => exact ⟨k + 1, by omega, by go_num, by rw [HS.out, if_neg (fun h => h0 (HT.out.1 h))]; exact HL.out⟩
              case measure => simp [intOf]; omega
          all_goals
            have HL : Hid (word s = false) := word_false (k := k + 1) (by rw [HS.out, if_neg (fun h => h0 (HT.out.1 h))]; exact hw)
            clear hw hl
            go_wp2
            go_ret
            exact ⟨ret_bool HL.out.symm, rfl⟩
    · have HP : Hid (wpre s.data.toList = true) := by rw [List.take_of_length_le (by simp; omega)] at hp; exact hp
      clear hp
      have hkk : k = s.size := by omega
      have HK : Hid (k = s.size) := hkk
      clear hkk
      have hd : s.data.toList.length = s.size := by simp
      have HD := Lib.hid hd; clear hd
      by_cases h1 : s.size = 0
      · have he : s.toList = [] := by rw [ByteArray.toList_eq]; exact List.eq_nil_of_length_eq_zero (by rw [HD.out]; exact h1)
        have HL : Hid (word s = false) := by rw [word_eq, h1]; simp [Hid]
        clear h1
        go_wp2
        go_ret
        exact ⟨ret_bool HL.out.symm, rfl⟩
      · have he : s.toList.isEmpty = false := by
          rw [ByteArray.toList_eq]
          cases hx : s.data.toList with
          | nil => have := HD.out; rw [hx] at this; exact absurd this.symm h1
          | cons _ _ => rfl
        have he' : ¬ s.toList = [] := by intro h; rw [h] at he; cases he
        by_cases h2 : s.size ≤ 31
        · have HL : Hid (word s = !reservedL.contains s.data.toList) := by rw [word_eq, HP.out]; simp [Hid, h2]; intro; omega
          go_wp2_with (go_at_call 40; refine (reserved_any _ _).mono ?_; rintro e w' ⟨rfl, rfl⟩)
          go_ret
          exact ⟨ret_bool (by rw [HL.out]; simp), rfl⟩
        · have HL : Hid (word s = false) := by rw [word_eq]; simp [Hid, h2]
          go_wp2
          go_ret
          exact ⟨ret_bool HL.out.symm, rfl⟩
end Go.Dk
end
