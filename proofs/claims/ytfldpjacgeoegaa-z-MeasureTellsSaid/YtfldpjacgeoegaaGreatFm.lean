/- Formulas as trees; the tree of a row; plain. -/
import Derived.Test.YtfldpjacgeoegaaGreatYb
namespace Go.Dk

inductive Fm
  | atom (s : ByteArray)
  | bot
  | and (a b : Fm)
  | or (a b : Fm)
  | imp (a b : Fm)
deriving DecidableEq, Inhabited

def treeOf (n : ND) (l r : Fm) : Fm :=
  if n.kind = 1 then .atom n.name else if n.kind = 2 then .bot else if n.kind = 3 then .and l r else if n.kind = 4 then .or l r else if n.kind = 5 then .imp l r else .bot
theorem tree_leaf (n : ND) (l r l' r' : Fm) (h : n.kind < 3) : treeOf n l r = treeOf n l' r' := by
  have h3 : ¬ n.kind = 3 := by omega
  have h4 : ¬ n.kind = 4 := by omega
  have h5 : ¬ n.kind = 5 := by omega
  simp [treeOf, h3, h4, h5]
abbrev tree (rows : List ND) (i : Nat) : Fm := val treeOf rows i

theorem Ok.kindsP {rows : List ND} (h : Ok rows) {i : Nat} {n : ND} (hi : rows[i]? = some n) : 1 ≤ n.kind ∧ n.kind ≤ 5 := (fits_le (h.fit i n hi)).2.1

/-- A row of a table, by its kind. -/
theorem Ok.row {rows : List ND} (h : Ok rows) {i : Nat} {n : ND} (hi : rows[i]? = some n) :
    (n.kind = 1 ∧ n.l = 0 ∧ n.r = 0 ∧ word n.name = true) ∨ (n = ⟨2, ByteArray.empty, 0, 0⟩) ∨
      ((n.kind = 3 ∨ n.kind = 4 ∨ n.kind = 5) ∧ n.name = ByteArray.empty ∧ 0 ≤ n.l ∧ n.l < i ∧ 0 ≤ n.r ∧ n.r < i) := by
  have hf := h.fit i n hi
  have ez : ∀ s : ByteArray, s.size = 0 → s = ByteArray.empty := fun s hs => by
    cases s with
    | mk d => have : d = #[] := Array.eq_empty_of_size_eq_zero hs; rw [this]; rfl
  unfold fits at hf
  split at hf
  · rename_i h1
    left
    split at hf
    · cases hf
    · rename_i h2
      split at hf
      · rename_i h3; exact ⟨h1, by omega, by omega, h3⟩
      · cases hf
  · rename_i h1
    split at hf
    · rename_i h2
      right; left
      split at hf
      · cases hf
      · rename_i h3
        obtain ⟨k, nm, l, r⟩ := n
        simp only [not_or, Classical.not_not] at h2 h3
        obtain ⟨a, rfl, rfl⟩ := h3
        subst h2
        rw [ez nm a]
    · split at hf
      · rename_i h3
        right; right
        split at hf
        · cases hf
        · rename_i h4
          simp only [not_or, hasB, Bool.and_eq_false_iff, decide_eq_false_iff_not, Classical.not_not] at h4
          exact ⟨h3, ez _ h4.1, by omega, by omega, by omega, by omega⟩
      · cases hf

theorem tree_atom {rows : List ND} {i : Nat} {n : ND} (hi : rows[i]? = some n) (hk : n.kind = 1) : tree rows i = .atom n.name := by
  rw [tree, val_one tree_leaf hi (by omega) .bot .bot]; simp [treeOf, hk]
theorem tree_bot {rows : List ND} {i : Nat} {n : ND} (hi : rows[i]? = some n) (hk : n.kind = 2) : tree rows i = .bot := by
  rw [tree, val_one tree_leaf hi (by omega) .bot .bot]; simp [treeOf, hk]
theorem tree_two {rows : List ND} (ok : Ok rows) {i : Nat} {n : ND} (hi : rows[i]? = some n) (hk : 3 ≤ n.kind) : tree rows i = treeOf n (tree rows n.l.toNat) (tree rows n.r.toNat) := val_two ok hi hk

/-- The kind that a tree's row has. -/
def Fm.kind : Fm → Int
  | .atom _ => 1
  | .bot => 2
  | .and _ _ => 3
  | .or _ _ => 4
  | .imp _ _ => 5
theorem treeOf_kind (n : ND) (h : 1 ≤ n.kind ∧ n.kind ≤ 5) (l r : Fm) : (treeOf n l r).kind = n.kind := by
  unfold treeOf
  by_cases h1 : n.kind = 1
  · simp [h1, Fm.kind]
  · by_cases h2 : n.kind = 2
    · simp [h2, Fm.kind]
    · by_cases h3 : n.kind = 3
      · simp [h3, Fm.kind]
      · by_cases h4 : n.kind = 4
        · simp [h4, Fm.kind]
        · have h5 : n.kind = 5 := by omega
          simp [h5, Fm.kind]
theorem tree_kind {rows : List ND} (ok : Ok rows) {i : Nat} {n : ND} (hi : rows[i]? = some n) : (tree rows i).kind = n.kind := by
  have hk := ok.kindsP hi
  by_cases h : 3 ≤ n.kind
  · rw [tree_two ok hi h]; exact treeOf_kind n hk _ _
  · rw [tree, val_one tree_leaf hi (by omega) .bot .bot]; exact treeOf_kind n hk _ _

/-- Each formula stands once. -/
theorem treeOf_inj {k : Int} (hk : k = 3 ∨ k = 4 ∨ k = 5) {n m : ND} (hn : n.kind = k) (hm : m.kind = k) {a b c d : Fm} (h : treeOf n a b = treeOf m c d) : a = c ∧ b = d := by
  unfold treeOf at h
  rw [hn, hm] at h
  rcases hk with rfl | rfl | rfl <;> simpa using h
theorem tree_inj {rows : List ND} (ok : Ok rows) {i j : Nat} (hi : i < rows.length) (hj : j < rows.length) (h : tree rows i = tree rows j) : i = j := by
  induction i using Nat.strongRecOn generalizing j with
  | _ i ih =>
    have ni := List.getElem?_eq_getElem hi
    have nj := List.getElem?_eq_getElem hj
    generalize rows[i] = n at ni
    generalize rows[j] = m at nj
    have hk : n.kind = m.kind := by rw [← tree_kind ok ni, ← tree_kind ok nj, h]
    suffices hs : n = m by
      subst hs
      exact (List.getElem_inj ok.nodup (h₀ := hi) (h₁ := hj)).1 ((List.getElem?_eq_some_iff.1 ni).2.trans (List.getElem?_eq_some_iff.1 nj).2.symm)
    rcases ok.row ni with ⟨a1, a2, a3, _⟩ | a1 | ⟨a1, a2, a3, a4, a5, a6⟩
    · rcases ok.row nj with ⟨b1, b2, b3, _⟩ | b1 | ⟨b1, _⟩
      · rw [tree_atom ni a1, tree_atom nj b1] at h
        obtain ⟨nk, nn, nl, nr⟩ := n
        obtain ⟨mk, mn, ml, mr⟩ := m
        simp only [Fm.atom.injEq] at *
        subst h a2 a3 b2 b3 hk
        rfl
      · rw [b1] at hk; simp only at hk; omega
      · omega
    · rcases ok.row nj with ⟨b1, b2, b3, _⟩ | b1 | ⟨b1, _⟩
      · rw [a1] at hk; simp only at hk; omega
      · rw [a1, b1]
      · rw [a1] at hk; simp only at hk; omega
    · rcases ok.row nj with ⟨b1, _⟩ | b1 | ⟨b1, b2, b3, b4, b5, b6⟩
      · omega
      · rw [b1] at hk; simp only at hk; omega
      · rw [tree_two ok ni (by omega), tree_two ok nj (by omega)] at h
        obtain ⟨h1, h2⟩ := treeOf_inj (k := n.kind) (by omega) rfl hk.symm h
        have e1 := ih n.l.toNat (by omega) (by omega) (j := m.l.toNat) (by omega) h1
        have e2 := ih n.r.toNat (by omega) (by omega) (j := m.r.toNat) (by omega) h2
        obtain ⟨nk, nn, nl, nr⟩ := n
        obtain ⟨mk, mn, ml, mr⟩ := m
        simp only at *
        subst hk a2 b2
        have : nl = ml := by omega
        have : nr = mr := by omega
        simp_all

/-! ### more rows -/
theorem tree_ext {rows s : List ND} {i : Nat} (hi : i < rows.length) : tree (rows ++ s) i = tree rows i := by
  unfold tree val
  have h : vals treeOf rows = (vals treeOf (rows ++ s)).take rows.length := by rw [← vals_take]; simp
  rw [h]
  simp [List.getD, hi]
theorem tree_prefix {rows rows' : List ND} (h : rows <+: rows') {i : Nat} (hi : i < rows.length) : tree rows' i = tree rows i := by
  obtain ⟨s, rfl⟩ := h; exact tree_ext hi
theorem put_prefix (rows : List ND) (n : ND) : rows <+: (put rows n).rows := by
  rcases put_rows rows n with h | ⟨h, _⟩
  · rw [h]; exact List.prefix_refl _
  · rw [h]; exact ⟨[n], rfl⟩

/-- What a put that does not fail comes to. -/
theorem put_ok {rows : List ND} {n : ND} (he : (put rows n).err = 0) : ∃ k : Nat, (put rows n).id = (k : Int) ∧ (put rows n).rows[k]? = some n ∧ fits rows.length n = 0 := by
  unfold put at he ⊢
  split
  · rename_i hf
    rw [if_pos hf] at he
    exact absurd he hf
  · rename_i hf
    rw [if_neg hf] at he
    simp only [Classical.not_not] at hf
    cases hi : rows.idxOf? n with
    | some i => exact ⟨i, rfl, get_of_idxOf? hi, hf⟩
    | none =>
      simp only [hi] at he
      simp only
      split
      · rename_i hl; rw [if_pos hl] at he; cases he
      · exact ⟨rows.length, rfl, by simp, hf⟩
theorem put_there {rows : List ND} (ok : Ok rows) {n : ND} {i : Nat} (hi : rows[i]? = some n) : put rows n = ⟨rows, i, 0⟩ := by
  have hl := (List.getElem?_eq_some_iff.1 hi).1
  have hf := fits_mono (ok.fit i n hi) (Nat.le_of_lt hl)
  unfold put
  rw [if_neg (by simpa using hf), idxOf?_get ok.nodup hi]

/-- A row of a tree. -/
def rowOf (f : Fm) (l r : Nat) : ND := ⟨f.kind, match f with | .atom s => s | _ => ByteArray.empty, l, r⟩
theorem tree_row {rows : List ND} (ok : Ok rows) {i : Nat} {n : ND} (hi : rows[i]? = some n) : (∃ s, n = ⟨1, s, 0, 0⟩ ∧ tree rows i = .atom s ∧ word s = true) ∨ (n = ⟨2, ByteArray.empty, 0, 0⟩ ∧ tree rows i = .bot) ∨
    ∃ l r : Nat, l < i ∧ r < i ∧ ((n = ⟨3, ByteArray.empty, l, r⟩ ∧ tree rows i = .and (tree rows l) (tree rows r)) ∨ (n = ⟨4, ByteArray.empty, l, r⟩ ∧ tree rows i = .or (tree rows l) (tree rows r)) ∨ (n = ⟨5, ByteArray.empty, l, r⟩ ∧ tree rows i = .imp (tree rows l) (tree rows r))) := by
  rcases ok.row hi with ⟨a1, a2, a3, a4⟩ | a1 | ⟨a1, a2, a3, a4, a5, a6⟩
  · left
    refine ⟨n.name, ?_, tree_atom hi a1, a4⟩
    obtain ⟨nk, nn, nl, nr⟩ := n
    simp only at *; subst a1 a2 a3; rfl
  · right; left
    exact ⟨a1, tree_bot hi (by rw [a1])⟩
  · right; right
    have ht := tree_two ok hi (by omega)
    refine ⟨n.l.toNat, n.r.toNat, by omega, by omega, ?_⟩
    obtain ⟨nk, nn, nl, nr⟩ := n
    simp only at *
    obtain ⟨l, rfl⟩ := Int.eq_ofNat_of_zero_le a3
    obtain ⟨r, rfl⟩ := Int.eq_ofNat_of_zero_le a5
    subst a2
    rcases a1 with rfl | rfl | rfl
    · left; exact ⟨rfl, by rw [ht]; simp [treeOf]⟩
    · right; left; exact ⟨rfl, by rw [ht]; simp [treeOf]⟩
    · right; right; exact ⟨rfl, by rw [ht]; simp [treeOf]⟩

/-- A two-part put that does not fail: its tree. -/
theorem put_two {rows : List ND} (ok : Ok rows) {k : Int} (hk : k = 3 ∨ k = 4 ∨ k = 5) {l r : Nat} (hl : l < rows.length) (hr : r < rows.length) (he : (put rows ⟨k, ByteArray.empty, l, r⟩).err = 0) :
    ∃ i : Nat, (put rows ⟨k, ByteArray.empty, l, r⟩).id = (i : Int) ∧ i < (put rows ⟨k, ByteArray.empty, l, r⟩).rows.length ∧ tree (put rows ⟨k, ByteArray.empty, l, r⟩).rows i = treeOf ⟨k, ByteArray.empty, l, r⟩ (tree rows l) (tree rows r) := by
  obtain ⟨i, h1, h2, h3⟩ := put_ok he
  refine ⟨i, h1, (List.getElem?_eq_some_iff.1 h2).1, ?_⟩
  rw [tree_two (ok.put _) h2 (by simp only; omega)]
  simp only [Int.toNat_natCast]
  rw [tree_prefix (put_prefix _ _) hl, tree_prefix (put_prefix _ _) hr]

end Go.Dk

