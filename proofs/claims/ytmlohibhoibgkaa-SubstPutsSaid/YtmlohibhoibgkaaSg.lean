/- Layer 7, plain: made anew row by row; what put, replace, simple, frame tell. -/
import Derived.Test.YtmlohibhoibgkaaPu
namespace Go.Dk

/-- What an image is asked of. -/
def pAt (of : OfF) (rows : List ND) (k : Nat) (img : Nat → Int) : Put :=
  of rows k (rowAt rows k) (if 3 ≤ (rowAt rows k).kind then img (rowAt rows k).l.toNat else 0) (if 3 ≤ (rowAt rows k).kind then img (rowAt rows k).r.toNat else 0)
theorem anewGo_cons (of : OfF) (k : Nat) (t : List Nat) (rows : List ND) (img : Nat → Int) : anewGo of (k :: t) rows img = if (pAt of rows k img).err = 0 then anewGo of t (pAt of rows k img).rows (fun x => if x = k then (pAt of rows k img).id else img x) else ((pAt of rows k img).rows, img, (pAt of rows k img).err) := rfl
theorem anewGo_app (of : OfF) : ∀ (l t : List Nat) (rows : List ND) (img : Nat → Int) (r : List ND) (i : Nat → Int), anewGo of l rows img = (r, i, 0) → anewGo of (l ++ t) rows img = anewGo of t r i
  | [], t, rows, img, r, i, h => by
    simp only [anewGo, Prod.mk.injEq] at h
    obtain ⟨rfl, rfl, _⟩ := h
    rfl
  | k :: l, t, rows, img, r, i, h => by
    rw [List.cons_append, anewGo_cons]
    rw [anewGo_cons] at h
    by_cases hz : (pAt of rows k img).err = 0
    · rw [if_pos hz] at h ⊢
      exact anewGo_app of l t _ _ r i h
    · rw [if_neg hz] at h
      simp only [Prod.mk.injEq] at h
      exact absurd h.2.2 hz
theorem anewGo_snoc {of : OfF} {l : List Nat} {k : Nat} {rows r : List ND} {img i : Nat → Int} (h : anewGo of l rows img = (r, i, 0)) (hz : (pAt of r k i).err = 0) : anewGo of (l ++ [k]) rows img = ((pAt of r k i).rows, (fun x => if x = k then (pAt of r k i).id else i x), 0) := by
  rw [anewGo_app of l [k] rows img r i h, anewGo_cons, if_pos hz]; rfl
theorem anewGo_stop {of : OfF} {l t : List Nat} {k : Nat} {rows r : List ND} {img i : Nat → Int} (h : anewGo of l rows img = (r, i, 0)) (hz : (pAt of r k i).err ≠ 0) : (anewGo of (l ++ k :: t) rows img).2.2 = (pAt of r k i).err := by
  rw [anewGo_app of l (k :: t) rows img r i h, anewGo_cons, if_neg hz]

theorem takeN_snoc {l : List Nat} {j k : Nat} (h : l[j]? = some k) : l.take (j + 1) = l.take j ++ [k] := by rw [List.take_add_one, h]; rfl
theorem split_at {l : List Nat} {j k : Nat} (h : l[j]? = some k) : l = l.take j ++ k :: l.drop (j + 1) := by
  obtain ⟨hl, e⟩ := List.getElem?_eq_some_iff.1 h
  conv => lhs; rw [← List.take_append_drop j l]
  rw [List.drop_eq_getElem_cons hl, e]

theorem anewP_stop {of : OfF} {rows r : List ND} {id j k : Nat} {i : Nat → Int} (hk : (below rows id)[j]? = some k) (h : anewGo of ((below rows id).take j) rows (fun _ => 0) = (r, i, 0)) (hz : (pAt of r k i).err ≠ 0) : anewP of rows id = ⟨rows, 0, (pAt of r k i).err⟩ := by
  have := anewGo_stop (t := (below rows id).drop (j + 1)) h hz
  rw [← split_at hk] at this
  unfold anewP
  simp only [this]
  rw [if_neg hz]
theorem anewP_end {of : OfF} {rows r : List ND} {id : Nat} {i : Nat → Int} (h : anewGo of (below rows id) rows (fun _ => 0) = (r, i, 0)) : anewP of rows id = ⟨r, i id, 0⟩ := by
  unfold anewP
  simp only [h, if_true]

/-- What is known of images. -/
def imgF (img : Nat → Int) (done : List Nat) (x : Nat) : Option Int := if x ∈ done then some (img x) else none
theorem imgF_get {img : Nat → Int} {done : List Nat} {x : Nat} (h : x ∈ done) : (imgF img done x).getD 0 = img x := by unfold imgF; rw [if_pos h]; rfl

/-! ### the images -/
def plainP : OfF := fun rows k n l r => if n.kind < 3 then ⟨rows, k, 0⟩ else put rows ⟨n.kind, ByteArray.empty, l, r⟩
def replOf (old by' : Int) : OfF := fun rows k n l r => if (k : Int) = old then ⟨rows, by', 0⟩ else plainP rows k n l r
theorem putOf_plain (named : ByteArray → Option Int) (rows : List ND) (k : Nat) (n : ND) (l r : Int) : putOf named rows k n l r = if n.kind = 1 ∧ (named n.name).isSome = true then ⟨rows, (named n.name).getD 0, 0⟩ else plainP rows k n l r := by
  unfold putOf plainP
  by_cases h3 : n.kind < 3
  · rw [if_pos h3, if_pos h3]
    by_cases h1 : n.kind = 1
    · rw [if_pos h1]
      cases hn : named n.name with
      | none => simp
      | some f => simp [h1]
    · rw [if_neg h1, if_neg (fun h => h1 h.1)]
  · rw [if_neg h3, if_neg h3, if_neg (by omega)]
def Grows (of : OfF) : Prop := ∀ rows k n l r, rows <+: (of rows k n l r).rows
theorem plainP_grows : Grows plainP := fun rows k n l r => by
  unfold plainP
  split
  · exact List.prefix_refl _
  · exact put_prefix _ _
theorem putOf_grows (named : ByteArray → Option Int) : Grows (putOf named) := fun rows k n l r => by
  rw [putOf_plain]
  split
  · exact List.prefix_refl _
  · exact plainP_grows _ _ _ _ _
theorem replOf_grows (old by' : Int) : Grows (replOf old by') := fun rows k n l r => by
  unfold replOf
  split
  · exact List.prefix_refl _
  · exact plainP_grows _ _ _ _ _
theorem topP_grows (rows : List ND) : rows <+: (topP rows).rows := by
  unfold topP
  split
  · exact put_prefix _ _
  · exact (put_prefix _ _).trans (put_prefix _ _)
theorem simpOf'_grows : Grows simpOf' := fun rows k n l r => by
  unfold simpOf'
  split
  · split
    · exact put_prefix _ _
    · split
      · exact List.prefix_refl _
      · split
        · exact List.prefix_refl _
        · exact put_prefix _ _
  · split
    · split
      · exact topP_grows _
      · split
        · exact List.prefix_refl _
        · split
          · exact List.prefix_refl _
          · exact put_prefix _ _
    · split
      · split
        · exact topP_grows _
        · split
          · exact List.prefix_refl _
          · exact put_prefix _ _
      · exact List.prefix_refl _

/-! ### names and formulas -/
structure HY where
  name : ByteArray
  form : Int
deriving DecidableEq
def namedF (by' : List HY) (s : ByteArray) : Option Int := (by'.find? fun h => decide (h.name = s)).map (·.form)
theorem namedF_snoc {l : List HY} {h : HY} (hn : namedF l h.name = none) (s : ByteArray) : namedF (l ++ [h]) s = if s = h.name then some h.form else namedF l s := by
  unfold namedF at *
  rw [List.find?_append]
  by_cases e : s = h.name
  · subst e
    simp only [Option.map_eq_none_iff] at hn
    rw [hn]
    simp
  · rw [if_neg e]
    cases hf : l.find? (fun h => decide (h.name = s)) with
    | some x => rfl
    | none =>
      have : ¬ h.name = s := fun e2 => e e2.symm
      simp [this]
theorem namedF_some {l : List HY} {s : ByteArray} {f : Int} (h : namedF l s = some f) : ∃ x ∈ l, x.name = s ∧ x.form = f := by
  unfold namedF at h
  obtain ⟨x, hx, rfl⟩ := Option.map_eq_some_iff.1 h
  exact ⟨x, List.mem_of_find?_eq_some hx, by simpa using List.find?_some hx, rfl⟩
theorem namedF_none {l : List HY} {s : ByteArray} : namedF l s = none ↔ ∀ x ∈ l, x.name ≠ s := by
  unfold namedF
  rw [Option.map_eq_none_iff, List.find?_eq_none]
  simp

def hyB (rows : List ND) (by' : List HY) : Bool := by'.all fun h => hasB rows.length h.form
/-- Are names twice? -/
def twiceB (by' : List HY) : Bool := !decide ((by'.map (·.name)).Nodup)
def wordsB (by' : List HY) : Bool := by'.all fun h => word h.name
noncomputable def putP (rows : List ND) (id : Int) (by' : List HY) : Put :=
  if hasB rows.length id = false ∨ hyB rows by' = false then ⟨rows, 0, 31⟩
  else if twiceB by' = true then ⟨rows, 0, 70⟩
  else if wordsB by' = false then ⟨rows, 0, 32⟩
  else anewP (putOf (namedF by')) rows id.toNat
noncomputable def replP (rows : List ND) (id old by' : Int) : Put :=
  if hasB rows.length id = false ∨ hasB rows.length old = false ∨ hasB rows.length by' = false then ⟨rows, 0, 31⟩
  else anewP (replOf old by') rows id.toNat
noncomputable def simpP (rows : List ND) (id : Int) : Put :=
  if hasB rows.length id = false then ⟨rows, 0, 31⟩ else anewP simpOf' rows id.toNat

/-- With a name more. -/
theorem nodup_snoc {l : List HY} {h : HY} (hd : (l.map (·.name)).Nodup) : ((l ++ [h]).map (·.name)).Nodup ↔ namedF l h.name = none := by
  rw [namedF_none, List.map_append, List.nodup_append]
  simp only [List.map_cons, List.map_nil, List.nodup_cons, List.not_mem_nil, not_false_eq_true, List.nodup_nil, and_self, true_and, hd, List.mem_map, List.mem_singleton, ne_eq]
  constructor
  · intro hh x hx e; exact hh x.name ⟨x, hx, rfl⟩ _ rfl e
  · rintro hh a ⟨x, hx, rfl⟩ b rfl e; exact hh x hx e
theorem nodup_take {l : List HY} (k : Nat) (h : (l.map (·.name)).Nodup) : ((l.take k).map (·.name)).Nodup := by
  rw [List.map_take]; exact h.sublist (List.take_sublist _ _)

/-! ### numbers told are none below nought -/
theorem put_nn (rows : List ND) (n : ND) : 0 ≤ (put rows n).id := by
  unfold put
  split
  · exact Int.le_refl _
  · split
    · exact Int.natCast_nonneg _
    · split
      · exact Int.le_refl _
      · exact Int.natCast_nonneg _
theorem topP_nn (rows : List ND) : 0 ≤ (topP rows).id := by
  unfold topP
  split
  · exact Int.le_refl _
  · exact put_nn _ _
theorem plainP_nn (rows : List ND) (k : Nat) (n : ND) (l r : Int) : 0 ≤ (plainP rows k n l r).id := by
  unfold plainP
  split
  · exact Int.natCast_nonneg _
  · exact put_nn _ _
theorem simpOf'_nn (rows : List ND) (k : Nat) (n : ND) (l r : Int) (hl : 0 ≤ l) (hr : 0 ≤ r) : 0 ≤ (simpOf' rows k n l r).id := by
  unfold simpOf'
  repeat' split
  all_goals first | exact hl | exact hr | exact put_nn _ _ | exact topP_nn _ | exact Int.natCast_nonneg _
theorem replOf_nn {old by' : Int} (hb : 0 ≤ by') (rows : List ND) (k : Nat) (n : ND) (l r : Int) (_hl : 0 ≤ l) (_hr : 0 ≤ r) : 0 ≤ (replOf old by' rows k n l r).id := by
  unfold replOf
  split
  · exact hb
  · exact plainP_nn _ _ _ _ _
theorem putOf_nn {named : ByteArray → Option Int} (hb : ∀ s f, named s = some f → 0 ≤ f) (rows : List ND) (k : Nat) (n : ND) (l r : Int) (_hl : 0 ≤ l) (_hr : 0 ≤ r) : 0 ≤ (putOf named rows k n l r).id := by
  rw [putOf_plain]
  split
  · cases hn : named n.name with
    | none => simp
    | some f => exact hb _ _ hn
  · exact plainP_nn _ _ _ _ _

end Go.Dk

