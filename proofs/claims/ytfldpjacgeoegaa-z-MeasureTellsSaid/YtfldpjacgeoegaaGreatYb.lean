/- What layer 6 reckons of a table's rows, row by row; plain. -/
import Derived.Test.YtfldpjacgeoegaaGreatQ
namespace Go.Dk

def MC : Int := 1099511627776

section
variable {α : Type} [Inhabited α]
/-- A number of each row, of its parts' numbers. -/
def foldL (of : ND → α → α → α) : List ND → List α → List α
  | [], acc => acc
  | n :: t, acc => foldL of t (acc ++ [of n (acc.getD n.l.toNat default) (acc.getD n.r.toNat default)])
def vals (of : ND → α → α → α) (rows : List ND) : List α := foldL of rows []

theorem foldL_snoc (of : ND → α → α → α) (rows : List ND) (n : ND) (acc : List α) :
    foldL of (rows ++ [n]) acc = foldL of rows acc ++ [of n ((foldL of rows acc).getD n.l.toNat default) ((foldL of rows acc).getD n.r.toNat default)] := by
  induction rows generalizing acc with
  | nil => rfl
  | cons a t ih => simp only [List.cons_append, foldL, ih]
theorem vals_snoc (of : ND → α → α → α) (rows : List ND) (n : ND) : vals of (rows ++ [n]) = vals of rows ++ [of n ((vals of rows).getD n.l.toNat default) ((vals of rows).getD n.r.toNat default)] := foldL_snoc _ _ _ _
theorem foldL_length (of : ND → α → α → α) (rows : List ND) (acc : List α) : (foldL of rows acc).length = acc.length + rows.length := by
  induction rows generalizing acc with
  | nil => simp [foldL]
  | cons a t ih => simp only [foldL, ih]; simp; omega
theorem vals_length (of : ND → α → α → α) (rows : List ND) : (vals of rows).length = rows.length := by simp [vals, foldL_length]
theorem vals_take (of : ND → α → α → α) (rows : List ND) (j : Nat) : vals of (rows.take j) = (vals of rows).take j := by
  induction j with
  | zero => simp [vals, foldL]
  | succ j ih =>
    by_cases h : j < rows.length
    · rw [List.take_succ_eq_append_getElem h, vals_snoc, ih]
      have hs : ∀ m, (vals of (rows.take (j + 1) ++ rows.drop (j + 1))).take m = (vals of rows).take m := by simp
      clear hs
      have key : ∀ (t : List ND) (acc : List α), ∃ s, foldL of t acc = acc ++ s := by
        intro t
        induction t with
        | nil => intro acc; exact ⟨[], by simp [foldL]⟩
        | cons a t ih => intro acc; obtain ⟨s, hs⟩ := ih (acc ++ [of a (acc.getD a.l.toNat default) (acc.getD a.r.toNat default)]); exact ⟨[of a (acc.getD a.l.toNat default) (acc.getD a.r.toNat default)] ++ s, by rw [foldL, hs, List.append_assoc]⟩
      have app : ∀ (a b : List ND) (acc : List α), foldL of (a ++ b) acc = foldL of b (foldL of a acc) := by
        intro a
        induction a with
        | nil => intro b acc; rfl
        | cons x a ih => intro b acc; simp only [List.cons_append, foldL, ih]
      have e1 : vals of rows = foldL of (rows.drop (j + 1)) (vals of (rows.take (j + 1))) := by
        unfold vals; rw [← app, List.take_append_drop]
      obtain ⟨s, hs⟩ := key (rows.drop (j + 1)) (vals of (rows.take (j + 1)))
      rw [hs] at e1
      have hl : (vals of (rows.take (j + 1))).length = j + 1 := by rw [vals_length]; simp; omega
      have e2 : (vals of rows).take (j + 1) = vals of (rows.take (j + 1)) := by rw [e1, List.take_append_of_le_length (by omega), List.take_of_length_le (by omega)]
      rw [e2, List.take_succ_eq_append_getElem h, vals_snoc, ih]
    · rw [List.take_of_length_le (by omega), List.take_of_length_le (by rw [vals_length]; omega)]

/-- A row's number. -/
def val (of : ND → α → α → α) (rows : List ND) (i : Nat) : α := (vals of rows).getD i default

theorem vals_get (of : ND → α → α → α) (rows : List ND) {i : Nat} {n : ND} (hi : rows[i]? = some n) :
    (vals of rows)[i]? = some (of n (((vals of rows).take i).getD n.l.toNat default) (((vals of rows).take i).getD n.r.toNat default)) := by
  have hl := (List.getElem?_eq_some_iff.1 hi).1
  have h1 : (vals of rows).take (i + 1) = vals of (rows.take (i + 1)) := (vals_take _ _ _).symm
  rw [List.take_succ_eq_append_getElem hl, vals_snoc, vals_take] at h1
  have h2 : ((vals of rows).take (i + 1))[i]? = (vals of rows)[i]? := by simp
  rw [← h2, h1]
  have hlen : ((vals of rows).take i).length = i := by rw [List.length_take, vals_length]; omega
  rw [List.getElem?_append_right (by omega), hlen]
  have : rows[i] = n := (List.getElem?_eq_some_iff.1 hi).2
  simp [this]

theorem getD_take {l : List α} {i j : Nat} (h : j < i) : (l.take i).getD j default = l.getD j default := by
  simp [List.getD, h]

/-- A row with parts: its number, of its parts' own numbers. -/
theorem val_two {of : ND → α → α → α} {rows : List ND} (ok : Ok rows) {i : Nat} {n : ND} (hi : rows[i]? = some n) (hk : 3 ≤ n.kind) : val of rows i = of n (val of rows n.l.toNat) (val of rows n.r.toNat) := by
  have := vals_get of rows hi
  obtain ⟨h1, h2⟩ := ok.parts hi hk
  unfold val
  rw [List.getD, this, Option.getD_some, getD_take (by omega), getD_take (by omega)]
theorem val_one {of : ND → α → α → α} {rows : List ND} (ho : ∀ n l r l' r', n.kind < 3 → of n l r = of n l' r') {i : Nat} {n : ND} (hi : rows[i]? = some n) (hk : n.kind < 3) (x y : α) : val of rows i = of n x y := by
  have := vals_get of rows hi
  unfold val
  rw [List.getD, this, Option.getD_some]; exact ho _ _ _ _ _ hk

/-- By induction over rows. -/
theorem val_ind {of : ND → α → α → α} {rows : List ND} (ok : Ok rows) (ho : ∀ n l r l' r', n.kind < 3 → of n l r = of n l' r') (P : Nat → α → Prop)
    (h1 : ∀ i n l r, rows[i]? = some n → n.kind < 3 → P i (of n l r)) (h2 : ∀ i n l r, rows[i]? = some n → 3 ≤ n.kind → n.l.toNat < i → n.r.toNat < i → P n.l.toNat l → P n.r.toNat r → P i (of n l r)) (i : Nat) (hi : i < rows.length) : P i (val of rows i) := by
  induction i using Nat.strongRecOn with
  | _ i ih =>
    have hn : rows[i]? = some rows[i] := List.getElem?_eq_getElem hi
    by_cases hk : 3 ≤ rows[i].kind
    · obtain ⟨p1, p2⟩ := ok.parts hn hk
      rw [val_two ok hn hk]
      exact h2 i _ _ _ hn hk (by omega) (by omega) (ih _ (by omega) (by omega)) (ih _ (by omega) (by omega))
    · rw [val_one ho hn (by omega) default default]
      exact h1 i _ _ _ hn (by omega)


end


/-! ### the four -/
def capI (x : Int) : Int := if MC < x then MC else x
def sizeOf (n : ND) (l r : Int) : Int := if n.kind < 3 then 1 else capI (1 + l + r)
def depthOf (n : ND) (l r : Int) : Int := if n.kind < 3 then 0 else 1 + max l r
def weightOf (n : ND) (l r : Int) : Int := if n.kind < 3 then 1 else if n.kind = 3 then capI (2 + l + r) else capI (1 + l + r)
def gradeOf (n : ND) (l r : Int) : Int := if n.kind < 3 then 0 else if n.kind = 5 then max (1 + l) r else max l r

theorem size_one (n : ND) (l r l' r' : Int) (h : n.kind < 3) : sizeOf n l r = sizeOf n l' r' := by simp [sizeOf, h]
theorem depth_one (n : ND) (l r l' r' : Int) (h : n.kind < 3) : depthOf n l r = depthOf n l' r' := by simp [depthOf, h]
theorem weight_one (n : ND) (l r l' r' : Int) (h : n.kind < 3) : weightOf n l r = weightOf n l' r' := by simp [weightOf, h]
theorem grade_one (n : ND) (l r l' r' : Int) (h : n.kind < 3) : gradeOf n l r = gradeOf n l' r' := by simp [gradeOf, h]

theorem size_two {n : ND} (h : 3 ≤ n.kind) (l r : Int) : sizeOf n l r = capI (1 + l + r) := by unfold sizeOf; rw [if_neg (by omega)]
theorem weight_two {n : ND} (h : 3 ≤ n.kind) (l r : Int) : weightOf n l r = capI ((if n.kind = 3 then 2 else 1) + l + r) := by unfold weightOf; rw [if_neg (by omega)]; split <;> rfl
theorem capI_le (x : Int) : capI x ≤ MC := by unfold capI; split <;> omega
theorem capI_lo (x y : Int) (h : y ≤ x) (h2 : y ≤ MC) : y ≤ capI x := by unfold capI; split <;> omega
theorem capI_of {x : Int} (h : x ≤ MC) : capI x = x := by unfold capI; rw [if_neg (by omega)]

theorem size_bd {rows : List ND} (ok : Ok rows) (i : Nat) (hi : i < rows.length) : 1 ≤ val sizeOf rows i ∧ val sizeOf rows i ≤ MC :=
  val_ind ok size_one (fun _ v => 1 ≤ v ∧ v ≤ MC) (fun _ n _ _ _ h => by simp [sizeOf, h, MC]) (fun _ n l r _ h _ _ h1 h2 => by
    unfold sizeOf; rw [if_neg (by omega)]; exact ⟨capI_lo _ _ (by omega) (by unfold MC; omega), capI_le _⟩) i hi
theorem weight_bd {rows : List ND} (ok : Ok rows) (i : Nat) (hi : i < rows.length) : 1 ≤ val weightOf rows i ∧ val weightOf rows i ≤ MC :=
  val_ind ok weight_one (fun _ v => 1 ≤ v ∧ v ≤ MC) (fun _ n _ _ _ h => by simp [weightOf, h, MC]) (fun _ n l r _ h _ _ h1 h2 => by
    unfold weightOf; rw [if_neg (by omega)]; split <;> exact ⟨capI_lo _ _ (by omega) (by unfold MC; omega), capI_le _⟩) i hi
theorem depth_bd {rows : List ND} (ok : Ok rows) (i : Nat) (hi : i < rows.length) : 0 ≤ val depthOf rows i ∧ val depthOf rows i ≤ i :=
  val_ind ok depth_one (fun i v => 0 ≤ v ∧ v ≤ (i : Int)) (fun i n _ _ _ h => by simp [depthOf, h]) (fun i n l r _ h a b h1 h2 => by
    unfold depthOf; rw [if_neg (by omega)]; omega) i hi
theorem grade_bd {rows : List ND} (ok : Ok rows) (i : Nat) (hi : i < rows.length) : 0 ≤ val gradeOf rows i ∧ val gradeOf rows i ≤ i :=
  val_ind ok grade_one (fun i v => 0 ≤ v ∧ v ≤ (i : Int)) (fun i n _ _ _ h => by simp [gradeOf, h]) (fun i n l r _ h a b h1 h2 => by
    unfold gradeOf; rw [if_neg (by omega)]; split <;> omega) i hi

/-- A size is at most the weight. -/
theorem size_weight {rows : List ND} (ok : Ok rows) (i : Nat) (hi : i < rows.length) : val sizeOf rows i ≤ val weightOf rows i := by
  induction i using Nat.strongRecOn with
  | _ i ih =>
    have hn : rows[i]? = some rows[i] := List.getElem?_eq_getElem hi
    by_cases hk : 3 ≤ rows[i].kind
    · obtain ⟨p1, p2⟩ := ok.parts hn hk
      rw [val_two ok hn hk, val_two ok hn hk]
      have h1 := ih rows[i].l.toNat (by omega) (by omega)
      have h2 := ih rows[i].r.toNat (by omega) (by omega)
      rw [size_two hk, weight_two hk]
      split <;> (unfold capI; split <;> split <;> omega)
    · rw [val_one size_one hn (by omega) 0 0, val_one weight_one hn (by omega) 0 0]
      have h3 : rows[i].kind < 3 := by omega
      simp [sizeOf, weightOf, h3]

/-- A part weighs less, where counts do not end. -/
theorem weight_parts {rows : List ND} (ok : Ok rows) {i : Nat} {n : ND} (hi : rows[i]? = some n) (hk : 3 ≤ n.kind) (hw : val weightOf rows i < MC) :
    val weightOf rows n.l.toNat < val weightOf rows i ∧ val weightOf rows n.r.toNat < val weightOf rows i := by
  have hl := (List.getElem?_eq_some_iff.1 hi).1
  obtain ⟨p1, p2⟩ := ok.parts hi hk
  have b1 := weight_bd ok n.l.toNat (by omega)
  have b2 := weight_bd ok n.r.toNat (by omega)
  rw [val_two ok hi hk, weight_two hk] at hw ⊢
  unfold capI at hw ⊢
  split at hw
  · omega
  · rename_i h4
    rw [if_neg h4]
    split <;> omega
theorem weight_below {rows : List ND} (ok : Ok rows) {i j : Nat} (h : Reach rows i j) (hi : i < rows.length) (hw : val weightOf rows i < MC) : j = i ∨ val weightOf rows j < val weightOf rows i := by
  induction h with
  | refl => exact .inl rfl
  | left h1 h2 h3 ih =>
    obtain ⟨p1, p2⟩ := ok.parts h1 h2
    have := (weight_parts ok h1 h2 hw).1
    right
    rcases ih (by omega) (by omega) with rfl | h
    · exact this
    · omega
  | right h1 h2 h3 ih =>
    obtain ⟨p1, p2⟩ := ok.parts h1 h2
    have := (weight_parts ok h1 h2 hw).2
    right
    rcases ih (by omega) (by omega) with rfl | h
    · exact this
    · omega


end Go.Dk

