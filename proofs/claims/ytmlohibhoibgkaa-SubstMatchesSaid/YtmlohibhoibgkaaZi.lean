/- SubstBack, plain: atoms by themselves and names that do not stand there change nothing; what was put in is matched. -/
import Derived.Test.YtmlohibhoibgkaaZf
namespace Go.Dk

def atomK (rows : List ND) (id : Nat) (l : List Nat) : List Nat := l.filter fun k => decide ((rowAt rows k).kind = 1)
noncomputable def namesB (rows : List ND) (id : Nat) : List ByteArray := (atomK rows id (below rows id)).map fun k => (rowAt rows k).name
noncomputable def sameL (rows : List ND) (id : Nat) : List HY := (atomK rows id (below rows id)).map fun k => ⟨(rowAt rows k).name, (k : Int)⟩

theorem put_nothing {rows : List ND} (ok : Ok rows) {id : Nat} (hid : id < rows.length) {l : List HY} (hv : ValidP rows id l) (h : ∀ k ∈ below rows id, (rowAt rows k).kind = 1 → ∀ f, namedF l (rowAt rows k).name = some f → f = (k : Int)) : putP rows id l = ⟨rows, id, 0⟩ := by
  rw [putP_valid hv, Int.toNat_natCast]
  refine anewP_same ok hid fun k hk => ?_
  have hkl : k < rows.length := by have := ((mem_below ok).1 hk).le ok; omega
  have hrow := rowAt_get hkl
  have h1 := h k hk
  generalize rowAt rows k = n at *
  unfold putOf
  rcases tree_row ok hrow with ⟨s, rfl, ht, hw⟩ | ⟨rfl, ht⟩ | ⟨x, y, hx, hy, ht⟩
  · simp only [atomN]
    rw [if_pos (by decide), if_pos trivial]
    cases hf : namedF l s with
    | none => rfl
    | some f => rw [h1 rfl f hf]; rfl
  · simp [botN]
  · rcases ht with ⟨rfl, ht⟩ | ⟨rfl, ht⟩ | ⟨rfl, ht⟩
    all_goals
      rw [if_neg (by simp [twoN])]
      exact put_there ok hrow

theorem atomK_mem {rows : List ND} (ok : Ok rows) {id k : Nat} (hid : id < rows.length) : k ∈ atomK rows id (below rows id) ↔ Reach rows id k ∧ (rowAt rows k).kind = 1 ∧ k < rows.length := by
  unfold atomK
  simp only [List.mem_filter, decide_eq_true_eq]
  constructor
  · rintro ⟨a, b⟩
    have := (mem_below ok).1 a
    exact ⟨this, b, by have := this.le ok; omega⟩
  · rintro ⟨a, b, _⟩
    exact ⟨(mem_below ok).2 a, b⟩
/-- One atom has one row. -/
theorem atom_row {rows : List ND} (ok : Ok rows) {i j : Nat} (hi : i < rows.length) (hj : j < rows.length) (ki : (rowAt rows i).kind = 1) (kj : (rowAt rows j).kind = 1) (h : (rowAt rows i).name = (rowAt rows j).name) : i = j := by
  have t1 := tree_atom (rowAt_get hi) ki
  have t2 := tree_atom (rowAt_get hj) kj
  exact tree_inj ok hi hj (by rw [t1, t2, h])
theorem atom_word {rows : List ND} (ok : Ok rows) {i : Nat} (hi : i < rows.length) (ki : (rowAt rows i).kind = 1) : word (rowAt rows i).name = true := by
  rcases ok.row (rowAt_get hi) with ⟨_, _, _, h⟩ | h | ⟨h, _⟩
  · exact h
  · rw [h] at ki; cases ki
  · omega
theorem atomK_nodup (rows : List ND) (id : Nat) : (atomK rows id (below rows id)).Nodup := ((below_pairwise rows id).imp (fun h => Nat.ne_of_lt h)).sublist List.filter_sublist
theorem namesB_nodup {rows : List ND} (ok : Ok rows) {id : Nat} (hid : id < rows.length) : (namesB rows id).Nodup := by
  unfold namesB List.Nodup
  rw [List.pairwise_map]
  refine (atomK_nodup rows id).imp_of_mem fun {a b} ha hb hne e => hne ?_
  obtain ⟨_, k1, h1⟩ := (atomK_mem ok hid).1 ha
  obtain ⟨_, k2, h2⟩ := (atomK_mem ok hid).1 hb
  exact atom_row ok h1 h2 k1 k2 e
theorem sameL_names (rows : List ND) (id : Nat) : (sameL rows id).map (·.name) = namesB rows id := by
  unfold sameL namesB
  rw [List.map_map]; rfl
theorem valid_same {rows : List ND} (ok : Ok rows) {id : Nat} (hid : id < rows.length) : ValidP rows id (sameL rows id) := by
  have hm : ∀ x ∈ sameL rows id, ∃ k, x = ⟨(rowAt rows k).name, (k : Int)⟩ ∧ (rowAt rows k).kind = 1 ∧ k < rows.length := fun x hx => by
    obtain ⟨k, hk, rfl⟩ := List.mem_map.1 hx
    obtain ⟨_, k1, h1⟩ := (atomK_mem ok hid).1 hk
    exact ⟨k, rfl, k1, h1⟩
  refine ⟨by simp [hasB, hid], List.all_eq_true.2 fun x hx => ?_, ?_, List.all_eq_true.2 fun x hx => ?_⟩
  · obtain ⟨k, rfl, _, h1⟩ := hm x hx
    simp [hasB, h1]
  · unfold twiceB
    rw [sameL_names]
    simp [namesB_nodup ok hid]
  · obtain ⟨k, rfl, k1, h1⟩ := hm x hx
    exact atom_word ok h1 k1
theorem same_put {rows : List ND} (ok : Ok rows) {id : Nat} (hid : id < rows.length) : putP rows id (sameL rows id) = ⟨rows, id, 0⟩ := by
  refine put_nothing ok hid (valid_same ok hid) fun k hk k1 f hf => ?_
  obtain ⟨x, hx, e, rfl⟩ := namedF_some hf
  obtain ⟨j, hj, rfl⟩ := List.mem_map.1 hx
  obtain ⟨_, k2, h2⟩ := (atomK_mem ok hid).1 hj
  have hkl : k < rows.length := by have := ((mem_below ok).1 hk).le ok; omega
  have := atom_row ok h2 hkl k2 k1 e
  rw [this]
def othersN (names : List ByteArray) (l : List HY) : List HY := l.filter fun x => !(names.any fun s => decide (s = x.name))
/-- Names that do not stand there: nothing, or refused. -/
theorem others_put {rows : List ND} (ok : Ok rows) {id : Nat} (hid : id < rows.length) (l : List HY) : (putP rows id (othersN (namesB rows id) l)).rows = rows ∧ ((putP rows id (othersN (namesB rows id) l)).err = 0 → (putP rows id (othersN (namesB rows id) l)).id = (id : Int)) := by
  by_cases he : (putP rows id (othersN (namesB rows id) l)).err = 0
  · have := put_nothing ok hid (putP_err0 he) (fun k hk k1 f hf => by
      exfalso
      obtain ⟨x, hx, e, rfl⟩ := namedF_some hf
      have h1 := (List.mem_filter.1 hx).2
      have hkl : k < rows.length := by have := ((mem_below ok).1 hk).le ok; omega
      have hin : (rowAt rows k).name ∈ namesB rows id := List.mem_map.2 ⟨k, (atomK_mem ok hid).2 ⟨(mem_below ok).1 hk, k1, hkl⟩, rfl⟩
      have : ((namesB rows id).any fun s => decide (s = x.name)) = true := List.any_eq_true.2 ⟨_, hin, by simp [e]⟩
      rw [this] at h1
      cases h1)
    rw [this]
    exact ⟨rfl, fun _ => rfl⟩
  · exact ⟨(putP_rows he).1, fun h => absurd h he⟩

theorem atoms_reach {rows : List ND} (ok : Ok rows) : ∀ i, i < rows.length → ∀ s ∈ atoms (tree rows i), ∃ k, Reach rows i k ∧ (rowAt rows k).kind = 1 ∧ (rowAt rows k).name = s ∧ k < rows.length := by
  intro i
  induction i using Nat.strongRecOn with
  | _ i ih =>
    intro hi s hs
    have hrow := rowAt_get hi
    by_cases h1 : (rowAt rows i).kind = 1
    · rw [tree_atom hrow h1] at hs
      simp only [atoms, List.mem_singleton] at hs
      exact ⟨i, .refl _, h1, hs.symm, hi⟩
    · have hk5 := ok.kindsP hrow
      by_cases h2 : (rowAt rows i).kind = 2
      · rw [tree_bot hrow h2] at hs; simp [atoms] at hs
      · have k3 : 3 ≤ (rowAt rows i).kind := by omega
        have hp := ok.parts hrow k3
        rw [tree_two ok hrow k3] at hs
        have hm : s ∈ atoms (tree rows (rowAt rows i).l.toNat) ∨ s ∈ atoms (tree rows (rowAt rows i).r.toNat) := by
          generalize rowAt rows i = n at *
          have hc : n.kind = 3 ∨ n.kind = 4 ∨ n.kind = 5 := by omega
          unfold treeOf at hs
          rcases hc with hc | hc | hc <;> rw [hc] at hs <;> simpa [atoms] using hs
        rcases hm with hm | hm
        · obtain ⟨k, a, b⟩ := ih _ (by omega) (by omega) s hm
          exact ⟨k, .left hrow k3 a, b⟩
        · obtain ⟨k, a, b⟩ := ih _ (by omega) (by omega) s hm
          exact ⟨k, .right hrow k3 a, b⟩
theorem namesB_iff {rows : List ND} (ok : Ok rows) {id : Nat} (hid : id < rows.length) (s : ByteArray) : s ∈ namesB rows id ↔ s ∈ atoms (tree rows id) := by
  constructor
  · intro h
    obtain ⟨k, hk, rfl⟩ := List.mem_map.1 h
    obtain ⟨a, b, c⟩ := (atomK_mem ok hid).1 hk
    refine reach_atoms ok a hid _ ?_
    rw [tree_atom (rowAt_get c) b]
    simp [atoms]
  · intro h
    obtain ⟨k, a, b, c, d⟩ := atoms_reach ok id hid s h
    exact List.mem_map.2 ⟨k, (atomK_mem ok hid).2 ⟨a, b, d⟩, c⟩

/-- What was put in is matched. -/
theorem back_match {rows : List ND} (ok : Ok rows) {id : Nat} (hid : id < rows.length) {by' : List HY} (he : (putP rows id by').err = 0) {l : List HY} {is : Bool} (hm : MatchS (putP rows id by').rows id (putP rows id by').id.toNat l is) :
    is = true ∧ l.length = (namesB rows id).length ∧ ∀ x ∈ l, hasB (putP rows id by').rows.length x.form = true ∧ (∀ f, namedF by' x.name = some f → x.form = f) ∧
      (namedF by' x.name = none → (rowAt (putP rows id by').rows x.form.toNat).kind = 1 ∧ (rowAt (putP rows id by').rows x.form.toNat).name = x.name) := by
  have hv := putP_err0 he
  obtain ⟨ok2, hp, c, hc1, hc2, hc3⟩ := putP_img ok he
  generalize putP rows id by' = R at *
  rw [Int.toNat_natCast] at hc3
  have hid2 : id < R.rows.length := Nat.lt_of_lt_of_le hid hp.length_le
  have hfit : sub (sig (namedF by') rows) (tree R.rows id) = tree R.rows c := by rw [tree_prefix hp hid, hc3]
  rw [hc1, Int.toNat_natCast] at hm
  have his : is = true := by
    cases is with
    | true => rfl
    | false => exact absurd hfit ((hm.2 rfl).2 _)
  have hY := hm.1 his
  refine ⟨his, ?_, fun x hx => ?_⟩
  · have hper : (l.map (·.name)).Perm (namesB rows id) := (List.perm_ext_iff_of_nodup hY.nodup (namesB_nodup ok hid)).2 fun s => by
      rw [namesB_iff ok hid, ← tree_prefix hp hid, hY.names]
      simp
    have := hper.length_eq
    simpa using this
  · have hf := hY.forms x hx
    have hfn := has_nat hf
    have hsx := (hY.names x.name).2 ⟨x, hx, rfl⟩
    have h1 := sub_inj (tree R.rows id) (hY.fits.trans hfit.symm) _ hsx
    rw [namedF_mem hY.nodup hx] at h1
    simp only [Option.map_some, Option.getD_some] at h1
    refine ⟨hf, fun f hf2 => ?_, fun hf2 => ?_⟩
    · unfold sig at h1
      rw [hf2] at h1
      simp only [Option.map_some, Option.getD_some] at h1
      have hg := has_nat (hyB_has hv.forms _ f hf2)
      rw [← tree_prefix hp hg.1] at h1
      have := tree_inj ok2 hfn.1 (Nat.lt_of_lt_of_le hg.1 hp.length_le) h1
      rw [← hfn.2, ← hg.2, this]
    · unfold sig at h1
      rw [hf2] at h1
      simp only [Option.map_none, Option.getD_none] at h1
      have hrow := rowAt_get hfn.1
      rcases tree_row ok2 hrow with ⟨s, e, ht, _⟩ | ⟨e, ht⟩ | ⟨a, b, _, _, ht⟩
      · rw [ht] at h1
        cases h1
        rw [e]; exact ⟨rfl, rfl⟩
      · rw [ht] at h1; cases h1
      · rcases ht with ⟨_, ht⟩ | ⟨_, ht⟩ | ⟨_, ht⟩ <;> rw [ht] at h1 <;> cases h1

end Go.Dk

