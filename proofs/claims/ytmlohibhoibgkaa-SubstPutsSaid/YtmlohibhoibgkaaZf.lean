/- Putting formulas in: how it can fail, what one behind the other comes to. -/
import Derived.Test.YtmlohibhoibgkaaSm
namespace Go.Dk

def ErrOk (of : OfF) (F : Fm → Fm) (rows0 : List ND) : Prop := ∀ (rows : List ND) (k l r : Nat), Ok rows → rows0 <+: rows → k < rows0.length → (3 ≤ (rowAt rows0 k).kind → l < rows.length ∧ r < rows.length ∧ tree rows l = F (tree rows0 (rowAt rows0 k).l.toNat) ∧ tree rows r = F (tree rows0 (rowAt rows0 k).r.toNat)) →
    (of rows k (rowAt rows0 k) (if 3 ≤ (rowAt rows0 k).kind then (l : Int) else 0) (if 3 ≤ (rowAt rows0 k).kind then (r : Int) else 0)).err = 0 ∨ (of rows k (rowAt rows0 k) (if 3 ≤ (rowAt rows0 k).kind then (l : Int) else 0) (if 3 ≤ (rowAt rows0 k).kind then (r : Int) else 0)).err = 30
theorem anewGo_err {of : OfF} {F : Fm → Fm} {rows0 : List ND} (ok0 : Ok rows0) (hs : Sem of F rows0) (hE : ErrOk of F rows0) : ∀ (todo : List Nat) (rows : List ND) (img : Nat → Int) (done : Nat → Prop), AnI F rows0 rows img done →
    (∀ k ∈ todo, k < rows0.length) → todo.Pairwise (· < ·) → (∀ k ∈ todo, 3 ≤ (rowAt rows0 k).kind → (done (rowAt rows0 k).l.toNat ∨ (rowAt rows0 k).l.toNat ∈ todo) ∧ (done (rowAt rows0 k).r.toNat ∨ (rowAt rows0 k).r.toNat ∈ todo)) →
    (anewGo of todo rows img).2.2 = 0 ∨ (anewGo of todo rows img).2.2 = 30
  | [], _, _, _, _, _, _, _ => .inl rfl
  | k :: t, rows, img, done, h, hlt, hp, hd => by
    have hp' := List.pairwise_cons.1 hp
    have hk := hlt k (by simp)
    have hrow : rowAt rows k = rowAt rows0 k := rowAt_prefix h.pre hk
    have parts : 3 ≤ (rowAt rows0 k).kind → ∃ l r : Nat, img (rowAt rows0 k).l.toNat = (l : Int) ∧ img (rowAt rows0 k).r.toNat = (r : Int) ∧ l < rows.length ∧ r < rows.length ∧ tree rows l = F (tree rows0 (rowAt rows0 k).l.toNat) ∧ tree rows r = F (tree rows0 (rowAt rows0 k).r.toNat) := by
      intro h3
      obtain ⟨p1, p2⟩ := ok0.parts (rowAt_get hk) h3
      obtain ⟨d1, d2⟩ := hd k (by simp) h3
      have notin : ∀ x, x < k → x ∉ k :: t := by
        intro x hx hm
        rcases List.mem_cons.1 hm with rfl | hm
        · omega
        · have := hp'.1 x hm; omega
      obtain ⟨l, a1, a2, a3⟩ := h.img _ (d1.resolve_right (notin _ (by omega))) (by omega)
      obtain ⟨r, b1, b2, b3⟩ := h.img _ (d2.resolve_right (notin _ (by omega))) (by omega)
      exact ⟨l, r, a1, b1, a2, b2, a3, b3⟩
    obtain ⟨l, r, hlr⟩ : ∃ l r : Nat, (if 3 ≤ (rowAt rows0 k).kind then img (rowAt rows0 k).l.toNat else 0) = (if 3 ≤ (rowAt rows0 k).kind then (l : Int) else 0) ∧ (if 3 ≤ (rowAt rows0 k).kind then img (rowAt rows0 k).r.toNat else 0) = (if 3 ≤ (rowAt rows0 k).kind then (r : Int) else 0) ∧
        (3 ≤ (rowAt rows0 k).kind → l < rows.length ∧ r < rows.length ∧ tree rows l = F (tree rows0 (rowAt rows0 k).l.toNat) ∧ tree rows r = F (tree rows0 (rowAt rows0 k).r.toNat)) := by
      by_cases h3 : 3 ≤ (rowAt rows0 k).kind
      · obtain ⟨l, r, a, b, c⟩ := parts h3
        exact ⟨l, r, by rw [if_pos h3, if_pos h3, a], by rw [if_pos h3, if_pos h3, b], fun _ => c⟩
      · exact ⟨0, 0, by rw [if_neg h3, if_neg h3], by rw [if_neg h3, if_neg h3], fun h => absurd h h3⟩
    obtain ⟨e1, e2, e3⟩ := hlr
    have hI := hs.img rows k l r h.ok h.pre hk e3
    have hE1 := hE rows k l r h.ok h.pre hk e3
    unfold anewGo
    simp only [hrow, e1, e2]
    generalize of rows k (rowAt rows0 k) (if 3 ≤ (rowAt rows0 k).kind then (l : Int) else 0) (if 3 ≤ (rowAt rows0 k).kind then (r : Int) else 0) = p at *
    by_cases hz : p.err = 0
    · rw [if_pos hz]
      obtain ⟨o1, o2, i, o3, o4, o5⟩ := hI hz
      refine anewGo_err ok0 hs hE t p.rows (fun x => if x = k then p.id else img x) (fun x => done x ∨ x = k) ⟨o1, h.pre.trans o2, fun x hx hl => ?_⟩ (fun x hx => hlt x (by simp [hx])) hp'.2 (fun x hx h3 => ?_)
      · by_cases e : x = k
        · subst e
          rw [if_pos rfl]
          exact ⟨i, o3, o4, o5⟩
        · rw [if_neg e]
          obtain ⟨j, a, b, c⟩ := h.img x (hx.resolve_right e) hl
          exact ⟨j, a, Nat.lt_of_lt_of_le b (prefix_length o2), by rw [tree_prefix o2 b, c]⟩
      · obtain ⟨a, b⟩ := hd x (by simp [hx]) h3
        have conv : ∀ y, (done y ∨ y ∈ k :: t) → ((done y ∨ y = k) ∨ y ∈ t) := by
          intro y hy
          rcases hy with hy | hy
          · exact .inl (.inl hy)
          · rcases List.mem_cons.1 hy with rfl | hy
            · exact .inl (.inr rfl)
            · exact .inr hy
        exact ⟨conv _ a, conv _ b⟩
    · rw [if_neg hz]
      exact hE1

theorem anewP_err {of : OfF} {F : Fm → Fm} {rows : List ND} (ok : Ok rows) (hs : Sem of F rows) (hE : ErrOk of F rows) {id : Nat} (hid : id < rows.length) : (anewP of rows id).err = 0 ∨ (anewP of rows id).err = 30 := by
  have := anewGo_err ok hs hE (below rows id) rows (fun _ => 0) (fun _ => False) ⟨ok, List.prefix_refl _, fun _ h => h.elim⟩ (fun k hk => by have := ((mem_below ok).1 hk).le ok; omega) (below_pairwise rows id) (fun k hk h3 => by
      obtain ⟨a, b⟩ := below_parts ok hid hk h3; exact ⟨.inr a, .inr b⟩)
  unfold anewP
  simp only
  by_cases hz : (anewGo of (below rows id) rows (fun _ => 0)).2.2 = 0
  · rw [if_pos hz]; exact .inl rfl
  · rw [if_neg hz]; exact .inr (this.resolve_left hz)
theorem put_err30 {rows : List ND} {kd : Int} (hk : kd = 3 ∨ kd = 4 ∨ kd = 5) {l r : Nat} (hl : l < rows.length) (hr : r < rows.length) : (put rows ⟨kd, ByteArray.empty, l, r⟩).err = 0 ∨ (put rows ⟨kd, ByteArray.empty, l, r⟩).err = 30 := by
  have hf : fits rows.length ⟨kd, ByteArray.empty, l, r⟩ = 0 := by
    unfold fits
    simp only
    rw [if_neg (by omega), if_neg (by omega), if_pos hk, if_neg]
    simp [hasB, hl, hr]
  unfold put
  rw [if_neg (by simp [hf])]
  split
  · exact .inl rfl
  · split
    · exact .inr rfl
    · exact .inl rfl
theorem putOf_err {named : ByteArray → Option Int} {F : Fm → Fm} {rows0 : List ND} (ok0 : Ok rows0) : ErrOk (putOf named) F rows0 := by
  intro rows k l r ok hp hk h3
  have hk5 := ok0.kindsP (rowAt_get hk)
  generalize rowAt rows0 k = n at *
  unfold putOf
  by_cases h : n.kind < 3
  · rw [if_pos h]
    split <;> exact .inl rfl
  · rw [if_neg h, if_pos (by omega), if_pos (by omega)]
    obtain ⟨a, b, _, _⟩ := h3 (by omega)
    exact put_err30 (by omega) a b

/-- What may be put in. -/
structure ValidP (rows : List ND) (id : Int) (l : List HY) : Prop where
  has : hasB rows.length id = true
  forms : hyB rows l = true
  once : twiceB l = false
  words : wordsB l = true
theorem putP_valid {rows : List ND} {id : Int} {l : List HY} (h : ValidP rows id l) : putP rows id l = anewP (putOf (namedF l)) rows id.toNat := by
  unfold putP
  rw [if_neg (by simp [h.has, h.forms]), if_neg (by simp [h.once]), if_neg (by simp [h.words])]
theorem putP_err0 {rows : List ND} {id : Int} {l : List HY} (he : (putP rows id l).err = 0) : ValidP rows id l := by
  unfold putP at he
  split at he
  · cases he
  · rename_i h1
    split at he
    · cases he
    · rename_i h2
      split at he
      · cases he
      · rename_i h3
        refine ⟨?_, ?_, ?_, ?_⟩
        · cases h : hasB rows.length id
          · exact absurd (.inl h) h1
          · rfl
        · cases h : hyB rows l
          · exact absurd (.inr h) h1
          · rfl
        · simpa using h2
        · simpa using h3
theorem hyB_has {rows : List ND} {l : List HY} (h : hyB rows l = true) : ∀ s f, namedF l s = some f → hasB rows.length f = true := fun s f hf => by
  obtain ⟨x, hx, _, rfl⟩ := namedF_some hf
  exact List.all_eq_true.1 h x hx
theorem has_nat {n : Nat} {i : Int} (h : hasB n i = true) : i.toNat < n ∧ (i.toNat : Int) = i := by
  unfold hasB at h; simp at h; omega
theorem putP_img {rows : List ND} (ok : Ok rows) {id : Int} {l : List HY} (he : (putP rows id l).err = 0) : ImgOk rows (putP rows id l) (sub (sig (namedF l) rows) (tree rows id.toNat)) := by
  have hv := putP_err0 he
  rw [putP_valid hv] at he ⊢
  exact anewP_sem ok (putOf_sem ok (hyB_has hv.forms)) (has_nat hv.has).1 he
theorem putP_forms {rows : List ND} (ok : Ok rows) {id : Int} {l : List HY} (hv : ValidP rows id l) : (putP rows id l).err = 0 ∨ (putP rows id l).err = 30 := by
  rw [putP_valid hv]
  exact anewP_err ok (putOf_sem ok (hyB_has hv.forms)) (putOf_err ok) (has_nat hv.has).1
theorem putP_rows {rows : List ND} {id : Int} {l : List HY} (he : (putP rows id l).err ≠ 0) : (putP rows id l).rows = rows ∧ (putP rows id l).id = 0 := by
  unfold putP at he ⊢
  split
  · exact ⟨rfl, rfl⟩
  · split
    · exact ⟨rfl, rfl⟩
    · split
      · exact ⟨rfl, rfl⟩
      · rename_i h1 h2 h3
        rw [if_neg h1, if_neg h2, if_neg h3] at he
        exact anewP_rows he
theorem hasB_more {m n : Nat} (h : m ≤ n) {i : Int} (hi : hasB m i = true) : hasB n i = true := by
  unfold hasB at *; simp at *; omega
theorem hyB_more {rows rows' : List ND} (h : rows <+: rows') {l : List HY} (hl : hyB rows l = true) : hyB rows' l = true :=
  List.all_eq_true.2 fun x hx => hasB_more h.length_le (List.all_eq_true.1 hl x hx)
theorem ValidP.more {rows rows' : List ND} {id id' : Int} {l : List HY} (h : ValidP rows id l) (hp : rows <+: rows') (hi : hasB rows'.length id' = true) : ValidP rows' id' l := ⟨hi, hyB_more hp h.forms, h.once, h.words⟩
theorem sig_more {rows rows' : List ND} (hp : rows <+: rows') {l : List HY} (hl : hyB rows l = true) : sig (namedF l) rows' = sig (namedF l) rows := by
  funext s
  unfold sig
  cases hf : namedF l s with
  | none => rfl
  | some f =>
    have := (has_nat (hyB_has hl s f hf)).1
    simp only [Option.map_some]
    rw [tree_prefix hp this]

/-! ### one behind the other -/
/-- The first j of some, each with the second put in. -/
structure ThenI (rows0 r : List ND) (τ : ByteArray → Option Fm) (by' l : List HY) (j : Nat) : Prop where
  ok : Ok r
  len : l.length = j
  le : j ≤ by'.length
  at_ : ∀ (i : Nat) (x y : HY), by'[i]? = some x → l[i]? = some y → y.name = x.name ∧ hasB r.length y.form = true ∧ tree r y.form.toNat = sub τ (tree rows0 x.form.toNat)
theorem ThenI.more {rows0 r r' : List ND} {τ : ByteArray → Option Fm} {by' l : List HY} {j : Nat} (h : ThenI rows0 r τ by' l j) (ok : Ok r') (hp : r <+: r') : ThenI rows0 r' τ by' l j :=
  ⟨ok, h.len, h.le, fun i x y hx hy => by
    obtain ⟨a, b, c⟩ := h.at_ i x y hx hy
    exact ⟨a, hasB_more hp.length_le b, by rw [tree_prefix hp (has_nat b).1, c]⟩⟩
theorem ThenI.snoc {rows0 r : List ND} {τ : ByteArray → Option Fm} {by' l : List HY} {j : Nat} {x : HY} {k : Int} (h : ThenI rows0 r τ by' l j) (hx : by'[j]? = some x) (hk : hasB r.length k = true) (ht : tree r k.toNat = sub τ (tree rows0 x.form.toNat)) : ThenI rows0 r τ by' (l ++ [⟨x.name, k⟩]) (j + 1) := by
  have hj := (List.getElem?_eq_some_iff.1 hx).1
  refine ⟨h.ok, by simp [h.len], by omega, fun i x' y hx' hy => ?_⟩
  by_cases hi : i < j
  · rw [List.getElem?_append_left (by rw [h.len]; exact hi)] at hy
    exact h.at_ i x' y hx' hy
  · rw [List.getElem?_append_right (by rw [h.len]; omega), h.len] at hy
    have : i = j := by
      apply Classical.byContradiction
      intro hne
      rw [List.getElem?_eq_none (by simp; omega)] at hy
      cases hy
    subst this
    rw [hx] at hx'
    cases hx'
    simp at hy
    subst hy
    exact ⟨rfl, hk, ht⟩

def otherB (by' : List HY) (s : ByteArray) : Bool := by'.any fun x => decide (x.name = s)
def othersL (by' l : List HY) : List HY := l.filter fun x => !otherB by' x.name
theorem names_of {rows0 r : List ND} {τ : ByteArray → Option Fm} {by' l : List HY} (h : ThenI rows0 r τ by' l by'.length) : l.map (·.name) = by'.map (·.name) := by
  apply List.ext_getElem?
  intro i
  rw [List.getElem?_map, List.getElem?_map]
  by_cases hi : i < by'.length
  · have hx := List.getElem?_eq_getElem hi
    have hy := List.getElem?_eq_getElem (show i < l.length by rw [h.len]; exact hi)
    rw [hx, hy]
    simp only [Option.map_some]
    rw [(h.at_ i _ _ hx hy).1]
  · rw [List.getElem?_eq_none (show l.length ≤ i by rw [h.len]; omega), List.getElem?_eq_none (show by'.length ≤ i by omega)]
theorem namedF_append (l m : List HY) (s : ByteArray) : namedF (l ++ m) s = (namedF l s).or (namedF m s) := by
  unfold namedF
  rw [List.find?_append]
  cases l.find? (fun h => decide (h.name = s)) <;> rfl
theorem namedF_others {by' l : List HY} {s : ByteArray} (h : namedF by' s = none) : namedF (othersL by' l) s = namedF l s := by
  have hb : ∀ x ∈ by', x.name ≠ s := namedF_none.1 h
  unfold namedF othersL
  congr 1
  induction l with
  | nil => rfl
  | cons a t ih =>
    rw [List.filter_cons]
    by_cases ha : a.name = s
    · have : otherB by' a.name = false := by
        unfold otherB
        rw [List.any_eq_false]
        intro x hx
        simp only [decide_eq_true_eq]
        rw [ha]
        exact hb x hx
      rw [this]
      simp [ha]
    · have e1 : List.find? (fun h : HY => decide (h.name = s)) (a :: t) = t.find? fun h => decide (h.name = s) := by
        rw [List.find?_cons]; simp [ha]
      rw [e1, ← ih]
      split
      · rw [List.find?_cons]; simp [ha]
      · rfl

theorem namedF_nodup {l : List HY} (hd : (l.map (·.name)).Nodup) {x : HY} (hx : x ∈ l) : namedF l x.name = some x.form := namedF_mem hd hx
theorem then_named {rows0 r : List ND} {τ : ByteArray → Option Fm} {by' l : List HY} (h : ThenI rows0 r τ by' l by'.length) (hd : (by'.map (·.name)).Nodup) (s : ByteArray) :
    (∀ f, namedF by' s = some f → ∃ k, namedF l s = some k ∧ hasB r.length k = true ∧ tree r k.toNat = sub τ (tree rows0 f.toNat)) ∧ (namedF by' s = none → namedF l s = none) := by
  have hn := names_of h
  refine ⟨fun f hf => ?_, fun hf => ?_⟩
  · obtain ⟨x, hx, rfl, rfl⟩ := namedF_some hf
    obtain ⟨i, hi⟩ := List.mem_iff_getElem?.1 hx
    have hil := (List.getElem?_eq_some_iff.1 hi).1
    have hy := List.getElem?_eq_getElem (show i < l.length by rw [h.len]; exact hil)
    obtain ⟨a, b, c⟩ := h.at_ i _ _ hi hy
    refine ⟨_, ?_, b, c⟩
    have := namedF_mem (by rw [hn]; exact hd) (List.getElem_mem (show i < l.length by rw [h.len]; exact hil))
    rw [a] at this
    exact this
  · rw [namedF_none] at hf ⊢
    intro y hy e
    have : s ∈ l.map (·.name) := List.mem_map.2 ⟨y, hy, e⟩
    rw [hn] at this
    obtain ⟨x, hx, e2⟩ := List.mem_map.1 this
    exact hf x hx e2

theorem twice_same {rows0 rN : List ND} {id : Int} {by' th L : List HY} (ok0 : Ok rows0) (ea : (putP rows0 id by').err = 0) (eb : (putP (putP rows0 id by').rows (putP rows0 id by').id th).err = 0)
    (hp : (putP (putP rows0 id by').rows (putP rows0 id by').id th).rows <+: rN) (h : ThenI rows0 rN (sig (namedF th) (putP rows0 id by').rows) by' L by'.length) :
    (putP rN id (L ++ othersL by' th)).err = 30 ∨ ((putP rN id (L ++ othersL by' th)).err = 0 ∧ (putP rN id (L ++ othersL by' th)).id = (putP (putP rows0 id by').rows (putP rows0 id by').id th).id) := by
  have va := putP_err0 ea
  have vb := putP_err0 eb
  obtain ⟨okA, pA, a, ha1, ha2, ha3⟩ := putP_img ok0 ea
  obtain ⟨okB, pB, b, hb1, hb2, hb3⟩ := putP_img okA eb
  generalize hQ : putP (putP rows0 id by').rows (putP rows0 id by').id th = Q at *
  generalize hR : putP rows0 id by' = R at *
  have okN := h.ok
  have hdb : (by'.map (·.name)).Nodup := by have := va.once; unfold twiceB at this; simpa using this
  have hdt : (th.map (·.name)).Nodup := by have := vb.once; unfold twiceB at this; simpa using this
  have hnm := names_of h
  have hv : ValidP rN id (L ++ othersL by' th) := by
    refine ⟨hasB_more (pA.trans (pB.trans hp)).length_le va.has, ?_, ?_, ?_⟩
    · unfold hyB
      rw [List.all_append, Bool.and_eq_true]
      refine ⟨List.all_eq_true.2 fun y hy => ?_, List.all_eq_true.2 fun y hy => ?_⟩
      · obtain ⟨i, hi⟩ := List.mem_iff_getElem?.1 hy
        have hil := (List.getElem?_eq_some_iff.1 hi).1
        exact (h.at_ i _ y (List.getElem?_eq_getElem (by rw [← h.len]; exact hil)) hi).2.1
      · exact List.all_eq_true.1 (hyB_more (pB.trans hp) vb.forms) y (List.mem_filter.1 hy).1
    · unfold twiceB
      simp only [Bool.not_eq_false', decide_eq_true_eq]
      rw [List.map_append, List.nodup_append, hnm]
      refine ⟨hdb, hdt.sublist (List.filter_sublist.map _), fun x hx y hy e => ?_⟩
      subst e
      obtain ⟨z, hz, e1⟩ := List.mem_map.1 hx
      obtain ⟨u, hu, e2⟩ := List.mem_map.1 hy
      have := (List.mem_filter.1 hu).2
      have h2 : otherB by' u.name = true := List.any_eq_true.2 ⟨z, hz, by simp [e1, e2]⟩
      rw [h2] at this
      cases this
    · unfold wordsB
      rw [List.all_append, Bool.and_eq_true]
      refine ⟨List.all_eq_true.2 fun y hy => ?_, List.all_eq_true.2 fun y hy => ?_⟩
      · have : y.name ∈ L.map (·.name) := List.mem_map.2 ⟨y, hy, rfl⟩
        rw [hnm] at this
        obtain ⟨x, hx, e⟩ := List.mem_map.1 this
        have := List.all_eq_true.1 va.words x hx
        rw [e] at this
        exact this
      · exact List.all_eq_true.1 vb.words y (List.mem_filter.1 hy).1
  rcases putP_forms okN hv with he | he
  · refine .inr ⟨he, ?_⟩
    obtain ⟨okC, pC, c, hc1, hc2, hc3⟩ := putP_img okN he
    have hid := (has_nat va.has).1
    have hbC : tree (putP rN id (L ++ othersL by' th)).rows b = tree Q.rows b := tree_prefix (hp.trans pC) hb2
    have key : tree (putP rN id (L ++ othersL by' th)).rows c = tree (putP rN id (L ++ othersL by' th)).rows b := by
      rw [hc3, hbC, hb3, ha1, Int.toNat_natCast, ha3, sub_sub, tree_prefix (pA.trans (pB.trans hp)) hid]
      refine sub_congr _ fun s _ => ?_
      simp only [Option.getD_some]
      obtain ⟨k1, k2⟩ := then_named h hdb s
      unfold sig
      rw [namedF_append]
      cases hf : namedF by' s with
      | some f =>
        obtain ⟨k, e1, e2, e3⟩ := k1 f hf
        rw [e1]
        simp only [Option.some_or, Option.map_some, Option.getD_some]
        exact e3
      | none =>
        rw [k2 hf, namedF_others hf]
        simp only [Option.none_or, Option.map_none, Option.getD_none, sub]
        cases ht : namedF th s with
        | none => rfl
        | some g =>
          simp only [Option.map_some, Option.getD_some]
          rw [tree_prefix (pB.trans hp) (has_nat (hyB_has vb.forms s g ht)).1]
    have := tree_inj okC hc2 (Nat.lt_of_lt_of_le hb2 (hp.trans pC).length_le) key
    rw [hc1, hb1, this]
  · exact .inl he

end Go.Dk

