/- Formulas made anew: images row by row, and what they are as trees; plain. -/
import Derived.Test.YtfldpjacgeoegaaGreatFm
import Derived.Test.YtfldpjacgeoegaaGreatYc
namespace Go.Dk

abbrev OfF := List ND → Nat → ND → Int → Int → Put

def anewGo (of : OfF) : List Nat → List ND → (Nat → Int) → List ND × (Nat → Int) × Int
  | [], rows, img => (rows, img, 0)
  | k :: t, rows, img =>
    let n := rowAt rows k
    let p := of rows k n (if 3 ≤ n.kind then img n.l.toNat else 0) (if 3 ≤ n.kind then img n.r.toNat else 0)
    if p.err = 0 then anewGo of t p.rows (fun x => if x = k then p.id else img x) else (p.rows, img, p.err)
noncomputable def anewP (of : OfF) (rows : List ND) (id : Nat) : Put :=
  let q := anewGo of (below rows id) rows (fun _ => 0)
  if q.2.2 = 0 then ⟨q.1, q.2.1 id, 0⟩ else ⟨rows, 0, q.2.2⟩

/-- A put that did not fail: its tree. -/
def ImgOk (rows : List ND) (p : Put) (T : Fm) : Prop := Ok p.rows ∧ rows <+: p.rows ∧ ∃ i : Nat, p.id = (i : Int) ∧ i < p.rows.length ∧ tree p.rows i = T
theorem imgOk_there {rows : List ND} (ok : Ok rows) {k : Nat} (hk : k < rows.length) {T : Fm} (ht : tree rows k = T) : ImgOk rows ⟨rows, k, 0⟩ T := ⟨ok, List.prefix_refl _, k, rfl, hk, ht⟩
theorem imgOk_two {rows : List ND} (ok : Ok rows) {kd : Int} (hk : kd = 3 ∨ kd = 4 ∨ kd = 5) {l r : Nat} (hl : l < rows.length) (hr : r < rows.length) (he : (put rows ⟨kd, ByteArray.empty, l, r⟩).err = 0) :
    ImgOk rows (put rows ⟨kd, ByteArray.empty, l, r⟩) (treeOf ⟨kd, ByteArray.empty, l, r⟩ (tree rows l) (tree rows r)) := by
  obtain ⟨i, a, b, c⟩ := put_two ok hk hl hr he
  exact ⟨ok.put _, put_prefix _ _, i, a, b, c⟩

/-- What an image is as a tree. -/
structure Sem (of : OfF) (F : Fm → Fm) (rows0 : List ND) : Prop where
  img : ∀ rows k l r, Ok rows → rows0 <+: rows → k < rows0.length → (3 ≤ (rowAt rows0 k).kind → l < rows.length ∧ r < rows.length ∧ tree rows l = F (tree rows0 (rowAt rows0 k).l.toNat) ∧ tree rows r = F (tree rows0 (rowAt rows0 k).r.toNat)) →
    (of rows k (rowAt rows0 k) (if 3 ≤ (rowAt rows0 k).kind then (l : Int) else 0) (if 3 ≤ (rowAt rows0 k).kind then (r : Int) else 0)).err = 0 →
    ImgOk rows (of rows k (rowAt rows0 k) (if 3 ≤ (rowAt rows0 k).kind then (l : Int) else 0) (if 3 ≤ (rowAt rows0 k).kind then (r : Int) else 0)) (F (tree rows0 k))

theorem rowAt_prefix {rows rows' : List ND} (h : rows <+: rows') {i : Nat} (hi : i < rows.length) : rowAt rows' i = rowAt rows i := by
  obtain ⟨s, rfl⟩ := h
  simp [rowAt, List.getD, List.getElem?_append_left hi]
theorem prefix_length {rows rows' : List ND} (h : rows <+: rows') : rows.length ≤ rows'.length := h.length_le

structure AnI (F : Fm → Fm) (rows0 rows : List ND) (img : Nat → Int) (done : Nat → Prop) : Prop where
  ok : Ok rows
  pre : rows0 <+: rows
  img : ∀ x, done x → x < rows0.length → ∃ i : Nat, img x = (i : Int) ∧ i < rows.length ∧ tree rows i = F (tree rows0 x)

theorem anewGo_sem {of : OfF} {F : Fm → Fm} {rows0 : List ND} (ok0 : Ok rows0) (hs : Sem of F rows0) : ∀ (todo : List Nat) (rows : List ND) (img : Nat → Int) (done : Nat → Prop), AnI F rows0 rows img done →
    (∀ k ∈ todo, k < rows0.length) → todo.Pairwise (· < ·) → (∀ k ∈ todo, 3 ≤ (rowAt rows0 k).kind → (done (rowAt rows0 k).l.toNat ∨ (rowAt rows0 k).l.toNat ∈ todo) ∧ (done (rowAt rows0 k).r.toNat ∨ (rowAt rows0 k).r.toNat ∈ todo)) →
    (anewGo of todo rows img).2.2 = 0 → AnI F rows0 (anewGo of todo rows img).1 (anewGo of todo rows img).2.1 (fun x => done x ∨ x ∈ todo)
  | [], rows, img, done, h, _, _, _, _ => by
    refine ⟨h.ok, h.pre, fun x hx hl => h.img x (hx.resolve_right (by simp)) hl⟩
  | k :: t, rows, img, done, h, hlt, hp, hd, he => by
    have hp' := List.pairwise_cons.1 hp
    have hk := hlt k (by simp)
    have hrow : rowAt rows k = rowAt rows0 k := rowAt_prefix h.pre hk
    have parts : 3 ≤ (rowAt rows0 k).kind → ∃ l r : Nat, img (rowAt rows0 k).l.toNat = (l : Int) ∧ img (rowAt rows0 k).r.toNat = (r : Int) ∧ l < rows.length ∧ r < rows.length ∧ tree rows l = F (tree rows0 (rowAt rows0 k).l.toNat) ∧ tree rows r = F (tree rows0 (rowAt rows0 k).r.toNat) := by
      intro h3
      obtain ⟨p1, p2⟩ := ok0.parts (rowAt_get hk) h3
      obtain ⟨d1, d2⟩ := hd k (by simp) h3
      have notin : ∀ x, x < k → x ∉ k :: t := by
        intro x hx hm
        rcases List.mem_cons.1 hm with rfl | hm
        · omega
        · have := hp'.1 x hm; omega
      obtain ⟨l, a1, a2, a3⟩ := h.img _ (d1.resolve_right (notin _ (by omega))) (by omega)
      obtain ⟨r, b1, b2, b3⟩ := h.img _ (d2.resolve_right (notin _ (by omega))) (by omega)
      exact ⟨l, r, a1, b1, a2, b2, a3, b3⟩
    obtain ⟨l, r, hlr⟩ : ∃ l r : Nat, (if 3 ≤ (rowAt rows0 k).kind then img (rowAt rows0 k).l.toNat else 0) = (if 3 ≤ (rowAt rows0 k).kind then (l : Int) else 0) ∧ (if 3 ≤ (rowAt rows0 k).kind then img (rowAt rows0 k).r.toNat else 0) = (if 3 ≤ (rowAt rows0 k).kind then (r : Int) else 0) ∧
        (3 ≤ (rowAt rows0 k).kind → l < rows.length ∧ r < rows.length ∧ tree rows l = F (tree rows0 (rowAt rows0 k).l.toNat) ∧ tree rows r = F (tree rows0 (rowAt rows0 k).r.toNat)) := by
      by_cases h3 : 3 ≤ (rowAt rows0 k).kind
      · obtain ⟨l, r, a, b, c⟩ := parts h3
        exact ⟨l, r, by rw [if_pos h3, if_pos h3, a], by rw [if_pos h3, if_pos h3, b], fun _ => c⟩
      · exact ⟨0, 0, by rw [if_neg h3, if_neg h3], by rw [if_neg h3, if_neg h3], fun h => absurd h h3⟩
    obtain ⟨e1, e2, e3⟩ := hlr
    have hI := hs.img rows k l r h.ok h.pre hk e3
    unfold anewGo at he ⊢
    simp only [hrow, e1, e2] at he ⊢
    generalize of rows k (rowAt rows0 k) (if 3 ≤ (rowAt rows0 k).kind then (l : Int) else 0) (if 3 ≤ (rowAt rows0 k).kind then (r : Int) else 0) = p at *
    by_cases hz : p.err = 0
    · rw [if_pos hz] at he ⊢
      obtain ⟨o1, o2, i, o3, o4, o5⟩ := hI hz
      have := anewGo_sem ok0 hs t p.rows (fun x => if x = k then p.id else img x) (fun x => done x ∨ x = k) ⟨o1, h.pre.trans o2, fun x hx hl => ?_⟩ (fun x hx => hlt x (by simp [hx])) hp'.2 (fun x hx h3 => ?_) he
      · refine ⟨this.ok, this.pre, fun x hx hl => this.img x ?_ hl⟩
        rcases hx with hx | hx
        · exact .inl (.inl hx)
        · rcases List.mem_cons.1 hx with rfl | hx
          · exact .inl (.inr rfl)
          · exact .inr hx
      · by_cases e : x = k
        · subst e
          rw [if_pos rfl]
          exact ⟨i, o3, o4, o5⟩
        · rw [if_neg e]
          obtain ⟨j, a, b, c⟩ := h.img x (hx.resolve_right e) hl
          exact ⟨j, a, Nat.lt_of_lt_of_le b (prefix_length o2), by rw [tree_prefix o2 b, c]⟩
      · obtain ⟨a, b⟩ := hd x (by simp [hx]) h3
        have conv : ∀ y, (done y ∨ y ∈ k :: t) → ((done y ∨ y = k) ∨ y ∈ t) := by
          intro y hy
          rcases hy with hy | hy
          · exact .inl (.inl hy)
          · rcases List.mem_cons.1 hy with rfl | hy
            · exact .inl (.inr rfl)
            · exact .inr hy
        exact ⟨conv _ a, conv _ b⟩
    · rw [if_neg hz] at he
      exact absurd he hz

theorem below_parts {rows : List ND} (ok : Ok rows) {id k : Nat} (hid : id < rows.length) (hk : k ∈ below rows id) (h3 : 3 ≤ (rowAt rows k).kind) : (rowAt rows k).l.toNat ∈ below rows id ∧ (rowAt rows k).r.toNat ∈ below rows id := by
  have hr := (mem_below ok).1 hk
  have hx := hr.le ok
  obtain ⟨a, b⟩ := reach_snoc hr (rowAt_get (by omega)) h3
  exact ⟨(mem_below ok).2 a, (mem_below ok).2 b⟩

/-- Made anew: its tree. -/
theorem anewP_sem {of : OfF} {F : Fm → Fm} {rows : List ND} (ok : Ok rows) (hs : Sem of F rows) {id : Nat} (hid : id < rows.length) (he : (anewP of rows id).err = 0) :
    Ok (anewP of rows id).rows ∧ rows <+: (anewP of rows id).rows ∧ ∃ i : Nat, (anewP of rows id).id = (i : Int) ∧ i < (anewP of rows id).rows.length ∧ tree (anewP of rows id).rows i = F (tree rows id) := by
  unfold anewP at he ⊢
  simp only at he ⊢
  by_cases hz : (anewGo of (below rows id) rows (fun _ => 0)).2.2 = 0
  · rw [if_pos hz]
    have := anewGo_sem ok hs (below rows id) rows (fun _ => 0) (fun _ => False) ⟨ok, List.prefix_refl _, fun _ h => h.elim⟩ (fun k hk => by have := ((mem_below ok).1 hk).le ok; omega) (below_pairwise rows id) (fun k hk h3 => by
      obtain ⟨a, b⟩ := below_parts ok hid hk h3; exact ⟨.inr a, .inr b⟩) hz
    obtain ⟨i, a, b, c⟩ := this.img id (.inr ((mem_below ok).2 (.refl _))) hid
    exact ⟨this.ok, this.pre, i, a, b, c⟩
  · rw [if_neg hz] at he
    exact absurd he hz
theorem anewP_rows {of : OfF} {rows : List ND} {id : Nat} (he : (anewP of rows id).err ≠ 0) : (anewP of rows id).rows = rows ∧ (anewP of rows id).id = 0 := by
  unfold anewP at he ⊢
  simp only at he ⊢
  split
  · rename_i h; rw [if_pos h] at he; exact absurd rfl he
  · exact ⟨rfl, rfl⟩

/-- Where every image is the row itself: nothing changes. -/
theorem anewGo_same {of : OfF} {rows : List ND} (ok : Ok rows) : ∀ (todo : List Nat) (img : Nat → Int) (done : Nat → Prop), (∀ x, done x → img x = (x : Int)) → (∀ k ∈ todo, k < rows.length) → todo.Pairwise (· < ·) →
    (∀ k ∈ todo, 3 ≤ (rowAt rows k).kind → (done (rowAt rows k).l.toNat ∨ (rowAt rows k).l.toNat ∈ todo) ∧ (done (rowAt rows k).r.toNat ∨ (rowAt rows k).r.toNat ∈ todo)) →
    (∀ k ∈ todo, of rows k (rowAt rows k) (if 3 ≤ (rowAt rows k).kind then (rowAt rows k).l else 0) (if 3 ≤ (rowAt rows k).kind then (rowAt rows k).r else 0) = ⟨rows, k, 0⟩) →
    (anewGo of todo rows img).1 = rows ∧ (anewGo of todo rows img).2.2 = 0 ∧ ∀ x, done x ∨ x ∈ todo → (anewGo of todo rows img).2.1 x = (x : Int)
  | [], img, done, hi, _, _, _, _ => ⟨rfl, rfl, fun x hx => hi x (hx.resolve_right (by simp))⟩
  | k :: t, img, done, hi, hlt, hp, hd, hof => by
    have hp' := List.pairwise_cons.1 hp
    have hk := hlt k (by simp)
    have notin : ∀ x, x < k → x ∉ k :: t := by
      intro x hx hm
      rcases List.mem_cons.1 hm with rfl | hm
      · omega
      · have := hp'.1 x hm; omega
    have e : (if 3 ≤ (rowAt rows k).kind then img (rowAt rows k).l.toNat else 0) = (if 3 ≤ (rowAt rows k).kind then (rowAt rows k).l else 0) ∧ (if 3 ≤ (rowAt rows k).kind then img (rowAt rows k).r.toNat else 0) = (if 3 ≤ (rowAt rows k).kind then (rowAt rows k).r else 0) := by
      by_cases h3 : 3 ≤ (rowAt rows k).kind
      · obtain ⟨p1, p2⟩ := ok.parts (rowAt_get hk) h3
        obtain ⟨d1, d2⟩ := hd k (by simp) h3
        rw [if_pos h3, if_pos h3, if_pos h3, if_pos h3, hi _ (d1.resolve_right (notin _ (by omega))), hi _ (d2.resolve_right (notin _ (by omega)))]
        exact ⟨by omega, by omega⟩
      · rw [if_neg h3, if_neg h3, if_neg h3, if_neg h3]; exact ⟨rfl, rfl⟩
    have hh := hof k (by simp)
    unfold anewGo
    simp only [e.1, e.2, hh, if_true]
    have conv : ∀ y, (done y ∨ y ∈ k :: t) → ((done y ∨ y = k) ∨ y ∈ t) := by
      intro y hy
      rcases hy with hy | hy
      · exact .inl (.inl hy)
      · rcases List.mem_cons.1 hy with rfl | hy
        · exact .inl (.inr rfl)
        · exact .inr hy
    obtain ⟨a, b, c⟩ := anewGo_same ok t (fun x => if x = k then (k : Int) else img x) (fun x => done x ∨ x = k) (fun x hx => by
        by_cases e : x = k
        · simp [e]
        · simp only [if_neg e]; exact hi x (hx.resolve_right e)) (fun x hx => hlt x (by simp [hx])) hp'.2 (fun x hx h3 => by
        obtain ⟨a, b⟩ := hd x (by simp [hx]) h3
        exact ⟨conv _ a, conv _ b⟩) (fun x hx => hof x (by simp [hx]))
    exact ⟨a, b, fun x hx => c x (conv x hx)⟩
theorem anewP_same {of : OfF} {rows : List ND} (ok : Ok rows) {id : Nat} (hid : id < rows.length)
    (hof : ∀ k ∈ below rows id, of rows k (rowAt rows k) (if 3 ≤ (rowAt rows k).kind then (rowAt rows k).l else 0) (if 3 ≤ (rowAt rows k).kind then (rowAt rows k).r else 0) = ⟨rows, k, 0⟩) : anewP of rows id = ⟨rows, id, 0⟩ := by
  obtain ⟨a, b, c⟩ := anewGo_same ok (below rows id) (fun _ => 0) (fun _ => False) (fun _ h => h.elim) (fun k hk => by have := ((mem_below ok).1 hk).le ok; omega) (below_pairwise rows id) (fun k hk h3 => by
      obtain ⟨a, b⟩ := below_parts ok hid hk h3; exact ⟨.inr a, .inr b⟩) hof
  unfold anewP
  simp only
  rw [if_pos b, a, c id (.inr ((mem_below ok).2 (.refl _)))]

/-! ### formulas for atoms -/
def sub (σ : ByteArray → Option Fm) : Fm → Fm
  | .atom s => (σ s).getD (.atom s)
  | .bot => .bot
  | .and a b => .and (sub σ a) (sub σ b)
  | .or a b => .or (sub σ a) (sub σ b)
  | .imp a b => .imp (sub σ a) (sub σ b)
def atoms : Fm → List ByteArray
  | .atom s => [s]
  | .bot => []
  | .and a b => atoms a ++ atoms b
  | .or a b => atoms a ++ atoms b
  | .imp a b => atoms a ++ atoms b
theorem sub_congr {σ τ : ByteArray → Option Fm} (f : Fm) (h : ∀ s ∈ atoms f, (σ s).getD (.atom s) = (τ s).getD (.atom s)) : sub σ f = sub τ f := by
  induction f with
  | atom s => exact h s (by simp [atoms])
  | bot => rfl
  | and a b iha ihb => simp only [sub]; rw [iha (fun s hs => h s (by simp [atoms, hs])), ihb (fun s hs => h s (by simp [atoms, hs]))]
  | or a b iha ihb => simp only [sub]; rw [iha (fun s hs => h s (by simp [atoms, hs])), ihb (fun s hs => h s (by simp [atoms, hs]))]
  | imp a b iha ihb => simp only [sub]; rw [iha (fun s hs => h s (by simp [atoms, hs])), ihb (fun s hs => h s (by simp [atoms, hs]))]
theorem sub_none (f : Fm) : sub (fun _ => none) f = f := by
  induction f with
  | atom s => rfl
  | bot => rfl
  | and a b iha ihb => simp only [sub, iha, ihb]
  | or a b iha ihb => simp only [sub, iha, ihb]
  | imp a b iha ihb => simp only [sub, iha, ihb]
theorem sub_id {σ : ByteArray → Option Fm} (f : Fm) (h : ∀ s ∈ atoms f, (σ s).getD (.atom s) = .atom s) : sub σ f = f := by
  rw [sub_congr (τ := fun _ => none) f (by simpa using h), sub_none]
theorem sub_sub (σ τ : ByteArray → Option Fm) (f : Fm) : sub τ (sub σ f) = sub (fun s => some (sub τ ((σ s).getD (.atom s)))) f := by
  induction f with
  | atom s => simp [sub]
  | bot => rfl
  | and a b iha ihb => simp only [sub, iha, ihb]
  | or a b iha ihb => simp only [sub, iha, ihb]
  | imp a b iha ihb => simp only [sub, iha, ihb]
/-- What is put in is told by the whole. -/
theorem sub_inj {σ τ : ByteArray → Option Fm} (f : Fm) (h : sub σ f = sub τ f) : ∀ s ∈ atoms f, (σ s).getD (.atom s) = (τ s).getD (.atom s) := by
  induction f with
  | atom s => intro t ht; simp only [atoms, List.mem_singleton] at ht; subst ht; exact h
  | bot => intro s hs; simp [atoms] at hs
  | and a b iha ihb =>
    simp only [sub, Fm.and.injEq] at h
    intro s hs
    simp only [atoms, List.mem_append] at hs
    exact hs.elim (iha h.1 s) (ihb h.2 s)
  | or a b iha ihb =>
    simp only [sub, Fm.or.injEq] at h
    intro s hs
    simp only [atoms, List.mem_append] at hs
    exact hs.elim (iha h.1 s) (ihb h.2 s)
  | imp a b iha ihb =>
    simp only [sub, Fm.imp.injEq] at h
    intro s hs
    simp only [atoms, List.mem_append] at hs
    exact hs.elim (iha h.1 s) (ihb h.2 s)

/-- The image that Put tells. -/
def putOf (named : ByteArray → Option Int) : OfF := fun rows k n l r =>
  if n.kind < 3 then (if n.kind = 1 then ⟨rows, (named n.name).getD k, 0⟩ else ⟨rows, k, 0⟩) else put rows ⟨n.kind, ByteArray.empty, l, r⟩
def sig (named : ByteArray → Option Int) (rows : List ND) (s : ByteArray) : Option Fm := (named s).map fun f => tree rows f.toNat

theorem putOf_sem {named : ByteArray → Option Int} {rows0 : List ND} (ok0 : Ok rows0) (hn : ∀ s f, named s = some f → hasB rows0.length f = true) : Sem (putOf named) (sub (sig named rows0)) rows0 := by
  refine ⟨fun rows k l r ok hp hk h3 he => ?_⟩
  have hrow := rowAt_get hk
  generalize hN : rowAt rows0 k = n at *
  rcases tree_row ok0 hrow with ⟨s, rfl, ht, hw⟩ | ⟨rfl, ht⟩ | ⟨x, y, hx, hy, ht⟩
  · simp only [putOf]
    simp only [show (1 : Int) < 3 by decide, if_true, ht, sub, sig]
    cases hns : named s with
    | none => exact imgOk_there ok (Nat.lt_of_lt_of_le hk (prefix_length hp)) (by rw [tree_prefix hp hk, ht]; rfl)
    | some f =>
      have := hn s f hns
      simp only [hasB, Bool.and_eq_true, decide_eq_true_eq] at this
      obtain ⟨i, rfl⟩ := Int.eq_ofNat_of_zero_le this.1
      have hi : i < rows0.length := by omega
      exact imgOk_there ok (Nat.lt_of_lt_of_le hi (prefix_length hp)) (by rw [tree_prefix hp hi]; rfl)
  · simp only [putOf]
    simp only [show (2 : Int) < 3 by decide, if_true, show ¬ (2 : Int) = 1 by decide, if_false, ht, sub]
    exact imgOk_there ok (Nat.lt_of_lt_of_le hk (prefix_length hp)) (by rw [tree_prefix hp hk, ht])
  · rcases ht with ⟨rfl, ht⟩ | ⟨rfl, ht⟩ | ⟨rfl, ht⟩
    · simp [putOf] at he h3 ⊢
      have := imgOk_two ok (.inl rfl) h3.1 h3.2.1 he
      rw [h3.2.2.1, h3.2.2.2] at this
      rw [ht]; simpa [treeOf, sub] using this
    · simp [putOf] at he h3 ⊢
      have := imgOk_two ok (.inr (.inl rfl)) h3.1 h3.2.1 he
      rw [h3.2.2.1, h3.2.2.2] at this
      rw [ht]; simpa [treeOf, sub] using this
    · simp [putOf] at he h3 ⊢
      have := imgOk_two ok (.inr (.inr rfl)) h3.1 h3.2.1 he
      rw [h3.2.2.1, h3.2.2.2] at this
      rw [ht]; simpa [treeOf, sub] using this

end Go.Dk

