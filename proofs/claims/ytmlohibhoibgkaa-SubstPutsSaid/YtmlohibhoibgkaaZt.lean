/- The document's Match, plain: the pattern's formulas from the greatest number on. -/
import Derived.Test.YtmlohibhoibgkaaSm
import Derived.Test.YtmlohibhoibgkaaZg
import Derived.Test.YtmlohibhoibgkaaSv
namespace Go.Dk

/-- A name is put into a row in order. -/
def insHY (n : ByteArray) (id : Int) : List HY → List HY
  | [] => [⟨n, id⟩]
  | x :: l => if n.data.toList < x.name.data.toList then ⟨n, id⟩ :: x :: l else x :: insHY n id l
theorem insHY_mem {n : ByteArray} {id : Int} : ∀ {l : List HY} {x : HY}, x ∈ insHY n id l ↔ x = ⟨n, id⟩ ∨ x ∈ l
  | [], x => by simp [insHY]
  | y :: l, x => by
    unfold insHY
    split
    · simp
    · simp only [List.mem_cons, insHY_mem (l := l)]
      constructor
      · rintro (h | h | h)
        · exact .inr (.inl h)
        · exact .inl h
        · exact .inr (.inr h)
      · rintro (h | h | h)
        · exact .inr (.inl h)
        · exact .inl h
        · exact .inr (.inr h)
theorem name_lt {a b : ByteArray} (h : ¬ a.data.toList < b.data.toList) (hne : b ≠ a) : b.data.toList < a.data.toList := by
  apply Classical.byContradiction
  intro hc
  refine hne ?_
  have := List.le_antisymm (List.not_lt.1 h) (List.not_lt.1 hc)
  exact ByteArray.ext (Array.ext' this)
theorem insHY_sorted {n : ByteArray} {id : Int} : ∀ {l : List HY}, l.Pairwise (fun x y => x.name.data.toList < y.name.data.toList) → (∀ x ∈ l, x.name ≠ n) → (insHY n id l).Pairwise (fun x y => x.name.data.toList < y.name.data.toList)
  | [], _, _ => by simp [insHY]
  | x :: l, h, hn => by
    have h' := List.pairwise_cons.1 h
    unfold insHY
    split
    · rename_i hlt
      refine List.pairwise_cons.2 ⟨fun y hy => ?_, h⟩
      rcases List.mem_cons.1 hy with rfl | hy
      · exact hlt
      · exact List.lt_trans hlt (h'.1 y hy)
    · rename_i hlt
      refine List.pairwise_cons.2 ⟨fun y hy => ?_, insHY_sorted h'.2 (fun z hz => hn z (by simp [hz]))⟩
      rcases insHY_mem.1 hy with rfl | hy
      · exact name_lt hlt (hn x (by simp))
      · exact h'.1 y hy
def bindP (l : List HY) (n : ByteArray) (id : Int) : List HY × Bool := match namedF l n with
  | some f => (l, f == id)
  | none => (insHY n id l, true)

theorem sorted_nodup {l : List HY} (h : l.Pairwise fun x y => x.name.data.toList < y.name.data.toList) : (l.map (·.name)).Nodup := by
  unfold List.Nodup
  rw [List.pairwise_map]
  exact h.imp fun hlt e => by rw [e] at hlt; exact List.lt_irrefl _ hlt
theorem namedF_mem' {l : List HY} {s : ByteArray} {v : Int} (h : namedF l s = some v) : ∃ x ∈ l, x.name = s ∧ x.form = v := by
  unfold namedF at h
  cases hf : l.find? fun h => decide (h.name = s) with
  | none => rw [hf] at h; cases h
  | some x =>
    rw [hf] at h
    have h1 := List.mem_of_find?_eq_some hf
    have h2 := List.find?_some hf
    simp only [decide_eq_true_eq] at h2
    exact ⟨x, h1, h2, by simpa using h⟩
theorem namedF_no {l : List HY} {s : ByteArray} (h : namedF l s = none) : ∀ x ∈ l, x.name ≠ s := by
  intro x hx e
  unfold namedF at h
  have : l.find? (fun h => decide (h.name = s)) = none := by simpa using h
  have := List.find?_eq_none.1 this x hx
  simp [e] at this
theorem namedF_ins {l : List HY} (hs : l.Pairwise fun x y => x.name.data.toList < y.name.data.toList) {n : ByteArray} {id : Int} (hn : namedF l n = none) (s : ByteArray) : namedF (insHY n id l) s = if s = n then some id else namedF l s := by
  have hnd := sorted_nodup (insHY_sorted (id := id) hs (namedF_no hn))
  by_cases e : s = n
  · subst e
    rw [if_pos rfl]
    exact namedF_mem hnd (x := ⟨s, id⟩) (insHY_mem.2 (.inl rfl))
  · rw [if_neg e]
    cases h1 : namedF l s with
    | some v =>
      obtain ⟨x, hx, rfl, rfl⟩ := namedF_mem' h1
      exact namedF_mem hnd (insHY_mem.2 (.inr hx))
    | none =>
      cases h2 : namedF (insHY n id l) s with
      | none => rfl
      | some v =>
        obtain ⟨x, hx, rfl, rfl⟩ := namedF_mem' h2
        rcases insHY_mem.1 hx with rfl | hx
        · exact absurd rfl e
        · exact absurd rfl (namedF_no h1 x hx)

def GoodM (rows : List ND) (mu : Nat → Option Nat) (out : List HY) (q g : Nat) : Prop :=
  ((rowAt rows q).kind = 1 → namedF out (rowAt rows q).name = some (g : Int)) ∧
    ((rowAt rows q).kind ≠ 1 → (rowAt rows q).kind = (rowAt rows g).kind ∧ (3 ≤ (rowAt rows q).kind → mu (rowAt rows q).l.toNat = some (rowAt rows g).l.toNat ∧ mu (rowAt rows q).r.toNat = some (rowAt rows g).r.toNat))

/-- Rows i and above are looked at: what each must be, which names are bound. -/
structure MI (rows : List ND) (p f i : Nat) (mu : Nat → Option Nat) (out : List HY) : Prop where
  self : mu p = some f
  rng : ∀ q g, mu q = some g → q < rows.length ∧ g < rows.length ∧ Reach rows p q
  good : ∀ q g, mu q = some g → i ≤ q → GoodM rows mu out q g
  sorted : out.Pairwise fun x y => x.name.data.toList < y.name.data.toList
  only : ∀ x ∈ out, ∃ q g : Nat, mu q = some g ∧ x.form = (g : Int) ∧ (rowAt rows q).kind = 1 ∧ (rowAt rows q).name = x.name
  all : ∀ σ, sub σ (tree rows p) = tree rows f → ∀ q g, mu q = some g → sub σ (tree rows q) = tree rows g

def muSet (mu : Nat → Option Nat) (q g : Nat) : Nat → Option Nat := fun y => if y = q then some g else mu y
theorem muSet_more {mu : Nat → Option Nat} {q g : Nat} (hn : mu q = none ∨ mu q = some g) {y z : Nat} (h : mu y = some z) : muSet mu q g y = some z := by
  unfold muSet
  by_cases e : y = q
  · subst e
    rw [if_pos rfl]
    rcases hn with hn | hn
    · rw [hn] at h; cases h
    · rw [← hn, h]
  · rw [if_neg e]; exact h

section
variable {rows : List ND} {p f i : Nat} {mu : Nat → Option Nat} {out : List HY}
theorem MI.start (hp : p < rows.length) (hf : f < rows.length) : MI rows p f (p + 1) (muSet (fun _ => none) p f) [] := by
  have key : ∀ q g, muSet (fun _ => none) p f q = some g → q = p ∧ g = f := by
    intro q g h
    unfold muSet at h
    by_cases e : q = p
    · rw [if_pos e] at h; cases h; exact ⟨e, rfl⟩
    · rw [if_neg e] at h; cases h
  refine ⟨by simp [muSet], fun q g h => ?_, fun q g h hq => ?_, List.Pairwise.nil, fun x hx => by simp at hx, fun σ hs q g h => ?_⟩
  · obtain ⟨rfl, rfl⟩ := key q g h; exact ⟨hp, hf, .refl _⟩
  · obtain ⟨rfl, rfl⟩ := key q g h; omega
  · obtain ⟨rfl, rfl⟩ := key q g h; exact hs
theorem MI.step (h : MI rows p f (i + 1) mu out) (hg : ∀ g, mu i = some g → GoodM rows mu out i g) : MI rows p f i mu out :=
  ⟨h.self, h.rng, fun q g hq hi => by
    by_cases e : q = i
    · subst e; exact hg g hq
    · exact h.good q g hq (by omega), h.sorted, h.only, h.all⟩
theorem MI.skip (h : MI rows p f (i + 1) mu out) (hm : mu i = none) : MI rows p f i mu out := h.step fun g hg => by rw [hm] at hg; cases hg
theorem MI.bot (h : MI rows p f (i + 1) mu out) {g : Nat} (hm : mu i = some g) (h1 : (rowAt rows i).kind = 2) (h2 : (rowAt rows g).kind = 2) : MI rows p f i mu out :=
  h.step fun g' hg => by
    rw [hm] at hg; cases hg
    exact ⟨fun h => by omega, fun _ => ⟨by omega, fun h => by omega⟩⟩
theorem MI.two (h : MI rows p f (i + 1) mu out) {g : Nat} (hm : mu i = some g) (h3 : 3 ≤ (rowAt rows i).kind) (he : (rowAt rows i).kind = (rowAt rows g).kind) (hl : mu (rowAt rows i).l.toNat = some (rowAt rows g).l.toNat) (hr : mu (rowAt rows i).r.toNat = some (rowAt rows g).r.toNat) : MI rows p f i mu out :=
  h.step fun g' hg => by
    rw [hm] at hg; cases hg
    exact ⟨fun h => by omega, fun _ => ⟨he, fun _ => ⟨hl, hr⟩⟩⟩
/-- A row below must be this one. -/
theorem MI.store (h : MI rows p f (i + 1) mu out) {q g : Nat} (hq : q < i + 1) (hql : q < rows.length) (hgl : g < rows.length) (hr : Reach rows p q) (hf : ∀ σ, sub σ (tree rows p) = tree rows f → sub σ (tree rows q) = tree rows g) (hn : mu q = none ∨ mu q = some g) : MI rows p f (i + 1) (muSet mu q g) out := by
  have key : ∀ y z, muSet mu q g y = some z → (y = q ∧ z = g) ∨ (y ≠ q ∧ mu y = some z) := by
    intro y z h
    unfold muSet at h
    by_cases e : y = q
    · rw [if_pos e] at h; cases h; exact .inl ⟨e, rfl⟩
    · rw [if_neg e] at h; exact .inr ⟨e, h⟩
  refine ⟨muSet_more hn h.self, fun y z hy => ?_, fun y z hy hi => ?_, h.sorted, fun x hx => ?_, fun σ hs y z hy => ?_⟩
  · rcases key y z hy with ⟨rfl, rfl⟩ | ⟨_, hy⟩
    · exact ⟨hql, hgl, hr⟩
    · exact h.rng y z hy
  · rcases key y z hy with ⟨rfl, rfl⟩ | ⟨_, hy⟩
    · omega
    · have hG := h.good y z hy hi
      exact ⟨hG.1, fun k => ⟨(hG.2 k).1, fun k3 => ⟨muSet_more hn ((hG.2 k).2 k3).1, muSet_more hn ((hG.2 k).2 k3).2⟩⟩⟩
  · obtain ⟨q', g', a, b, c⟩ := h.only x hx
    exact ⟨q', g', muSet_more hn a, b, c⟩
  · rcases key y z hy with ⟨rfl, rfl⟩ | ⟨_, hy⟩
    · exact hf σ hs
    · exact h.all σ hs y z hy
theorem MI.storeNo (ok : Ok rows) (h : MI rows p f i mu out) {q g g' : Nat} (hgl : g < rows.length) (hf : ∀ σ, sub σ (tree rows p) = tree rows f → sub σ (tree rows q) = tree rows g) (hm : mu q = some g') (hne : g' ≠ g) : ∀ σ, sub σ (tree rows p) ≠ tree rows f := by
  intro σ hs
  have h1 := h.all σ hs q g' hm
  rw [hf σ hs] at h1
  exact hne (tree_inj ok (h.rng q g' hm).2.1 hgl h1.symm)
theorem MI.kindNo (ok : Ok rows) (h : MI rows p f i mu out) {q g : Nat} (hm : mu q = some g) (hk : (rowAt rows q).kind ≠ 1) (hne : (rowAt rows q).kind ≠ (rowAt rows g).kind) : ∀ σ, sub σ (tree rows p) ≠ tree rows f := by
  intro σ hs
  have hr := h.rng q g hm
  have h1 := h.all σ hs q g hm
  have e1 := tree_kind ok (rowAt_get hr.1)
  have e2 := tree_kind ok (rowAt_get hr.2.1)
  have := sub_kind σ (tree rows q) (by rw [e1]; exact hk)
  rw [h1, e1, e2] at this
  exact hne this.symm
theorem MI.atomNo (ok : Ok rows) (h : MI rows p f i mu out) {q g : Nat} (hm : mu q = some g) (hk : (rowAt rows q).kind = 1) (hb : (bindP out (rowAt rows q).name (g : Int)).2 = false) : ∀ σ, sub σ (tree rows p) ≠ tree rows f := by
  intro σ hs
  unfold bindP at hb
  cases hN : namedF out (rowAt rows q).name with
  | none => rw [hN] at hb; cases hb
  | some v =>
    rw [hN] at hb
    simp only [beq_eq_false_iff_ne, ne_eq] at hb
    obtain ⟨x, hx, hxn, rfl⟩ := namedF_mem' hN
    obtain ⟨q', g', hm', hf', hk', hn'⟩ := h.only x hx
    have hr := h.rng q g hm
    have hr' := h.rng q' g' hm'
    have h1 := h.all σ hs q g hm
    have h2 := h.all σ hs q' g' hm'
    rw [tree_atom (rowAt_get hr.1) hk] at h1
    rw [tree_atom (rowAt_get hr'.1) hk', hn', hxn] at h2
    have := tree_inj ok hr.2.1 hr'.2.1 (h1.symm.trans h2)
    subst this
    exact hb hf'
theorem MI.atom (h : MI rows p f (i + 1) mu out) {g : Nat} (hm : mu i = some g) (hk : (rowAt rows i).kind = 1) (hb : (bindP out (rowAt rows i).name (g : Int)).2 = true) : MI rows p f i mu (bindP out (rowAt rows i).name (g : Int)).1 := by
  unfold bindP at hb ⊢
  cases hN : namedF out (rowAt rows i).name with
  | some v =>
    rw [hN] at hb
    simp only [beq_iff_eq] at hb
    subst hb
    refine h.step fun g' hg => ?_
    rw [hm] at hg; cases hg
    exact ⟨fun _ => hN, fun h => absurd hk h⟩
  | none =>
    simp only
    have hni := namedF_ins (id := (g : Int)) h.sorted hN
    refine ⟨h.self, h.rng, fun q g' hq hi => ?_, insHY_sorted h.sorted (namedF_no hN), fun x hx => ?_, h.all⟩
    · by_cases e : q = i
      · subst e
        rw [hm] at hq; cases hq
        exact ⟨fun _ => by rw [hni, if_pos rfl], fun h => absurd hk h⟩
      · have hG := h.good q g' hq (by omega)
        refine ⟨fun k => ?_, hG.2⟩
        have := hG.1 k
        rw [hni, if_neg (fun e => by rw [e, hN] at this; cases this)]
        exact this
    · rcases insHY_mem.1 hx with rfl | hx
      · exact ⟨i, g, hm, rfl, hk, rfl⟩
      · exact h.only x hx
def muS (mu : Nat → Option Nat) : PairS := fun x => if mu x.1 = some x.2 then some () else none
theorem muS_iff {mu : Nat → Option Nat} {q g : Nat} : muS mu (q, g) = some () ↔ mu q = some g := by
  unfold muS
  by_cases h : mu q = some g <;> simp [h]
theorem MI.fitY (h : MI rows p f 0 mu out) : FitY rows p f (fun _ => none) (fun _ => none) (muS mu) (namedF out) := by
  refine ⟨fun _ h => (by cases h), fun _ _ h => (by cases h), muS_iff.2 h.self, fun q g hq => ?_, fun s v hs => ?_⟩
  · have hq := muS_iff.1 hq
    have hr := h.rng q g hq
    have hG := h.good q g hq (Nat.zero_le _)
    exact .inr ⟨⟨hr.1, hr.2.1, hG.1, fun k => ⟨(hG.2 k).1, fun k3 => ⟨muS_iff.2 ((hG.2 k).2 k3).1, muS_iff.2 ((hG.2 k).2 k3).2⟩⟩⟩, hr.2.2⟩
  · obtain ⟨x, hx, rfl, rfl⟩ := namedF_mem' hs
    obtain ⟨q, g, hm, _, hk, hn⟩ := h.only x hx
    have hr := h.rng q g hm
    exact .inr ⟨q, hr.2.2, hk, hn, hr.1⟩
theorem MI.done (ok : Ok rows) (hp : p < rows.length) (h : MI rows p f 0 mu out) : MatchS rows p f out true := by
  refine ⟨fun _ => ⟨fun s => ⟨fun hs => ?_, fun hs => ?_⟩, h.sorted, fun x hx => ?_, (fit_sound ok h.fitY p f h.fitY.self).2⟩, fun h => by cases h⟩
  · obtain ⟨v, hv⟩ := Option.isSome_iff_exists.1 (fit_names ok h.fitY p f h.fitY.self s hs)
    obtain ⟨x, hx, e, _⟩ := namedF_mem' hv
    exact ⟨x, hx, e⟩
  · obtain ⟨x, hx, rfl⟩ := hs
    obtain ⟨q, g, hm, _, hk, hn⟩ := h.only x hx
    have hr := h.rng q g hm
    refine reach_atoms ok hr.2.2 hp _ ?_
    rw [tree_atom (rowAt_get hr.1) hk, hn]
    simp [atoms]
  · obtain ⟨q, g, hm, e, _⟩ := h.only x hx
    have := (h.rng q g hm).2.1
    rw [e]; simp [hasB, this]
theorem no_match (h : ∀ σ, sub σ (tree rows p) ≠ tree rows f) : MatchS rows p f [] false := ⟨fun h => (by cases h), fun _ => ⟨rfl, h⟩⟩
/-- Parts of what must be. -/
theorem MI.parts (ok : Ok rows) (h : MI rows p f i mu out) {q g : Nat} (hm : mu q = some g) (h3 : 3 ≤ (rowAt rows q).kind) (he : (rowAt rows q).kind = (rowAt rows g).kind) :
    (∀ σ, sub σ (tree rows p) = tree rows f → sub σ (tree rows (rowAt rows q).l.toNat) = tree rows (rowAt rows g).l.toNat ∧ sub σ (tree rows (rowAt rows q).r.toNat) = tree rows (rowAt rows g).r.toNat) ∧ Reach rows p (rowAt rows q).l.toNat ∧ Reach rows p (rowAt rows q).r.toNat := by
  have hr := h.rng q g hm
  refine ⟨fun σ hs => two_sub ok hr.1 hr.2.1 h3 he (h.all σ hs q g hm), hr.2.2.trans (.left (rowAt_get hr.1) h3 (.refl _)), hr.2.2.trans (.right (rowAt_get hr.1) h3 (.refl _))⟩

end


end Go.Dk


/- The document's named, bind. -/
namespace Go.Dk
open Go.RowKit Go.Maps Go.MapKept
open Go.Proofs hiding intOf

theorem namedF_app (a b : List HY) (s : ByteArray) : namedF (a ++ b) s = (namedF a s).or (namedF b s) := by
  unfold namedF
  rw [List.find?_append]
  cases a.find? fun h => decide (h.name = s) <;> simp
theorem drop_at {l : List HY} {j : Nat} {x : HY} (hx : l[j]? = some x) : l.drop j = x :: l.drop (j + 1) := by
  obtain ⟨h, rfl⟩ := List.getElem?_eq_some_iff.1 hx
  exact List.drop_eq_getElem_cons h
theorem namedF_at {l : List HY} {j : Nat} {x : HY} {s : ByteArray} (hx : l[j]? = some x) (hn : namedF (l.take j) s = none) (e : x.name = s) : namedF l s = some x.form := by
  have : l = l.take j ++ x :: l.drop (j + 1) := by rw [← drop_at hx, List.take_append_drop]
  rw [this, namedF_app, hn]
  simp [namedF, e]
theorem namedF_step {l : List HY} {j : Nat} {x : HY} {s : ByteArray} (hx : l[j]? = some x) (hn : namedF (l.take j) s = none) (e : ¬ x.name = s) : namedF (l.take (j + 1)) s = none := by
  rw [List.take_add_one, hx, namedF_app, hn]
  simp [namedF, e]
theorem nameEq (a b : ByteArray) : (a.toList == b.toList) = decide (a = b) := by
  by_cases e : a = b
  · simp [e]
  · have : ¬ a.toList = b.toList := fun h => e (bytes_ext.1 h)
    simp [e, this]
theorem nameLt (a b : ByteArray) : Op.bytesLess a.toList b.toList = decide (a.data.toList < b.data.toList) := by
  rw [bytesLess_eq, ByteArray.toList_eq, ByteArray.toList_eq]

set_option maxRecDepth 100000 in
theorem named07_any (w : World) (v : Value) (l : List HY) (s : ByteArray) (hv : Rd w v l.length 2 (hyCells l)) (hl : l.length ≤ 9223372036854775807) :
    Calls Try.prog 51 #[v, .string s] w fun e w' => e = .returned (.tuple #[.int .i64 ((namedF l s).getD 0), .bool (namedF l s).isSome]) ∧ w' = w := by
  have HV := Lib.hid hv
  obtain ⟨va, vc, rfl⟩ := hv.slice
  clear hv
  go_enter Try.func51, Try.ntmps51
  go_wp2_with fail
  go_loop [6] (fun i => ∃ j : Nat, j ≤ l.length ∧ i = .int .i64 (j : Int) ∧ namedF (l.take j) s = none) (fun i => l.length - (intOf i).toNat)
  case atStart => exact ⟨0, Nat.zero_le _, rfl, rfl⟩
  case round =>
    obtain ⟨j, hj, rfl, hn⟩ := hrel
    by_cases hlt : j < l.length
    · obtain ⟨b, o, c, x, e1, x0, x1, hx⟩ := hy_at HV.out hlt
      cases e1
      have hjl : (j : Int) < (l.length : Int) := by omega
      obtain ⟨xn, xf⟩ := x
      simp only at x0 x1
      have heq := nameEq xn s
      by_cases e : xn = s
      · have HE := Lib.hid (namedF_at hx hn e)
        clear hx hn
        simp only [e, decide_true] at heq
        rw [e] at x0
        clear e
        go_wp2_with fail
        go_ret2
        rw [HE.out]
        exact ⟨rfl, rfl⟩
      · have HE := Lib.hid (namedF_step hx hn e)
        clear hx hn
        simp only [e, decide_false] at heq
        clear e
        go_wp2_with fail
        exact ⟨⟨j + 1, by omega, by go_num, HE.out⟩, by simp [intOf]; omega⟩
    · have HF : Hid (namedF l s = none) := by rw [List.take_of_length_le (by omega)] at hn; exact hn
      clear hn
      go_wp2_with fail
      go_ret2
      rw [HF.out]
      exact ⟨rfl, rfl⟩

theorem insHY_skip {n : ByteArray} {id : Int} {x : HY} (h : ¬ n.data.toList < x.name.data.toList) (l : List HY) : insHY n id (x :: l) = x :: insHY n id l := by
  show (if _ then _ else _) = _
  rw [if_neg h]
theorem insHY_here {n : ByteArray} {id : Int} {x : HY} (h : n.data.toList < x.name.data.toList) (l : List HY) : insHY n id (x :: l) = ⟨n, id⟩ :: x :: l := by
  show (if _ then _ else _) = _
  rw [if_pos h]
/-- The new row so far. -/
structure InsI (n : ByteArray) (id : Int) (l : List HY) (j : Nat) (b : Bool) (L : List HY) : Prop where
  no : b = false → L = l.take j ∧ insHY n id l = l.take j ++ insHY n id (l.drop j)
  yes : b = true → insHY n id l = L ++ l.drop j ∧ L.length = j + 1
theorem InsI.start (n : ByteArray) (id : Int) (l : List HY) : InsI n id l 0 false [] := ⟨fun _ => by simp, fun h => by cases h⟩
theorem InsI.skip {n : ByteArray} {id : Int} {l L : List HY} {j : Nat} {x : HY} (h : InsI n id l j false L) (hx : l[j]? = some x) (hn : ¬ n.data.toList < x.name.data.toList) : InsI n id l (j + 1) false (L ++ [x]) := by
  obtain ⟨h1, h2⟩ := h.no rfl
  have e : l.take (j + 1) = l.take j ++ [x] := by rw [List.take_add_one, hx]; rfl
  refine ⟨fun _ => ⟨by rw [h1, e], ?_⟩, fun h => by cases h⟩
  rw [h2, drop_at hx, insHY_skip hn, e, List.append_assoc]; rfl
theorem InsI.here {n : ByteArray} {id : Int} {l L : List HY} {j : Nat} {x : HY} (h : InsI n id l j false L) (hx : l[j]? = some x) (hn : n.data.toList < x.name.data.toList) : InsI n id l (j + 1) true ((L ++ [⟨n, id⟩]) ++ [x]) := by
  obtain ⟨h1, h2⟩ := h.no rfl
  have hj := (List.getElem?_eq_some_iff.1 hx).1
  refine ⟨(fun h => by cases h), fun _ => ⟨?_, by rw [h1]; simp; omega⟩⟩
  rw [h2, drop_at hx, insHY_here hn, h1]; simp
theorem InsI.on {n : ByteArray} {id : Int} {l L : List HY} {j : Nat} {x : HY} (h : InsI n id l j true L) (hx : l[j]? = some x) : InsI n id l (j + 1) true (L ++ [x]) := by
  obtain ⟨h1, h2⟩ := h.yes rfl
  refine ⟨(fun h => by cases h), fun _ => ⟨?_, by simp [h2]⟩⟩
  rw [h1, drop_at hx]; simp
theorem InsI.len {n : ByteArray} {id : Int} {l L : List HY} {j : Nat} {b : Bool} (h : InsI n id l j b L) (hj : j ≤ l.length) : L.length ≤ j + 1 := by
  cases b with
  | false => rw [(h.no rfl).1]; simp; omega
  | true => rw [(h.yes rfl).2]; omega
theorem InsI.end_yes {n : ByteArray} {id : Int} {l L : List HY} (h : InsI n id l l.length true L) : insHY n id l = L := by
  have := (h.yes rfl).1; simpa using this
theorem InsI.end_no {n : ByteArray} {id : Int} {l L : List HY} (h : InsI n id l l.length false L) : insHY n id l = L ++ [⟨n, id⟩] := by
  obtain ⟨h1, h2⟩ := h.no rfl
  rw [h2, h1]; simp [insHY]

def BindPost (w : World) (v : Value) (l : List HY) (s : ByteArray) (id : Int) (e : Ending) (w' : World) : Prop :=
  ∃ v', e = .returned (.tuple #[v', .bool (bindP l s id).2]) ∧ Below w.heap.size w w' ∧ ((bindP l s id).1 = l ∧ v' = v ∨ w'.ownsRow w.heap.size 38 2 v' (bindP l s id).1.length (hyCells (bindP l s id).1))

/-- A row of names and formulas of the call's own, one more. -/
theorem own_addHY {w W W' : World} {o : Obj} {v v' : Value} {l : List HY} {x : HY} (hb : Below w.heap.size w W) (h : W.ownsRow w.heap.size 38 2 v l.length (hyCells l))
    (hown : W'.ownsRow w.heap.size 38 2 v' (l.length + 1) (hyCells l ++ [.string x.name, .int .i64 x.form])) (hgr : (W.alloc o).grownBy W' v.ownBlock) :
    Below w.heap.size w W' ∧ W'.ownsRow w.heap.size 38 2 v' (l ++ [x]).length (hyCells (l ++ [x])) := by
  have g2 : W.grownBy W' v.ownBlock := World.grownBy.trans (World.grownBy_alloc W o _) hgr
  refine ⟨hb.grown g2 hb.size (fun k hk => (h.lt k hk).1), ?_⟩
  have e : hyCells (l ++ [x]) = hyCells l ++ [.string x.name, .int .i64 x.form] := by simp [hyCells, HY.cells]
  rw [e, List.length_append]
  exact hown

set_option maxRecDepth 100000 in
set_option maxHeartbeats 2000000 in
theorem bind07_any (w : World) (v : Value) (l : List HY) (s : ByteArray) (id : Int) (hv : Rd w v l.length 2 (hyCells l)) (hl : l.length ≤ 2048) :
    Calls Try.prog 44 #[v, .string s, .int .i64 id] w (BindPost w v l s id) := by
  have HV := Lib.hid hv
  obtain ⟨va, vc, rfl⟩ := hv.slice
  have HNM := Lib.hid (named07_any w _ l s hv (by omega))
  clear hv
  cases hn : namedF l s with
  | some f =>
    have HB : Hid (bindP l s id = (l, f == id)) := by unfold Hid bindP; rw [hn]
    rw [hn] at HNM
    clear hn
    go_enter Try.func44, Try.ntmps44
    go_wp2_with (go_at_call 51; refine HNM.out.mono ?_; rintro e w' ⟨rfl, hw⟩; rw [hw]; clear hw)
    go_ret2
    exact ⟨.slice va l.length vc, by rw [HB.out]; rfl, Below.refl _ _, .inl ⟨by rw [HB.out], rfl⟩⟩
  | none =>
    have HB : Hid (bindP l s id = (insHY s id l, true)) := by unfold Hid bindP; rw [hn]
    rw [hn] at HNM
    clear hn
    go_enter Try.func44, Try.ntmps44
    go_wp2_with (go_at_call 51; refine HNM.out.mono ?_; rintro e w' ⟨rfl, hw⟩; rw [hw]; clear hw)
    go_loopw [10, 11, 12] (fun u p i W => ∃ (j : Nat) (b : Bool) (L : List HY), j ≤ l.length ∧ i = .int .i64 (j : Int) ∧ p = .bool b ∧ InsI s id l j b L ∧ Below w.heap.size w W ∧ W.ownsRow w.heap.size 38 2 u L.length (hyCells L)) (fun _ _ i _ => l.length - (intOf i).toNat)
    case atStart => exact ⟨0, false, [], Nat.zero_le _, rfl, rfl, InsI.start _ _ _, Below.refl _ _, World.ownsRow_nil _ _ _ _⟩
    case round =>
      obtain ⟨j, b, L, hj, rfl, rfl, hI, hbl, hown⟩ := hrel
      have HI := Lib.hid hI; have HBL := Lib.hid hbl; have HO := Lib.hid hown
      obtain ⟨oa, oc, rfl⟩ := own_slice hown
      have HLL := Lib.hid (hI.len hj)
      clear hI hbl hown
      by_cases hlt : j < l.length
      · obtain ⟨b', o', c', x, e1, x0, x1, hx⟩ := hy_at (HV.out.below HBL.out) hlt
        cases e1
        have HX := Lib.hid hx
        have hjl : (j : Int) < (l.length : Int) := by omega
        obtain ⟨xn, xf⟩ := x
        simp only at x0 x1
        clear hx
        cases b with
        | true =>
          as_aux_lemma =>
          go_wp2_with (at_builtin; refine wp_append rfl (.tmp 47) (.tmp 52) 23 rfl w.heap.size 38 _ 2 24 Try.underlying23 infoHyp rfl (by decide) (by decide) _ L.length (hyCells L) rfl (own_belowC HO.out (below_alloc _ _)) _ 1 [.string xn, .int .i64 xf] rfl (rd_lit _ _ _ rfl rfl) (by simp [Value.oneCell']) (by have := HLL.out; omega) (by have := HBL.out.size; simp; omega) ?_; intro v6 w6 hown6 hgr6 hat6 hnil6; have HA := Lib.hid (own_addHY (x := ⟨xn, xf⟩) HBL.out HO.out hown6 hgr6); clear hown6 hgr6 hat6 hnil6)
          exact ⟨⟨j + 1, true, L ++ [⟨xn, xf⟩], by omega, by go_num, rfl, HI.out.on HX.out, HA.out⟩, by simp [intOf]; omega⟩
        | false =>
          have hless := nameLt s xn
          by_cases hlt2 : s.data.toList < xn.data.toList
          · as_aux_lemma =>
            have HLT := Lib.hid hlt2
            simp only [hlt2, decide_true] at hless
            clear hlt2
            go_wp2_with (first
              | (at_builtin; refine wp_append rfl (.tmp 47) (.tmp 52) 23 rfl w.heap.size 38 _ 2 24 Try.underlying23 infoHyp rfl (by decide) (by decide) _ (L ++ [HY.mk s id]).length (hyCells (L ++ [HY.mk s id])) rfl (own_belowC HA.out.2 (below_alloc _ _)) _ 1 [.string xn, .int .i64 xf] rfl (rd_lit _ _ _ rfl rfl) (by simp [Value.oneCell']) (by have := HLL.out; rw [List.length_append]; simp only [List.length_cons, List.length_nil]; omega) (by have := HA.out.1.size; simp; omega) ?_; intro v7 w7 hown7 hgr7 hat7 hnil7; have HAA := Lib.hid (own_addHY (x := ⟨xn, xf⟩) HA.out.1 HA.out.2 hown7 hgr7); clear hown7 hgr7 hat7 hnil7)
              | (at_builtin; refine wp_append rfl (.tmp 41) (.tmp 45) 23 rfl w.heap.size 38 _ 2 24 Try.underlying23 infoHyp rfl (by decide) (by decide) _ L.length (hyCells L) rfl (own_belowC HO.out (below_alloc _ _)) _ 1 [.string s, .int .i64 id] rfl (rd_lit _ _ _ rfl rfl) (by simp [Value.oneCell']) (by have := HLL.out; omega) (by have := HBL.out.size; simp; omega) ?_; intro v6 w6 hown6 hgr6 hat6 hnil6; obtain ⟨ua, uc, hv6⟩ := own_slice hown6; subst hv6; have HA := Lib.hid (own_addHY (x := ⟨s, id⟩) HBL.out HO.out hown6 hgr6); clear hown6 hgr6 hat6 hnil6 x0 x1; obtain ⟨b9, o9, c9, x9, e9, x0, x1, hx9⟩ := hy_at (HV.out.below HA.out.1) hlt; cases e9; obtain rfl : ⟨xn, xf⟩ = x9 := (by have := HX.out; rw [hx9] at this; exact (Option.some.inj this).symm); simp only at x0 x1; clear hx9; skip))
            exact ⟨⟨j + 1, true, L ++ [⟨s, id⟩] ++ [⟨xn, xf⟩], by omega, by go_num, rfl, HI.out.here HX.out HLT.out, HAA.out⟩, by simp [intOf]; omega⟩
          · as_aux_lemma =>
            have HLT := Lib.hid hlt2
            simp only [hlt2, decide_false] at hless
            clear hlt2
            go_wp2_with (at_builtin; refine wp_append rfl (.tmp 47) (.tmp 52) 23 rfl w.heap.size 38 _ 2 24 Try.underlying23 infoHyp rfl (by decide) (by decide) _ L.length (hyCells L) rfl (own_belowC HO.out (below_alloc _ _)) _ 1 [.string xn, .int .i64 xf] rfl (rd_lit _ _ _ rfl rfl) (by simp [Value.oneCell']) (by have := HLL.out; omega) (by have := HBL.out.size; simp; omega) ?_; intro v6 w6 hown6 hgr6 hat6 hnil6; have HA := Lib.hid (own_addHY (x := ⟨xn, xf⟩) HBL.out HO.out hown6 hgr6); clear hown6 hgr6 hat6 hnil6)
            exact ⟨⟨j + 1, false, L ++ [⟨xn, xf⟩], by omega, by go_num, rfl, HI.out.skip HX.out HLT.out, HA.out⟩, by simp [intOf]; omega⟩
      · obtain rfl : j = l.length := by omega
        cases b with
        | true =>
          as_aux_lemma =>
          have HE := Lib.hid HI.out.end_yes
          go_wp2_with fail
          go_ret2
          exact ⟨.slice oa L.length oc, by rw [HB.out]; rfl, HBL.out, .inr (by rw [HB.out]; simp only; rw [HE.out]; exact HO.out)⟩
        | false =>
          as_aux_lemma =>
          have HE := Lib.hid HI.out.end_no
          go_wp2_with (at_builtin; refine wp_append rfl (.tmp 56) (.tmp 60) 23 rfl w.heap.size 38 _ 2 24 Try.underlying23 infoHyp rfl (by decide) (by decide) _ L.length (hyCells L) rfl (own_belowC HO.out (below_alloc _ _)) _ 1 [.string s, .int .i64 id] rfl (rd_lit _ _ _ rfl rfl) (by simp [Value.oneCell']) (by have := HLL.out; omega) (by have := HBL.out.size; simp; omega) ?_; intro v6 w6 hown6 hgr6 hat6 hnil6; have HA := Lib.hid (own_addHY (x := ⟨s, id⟩) HBL.out HO.out hown6 hgr6); clear hown6 hgr6 hat6 hnil6)
          go_ret2
          exact ⟨v6, by rw [HB.out]; rfl, HA.out.1, .inr (by rw [HB.out]; simp only; rw [HE.out]; exact HA.out.2)⟩

end Go.Dk

