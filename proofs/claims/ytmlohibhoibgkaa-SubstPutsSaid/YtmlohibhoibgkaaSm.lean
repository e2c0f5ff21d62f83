/- Matching, plain: what a search of pairs with names comes to. -/
import Derived.Test.YtmlohibhoibgkaaSg
import Derived.Test.YtmlohibhoibgkaaA
namespace Go.Dk

/-- Names are put so that they fit. -/
def Cons (rows : List ND) (N : ByteArray → Option Int) (σ : ByteArray → Option Fm) : Prop := ∀ s v, N s = some v → ∃ i : Nat, v = (i : Int) ∧ i < rows.length ∧ (σ s).getD (.atom s) = tree rows i

abbrev PairS := Nat × Nat → Option Unit
abbrev NameS := ByteArray → Option Int
/-- A pair that was looked at fits. -/
def Good (rows : List ND) (S : PairS) (N : NameS) (q g : Nat) : Prop :=
  q < rows.length ∧ g < rows.length ∧ ((rowAt rows q).kind = 1 → N (rowAt rows q).name = some (g : Int)) ∧
    ((rowAt rows q).kind ≠ 1 → (rowAt rows q).kind = (rowAt rows g).kind ∧ (3 ≤ (rowAt rows q).kind → S ((rowAt rows q).l.toNat, (rowAt rows g).l.toNat) = some () ∧ S ((rowAt rows q).r.toNat, (rowAt rows g).r.toNat) = some ()))

structure FitY (rows : List ND) (p f : Nat) (S : PairS) (N : NameS) (S' : PairS) (N' : NameS) : Prop where
  moreS : ∀ x, S x = some () → S' x = some ()
  moreN : ∀ s v, N s = some v → N' s = some v
  self : S' (p, f) = some ()
  shut : ∀ q g, S' (q, g) = some () → S (q, g) = some () ∨ (Good rows S' N' q g ∧ Reach rows p q)
  only : ∀ s v, N' s = some v → N s = some v ∨ ∃ q, Reach rows p q ∧ (rowAt rows q).kind = 1 ∧ (rowAt rows q).name = s ∧ q < rows.length
structure Fit (rows : List ND) (p f : Nat) (S : PairS) (N : NameS) (S' : PairS) (N' : NameS) (b : Bool) : Prop where
  yes : b = true → FitY rows p f S N S' N'
  all : ∀ σ, Cons rows N σ → sub σ (tree rows p) = tree rows f → b = true ∧ Cons rows N' σ

theorem Good.more {rows : List ND} {S S' : PairS} {N N' : NameS} {q g : Nat} (h : Good rows S N q g) (hS : ∀ x, S x = some () → S' x = some ()) (hN : ∀ s v, N s = some v → N' s = some v) : Good rows S' N' q g :=
  ⟨h.1, h.2.1, fun k => hN _ _ (h.2.2.1 k), fun k => ⟨(h.2.2.2 k).1, fun k3 => ⟨hS _ ((h.2.2.2 k).2 k3).1, hS _ ((h.2.2.2 k).2 k3).2⟩⟩⟩

/-- It was looked at before. -/
theorem Fit.seen {rows : List ND} {p f : Nat} {S : PairS} {N : NameS} (h : S (p, f) = some ()) : Fit rows p f S N S N true :=
  ⟨fun _ => ⟨fun _ h => h, fun _ _ h => h, h, fun _ _ h => .inl h, fun _ _ h => .inl h⟩, fun _ hc _ => ⟨rfl, hc⟩⟩

theorem upd_get {κ ν : Type} {f : κ → Option ν} {x y : κ} {v : Option ν} {u : ν} (h : upd f x v y = some u) : (y = x ∧ v = some u) ∨ (y ≠ x ∧ f y = some u) := by
  by_cases e : y = x
  · subst e; rw [upd_same] at h; exact .inl ⟨rfl, h⟩
  · rw [upd_other _ _ e] at h; exact .inr ⟨e, h⟩
theorem upd_more {κ : Type} {f : κ → Option Unit} {x y : κ} (h : f y = some ()) : upd f x (some ()) y = some () := by
  by_cases e : y = x
  · subst e; exact upd_same _ _ _
  · rw [upd_other _ _ e]; exact h

/-- What an atom answers. -/
def atomB (N : NameS) (s : ByteArray) (f : Nat) : Bool := match N s with | none => true | some v => v == (f : Int)
theorem Fit.atom {rows : List ND} (ok : Ok rows) {p f : Nat} {S : PairS} {N : NameS} (hp : p < rows.length) (hf : f < rows.length) (hk : (rowAt rows p).kind = 1) :
    Fit rows p f S N (upd S (p, f) (some ())) (upd N (rowAt rows p).name (some (f : Int))) (atomB N (rowAt rows p).name f) := by
  have hrow := rowAt_get hp
  have ht : tree rows p = .atom (rowAt rows p).name := tree_atom hrow hk
  generalize rowAt rows p = n at *
  have e0 : rowAt rows p = n := rowAt_of hrow
  refine ⟨fun hb => ⟨fun x => upd_more, fun s v hs => ?_, upd_same _ _ _, fun q g hq => ?_, fun s v hs => ?_⟩, fun σ hc he => ?_⟩
  · by_cases e : s = n.name
    · subst e
      rw [upd_same]
      unfold atomB at hb
      rw [hs] at hb
      simp only [beq_iff_eq] at hb
      rw [hb]
    · rw [upd_other _ _ e]; exact hs
  · rcases upd_get hq with ⟨e, _⟩ | ⟨_, h⟩
    · cases e
      exact .inr ⟨⟨hp, hf, fun _ => by rw [e0]; exact upd_same _ _ _, fun h => absurd (e0 ▸ hk) h⟩, .refl _⟩
    · exact .inl h
  · rcases upd_get hs with ⟨e, _⟩ | ⟨_, h⟩
    · exact .inr ⟨p, .refl _, by rw [e0]; exact hk, by rw [e0]; exact e.symm, hp⟩
    · exact .inl h
  · rw [ht] at he
    simp only [sub] at he
    have hb : atomB N n.name f = true := by
      unfold atomB
      cases hN : N n.name with
      | none => rfl
      | some v =>
        obtain ⟨i, rfl, hi, h2⟩ := hc _ _ hN
        have := tree_inj ok hi hf (h2.symm.trans he)
        simp [this]
    refine ⟨hb, fun s v hs => ?_⟩
    rcases upd_get hs with ⟨rfl, e⟩ | ⟨_, h⟩
    · cases e; exact ⟨f, rfl, hf, he⟩
    · exact hc s v h

theorem sub_kind (σ : ByteArray → Option Fm) (F : Fm) (h : F.kind ≠ 1) : (sub σ F).kind = F.kind := by
  cases F with
  | atom s => simp [Fm.kind] at h
  | bot => rfl
  | and a b => rfl
  | or a b => rfl
  | imp a b => rfl
/-- Other kinds. -/
theorem Fit.other {rows : List ND} (ok : Ok rows) {p f : Nat} {S S' : PairS} {N N' : NameS} (hp : p < rows.length) (hf : f < rows.length) (hk : (rowAt rows p).kind ≠ 1) (hne : (rowAt rows p).kind ≠ (rowAt rows f).kind) : Fit rows p f S N S' N' false := by
  refine ⟨fun h => (by cases h), fun σ _ he => ?_⟩
  exfalso
  have h1 := tree_kind ok (rowAt_get hp)
  have h2 := tree_kind ok (rowAt_get hf)
  have := sub_kind σ (tree rows p) (by rw [h1]; exact hk)
  rw [he, h1, h2] at this
  exact hne this.symm
theorem Fit.bot {rows : List ND} {p f : Nat} {S : PairS} {N : NameS} (hp : p < rows.length) (hf : f < rows.length) (hk : (rowAt rows p).kind = 2) (hf2 : (rowAt rows f).kind = 2) : Fit rows p f S N (upd S (p, f) (some ())) N true := by
  refine ⟨fun _ => ⟨fun x => upd_more, fun _ _ h => h, upd_same _ _ _, fun q g hq => ?_, fun _ _ h => .inl h⟩, fun σ hc _ => ⟨rfl, hc⟩⟩
  rcases upd_get hq with ⟨e, _⟩ | ⟨_, h⟩
  · cases e
    exact .inr ⟨⟨hp, hf, fun h => by omega, fun _ => ⟨by omega, fun h => by omega⟩⟩, .refl _⟩
  · exact .inl h

theorem two_sub {rows : List ND} (ok : Ok rows) {p f : Nat} (hp : p < rows.length) (hf : f < rows.length) (hk : 3 ≤ (rowAt rows p).kind) (he : (rowAt rows p).kind = (rowAt rows f).kind) {σ : ByteArray → Option Fm} (h : sub σ (tree rows p) = tree rows f) :
    sub σ (tree rows (rowAt rows p).l.toNat) = tree rows (rowAt rows f).l.toNat ∧ sub σ (tree rows (rowAt rows p).r.toNat) = tree rows (rowAt rows f).r.toNat := by
  have h1 := tree_two ok (rowAt_get hp) hk
  have h2 := tree_two ok (rowAt_get hf) (by omega)
  have hk5 := ok.kindsP (rowAt_get hp)
  rw [h1, h2] at h
  generalize rowAt rows p = n at *
  generalize rowAt rows f = m at *
  generalize tree rows n.l.toNat = a at *
  generalize tree rows n.r.toNat = b at *
  generalize tree rows m.l.toNat = c at *
  generalize tree rows m.r.toNat = d at *
  unfold treeOf at h
  rw [← he] at h
  have h3 : n.kind = 3 ∨ n.kind = 4 ∨ n.kind = 5 := by omega
  rcases h3 with h3 | h3 | h3 <;> rw [h3] at h <;> simpa [sub] using h
/-- The first part fails. -/
theorem Fit.first {rows : List ND} (ok : Ok rows) {p f : Nat} {S S2 S' : PairS} {N N2 N' : NameS} (hp : p < rows.length) (hf : f < rows.length) (hk : 3 ≤ (rowAt rows p).kind) (he : (rowAt rows p).kind = (rowAt rows f).kind)
    (h1 : Fit rows (rowAt rows p).l.toNat (rowAt rows f).l.toNat (upd S (p, f) (some ())) N S2 N2 false) : Fit rows p f S N S' N' false :=
  ⟨fun h => (by cases h), fun σ hc hs => by have := (h1.all σ hc (two_sub ok hp hf hk he hs).1).1; cases this⟩
theorem Fit.both {rows : List ND} (ok : Ok rows) {p f : Nat} {S S2 S3 : PairS} {N N2 N3 : NameS} {b : Bool} (hp : p < rows.length) (hf : f < rows.length) (hk : 3 ≤ (rowAt rows p).kind) (he : (rowAt rows p).kind = (rowAt rows f).kind)
    (h1 : Fit rows (rowAt rows p).l.toNat (rowAt rows f).l.toNat (upd S (p, f) (some ())) N S2 N2 true) (h2 : Fit rows (rowAt rows p).r.toNat (rowAt rows f).r.toNat S2 N2 S3 N3 b) : Fit rows p f S N S3 N3 b := by
  have hrow := rowAt_get hp
  refine ⟨fun hb => ?_, fun σ hc hs => ?_⟩
  · have y1 := h1.yes rfl
    have y2 := h2.yes hb
    refine ⟨fun x hx => y2.moreS _ (y1.moreS _ (upd_more hx)), fun s v hs => y2.moreN _ _ (y1.moreN _ _ hs), y2.moreS _ (y1.moreS _ (upd_same _ _ _)), fun q g hq => ?_, fun s v hs => ?_⟩
    · rcases y2.shut q g hq with h | ⟨h, hr⟩
      · rcases y1.shut q g h with h | ⟨h, hr⟩
        · rcases upd_get h with ⟨e, _⟩ | ⟨_, h⟩
          · cases e
            refine .inr ⟨⟨hp, hf, fun h => by omega, fun _ => ⟨he, fun _ => ⟨y2.moreS _ y1.self, y2.self⟩⟩⟩, .refl _⟩
          · exact .inl h
        · exact .inr ⟨h.more y2.moreS y2.moreN, .left hrow hk hr⟩
      · exact .inr ⟨h, .right hrow hk hr⟩
    · rcases y2.only s v hs with h | ⟨q, a, b', c, d⟩
      · rcases y1.only s v h with h | ⟨q, a, b', c, d⟩
        · exact .inl h
        · exact .inr ⟨q, .left hrow hk a, b', c, d⟩
      · exact .inr ⟨q, .right hrow hk a, b', c, d⟩
  · obtain ⟨s1, s2⟩ := two_sub ok hp hf hk he hs
    exact h2.all σ (h1.all σ hc s1).2 s2

/-! ### what is told -/
def sigma (rows : List ND) (N : NameS) (s : ByteArray) : Option Fm := (N s).map fun v => tree rows v.toNat
/-- From nothing: a matching, and just its names. -/
theorem fit_sound {rows : List ND} (ok : Ok rows) {p f : Nat} {S' : PairS} {N' : NameS} (h : FitY rows p f (fun _ => none) (fun _ => none) S' N') : ∀ q g, S' (q, g) = some () → q < rows.length ∧ sub (sigma rows N') (tree rows q) = tree rows g := by
  intro q
  induction q using Nat.strongRecOn with
  | _ q ih =>
    intro g hq
    rcases h.shut q g hq with h0 | ⟨hg, _⟩
    · cases h0
    · refine ⟨hg.1, ?_⟩
      have hrow := rowAt_get hg.1
      have hrow2 := rowAt_get hg.2.1
      by_cases h1 : (rowAt rows q).kind = 1
      · rw [tree_atom hrow h1]
        simp only [sub, sigma, hg.2.2.1 h1]
        simp
      · obtain ⟨e, h3⟩ := hg.2.2.2 h1
        have hk5 := ok.kindsP hrow
        by_cases h2 : (rowAt rows q).kind = 2
        · rw [tree_bot hrow h2, tree_bot hrow2 (by omega)]; rfl
        · have k3 : 3 ≤ (rowAt rows q).kind := by omega
          obtain ⟨a, b⟩ := h3 k3
          have hp := ok.parts hrow k3
          have i1 := (ih _ (by omega) _ a).2
          have i2 := (ih _ (by omega) _ b).2
          rw [tree_two ok hrow k3, tree_two ok hrow2 (by omega)]
          rw [← i1, ← i2]
          generalize rowAt rows q = n at *
          generalize rowAt rows g = m at *
          have hc : n.kind = 3 ∨ n.kind = 4 ∨ n.kind = 5 := by omega
          unfold treeOf
          rw [← e]
          rcases hc with hc | hc | hc <;> rw [hc] <;> simp [sub]
theorem fit_names {rows : List ND} (ok : Ok rows) {p f : Nat} {S' : PairS} {N' : NameS} (h : FitY rows p f (fun _ => none) (fun _ => none) S' N') : ∀ q g, S' (q, g) = some () → ∀ s ∈ atoms (tree rows q), (N' s).isSome = true := by
  intro q
  induction q using Nat.strongRecOn with
  | _ q ih =>
    intro g hq s hs
    rcases h.shut q g hq with h0 | ⟨hg, _⟩
    · cases h0
    · have hrow := rowAt_get hg.1
      by_cases h1 : (rowAt rows q).kind = 1
      · rw [tree_atom hrow h1] at hs
        simp only [atoms, List.mem_singleton] at hs
        rw [hs, hg.2.2.1 h1]; rfl
      · have hk5 := ok.kindsP hrow
        by_cases h2 : (rowAt rows q).kind = 2
        · rw [tree_bot hrow h2] at hs; simp [atoms] at hs
        · have k3 : 3 ≤ (rowAt rows q).kind := by omega
          obtain ⟨a, b⟩ := (hg.2.2.2 h1).2 k3
          have hp := ok.parts hrow k3
          rw [tree_two ok hrow k3] at hs
          have hm : s ∈ atoms (tree rows (rowAt rows q).l.toNat) ∨ s ∈ atoms (tree rows (rowAt rows q).r.toNat) := by
            generalize rowAt rows q = n at *
            have hc : n.kind = 3 ∨ n.kind = 4 ∨ n.kind = 5 := by omega
            unfold treeOf at hs
            rcases hc with hc | hc | hc <;> rw [hc] at hs <;> simpa [atoms] using hs
          rcases hm with hm | hm
          · exact ih _ (by omega) _ a s hm
          · exact ih _ (by omega) _ b s hm
theorem reach_atoms {rows : List ND} (ok : Ok rows) {p q : Nat} (hr : Reach rows p q) (hp : p < rows.length) : ∀ s ∈ atoms (tree rows q), s ∈ atoms (tree rows p) := by
  induction hr with
  | refl => exact fun s h => h
  | @left i j n hi hk _ ih =>
    intro s hs
    have hpp := ok.parts hi hk
    have h1 := ih (by omega) s hs
    have hk5 := ok.kindsP hi
    rw [tree_two ok hi hk]
    have hc : n.kind = 3 ∨ n.kind = 4 ∨ n.kind = 5 := by omega
    unfold treeOf
    rcases hc with hc | hc | hc <;> rw [hc] <;> simp [atoms, h1]
  | @right i j n hi hk _ ih =>
    intro s hs
    have hpp := ok.parts hi hk
    have h1 := ih (by omega) s hs
    have hk5 := ok.kindsP hi
    rw [tree_two ok hi hk]
    have hc : n.kind = 3 ∨ n.kind = 4 ∨ n.kind = 5 := by omega
    unfold treeOf
    rcases hc with hc | hc | hc <;> rw [hc] <;> simp [atoms, h1]

/-- The one answer of a matching: names in their order, a formula each. -/
structure MatchY (rows : List ND) (p f : Nat) (l : List HY) : Prop where
  names : ∀ s, s ∈ atoms (tree rows p) ↔ ∃ x ∈ l, x.name = s
  sorted : l.Pairwise fun x y => x.name.data.toList < y.name.data.toList
  forms : ∀ x ∈ l, hasB rows.length x.form = true
  fits : sub (fun s => (namedF l s).map fun v => tree rows v.toNat) (tree rows p) = tree rows f
def MatchS (rows : List ND) (p f : Nat) (l : List HY) (b : Bool) : Prop := (b = true → MatchY rows p f l) ∧ (b = false → l = [] ∧ ∀ σ, sub σ (tree rows p) ≠ tree rows f)

theorem MatchY.nodup {rows : List ND} {p f : Nat} {l : List HY} (h : MatchY rows p f l) : (l.map (·.name)).Nodup := by
  unfold List.Nodup
  rw [List.pairwise_map]
  exact h.sorted.imp fun hlt e => by rw [e] at hlt; exact List.lt_irrefl _ hlt
theorem MatchY.nodupL {rows : List ND} {p f : Nat} {l : List HY} (h : MatchY rows p f l) : l.Nodup :=
  h.sorted.imp fun hlt e => by subst e; exact List.lt_irrefl _ hlt
theorem namedF_mem {l : List HY} (hd : (l.map (·.name)).Nodup) {x : HY} (hx : x ∈ l) : namedF l x.name = some x.form := by
  induction l with
  | nil => cases hx
  | cons a t ih =>
    rw [List.map_cons, List.nodup_cons] at hd
    unfold namedF
    rw [List.find?_cons]
    by_cases e : a.name = x.name
    · simp only [e, decide_true]
      rcases List.mem_cons.1 hx with rfl | hx
      · rfl
      · exact absurd (List.mem_map.2 ⟨x, hx, e.symm⟩) hd.1
    · simp only [e, decide_false]
      rcases List.mem_cons.1 hx with rfl | hx
      · exact absurd rfl e
      · exact ih hd.2 hx
/-- Two answers are the same. -/
theorem matchY_unique {rows : List ND} (ok : Ok rows) {p f : Nat} {l m : List HY} (hl : MatchY rows p f l) (hm : MatchY rows p f m) : l = m := by
  have hσ := sub_inj (tree rows p) (hl.fits.trans hm.fits.symm)
  have sub1 : ∀ {l m : List HY}, MatchY rows p f l → MatchY rows p f m → (∀ s ∈ atoms (tree rows p), ((namedF l s).map fun v => tree rows v.toNat).getD (.atom s) = ((namedF m s).map fun v => tree rows v.toNat).getD (.atom s)) → ∀ x ∈ l, x ∈ m := by
    intro l m hl hm hσ x hx
    have hs := (hl.names x.name).2 ⟨x, hx, rfl⟩
    obtain ⟨y, hy, e⟩ := (hm.names x.name).1 hs
    have h1 := hσ _ hs
    rw [namedF_mem hl.nodup hx, ← e, namedF_mem hm.nodup hy] at h1
    simp only [Option.map_some, Option.getD_some] at h1
    have f1 := hl.forms x hx
    have f2 := hm.forms y hy
    simp only [hasB, Bool.and_eq_true, decide_eq_true_eq] at f1 f2
    have := tree_inj ok (by omega) (by omega) h1
    have ef : x.form = y.form := by omega
    obtain ⟨xn, xf⟩ := x
    obtain ⟨yn, yf⟩ := y
    simp only at e ef
    subst e ef
    exact hy
  have s1 := sub1 hl hm hσ
  have s2 := sub1 hm hl (fun s hs => (hσ s hs).symm)
  have hp : l.Perm m := (List.perm_ext_iff_of_nodup hl.nodupL hm.nodupL).2 fun x => ⟨s1 x, s2 x⟩
  exact List.Perm.eq_of_pairwise (le := fun x y : HY => x.name.data.toList < y.name.data.toList) (fun a b _ _ h1 h2 => absurd (List.lt_trans h1 h2) (List.lt_irrefl _)) hl.sorted hm.sorted hp
theorem matchS_unique {rows : List ND} (ok : Ok rows) {p f : Nat} {l m : List HY} {a b : Bool} (hl : MatchS rows p f l a) (hm : MatchS rows p f m b) : l = m ∧ a = b := by
  cases a with
  | true =>
    have h1 := hl.1 rfl
    cases b with
    | true => exact ⟨matchY_unique ok h1 (hm.1 rfl), rfl⟩
    | false => exact absurd h1.fits ((hm.2 rfl).2 _)
  | false =>
    cases b with
    | true => exact absurd (hm.1 rfl).fits ((hl.2 rfl).2 _)
    | false => rw [(hl.2 rfl).1, (hm.2 rfl).1]; exact ⟨rfl, rfl⟩

end Go.Dk

