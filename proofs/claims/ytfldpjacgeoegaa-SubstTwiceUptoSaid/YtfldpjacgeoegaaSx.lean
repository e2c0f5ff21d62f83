/- Layer 7: Match. -/
import Derived.Test.YtfldpjacgeoegaaSw
namespace Go.Dk
open Go.RowKit Go.Maps Go.MapKept
open Go.Proofs hiding intOf

theorem fit_good {rows : List ND} {p f : Nat} {S' : PairS} {N' : NameS} (h : FitY rows p f (fun _ => none) (fun _ => none) S' N') {q g : Nat} (hq : S' (q, g) = some ()) : Good rows S' N' q g := by
  rcases h.shut q g hq with h0 | h0
  · cases h0
  · exact h0.1
theorem fit_reach {rows : List ND} {p f : Nat} {S' : PairS} {N' : NameS} (h : FitY rows p f (fun _ => none) (fun _ => none) S' N') {i q : Nat} (hr : Reach rows i q) : ∀ g, S' (i, g) = some () → ∃ g', S' (q, g') = some () := by
  induction hr with
  | refl => exact fun g h => ⟨g, h⟩
  | @left i j n hi hk _ ih =>
    intro g hg
    have hG := fit_good h hg
    have e : rowAt rows i = n := rowAt_of hi
    have := ((hG.2.2.2 (by rw [e]; omega)).2 (by rw [e]; exact hk)).1
    rw [e] at this
    exact ih _ this
  | @right i j n hi hk _ ih =>
    intro g hg
    have hG := fit_good h hg
    have e : rowAt rows i = n := rowAt_of hi
    have := ((hG.2.2.2 (by rw [e]; omega)).2 (by rw [e]; exact hk)).2
    rw [e] at this
    exact ih _ this
theorem fit_val {rows : List ND} {p f : Nat} {S' : PairS} {N' : NameS} (h : FitY rows p f (fun _ => none) (fun _ => none) S' N') {s : ByteArray} {v : Int} (hs : N' s = some v) : ∃ q g : Nat, v = (g : Int) ∧ g < rows.length ∧ q < rows.length ∧ (rowAt rows q).name = s ∧ (rowAt rows q).kind = 1 ∧ Reach rows p q := by
  rcases h.only s v hs with h0 | ⟨q, hr, hk, hn, hq⟩
  · cases h0
  · obtain ⟨g, hg⟩ := fit_reach h hr f h.self
    have hG := fit_good h hg
    have := hG.2.2.1 hk
    rw [hn, hs] at this
    cases this
    exact ⟨q, g, rfl, hG.2.1, hq, hn, hk, hr⟩

def pairsL (N : NameS) (l : List ByteArray) : List HY := l.map fun s => ⟨s, (N s).getD 0⟩
theorem pairsL_snoc (N : NameS) (l : List ByteArray) (s : ByteArray) (v : Int) (h : N s = some v) : pairsL N (l ++ [s]) = pairsL N l ++ [⟨s, v⟩] := by simp [pairsL, h]

theorem done_le {rows : List ND} {p f : Nat} {S' : PairS} {N' : NameS} (h : FitY rows p f (fun _ => none) (fun _ => none) S' N') {done : List ByteArray} (hnd : done.Nodup) (hin : ∀ s ∈ done, (N' s).isSome = true) : done.length ≤ rows.length := by
  have hex : ∀ s ∈ done, ∃ q, q < rows.length ∧ (rowAt rows q).name = s := fun s hs => by
    obtain ⟨v, hv⟩ := Option.isSome_iff_exists.1 (hin s hs)
    obtain ⟨q, g, _, _, hq, hn, _⟩ := fit_val h hv
    exact ⟨q, hq, hn⟩
  have hf : ∃ F : ByteArray → Nat, ∀ s ∈ done, F s < rows.length ∧ (rowAt rows (F s)).name = s := by
    classical
    refine ⟨fun s => if h : ∃ q, q < rows.length ∧ (rowAt rows q).name = s then Classical.choose h else 0, fun s hs => ?_⟩
    simp only [dif_pos (hex s hs)]
    exact Classical.choose_spec (hex s hs)
  obtain ⟨F, hF⟩ := hf
  have hn2 : (done.map F).Nodup := by
    unfold List.Nodup
    rw [List.pairwise_map]
    exact hnd.imp_of_mem fun {a b} ha hb hne e => hne (by rw [← (hF a ha).2, ← (hF b hb).2, e])
  have := nodup_le hn2 (m := rows.length) (fun x hx => by
    obtain ⟨s, hs, rfl⟩ := List.mem_map.1 hx
    exact (hF s hs).1)
  simpa using this

theorem matchY_of {rows : List ND} (ok : Ok rows) {p f : Nat} (hp : p < rows.length) {S' : PairS} {N' : NameS} (h : FitY rows p f (fun _ => none) (fun _ => none) S' N') {done : List ByteArray} (hnd : done.Nodup) (hall : ∀ s, (N' s).isSome = true → s ∈ done) (hin : ∀ s ∈ done, (N' s).isSome = true)
    {l : List HY} (hperm : l.Perm (pairsL N' done.reverse)) (hs : l.Pairwise fun x y => ¬ y.name.data.toList < x.name.data.toList) : MatchY rows p f l := by
  have hmem : ∀ x, x ∈ l ↔ N' x.name = some x.form := by
    intro x
    rw [hperm.mem_iff]
    unfold pairsL
    simp only [List.mem_map, List.mem_reverse]
    constructor
    · rintro ⟨s, hs, rfl⟩
      obtain ⟨v, hv⟩ := Option.isSome_iff_exists.1 (hin s hs)
      simp [hv]
    · intro hx
      exact ⟨x.name, hall _ (by rw [hx]; rfl), by rw [hx]; rfl⟩
  have hnames : (l.map (·.name)).Nodup := by
    have h1 : (l.map (·.name)).Perm ((pairsL N' done.reverse).map (·.name)) := hperm.map _
    have h2 : (pairsL N' done.reverse).map (·.name) = done.reverse := by
      unfold pairsL
      rw [List.map_map]
      exact List.map_id' _
    rw [h2] at h1
    exact h1.nodup_iff.2 ((List.reverse_perm done).nodup_iff.2 hnd)
  have hnm : ∀ s, namedF l s = N' s := by
    intro s
    cases hN : N' s with
    | some v => exact namedF_mem hnames ((hmem ⟨s, v⟩).2 hN)
    | none =>
      unfold namedF
      cases hfnd : l.find? fun h => decide (h.name = s) with
      | none => rfl
      | some x =>
        have h1 := List.mem_of_find?_eq_some hfnd
        have h2 := List.find?_some hfnd
        simp only [decide_eq_true_eq] at h2
        have := (hmem x).1 h1
        rw [h2, hN] at this
        cases this
  refine ⟨fun s => ⟨fun hs => ?_, fun hs => ?_⟩, ?_, fun x hx => ?_, ?_⟩
  · obtain ⟨v, hv⟩ := Option.isSome_iff_exists.1 (fit_names ok h p f h.self s hs)
    exact ⟨⟨s, v⟩, (hmem _).2 hv, rfl⟩
  · obtain ⟨x, hx, rfl⟩ := hs
    obtain ⟨q, g, _, _, hq, hn, hk, hr⟩ := fit_val h ((hmem x).1 hx)
    refine reach_atoms ok hr hp _ ?_
    rw [tree_atom (rowAt_get hq) hk, hn]
    simp [atoms]
  · have hn2 : l.Pairwise fun x y => x.name ≠ y.name := by
      unfold List.Nodup at hnames
      rw [List.pairwise_map] at hnames
      exact hnames
    refine (hs.and hn2).imp fun {x y} hxy => ?_
    apply Classical.byContradiction
    intro hc
    refine hxy.2 ?_
    have := List.le_antisymm (List.not_lt.1 hxy.1) (List.not_lt.1 hc)
    exact ByteArray.ext (Array.ext' this)
  · obtain ⟨q, g, e, hg, _⟩ := fit_val h ((hmem x).1 hx)
    rw [e]; simp [hasB, hg]
  · have e : (fun s => (namedF l s).map fun v => tree rows v.toNat) = sigma rows N' := by
      funext s
      rw [hnm]
      rfl
    rw [e]
    exact (fit_sound ok h p f h.self).2
theorem matchS_no {rows : List ND} {p f : Nat} {S' : PairS} {N' : NameS} (h : Fit rows p f (fun _ => none) (fun _ => none) S' N' false) : MatchS rows p f [] false :=
  ⟨fun h => (by cases h), fun _ => ⟨rfl, fun σ hs => by have := (h.all σ (fun _ _ h => by cases h) hs).1; cases this⟩⟩

end Go.Dk

