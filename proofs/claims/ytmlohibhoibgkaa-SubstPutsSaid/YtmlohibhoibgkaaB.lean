/- Ranging over a map that the round leaves alone; sorting a slice of the call's own. -/
import Derived.Test.YtmlohibhoibgkaaA
import Derived.Test.YtmlohibhoibgkaaShelf
import Derived.Maps.RangeRun
import Derived.Maps.RangeWalk
import Derived.Sort.OwnSortedInts
namespace Go.Dk
open Go.RowKit Go.Maps Go.MapKept
open Go.Proofs

theorem nodup_map_inj {α β : Type} (f : α → β) {l : List α} (h : (l.map f).Nodup) {a b : α} (ha : a ∈ l) (hb : b ∈ l) (e : f a = f b) : a = b := by
  obtain ⟨i, hi, rfl⟩ := List.getElem_of_mem ha
  obtain ⟨j, hj, rfl⟩ := List.getElem_of_mem hb
  have := (List.getElem_inj h (h₀ := by simpa using hi) (h₁ := by simpa using hj)).1 (by simpa using e)
  subst this; rfl

/-- Block r ranges over the map b, which reads as f; the keys done have come. -/
def Rng {κ ν : Type} (P : Program) (k : TypeId) (ek : κ → Value) (ev : ν → Value) (w : World) (b r : Nat) (f : κ → Option ν) (done : List κ) : Prop :=
  ∃ es clock, ∃ l : List (κ × ν), ∃ since c0 seen, w.heap[b]? = some (.map es clock) ∧ Stamped es clock ∧ (es.toList.map fun e => (e.key, e.val)) = (l.map fun p => (ek p.1, ev p.2)) ∧ (∀ e ∈ es.toList, ∃ q, keyOf P k e.key = some q) ∧
    (l.map (·.1)).Nodup ∧ (∀ x v, f x = some v ↔ (x, v) ∈ l) ∧ w.heap[r]? = some (.mapIter (some b) since seen c0) ∧ (∀ x ∈ es.toList, x.born < since) ∧ since ≤ c0 ∧ since ≤ clock ∧
    (∀ e ∈ es.toList, seen.contains e.born = true ↔ ∃ x ∈ done, e.key = ek x) ∧ done.Nodup ∧ ∀ x ∈ done, (f x).isSome = true

section
variable {κ ν : Type} {P : Program} {k : TypeId} {ek : κ → Value} {ev : ν → Value} {w : World} {b r : Nat} {f : κ → Option ν} {done : List κ}

theorem Rng.tm (h : Rng P k ek ev w b r f done) : TM P k ek ev w b f := by
  obtain ⟨es, clock, l, since, c0, seen, h1, h2, h3, h4, h5, h6, _⟩ := h
  exact ⟨l, ⟨es, clock, h1, h2, h3, h4⟩, h5, h6⟩
theorem Rng.ltr (h : Rng P k ek ev w b r f done) : r < w.heap.size := by
  obtain ⟨es, clock, l, since, c0, seen, h1, h2, h3, h4, h5, h6, h7, _⟩ := h
  exact lt_of_block h7
theorem Rng.same {w' : World} (h : Rng P k ek ev w b r f done) (e1 : w'.heap[b]? = w.heap[b]?) (e2 : w'.heap[r]? = w.heap[r]?) : Rng P k ek ev w' b r f done ∧ w'.rangeLeft b r = w.rangeLeft b r := by
  obtain ⟨es, clock, l, since, c0, seen, h1, h2, h3, h4, h5, h6, h7, h8⟩ := h
  exact ⟨⟨es, clock, l, since, c0, seen, e1.trans h1, h2, h3, h4, h5, h6, e2.trans h7, h8⟩, by simp [World.rangeLeft, e1, e2]⟩

theorem wp_range {ops : Array Oper} {rest : List Oper} {o : Oper} {a : Act} {Q : Exit → Act → World → Prop} (h : TM P k ek ev w b f) (hg : o.guard = none) (m : Operand) (t e : TypeId) (hop : o.op = Op.range t m) (ht : P.underlying t = some (.map k e))
    (hm : a.eval m = .map (some b))
    (hK : ∀ w', Rng P k ek ev w' b w.heap.size f [] → Below w.heap.size w w' → wpList P ops Q rest (a.put o.dst (.pointer (some ⟨w.heap.size, 0, none⟩))) w') : wpList P ops Q (o :: rest) a w := by
  refine wpList_plain hg fun K' hK' => ?_
  have hlt := h.lt
  obtain ⟨l, ⟨es, clock, h1, h2, h3, h4⟩, h5, h6⟩ := h
  have hrun : (Instr.range t (.map (some b))).run P w = .ok (.pointer (some ⟨w.heap.size, 0, none⟩)) (w.alloc (.mapIter (some b) clock #[] clock)) := by
    simp [Instr.range, run_underlying ht, MapKept.run_getObj_map h1, Result.andThen]
  unfold Oper.wp
  simp [execOp, hop, hm, hrun, Result.andThen]
  refine hK' _ _ (hK _ ⟨es, clock, l, clock, clock, #[], ?_, h2, h3, h4, h5, h6, heap_alloc_new w _, fun x hx => h2.1 x hx, Nat.le_refl _, Nat.le_refl _, ?_, List.nodup_nil, by simp⟩ (below_alloc _ _))
  · exact (heap_alloc_old w _ hlt).trans h1
  · simp

theorem wp_next {ops : Array Oper} {rest : List Oper} {o : Oper} {a : Act} {Q : Exit → Act → World → Prop} (h : Rng P k ek ev w b r f done) (inj : ∀ x y, ek x = ek y → x = y) (hg : o.guard = none) (it : Operand) (hop : o.op = Op.next it false) (hit : a.eval it = .pointer (some ⟨r, 0, none⟩))
    (hDone : (∀ x, (f x).isSome = true → x ∈ done) → wpList P ops Q rest (a.put o.dst (.tuple #[.bool false])) w)
    (hMore : ∀ x v w', f x = some v → x ∉ done → Rng P k ek ev w' b r f (x :: done) → w.grownBy w' (some r) → w'.rangeLeft b r < w.rangeLeft b r →
      (Instr.entry (.pointer (some ⟨r, 0, none⟩))).run P w' = .ok (.tuple #[ek x, ev v]) w' → wpList P ops Q rest (a.put o.dst (.tuple #[.bool true, ek x, ev v])) w') : wpList P ops Q (o :: rest) a w := by
  refine wpList_plain hg fun K' hK' => ?_
  obtain ⟨es, clock, l, since, c0, seen, h1, h2, h3, h4, h5, h6, h7, h8, h9, h9', h10, h11, h12⟩ := h
  have hbr : b ≠ r := by intro e; subst e; rw [h1] at h7; cases h7
  have key_of : ∀ e ∈ es.toList, ∃ x v, (x, v) ∈ l ∧ e.key = ek x ∧ e.val = ev v := fun e he => by
    have : (e.key, e.val) ∈ l.map fun p => (ek p.1, ev p.2) := by rw [← h3]; exact List.mem_map.2 ⟨e, he, rfl⟩
    obtain ⟨⟨x, v⟩, hm, e1⟩ := List.mem_map.1 this
    simp only [Prod.mk.injEq] at e1
    exact ⟨x, v, hm, e1.1.symm, e1.2.symm⟩
  have of_key : ∀ x v, (x, v) ∈ l → ∃ e ∈ es.toList, e.key = ek x ∧ e.val = ev v := fun x v hm => by
    have : (ek x, ev v) ∈ es.toList.map fun e => (e.key, e.val) := by rw [h3]; exact List.mem_map.2 ⟨(x, v), hm, rfl⟩
    obtain ⟨e, he, e1⟩ := List.mem_map.1 this
    simp only [Prod.mk.injEq] at e1
    exact ⟨e, he, e1.1, e1.2⟩
  unfold Oper.wp
  rcases run_next_at (P := P) w o.type r b since c0 seen es clock h7 h1 h8 h9 with ⟨h0, hrun⟩ | ⟨e, he, w1, hw1, hrun⟩
  · simp [execOp, hop, hit, hrun, Result.andThen]
    refine hK' _ _ (hDone fun x hx => ?_)
    obtain ⟨v, hv⟩ := Option.isSome_iff_exists.1 hx
    obtain ⟨e, he, ek1, _⟩ := of_key x v ((h6 x v).1 hv)
    obtain ⟨y, hy, e2⟩ := (h10 e he).1 (all_seen es seen h0 e he)
    rwa [inj _ _ (ek1.symm.trans e2)]
  · obtain ⟨hes, hns⟩ := mem_left he
    obtain ⟨x, v, hm, ek1, ev1⟩ := key_of e hes
    have hw1b : ∀ c : Nat, w1.heap[c]? = w.heap[c]? := by rcases hw1 with rfl | rfl <;> exact fun _ => rfl
    have hw1s : w1.heap.size = w.heap.size := by rcases hw1 with rfl | rfl <;> rfl
    have hrl : r < w1.heap.size := by rw [hw1s]; exact lt_of_block h7
    have hsb : ∀ o', (Go.ChangeMaps.setBlock w1 r o') = setB w1 r o' := fun _ => rfl
    rw [hsb] at hrun
    have hxn : x ∉ done := fun hd => by
      have := (h10 e hes).2 ⟨x, hd, ek1⟩
      rw [hns] at this; cases this
    have hb' : (setB w1 r (.mapIter (some b) since (seen.push e.born) clock)).heap[b]? = some (.map es clock) := by rw [setB_other hbr, hw1b]; exact h1
    have hr' : (setB w1 r (.mapIter (some b) since (seen.push e.born) clock)).heap[r]? = some (.mapIter (some b) since (seen.push e.born) clock) := setB_same hrl
    simp [execOp, hop, hit, hrun, Result.andThen]
    rw [ek1, ev1]
    refine hK' _ _ (hMore x v _ ((h6 x v).2 hm) hxn ⟨es, clock, l, since, clock, seen.push e.born, hb', h2, h3, h4, h5, h6, hr', h8, h9', h9', ?_, List.nodup_cons.2 ⟨hxn, h11⟩, ?_⟩ ?_ ?_ ?_)
    · intro e' he'
      rw [Array.contains_push]
      constructor
      · intro hc
        simp only [Bool.or_eq_true, beq_iff_eq] at hc
        rcases hc with hc | hc
        · obtain ⟨y, hy, e1⟩ := (h10 e' he').1 hc
          exact ⟨y, List.mem_cons_of_mem _ hy, e1⟩
        · have e2 := nodup_map_inj (fun e : MapEntry => e.born) h2.2.1 he' hes hc
          exact ⟨x, by simp, by rw [e2, ek1]⟩
      · rintro ⟨y, hy, e1⟩
        rcases List.mem_cons.1 hy with rfl | hy
        · have e2 := nodup_map_inj (fun e : MapEntry => e.key) h2.2.2 he' hes (e1.trans ek1.symm)
          simp [e2]
        · rw [(h10 e' he').2 ⟨y, hy, e1⟩]; rfl
    · intro y hy
      rcases List.mem_cons.1 hy with rfl | hy
      · rw [(h6 _ v).2 hm]; rfl
      · exact h12 y hy
    · refine ⟨?_, ?_, ?_, ?_, ?_⟩
      · rcases hw1 with rfl | rfl <;> rfl
      · rcases hw1 with rfl | rfl <;> rfl
      · rcases hw1 with rfl | rfl <;> rfl
      · simp [setB, hw1s]
      · intro c _ hc
        rw [setB_other (fun e1 => hc (by rw [e1]))]; exact hw1b c
    · simp only [World.rangeLeft, hb', hr', h1, h7]
      exact left_shrinks es seen e he
    · have := run_entry_at (P := P) _ r b since seen es clock e hr' hb' hes h2.2.1
      rw [this, ek1, ev1]


end


/-! ### sorting -/
def ints (zs : List Int) : List Value := zs.map (Value.int .i64)

theorem sortInts_own (w : World) (base n : Nat) (v : Value) (zs : List Int) (hb : base ≤ w.heap.size) (h : w.ownsRow base 3 1 v n (ints zs)) (hl : n < 4611686018427387904) :
    Calls Try.prog 76 #[v] w fun e w' => e = .returned (.tuple #[]) ∧ w'.ownsRow base 3 1 v n (ints (zs.mergeSort fun x y => decide (x ≤ y))) ∧ w.grownBy w' v.ownBlock := by
  have hn : zs.length = n := by have := h.1; simpa [ints] using this
  rcases h.2 with ⟨rfl, h0⟩ | ⟨g, cap, cur, rfl, hbg, hg, h1, h2, h3, h4⟩
  · subst h0
    have : zs = [] := List.eq_nil_of_length_eq_zero hn
    subst this
    refine (Try.slices_Sort_int_none none 0 w).mono ?_
    rintro e w' ⟨rfl, rfl⟩
    exact ⟨rfl, by simpa using h, ⟨rfl, rfl, rfl, Nat.le_refl _, fun _ _ _ => rfl⟩⟩
  · subst hn
    refine (Try.slices_Sort_int g 0 cap zs w (holds_of_blockI hg (by simpa [ints] using h4)) (lt_of_block hg) hl).mono ?_
    rintro e w' ⟨rfl, m, os, rfl⟩
    refine ⟨rfl, ?_, grownBy_sortedI _⟩
    exact ownsRow_sortedI (List.length_mergeSort _) hbg hg h1 h2 h3


end Go.Dk

