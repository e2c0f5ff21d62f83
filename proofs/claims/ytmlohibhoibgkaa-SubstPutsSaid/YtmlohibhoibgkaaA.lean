/- Words that all texts of this seat use: what a write of one object leaves alone (colours of blocks), maps as functions, rows of formulas. Plain lemmas over any program. -/
import Derived.WalkKit
import Derived.Maps.Own
import Derived.Maps.OwnSet
import Derived.Lib.Hide
import Derived.WalkSpells
import Derived.WalkLawsBesides
import Derived.Maps.AppendAt
import Derived.Laws.AppendOwnNone
import Derived.Deep.AppendLies
namespace Go.Dk
open Go.RowKit Go.Maps Go.MapKept

/-! ### colours -/

abbrev Own := Nat → Nat

/-- From w to w' only blocks of colour k were written; old blocks keep their colour. -/
structure Kept (k : Nat) (ow : Own) (w : World) (ow' : Own) (w' : World) : Prop where
  os : w'.os = w.os
  tape : w'.tape = w.tape
  output : w'.output = w.output
  size : w.heap.size ≤ w'.heap.size
  own : ∀ b, b < w.heap.size → ow' b = ow b
  block : ∀ b, b < w.heap.size → ow b ≠ k → w'.heap[b]? = w.heap[b]?

theorem Kept.refl (k : Nat) (ow : Own) (w : World) : Kept k ow w ow w := ⟨rfl, rfl, rfl, Nat.le_refl _, fun _ _ => rfl, fun _ _ _ => rfl⟩
theorem Kept.trans {k : Nat} {o1 o2 o3 : Own} {w1 w2 w3 : World} (h : Kept k o1 w1 o2 w2) (g : Kept k o2 w2 o3 w3) : Kept k o1 w1 o3 w3 :=
  ⟨g.os.trans h.os, g.tape.trans h.tape, g.output.trans h.output, Nat.le_trans h.size g.size,
    fun b hb => (g.own b (Nat.lt_of_lt_of_le hb h.size)).trans (h.own b hb),
    fun b hb hk => (g.block b (Nat.lt_of_lt_of_le hb h.size) (by rw [h.own b hb]; exact hk)).trans (h.block b hb hk)⟩
theorem Kept.of_below {k : Nat} {ow : Own} {w w' : World} (h : Below w.heap.size w w') : Kept k ow w ow w' :=
  ⟨h.os, h.tape, h.output, h.size, fun _ _ => rfl, fun b hb _ => h.block b hb⟩
/-- The colours of new blocks are free. -/
theorem Kept.recolour {k : Nat} {ow ow' ow'' : Own} {w w' : World} (h : Kept k ow w ow' w') (g : ∀ b, b < w.heap.size → ow'' b = ow b) : Kept k ow w ow'' w' :=
  ⟨h.os, h.tape, h.output, h.size, g, h.block⟩

/-- The world's own relation 'Below' composed. -/
theorem below_trans {w w1 w2 : World} (h : Below w.heap.size w w1) (g : Below w1.heap.size w1 w2) : Below w.heap.size w w2 := h.trans (g.mono h.size)
theorem below_alloc (w : World) (o : Obj) : Below w.heap.size w (w.alloc o) := (Below.refl _ _).alloc (Nat.le_refl _) o
theorem below_drewN (w : World) (n : Nat) : Below w.heap.size w (w.drewN n) := ⟨rfl, rfl, rfl, Nat.le_refl _, fun _ _ => rfl⟩

theorem _root_.Go.RowKit.Below.kept_ow {w w' : World} (h : Below w.heap.size w w') {k : Nat} {ow : Own} : Kept k ow w ow w' := Kept.of_below h

/-- Nothing of colour k lies below base, the base's own colour is 0: what stood before stays. -/
theorem Kept.below {k : Nat} {ow ow' : Own} {w w' : World} {B : Nat} (h : Kept k ow w ow' w') (hB : B ≤ w.heap.size) (hz : ∀ b, b < B → ow b ≠ k) : Below B w w' :=
  ⟨h.os, h.tape, h.output, h.size, fun b hb => h.block b (Nat.lt_of_lt_of_le hb hB) (hz b hb)⟩

/-! ### cells -/
theorem cell_of {w : World} {b i : Nat} {cs : Array Value} {t : TypeId} {fr : Nat × Nat} {v : Value} (h : w.heap[b]? = some (.cells cs t fr)) (hi : cs[i]? = some v) : w.cell? ⟨b, i, none⟩ = some v := by
  simp [World.cell?, h, hi]
theorem frozen_of {w : World} {b i : Nat} {cs : Array Value} {t : TypeId} (h : w.heap[b]? = some (.cells cs t (0, 0))) : w.frozen? ⟨b, i, none⟩ = false := by
  simp [World.frozen?, h]
theorem lt_of_block {w : World} {b : Nat} {o : Obj} (h : w.heap[b]? = some o) : b < w.heap.size := (Array.getElem?_eq_some_iff.1 h).1

theorem kept_grown {w w' : World} {row : Option Nat} {ow : Own} {k : Nat} (hg : w.grownBy w' row) (h : ∀ g, row = some g → ow g = k) : Kept k ow w ow w' :=
  ⟨hg.os, hg.tape, hg.output, hg.size, fun _ _ => rfl, fun b hb hk => hg.block b hb (fun e => hk (h b e.symm))⟩
theorem kept_setCell (w : World) {a : Addr} {ow : Own} {k : Nat} (h : ow a.block = k) (u : Value) : Kept k ow w ow (w.setCell a u) :=
  ⟨rfl, rfl, rfl, by simp, fun _ _ => rfl, fun b _ hk => Below.heap_setCell _ _ _ _ (fun e => hk (by rw [e]; exact h))⟩
theorem grown_ad {w w' : World} {o : Obj} {row : Option Nat} (hg : (w.alloc o).drew.grownBy w' row) : w.grownBy w' row :=
  World.grownBy.trans (World.grownBy_alloc w o row) ⟨hg.os, hg.tape, hg.output, hg.size, hg.block⟩
theorem kept_drew (w : World) (ow : Own) (k : Nat) : Kept k ow w ow w.drew := ⟨rfl, rfl, rfl, Nat.le_refl _, fun _ _ => rfl, fun _ _ _ => rfl⟩

theorem own_ne {w : World} {base : Nat} {e : TypeId} {size : Nat} {v : Value} {n : Nat} {xs : List Value} (h : w.ownsRow base e size v n xs) {b : Nat} {o : Obj} (hb : w.heap[b]? = some o) (ho : ∀ cur fr, o ≠ .cells cur e fr) : v.ownBlock ≠ some b := by
  intro hk
  rcases h.2 with ⟨rfl, _⟩ | ⟨g, cap, cur, rfl, _, hg, _⟩
  · simp [Value.ownBlock] at hk
  · have : g = b := by simpa [Value.ownBlock] using hk
    subst this
    rw [hb] at hg
    cases hg
    exact ho _ _ rfl
theorem setCell_block {w : World} {b i : Nat} {cs : Array Value} {t : TypeId} {fr : Nat × Nat} (h : w.heap[b]? = some (.cells cs t fr)) (u : Value) : (w.setCell ⟨b, i, none⟩ u).heap[b]? = some (.cells (cs.setIfInBounds i u) t fr) := by
  simp [World.setCell, Array.getElem?_modify, h]

/-! ### maps as functions -/

/-- Block b is a map with these entries, in this order. -/
def KV (P : Program) (k : TypeId) (w : World) (b : Nat) (l : List (Value × Value)) : Prop :=
  ∃ es clock, w.heap[b]? = some (.map es clock) ∧ Stamped es clock ∧ (es.toList.map fun e => (e.key, e.val)) = l ∧ ∀ e ∈ es.toList, ∃ q, keyOf P k e.key = some q

theorem KV.lt {P : Program} {k : TypeId} {w : World} {b : Nat} {l : List (Value × Value)} (h : KV P k w b l) : b < w.heap.size := by
  obtain ⟨es, clock, hb, _⟩ := h
  exact lt_of_block hb
theorem KV.same {P : Program} {k : TypeId} {w w' : World} {b : Nat} {l : List (Value × Value)} (h : KV P k w b l) (e : w'.heap[b]? = w.heap[b]?) : KV P k w' b l := by
  obtain ⟨es, clock, hb, r⟩ := h
  exact ⟨es, clock, e.trans hb, r⟩
theorem KV.nodup {P : Program} {k : TypeId} {w : World} {b : Nat} {l : List (Value × Value)} (h : KV P k w b l) : (l.map (·.1)).Nodup := by
  obtain ⟨es, clock, hb, hs, rfl, _⟩ := h
  have := hs.2.2
  simpa [Function.comp_def] using this
theorem KV.made (P : Program) (k : TypeId) (w : World) : KV P k (w.alloc (.map #[] 0)) w.heap.size [] :=
  ⟨#[], 0, (heap_alloc w _).1, stamped_empty 0, rfl, by simp⟩

/-- A map whose keys are κ's, whose elements are ν's: as a function. -/
def TM {κ ν : Type} (P : Program) (k : TypeId) (ek : κ → Value) (ev : ν → Value) (w : World) (b : Nat) (f : κ → Option ν) : Prop :=
  ∃ l : List (κ × ν), KV P k w b (l.map fun p => (ek p.1, ev p.2)) ∧ (l.map (·.1)).Nodup ∧ ∀ x v, f x = some v ↔ (x, v) ∈ l

section
variable {κ ν : Type} {P : Program} {k : TypeId} {ek : κ → Value} {ev : ν → Value} {w : World} {b : Nat} {f : κ → Option ν}

theorem TM.lt (h : TM P k ek ev w b f) : b < w.heap.size := by obtain ⟨l, h, _⟩ := h; exact h.lt
theorem TM.same {w' : World} (h : TM P k ek ev w b f) (e : w'.heap[b]? = w.heap[b]?) : TM P k ek ev w' b f := by
  obtain ⟨l, h, r⟩ := h
  exact ⟨l, h.same e, r⟩
theorem TM.made (P : Program) (k : TypeId) (ek : κ → Value) (ev : ν → Value) (w : World) : TM P k ek ev (w.alloc (.map #[] 0)) w.heap.size (fun _ => none) :=
  ⟨[], KV.made P k w, by simp, by simp⟩
theorem TM.below {w' : World} (h : TM P k ek ev w b f) (hb : Below w.heap.size w w') : TM P k ek ev w' b f := h.same (hb.block b h.lt)
theorem TM.kept {w' : World} {ow ow' : Own} {c : Nat} (h : TM P k ek ev w b f) (hb : Kept c ow w ow' w') (hc : ow b ≠ c) : TM P k ek ev w' b f := h.same (hb.block b h.lt hc)

/-- What 'findKey' tells. -/
theorem TM.find (h : TM P k ek ev w b f) (K : Keyed P k) (inj : ∀ x y, ek x = ek y → x = y) {x : κ} {kl : Lit} (hkey : keyOf P k (ek x) = some kl) :
    ∃ es clock, w.heap[b]? = some (.map es clock) ∧ (((Instr.findKey k (ek x) es.toList).run P w = .ok none w ∧ f x = none) ∨
      ∃ j v, (Instr.findKey k (ek x) es.toList).run P w = .ok (some (j, ev v)) w ∧ f x = some v) := by
  obtain ⟨l, ⟨es, clock, hb, hs, hl, hk⟩, hnd, hf⟩ := h
  refine ⟨es, clock, hb, ?_⟩
  rcases K.find w hkey es.toList hk with ⟨h1, h2⟩ | ⟨j, e0, h1, h2, h3⟩
  · refine .inl ⟨h1, ?_⟩
    cases hx : f x with
    | none => rfl
    | some v =>
      have hm := (hf x v).1 hx
      have : (ek x, ev v) ∈ es.toList.map (fun e => (e.key, e.val)) := by rw [hl]; exact List.mem_map.2 ⟨(x, v), hm, rfl⟩
      obtain ⟨e, he, e1⟩ := List.mem_map.1 this
      simp only [Prod.mk.injEq] at e1
      exact absurd e1.1 (h2 e he)
  · have hm : (e0.key, e0.val) ∈ l.map (fun p => (ek p.1, ev p.2)) := by rw [← hl]; exact List.mem_map.2 ⟨e0, List.mem_of_getElem? h2, rfl⟩
    obtain ⟨⟨y, v⟩, hy, e1⟩ := List.mem_map.1 hm
    simp only [Prod.mk.injEq] at e1
    have : y = x := inj _ _ (e1.1.trans h3)
    subst this
    refine .inr ⟨j, v, ?_, (hf _ _).2 hy⟩
    rw [h1, e1.2]

/-- 'm[k]', 'v, ok := m[k]'. -/
theorem TM.look_none (h : TM P k ek ev w b f) (K : Keyed P k) (inj : ∀ x y, ek x = ek y → x = y) {t e : TypeId} (ht : P.underlying t = some (.map k e)) {z : Value} (hz : (zeroValue e).run P w = .ok z w)
    {x : κ} {kl : Lit} (hkey : keyOf P k (ek x) = some kl) (c : Bool) (hx : f x = none) : (Instr.lookup t (.map (some b)) (ek x) c).run P w = .ok (if c then .tuple #[z, .bool false] else z) w := by
  obtain ⟨es, clock, hb, h1 | ⟨j, v, h1, h2⟩⟩ := h.find K inj hkey
  · simp [Instr.lookup, run_underlying ht, MapKept.run_getObj_map hb, K.check w _ hkey, h1.1, hz, Result.andThen]
  · rw [hx] at h2; cases h2
theorem TM.look_some (h : TM P k ek ev w b f) (K : Keyed P k) (inj : ∀ x y, ek x = ek y → x = y) {t e : TypeId} (ht : P.underlying t = some (.map k e))
    {x : κ} {kl : Lit} (hkey : keyOf P k (ek x) = some kl) (c : Bool) {v : ν} (hx : f x = some v) : (Instr.lookup t (.map (some b)) (ek x) c).run P w = .ok (if c then .tuple #[ev v, .bool true] else ev v) w := by
  obtain ⟨es, clock, hb, h1 | ⟨j, v', h1, h2⟩⟩ := h.find K inj hkey
  · rw [hx] at h1; cases h1.2
  · rw [hx] at h2
    cases h2
    simp [Instr.lookup, run_underlying ht, MapKept.run_getObj_map hb, K.check w _ hkey, h1, Result.andThen]

def setB (w : World) (b : Nat) (o : Obj) : World := { w with heap := w.heap.setIfInBounds b o }
theorem setB_same {w : World} {b : Nat} {o : Obj} (hb : b < w.heap.size) : (setB w b o).heap[b]? = some o := by simp [setB, hb]
theorem setB_other {w : World} {b c : Nat} {o : Obj} (hc : c ≠ b) : (setB w b o).heap[c]? = w.heap[c]? := by
  simp only [setB, Array.getElem?_setIfInBounds]
  rw [if_neg (Ne.symm hc)]

open Classical in
noncomputable def upd {κ ν : Type} (f : κ → Option ν) (x : κ) (v : Option ν) : κ → Option ν := fun y => if y = x then v else f y
theorem upd_same {κ ν : Type} (f : κ → Option ν) (x : κ) (v : Option ν) : upd f x v x = v := by simp [upd]
theorem upd_other {κ ν : Type} (f : κ → Option ν) {x y : κ} (v : Option ν) (h : y ≠ x) : upd f x v y = f y := by simp [upd, h]

/-- From w to w' block b alone was written. -/
structure Only (b : Nat) (w w' : World) : Prop where
  os : w'.os = w.os
  tape : w'.tape = w.tape
  output : w'.output = w.output
  size : w'.heap.size = w.heap.size
  block : ∀ c, c ≠ b → w'.heap[c]? = w.heap[c]?
theorem only_setB (w : World) (b : Nat) (o : Obj) : Only b w (setB w b o) := ⟨rfl, rfl, rfl, by simp [setB], fun _ h => setB_other h⟩
theorem Only.kept {b : Nat} {w w' : World} (h : Only b w w') {ow : Own} {k : Nat} (hk : ow b = k) : Kept k ow w ow w' :=
  ⟨h.os, h.tape, h.output, by rw [h.size]; exact Nat.le_refl _, fun _ _ => rfl, fun c _ hc => h.block c (fun e => hc (e ▸ hk))⟩
theorem Only.below {b : Nat} {w w' : World} (h : Only b w w') {B : Nat} (hB : B ≤ b) : Below B w w' :=
  ⟨h.os, h.tape, h.output, by rw [h.size]; exact Nat.le_refl _, fun c hc => h.block c (by omega)⟩

/-- 'm[k] = v'. -/
theorem TM.put (h : TM P k ek ev w b f) (K : Keyed P k) (inj : ∀ x y, ek x = ek y → x = y) {t e : TypeId} (ht : P.underlying t = some (.map k e)) {x : κ} {kl : Lit} (hkey : keyOf P k (ek x) = some kl) (v : ν) :
    ∃ w', (Instr.mapUpdate t (.map (some b)) (ek x) (ev v)).run P w = .ok () w' ∧ TM P k ek ev w' b (upd f x (some v)) ∧ Only b w w' := by
  obtain ⟨l, ⟨es, clock, hb, hs, hl, hk⟩, hnd, hf⟩ := h
  have hbl := lt_of_block hb
  rcases K.find w hkey es.toList hk with ⟨h1, h2⟩ | ⟨j, e0, h1, h2, h3⟩
  · have hnot : ∀ v', (x, v') ∉ l := fun v' hv' => by
      have : (ek x, ev v') ∈ es.toList.map (fun e => (e.key, e.val)) := by rw [hl]; exact List.mem_map.2 ⟨(x, v'), hv', rfl⟩
      obtain ⟨e, he, e1⟩ := List.mem_map.1 this
      simp only [Prod.mk.injEq] at e1
      exact h2 e he e1.1
    refine ⟨setB w b (.map (es.push ⟨ek x, ev v, clock⟩) (clock + 1)), ?_, ⟨l ++ [(x, v)], ⟨_, _, setB_same hbl, stamped_push hs h2, ?_, ?_⟩, ?_, ?_⟩, only_setB _ _ _⟩
    · simp [Instr.mapUpdate, run_underlying ht, MapKept.run_getObj_map hb, K.check w false hkey, h1, MapKept.run_setObj_map _ hb, Result.andThen, setB]
    · simp [hl]
    · intro e he
      simp only [Array.toList_push, List.mem_append, List.mem_singleton] at he
      rcases he with he | rfl
      · exact hk e he
      · exact ⟨_, hkey⟩
    · simp only [List.map_append, List.map_cons, List.map_nil]
      refine List.nodup_append.2 ⟨hnd, by simp, ?_⟩
      intro a ha c hc e1
      simp only [List.mem_singleton] at hc
      subst hc; subst e1
      obtain ⟨⟨y, u⟩, hy, rfl⟩ := List.mem_map.1 ha
      exact hnot u hy
    · intro y u
      by_cases e1 : y = x
      · subst e1
        rw [upd_same]
        constructor
        · intro h; cases h; simp
        · intro h
          simp only [List.mem_append, List.mem_singleton, Prod.mk.injEq, true_and] at h
          rcases h with h | h
          · exact absurd h (hnot u)
          · rw [h]
      · rw [upd_other _ _ e1, hf]
        simp [e1]
  · have hj : es[j]? = some e0 := by simpa using h2
    have hjl : j < es.toList.length := (List.getElem?_eq_some_iff.1 h2).1
    have hlj : ∃ u0, l[j]? = some (x, u0) := by
      have : (es.toList.map (fun e => (e.key, e.val)))[j]? = some (e0.key, e0.val) := by simp [h2]
      rw [hl, List.getElem?_map] at this
      cases hlj : l[j]? with
      | none => simp [hlj] at this
      | some p =>
        simp only [hlj, Option.map_some, Option.some.injEq, Prod.mk.injEq] at this
        exact ⟨p.2, by rw [← inj _ _ (this.1.trans h3)]⟩
    obtain ⟨u0, hlj⟩ := hlj
    have hjl' : j < l.length := (List.getElem?_eq_some_iff.1 hlj).1
    have hkeyf : ∀ e', es[j]? = some e' → ({ e' with key := ek x, val := ev v } : MapEntry).key = e'.key := fun e' he' => by rw [hj] at he'; cases he'; exact h3.symm
    have hlist : (es.modify j (fun e' => { e' with key := ek x, val := ev v })).toList = es.toList.set j { e0 with key := ek x, val := ev v } := by rw [Array.toList_modify, Go.ChangeMaps.modify_eq_set _ _ _ _ h2]
    refine ⟨setB w b (.map (es.modify j (fun e' => { e' with key := ek x, val := ev v })) clock), ?_, ⟨l.set j (x, v), ⟨_, _, setB_same hbl, stamped_modify hs _ _ (fun _ _ => rfl) (fun e' _ he' => hkeyf e' he'), ?_, ?_⟩, ?_, ?_⟩, only_setB _ _ _⟩
    · simp [Instr.mapUpdate, run_underlying ht, MapKept.run_getObj_map hb, K.check w false hkey, h1, hj, h3, K.stays w hkey, MapKept.run_setObj_map _ hb, Result.andThen, setB]
    · rw [hlist, List.map_set, hl, List.map_set]
    · intro e he
      rw [hlist] at he
      rcases List.mem_or_eq_of_mem_set he with he | rfl
      · exact hk e he
      · exact ⟨_, hkey⟩
    · rw [List.map_set]
      have : (l.map (·.1)).set j x = l.map (·.1) := by
        apply List.ext_getElem?
        intro i
        rw [List.getElem?_set]
        split
        · rename_i e1; subst e1
          have := (List.getElem?_eq_some_iff.1 hlj).2
          simp [hjl', this]
        · rfl
      rw [this]; exact hnd
    · intro y u
      have hset : (y, u) ∈ l.set j (x, v) ↔ (y = x ∧ u = v) ∨ (y ≠ x ∧ (y, u) ∈ l) := by
        constructor
        · intro hm
          obtain ⟨i, hi⟩ := List.mem_iff_getElem?.1 hm
          rw [List.getElem?_set] at hi
          split at hi
          · rename_i e1
            subst e1
            simp only [Option.some.injEq, Prod.mk.injEq] at hi
            exact .inl ⟨hi.1.symm, hi.2.symm⟩
          · rename_i hne
            refine .inr ⟨fun e1 => hne ?_, List.mem_of_getElem? hi⟩
            subst e1
            have a1 : (l.map (·.1))[i]? = some y := by simp [hi]
            have a2 : (l.map (·.1))[j]? = some y := by simp [hlj]
            have il := (List.getElem?_eq_some_iff.1 a1).1
            have jl := (List.getElem?_eq_some_iff.1 a2).1
            exact ((List.getElem_inj hnd (h₀ := jl) (h₁ := il)).1 ((List.getElem?_eq_some_iff.1 a2).2.trans (List.getElem?_eq_some_iff.1 a1).2.symm))
        · rintro (⟨rfl, rfl⟩ | ⟨hne, hm⟩)
          · exact List.mem_iff_getElem?.2 ⟨j, by simp [hjl']⟩
          · obtain ⟨i, hi⟩ := List.mem_iff_getElem?.1 hm
            refine List.mem_iff_getElem?.2 ⟨i, ?_⟩
            rw [List.getElem?_set]
            split
            · rename_i e1; subst e1; rw [hlj] at hi; cases hi; exact absurd rfl hne
            · exact hi
      rw [hset]
      by_cases e1 : y = x
      · subst e1
        rw [upd_same]
        constructor
        · intro h; cases h; exact .inl ⟨rfl, rfl⟩
        · rintro (⟨_, rfl⟩ | ⟨h, _⟩)
          · rfl
          · exact absurd rfl h
      · rw [upd_other _ _ e1, hf]
        constructor
        · intro h; exact .inr ⟨e1, h⟩
        · rintro (⟨h, _⟩ | ⟨_, h⟩)
          · exact absurd h e1
          · exact h

/-- 'delete(m, k)'. -/
theorem TM.del (h : TM P k ek ev w b f) (K : Keyed P k) (inj : ∀ x y, ek x = ek y → x = y) {t e : TypeId} (ht : P.underlying t = some (.map k e)) {x : κ} {kl : Lit} (hkey : keyOf P k (ek x) = some kl) (ty : TypeId) :
    ∃ w', (Builtin.delete_ #[t, k] ty #[.map (some b), ek x]).run P w = .ok (.tuple #[]) w' ∧ TM P k ek ev w' b (upd f x none) ∧ Only b w w' := by
  obtain ⟨l, ⟨es, clock, hb, hs, hl, hk⟩, hnd, hf⟩ := h
  have hbl := lt_of_block hb
  rcases K.find w hkey es.toList hk with ⟨h1, h2⟩ | ⟨j, e0, h1, h2, h3⟩
  · have hnot : ∀ v', (x, v') ∉ l := fun v' hv' => by
      have : (ek x, ev v') ∈ es.toList.map (fun e => (e.key, e.val)) := by rw [hl]; exact List.mem_map.2 ⟨(x, v'), hv', rfl⟩
      obtain ⟨e, he, e1⟩ := List.mem_map.1 this
      simp only [Prod.mk.injEq] at e1
      exact h2 e he e1.1
    refine ⟨setB w b (.map es clock), ?_, ⟨l, ⟨_, _, setB_same hbl, hs, hl, hk⟩, hnd, ?_⟩, only_setB _ _ _⟩
    · simp [Builtin.delete_, run_underlying ht, MapKept.run_getObj_map hb, K.check w _ hkey, h1, MapKept.run_setObj_map _ hb, Result.andThen, setB]
    · intro y u
      by_cases e1 : y = x
      · subst e1; rw [upd_same]; simp [hnot u]
      · rw [upd_other _ _ e1, hf]
  · have hjl : j < es.toList.length := (List.getElem?_eq_some_iff.1 h2).1
    have hjs : j < es.size := by simpa using hjl
    have hsub : (es.eraseIdxIfInBounds j).toList = es.toList.eraseIdx j := by
      unfold Array.eraseIdxIfInBounds
      rw [dif_pos hjs]
      simp
    have hlj : ∃ u0, l[j]? = some (x, u0) := by
      have : (es.toList.map (fun e => (e.key, e.val)))[j]? = some (e0.key, e0.val) := by simp [h2]
      rw [hl, List.getElem?_map] at this
      cases hlj : l[j]? with
      | none => simp [hlj] at this
      | some p =>
        simp only [hlj, Option.map_some, Option.some.injEq, Prod.mk.injEq] at this
        exact ⟨p.2, by rw [← inj _ _ (this.1.trans h3)]⟩
    obtain ⟨u0, hlj⟩ := hlj
    refine ⟨setB w b (.map (es.eraseIdxIfInBounds j) clock), ?_, ⟨l.eraseIdx j, ⟨_, _, setB_same hbl, stamped_erase hs j, ?_, ?_⟩, ?_, ?_⟩, only_setB _ _ _⟩
    · simp [Builtin.delete_, run_underlying ht, MapKept.run_getObj_map hb, K.check w _ hkey, h1, MapKept.run_setObj_map _ hb, Result.andThen, setB]
    · rw [hsub, Go.ChangeMaps.map_eraseIdx, hl, Go.ChangeMaps.map_eraseIdx]
    · intro e he
      rw [hsub] at he
      exact hk e ((List.eraseIdx_sublist _ _).subset he)
    · rw [Go.ChangeMaps.map_eraseIdx]
      exact hnd.sublist (List.eraseIdx_sublist _ _)
    · intro y u
      have hset : (y, u) ∈ l.eraseIdx j ↔ y ≠ x ∧ (y, u) ∈ l := by
        rw [List.mem_eraseIdx_iff_getElem?]
        constructor
        · rintro ⟨i, hne, hi⟩
          refine ⟨fun e1 => hne ?_, List.mem_of_getElem? hi⟩
          subst e1
          have a1 : (l.map (·.1))[i]? = some y := by simp [hi]
          have a2 : (l.map (·.1))[j]? = some y := by simp [hlj]
          have il := (List.getElem?_eq_some_iff.1 a1).1
          have jl := (List.getElem?_eq_some_iff.1 a2).1
          exact ((List.getElem_inj hnd (h₀ := il) (h₁ := jl)).1 ((List.getElem?_eq_some_iff.1 a1).2.trans (List.getElem?_eq_some_iff.1 a2).2.symm))
        · rintro ⟨hne, hm⟩
          obtain ⟨i, hi⟩ := List.mem_iff_getElem?.1 hm
          refine ⟨i, fun e1 => ?_, hi⟩
          subst e1; rw [hlj] at hi; cases hi; exact hne rfl
      rw [hset]
      by_cases e1 : y = x
      · subst e1; rw [upd_same]; simp
      · rw [upd_other _ _ e1, hf]; simp [e1]

/-- 'm[k] = v' behind 'at_mapUpdate'. -/
theorem wp_put {ops : Array Oper} {rest : List Oper} {o : Oper} {a : Act} {Q : Exit → Act → World → Prop}
    (h : TM P k ek ev w b f) (K : Keyed P k) (inj : ∀ x y, ek x = ek y → x = y) (hg : o.guard = none) (m x v : Operand) (t e : TypeId) (hop : o.op = Op.mapUpdate t m x v) (ht : P.underlying t = some (.map k e))
    (hm : a.eval m = .map (some b)) (y : κ) (hx : a.eval x = ek y) (u : ν) (hv : a.eval v = ev u) {kl : Lit} (hkey : keyOf P k (ek y) = some kl)
    (hK : ∀ w', TM P k ek ev w' b (upd f y (some u)) → Only b w w' → wpList P ops Q rest (a.put o.dst undef) w') : wpList P ops Q (o :: rest) a w := by
  obtain ⟨w', hrun, h1, h2⟩ := h.put K inj ht hkey u
  refine wpList_plain hg fun C hC => ?_
  have : (execOp a.eval o).run P w = .ok .skip w' := by
    simp [execOp, hop, hm, hx, hv, hrun, Result.andThen]
  simp only [Oper.wp, this, Oper.upon_skip]
  exact hC _ _ (hK w' h1 h2)


end


/-! ### slices that are read -/

/-- The slice v has n elements of size cells each, which are the cells xs. -/
structure Rd (w : World) (v : Value) (n size : Nat) (xs : List Value) : Prop where
  shape : ∃ a c, v = .slice a n c ∧ (a = none → n = 0 ∧ c = 0) ∧ ∀ ad, a = some ad → (n ≠ 0 → ad.spot = none) ∧ ∀ j u, xs[j]? = some u → w.cell? ⟨ad.block, ad.off + j, none⟩ = some u
  len : xs.length = n * size

theorem Rd.below {w w' : World} {v : Value} {n size : Nat} {xs : List Value} (h : Rd w v n size xs) (hb : Below w.heap.size w w') : Rd w' v n size xs := by
  obtain ⟨⟨a, c, e, h1, h2⟩, hl⟩ := h
  refine ⟨⟨a, c, e, h1, fun ad ha => ⟨(h2 ad ha).1, fun j u hu => ?_⟩⟩, hl⟩
  have hc := (h2 ad ha).2 j u hu
  exact (hb.cell (World.block_lt_of_cell? w _ hc)).trans hc
theorem Rd.belowB {w w' : World} {v : Value} {n size B : Nat} {xs : List Value} (h : Rd w v n size xs) (hB : B = w.heap.size) (hb : Below B w w') : Rd w' v n size xs := h.below (hB ▸ hb)
theorem rd_own {w : World} {base : Nat} {e : TypeId} {size : Nat} {v : Value} {n : Nat} {xs : List Value} (h : w.ownsRow base e size v n xs) : Rd w v n size xs := by
  refine ⟨?_, h.1⟩
  rcases h.2 with ⟨rfl, rfl⟩ | ⟨g, cap, cur, rfl, _⟩
  · exact ⟨none, 0, rfl, fun _ => ⟨rfl, rfl⟩, fun _ h => by cases h⟩
  · refine ⟨_, cap, rfl, fun h => by (cases h), fun ad ha => ?_⟩
    cases ha
    refine ⟨fun _ => rfl, fun j u hu => ?_⟩
    have := h.cells (g := g) rfl j u hu
    rw [show (⟨g, 0, none⟩ : Addr).add j = ⟨g, j, none⟩ by unfold Addr.add; split <;> simp_all] at this
    simpa using this
theorem Rd.some {w : World} {v : Value} {n size : Nat} {xs : List Value} (h : Rd w v n size xs) (hn : 0 < n) : ∃ b o c, v = .slice (some ⟨b, o, none⟩) n c ∧ ∀ j u, xs[j]? = some u → w.cell? ⟨b, o + j, none⟩ = some u := by
  obtain ⟨⟨a, c, rfl, h1, h2⟩, hl⟩ := h
  cases a with
  | none => have := (h1 rfl).1; omega
  | some ad =>
    obtain ⟨b, o, s⟩ := ad
    obtain ⟨h3, h4⟩ := h2 _ rfl
    have h3 := h3 (by omega)
    simp only at h3
    subst h3
    exact ⟨b, o, c, rfl, h4⟩
theorem Rd.slice {w : World} {v : Value} {n size : Nat} {xs : List Value} (h : Rd w v n size xs) : ∃ a c, v = .slice a n c := by
  obtain ⟨⟨a, c, e, _⟩, _⟩ := h; exact ⟨a, c, e⟩

/-- append(v, u...): v the call's own or nil, u whatever can be read. -/
theorem wp_append {P : Program} {w : World} {ops : Array Oper} {rest : List Oper} {o : Oper} {a : Act} {Q : Exit → Act → World → Prop} (hgd : o.guard = none) (s x : Operand) (t : TypeId)
    (ho : o.op = .call { callee := .builtin .append, args := #[s, x], argTypes := #[t, t] })
    (base : Nat) (e : TypeId) (z : Value) (size bytes : Nat) (ht : P.underlying t = some (.slice e)) (hinfo : (P.info? e).map (fun i => (i.zero, i.size, i.bytes)) = some (some z, size, bytes)) (hzs : z.cells.size = size) (hsz : 0 < size) (hby : 0 < bytes)
    (v : Value) (n : Nat) (xs : List Value) (hs : a.eval s = v) (hown : w.ownsRow base e size v n xs)
    (u : Value) (m : Nat) (ys : List Value) (hx : a.eval x = u) (hrd : Rd w u m size ys) (h1 : ∀ y ∈ ys, y.oneCell' = true)
    (hbytes : (n + m) * bytes ≤ 140737488355328) (hbase : base ≤ w.heap.size)
    (h : ∀ v' w', w'.ownsRow base e size v' (n + m) (xs ++ ys) → w.grownBy w' v.ownBlock → (v'.ownBlock = v.ownBlock ∨ v'.ownBlock = some w.heap.size) → (v' = .slice none 0 0 ↔ v = .slice none 0 0 ∧ m = 0) → wpList P ops Q rest (a.put o.dst v') w') :
    wpList P ops Q (o :: rest) a w := by
  obtain ⟨i, hi, hzz⟩ := Option.map_eq_some_iff.1 hinfo
  simp only [Prod.mk.injEq] at hzz
  obtain ⟨hz0, hz1, hz2⟩ := hzz
  obtain ⟨⟨a', c, rfl, h2, h3⟩, hl⟩ := hrd
  have h63 : n + m ≤ maxLen := by
    have := Nat.le_mul_of_pos_right (n + m) hby
    unfold maxLen; omega
  cases a' with
  | none =>
    obtain ⟨rfl, rfl⟩ := h2 rfl
    have : ys = [] := List.eq_nil_of_length_eq_zero (by rw [hl]; omega)
    subst this
    exact wpList_append_own_none hgd s x t ho base e i size ht hi v n xs hs hown hx (h v w (by simpa using hown) ⟨rfl, rfl, rfl, Nat.le_refl _, fun _ _ _ => rfl⟩ (.inl rfl) (by simp))
  | some ad =>
    obtain ⟨h4, h5⟩ := h3 _ rfl
    refine wpList_append_own_at w hgd s x t ho base e i z size bytes ht hi hz0 hz1 hz2 hzs hsz v n xs hs hown ad m c ys hx hl ?_ h1 h63 hbytes hbase ?_
    · intro j y hy
      have := h5 j y hy
      have h6 := h4 (by rintro rfl; rw [Nat.zero_mul] at hl; have := (List.getElem?_eq_some_iff.1 hy).1; omega)
      obtain ⟨b, o', sp⟩ := ad
      simp only at h6
      subst h6
      unfold Addr.add
      split
      · rename_i hj; subst hj; exact this
      · exact this
    · intro v' w' g1 g2 g3 g4
      exact h v' w' g1 g2 g4 g3


end Go.Dk

