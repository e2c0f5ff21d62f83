/- Below of a living table: the closure that goes down. -/
import Derived.Test.YtmlohibhoibgkaaJ
import Derived.Test.YtmlohibhoibgkaaB
import Derived.Test.YtmlohibhoibgkaaPu
namespace Go.Dk
open Go.RowKit Go.Maps Go.MapKept
open Go.Proofs

theorem natV_inj : ∀ x y : Nat, natV x = natV y → x = y := by
  intro x y h
  simp only [natV, Value.int.injEq, true_and] at h
  omega
theorem lawInt : Keyed Try.prog 3 := int_keyed Try.underlying3
theorem keyNat (i : Nat) (h : i ≤ 9223372036854775807) : keyOf Try.prog 3 (natV i) = some (.int .i64 (i : Int)) := keyOf_int_mk Try.underlying3 (wf64 (by omega))
theorem zeroInt (w : World) : (zeroValue 3).run Try.prog w = .ok (.int .i64 0) w := by kernel_rfl

def oneV (_ : Unit) : Value := .int .i64 1
/-- A map whose keys are the numbers of a set. -/
abbrev SetM (w : World) (b : Nat) (f : Nat → Option Unit) : Prop := TM Try.prog 3 natV oneV w b f

/-- What the closure has captured, and the table's rows. -/
structure Env (w : World) (ib tb db mb pb mt : Nat) (v : Value) (rows : List ND) : Prop where
  hi : w.heap[ib]? = some (.cells #[.map (some mb)] 107 (0, 0))
  ht : w.heap[tb]? = some (.cells #[.pointer (some ⟨pb, 0, none⟩)] 24 (0, 0))
  hd : w.heap[db]? = some (.cells #[.func (.func 75) #[] #[.pointer (some ⟨ib, 0, none⟩), .pointer (some ⟨tb, 0, none⟩), .pointer (some ⟨db, 0, none⟩)]] 120 (0, 0))
  hp : w.heap[pb]? = some (.cells #[v, .map (some mt)] 91 (0, 0))
  hr : w.ownsRow 0 36 4 v rows.length (nodeCells rows)
  ok : Ok rows

theorem Env.step {w w' : World} {ib tb db mb pb mt : Nat} {v : Value} {rows : List ND} {f : Nat → Option Unit} (h : Env w ib tb db mb pb mt v rows) (hm : SetM w mb f) (hg : w.grownBy w' (some mb)) : Env w' ib tb db mb pb mt v rows := by
  obtain ⟨_, ⟨es, clock, hes, _⟩, _⟩ := hm
  have ne : ∀ {b : Nat} {cs : Array Value} {t : TypeId} {fr : Nat × Nat}, w.heap[b]? = some (.cells cs t fr) → w'.heap[b]? = some (.cells cs t fr) := fun {b cs t fr} hb =>
    (hg.block b (lt_of_block hb) (fun e => by cases e; rw [hes] at hb; cases hb)).trans hb
  refine ⟨ne h.hi, ne h.ht, ne h.hd, ne h.hp, ⟨h.hr.1, ?_⟩, h.ok⟩
  rcases h.hr.2 with h1 | ⟨g, cap, cur, rfl, hb, hg', r⟩
  · exact .inl h1
  · exact .inr ⟨g, cap, cur, rfl, hb, ne hg', r⟩

theorem _root_.Go.Dk.Only.grown {b : Nat} {w w' : World} (h : Only b w w') : w.grownBy w' (some b) :=
  ⟨h.os, h.tape, h.output, by rw [h.size]; exact Nat.le_refl _, fun k _ hk => h.block k (fun e => hk (by rw [e]))⟩

/-- The cells that the closure reads. -/
structure EnvC (w : World) (ib tb db mb pb g c len : Nat) (i : Nat) (n : ND) : Prop where
  c1 : w.cell? ⟨ib, 0, none⟩ = some (.map (some mb))
  c2 : w.cell? ⟨tb, 0, none⟩ = some (.pointer (some ⟨pb, 0, none⟩))
  c3 : w.cell? ⟨db, 0, none⟩ = some (.func (.func 75) #[] #[.pointer (some ⟨ib, 0, none⟩), .pointer (some ⟨tb, 0, none⟩), .pointer (some ⟨db, 0, none⟩)])
  c4 : w.cell? ⟨pb, 0, none⟩ = some (.slice (some ⟨g, 0, none⟩) len c)
  d0 : w.cell? ⟨g, i * 4, none⟩ = some (.int .i64 n.kind)
  d1 : w.cell? ⟨g, i * 4 + 1, none⟩ = some (.string n.name)
  d2 : w.cell? ⟨g, i * 4 + 2, none⟩ = some (.int .i64 n.l)
  d3 : w.cell? ⟨g, i * 4 + 3, none⟩ = some (.int .i64 n.r)
  l3 : db < w.heap.size

theorem Env.cells {w : World} {ib tb db mb pb mt g c : Nat} {rows : List ND} (h : Env w ib tb db mb pb mt (.slice (some ⟨g, 0, none⟩) rows.length c) rows) {i : Nat} {n : ND} (hi : rows[i]? = some n) : EnvC w ib tb db mb pb g c rows.length i n := by
  have hl := (List.getElem?_eq_some_iff.1 hi).1
  obtain ⟨g', c', hv, hg, hc⟩ := own_some h.hr (by omega)
  cases hv
  exact ⟨cell_of h.hi rfl, cell_of h.ht rfl, cell_of h.hd rfl, cell_of h.hp rfl, hc _ _ (nodeCells_at rows i n hi 0 (by omega)), hc _ _ (nodeCells_at rows i n hi 1 (by omega)), hc _ _ (nodeCells_at rows i n hi 2 (by omega)), hc _ _ (nodeCells_at rows i n hi 3 (by omega)), lt_of_block h.hd⟩

theorem Env.below {w w' : World} {ib tb db mb pb mt : Nat} {v : Value} {rows : List ND} (h : Env w ib tb db mb pb mt v rows) (hb : Below w.heap.size w w') : Env w' ib tb db mb pb mt v rows := by
  have ne : ∀ {b : Nat} {o : Obj}, w.heap[b]? = some o → w'.heap[b]? = some o := fun {b o} hx => (hb.block b (lt_of_block hx)).trans hx
  refine ⟨ne h.hi, ne h.ht, ne h.hd, ne h.hp, ⟨h.hr.1, ?_⟩, h.ok⟩
  rcases h.hr.2 with h1 | ⟨g, cap, cur, rfl, hb, hg', r⟩
  · exact .inl h1
  · exact .inr ⟨g, cap, cur, rfl, hb, ne hg', r⟩

/-- What going down from row i has made of the set. -/
structure Down (rows : List ND) (i : Nat) (f f' : Nat → Option Unit) : Prop where
  more : ∀ j, f j = some () → f' j = some ()
  self : f' i = some ()
  only : ∀ j, f' j = some () → f j = some () ∨ Reach rows i j
  shut : ∀ j n, f' j = some () → f j = none → rows[j]? = some n → 3 ≤ n.kind → f' n.l.toNat = some () ∧ f' n.r.toNat = some ()

theorem Down.same {rows : List ND} {i : Nat} {f : Nat → Option Unit} (h : f i = some ()) : Down rows i f f :=
  ⟨fun _ h => h, h, fun _ h => .inl h, fun j n h1 h2 => by rw [h1] at h2; cases h2⟩

theorem unit_cases (x : Option Unit) : x = none ∨ x = some () := by cases x with | none => exact .inl rfl | some u => exact .inr rfl

theorem Down.leaf {rows : List ND} {i : Nat} {n : ND} {f : Nat → Option Unit} (hi : rows[i]? = some n) (hk : ¬ 3 ≤ n.kind) : Down rows i f (upd f i (some ())) := by
  refine ⟨fun j hj => ?_, upd_same _ _ _, fun j hj => ?_, fun j m h1 h2 h3 h4 => ?_⟩
  · by_cases e : j = i
    · subst e; exact upd_same _ _ _
    · rw [upd_other _ _ e]; exact hj
  · by_cases e : j = i
    · subst e; exact .inr (.refl _)
    · rw [upd_other _ _ e] at hj; exact .inl hj
  · by_cases e : j = i
    · subst e; rw [hi] at h3; cases h3; exact absurd h4 hk
    · rw [upd_other _ _ e] at h1; rw [h1] at h2; cases h2

theorem Down.node {rows : List ND} {i : Nat} {n : ND} {f f1 f2 : Nat → Option Unit} (hi : rows[i]? = some n) (hk : 3 ≤ n.kind) (h1 : Down rows n.l.toNat (upd f i (some ())) f1) (h2 : Down rows n.r.toNat f1 f2) : Down rows i f f2 := by
  have up : ∀ j, f j = some () → upd f i (some ()) j = some () := fun j hj => by
    by_cases e : j = i
    · subst e; exact upd_same _ _ _
    · rw [upd_other _ _ e]; exact hj
  refine ⟨fun j hj => h2.more j (h1.more j (up j hj)), h2.more _ (h1.more _ (upd_same _ _ _)), fun j hj => ?_, fun j m a b c d => ?_⟩
  · rcases h2.only j hj with h | h
    · rcases h1.only j h with h | h
      · by_cases e : j = i
        · subst e; exact .inr (.refl _)
        · rw [upd_other _ _ e] at h; exact .inl h
      · exact .inr (.left hi hk h)
    · exact .inr (.right hi hk h)
  · rcases unit_cases (f1 j) with h | h
    · exact h2.shut j m a h c d
    · by_cases e : j = i
      · subst e
        rw [hi] at c; cases c
        exact ⟨h2.more _ h1.self, h2.self⟩
      · have := h1.shut j m h (by rw [upd_other _ _ e]; exact b) c d
        exact ⟨h2.more _ this.1, h2.more _ this.2⟩

/-- From an empty set: just what lies below. -/
theorem Down.all {rows : List ND} {i : Nat} {f : Nat → Option Unit} (h : Down rows i (fun _ => none) f) (j : Nat) : f j = some () ↔ Reach rows i j := by
  constructor
  · intro hj
    rcases h.only j hj with h | h
    · cases h
    · exact h
  · intro hr
    have : ∀ a b, Reach rows a b → f a = some () → f b = some () := by
      intro a b hab
      induction hab with
      | refl => exact fun h => h
      | left a1 a2 _ ih => exact fun ha => ih (h.shut _ _ ha rfl a1 a2).1
      | right a1 a2 _ ih => exact fun ha => ih (h.shut _ _ ha rfl a1 a2).2
    exact this _ _ hr h.self

set_option maxRecDepth 100000 in
set_option maxHeartbeats 400000 in
theorem down_any (ib tb db mb pb mt : Nat) (v : Value) (rows : List ND) (i : Nat) : ∀ (w : World) (f : Nat → Option Unit), i < rows.length → Env w ib tb db mb pb mt v rows → SetM w mb f →
    Calls Try.prog 75 #[.int .i64 (i : Int), .pointer (some ⟨ib, 0, none⟩), .pointer (some ⟨tb, 0, none⟩), .pointer (some ⟨db, 0, none⟩)] w fun e w' => e = .returned (.tuple #[]) ∧ ∃ f', w.grownBy w' (some mb) ∧ SetM w' mb f' ∧ Down rows i f f' := by
  induction i using Nat.strongRecOn with
  | _ i ih =>
    intro w f hi hE hm
    have hle := hE.ok.le
    obtain ⟨n, hn⟩ : ∃ n, rows[i]? = some n := ⟨_, List.getElem?_eq_getElem hi⟩
    have c1 : w.cell? ⟨ib, 0, none⟩ = some (.map (some mb)) := cell_of hE.hi rfl
    have hkey := keyNat i (by omega)
    rcases unit_cases (f i) with h0 | h0
    · have hl : (Instr.lookup 107 (.map (some mb)) (.int .i64 (i : Int)) false).run Try.prog w = .ok (.int .i64 0) w := hm.look_none lawInt natV_inj Try.underlying107 (zeroInt _) hkey false h0
      obtain ⟨kd, nm, l, r⟩ := n
      have HE := Lib.hid hE
      have HM := Lib.hid hm
      have HK := Lib.hid hkey
      have HN := Lib.hid hn
      have H0 := Lib.hid h0
      have IH := Lib.hid ih
      obtain ⟨g, c', rfl, hg, _⟩ := own_some hE.hr (by omega)
      clear hE hm hkey hn h0 ih
      by_cases hk : 3 ≤ kd
      · obtain ⟨⟨p1, p2⟩, p3, p4⟩ := HE.out.ok.parts HN.out hk
        simp only at p1 p2 p3 p4
        obtain ⟨x, rfl⟩ := Int.eq_ofNat_of_zero_le p1
        obtain ⟨y, rfl⟩ := Int.eq_ofNat_of_zero_le p3
        go_enter Try.func75, Try.ntmps75
        go_wp2_with (at_mapUpdate; refine wp_put HM.out lawInt natV_inj rfl (.tmp 10) (.tmp 11) _ 107 3 rfl Try.underlying107 rfl i rfl () rfl HK.out ?_; intro w2 hm2 ho2; have hE2 := HE.out.step HM.out ho2.grown; obtain ⟨c1', c2, c3, c4, d0, d1, d2, d3, l3⟩ := hE2.cells HN.out; have HE2 := Lib.hid hE2; have HM2 := Lib.hid hm2; have HO2 := Lib.hid ho2; clear hE2 hm2 ho2)
        have hE3 := HE2.out.below (below_alloc w2 (.cells #[.int .i64 kd, .string nm, .int .i64 (x : Int), .int .i64 (y : Int)] 36))
        have hM3 := HM2.out.below (below_alloc w2 (.cells #[.int .i64 kd, .string nm, .int .i64 (x : Int), .int .i64 (y : Int)] 36))
        refine (IH.out x (by omega) _ _ (by omega) hE3 hM3).mono ?_
        rintro e w4 ⟨rfl, f1, hg4, hm4, hd4⟩
        have hE4 := hE3.step hM3 hg4
        have c3' := hE4.cells HN.out |>.c3
        have c9 : w4.cell? ⟨w2.heap.size, 3, none⟩ = some (.int .i64 (y : Int)) := hg4.cell (a := ⟨w2.heap.size, 3, none⟩) (World.cell?_alloc_at _ _ _ _ rfl) (by have := HM2.out.lt; intro e; cases e; simp at this)
        have HE4 := Lib.hid hE4; have HM4 := Lib.hid hm4; have HD4 := Lib.hid hd4; have HG4 := Lib.hid hg4
        clear hE4 hm4 hd4 hg4 hE3 hM3 c1' c2 c3 c4 d0 d1 d2 d3
        go_wp2_with fail
        refine (IH.out y (by omega) _ _ (by omega) HE4.out HM4.out).mono ?_
        rintro e w5 ⟨rfl, f2, hg5, hm5, hd5⟩
        have hfin : w.grownBy w5 (some mb) := ((HO2.out.grown.trans (World.grownBy_alloc w2 _ _)).trans HG4.out).trans hg5
        have HF := Lib.hid hfin; have HM5 := Lib.hid hm5; have HD5 := Lib.hid hd5
        clear hg5 hm5 hd5 hfin
        go_wp2
        go_end0
        exact ⟨rfl, f2, HF.out, HM5.out, Down.node HN.out hk HD4.out HD5.out⟩
      · have HD := Lib.hid (Down.leaf (f := f) HN.out hk)
        go_enter Try.func75, Try.ntmps75
        go_wp2_with (at_mapUpdate; refine wp_put HM.out lawInt natV_inj rfl (.tmp 10) (.tmp 11) _ 107 3 rfl Try.underlying107 rfl i rfl () rfl HK.out ?_; intro w2 hm2 ho2; have hE2 := HE.out.step HM.out ho2.grown; obtain ⟨c1', c2, c3, c4, d0, d1, d2, d3, l3⟩ := hE2.cells HN.out; have HE2 := Lib.hid hE2; have HM2 := Lib.hid hm2; have HO2 := Lib.hid ho2; clear hE2 hm2 ho2)
        go_end0
        exact ⟨rfl, HO2.out.grown.trans (World.grownBy_alloc w2 _ _), upd f i (some ()), HM2.out.below (below_alloc _ _), HD.out⟩
    · have hl : (Instr.lookup 107 (.map (some mb)) (.int .i64 (i : Int)) false).run Try.prog w = .ok (.int .i64 1) w := hm.look_some lawInt natV_inj Try.underlying107 hkey false h0
      have HD := Lib.hid (Down.same (rows := rows) h0)
      have HM := Lib.hid hm
      clear hm hE ih h0 hkey
      go_enter Try.func75, Try.ntmps75
      go_wp2
      exact bodyPost_ret (results_none rfl _ _ _) rfl ⟨rfl, f, ⟨rfl, rfl, rfl, Nat.le_refl _, fun _ _ _ => rfl⟩, HM.out, HD.out⟩


end Go.Dk

