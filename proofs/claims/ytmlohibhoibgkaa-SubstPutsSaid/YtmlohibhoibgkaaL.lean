/- Below of a living table. -/
import Derived.Test.YtmlohibhoibgkaaK
import Derived.Laws.EntriesVeiled
namespace Go.Dk
open Go.RowKit Go.Maps Go.MapKept
open Go.Proofs

set_option maxRecDepth 100000 in
theorem below_no (k : Nat) (ow : Own) (w : World) (t : Value) (rows : List ND) (h : Tab k ow w t rows) (i : Int) (hb : hasB rows.length i = false) :
    Calls Try.prog 58 #[t, .int .i64 i] w fun e w' => e = .returned (.tuple #[.slice none 0 0, .int .i64 31]) ∧ Below w.heap.size w w' := by
  have H : Hid (∀ o, Tab k ow (w.alloc o) t rows) := fun o => h.below (below_alloc _ _)
  obtain ⟨pb, mt, v, rfl, ht⟩ := h
  clear ht
  go_enter Try.func58, Try.ntmps58
  go_wp2_with (first | (go_at_call 42; refine (alive_yes k ow _ _ rows (H.out _)).mono ?_; rintro e w' ⟨rfl, rfl⟩) | (go_at_call 43; refine (has_any k ow _ _ rows (H.out _) _).mono ?_; rintro e w' ⟨rfl, rfl⟩))
  go_ret2
  exact ⟨rfl, below_alloc _ _⟩

theorem env_start {k : Nat} {ow : Own} {w : World} {pb mt : Nat} {v : Value} {rows : List ND} (h : TabAt k ow w pb mt v rows) :
    Env ((((w.alloc (.cells #[.pointer (some ⟨pb, 0, none⟩)] 24)).alloc (.map #[] 0)).alloc (.cells #[.map (some (w.heap.size + 1))] 107)).alloc (.cells #[.func (.func 75) #[] #[.pointer (some ⟨w.heap.size + 1 + 1, 0, none⟩), .pointer (some ⟨w.heap.size, 0, none⟩), .pointer (some ⟨w.heap.size + 1 + 1 + 1, 0, none⟩)]] 120))
      (w.heap.size + 1 + 1) w.heap.size (w.heap.size + 1 + 1 + 1) (w.heap.size + 1) pb mt v rows ∧
    SetM ((((w.alloc (.cells #[.pointer (some ⟨pb, 0, none⟩)] 24)).alloc (.map #[] 0)).alloc (.cells #[.map (some (w.heap.size + 1))] 107)).alloc (.cells #[.func (.func 75) #[] #[.pointer (some ⟨w.heap.size + 1 + 1, 0, none⟩), .pointer (some ⟨w.heap.size, 0, none⟩), .pointer (some ⟨w.heap.size + 1 + 1 + 1, 0, none⟩)]] 120))
      (w.heap.size + 1) (fun _ => none) := by
  have ht := (((h.below (below_alloc w (.cells #[.pointer (some ⟨pb, 0, none⟩)] 24))).below (below_alloc _ (.map #[] 0))).below (below_alloc _ (.cells #[.map (some (w.heap.size + 1))] 107))).below (below_alloc _ (.cells #[.func (.func 75) #[] #[.pointer (some ⟨w.heap.size + 1 + 1, 0, none⟩), .pointer (some ⟨w.heap.size, 0, none⟩), .pointer (some ⟨w.heap.size + 1 + 1 + 1, 0, none⟩)]] 120))
  refine ⟨⟨?_, ?_, ?_, ht.hp, ht.hr, ht.ok⟩, ?_⟩
  · rw [heap_alloc_old _ _ (by simp)]; exact heap_alloc_new' _ _ (by simp)
  · rw [heap_alloc_old _ _ (by simp; omega), heap_alloc_old _ _ (by simp; omega), heap_alloc_old _ _ (by simp)]; exact heap_alloc_new' _ _ (by simp)
  · exact heap_alloc_new' _ _ (by simp)
  · have := TM.made Try.prog 3 natV oneV (w.alloc (.cells #[.pointer (some ⟨pb, 0, none⟩)] 24))
    rw [World.size_alloc] at this
    exact (this.below (below_alloc _ _)).below (below_alloc _ _)

theorem Rng.props {κ ν : Type} {P : Program} {k : TypeId} {ek : κ → Value} {ev : ν → Value} {w : World} {b r : Nat} {f : κ → Option ν} {done : List κ} (h : Rng P k ek ev w b r f done) : done.Nodup ∧ ∀ x ∈ done, (f x).isSome = true := by
  obtain ⟨_, _, _, _, _, _, _, _, _, _, _, _, _, _, _, _, _, h1, h2⟩ := h
  exact ⟨h1, h2⟩

theorem nodup_le {l : List Nat} (hd : l.Nodup) {m : Nat} (h : ∀ x ∈ l, x < m) : l.length ≤ m := by
  have hp : l.Perm ((List.range m).filter fun x => decide (x ∈ l)) := by
    refine (List.perm_ext_iff_of_nodup hd (List.nodup_range.sublist List.filter_sublist)).2 fun x => ?_
    simp only [List.mem_filter, List.mem_range, decide_eq_true_eq]
    exact ⟨fun hx => ⟨h x hx, hx⟩, fun hx => hx.2⟩
  rw [hp.length_eq]
  exact Nat.le_trans (List.length_filter_le _ _) (by simp)

/-- In the loop that collects the keys. -/
structure Coll (w W : World) (mb r : Nat) (f : Nat → Option Unit) (done : List Nat) (v : Value) : Prop where
  rg : Rng Try.prog 3 natV oneV W mb r f done
  own : W.ownsRow w.heap.size 3 1 v done.length (ints (natInts done.reverse))
  bl : Below w.heap.size w W
  lm : w.heap.size ≤ mb
  lr : w.heap.size ≤ r

theorem infoInt : (Try.prog.info? 3).map (fun i => (i.zero, i.size, i.bytes)) = some (some (.int .i64 0), 1, 8) := by kernel_rfl

theorem Coll.next {w W w4 w5 : World} {mb r : Nat} {f : Nat → Option Unit} {done : List Nat} {v v5 : Value} {x : Nat} {o : Obj} (h : Coll w W mb r f done v) (hrg : Rng Try.prog 3 natV oneV w4 mb r f (x :: done)) (hg : W.grownBy w4 (some r))
    (hown : w5.ownsRow w.heap.size 3 1 v5 (done.length + 1) (ints (natInts done.reverse) ++ [.int .i64 (x : Int)])) (hgr : (w4.alloc o).grownBy w5 v.ownBlock) : Coll w w5 mb r f (x :: done) v5 ∧ w5.rangeLeft mb r = w4.rangeLeft mb r := by
  have nb : v.ownBlock ≠ some mb := by
    obtain ⟨_, ⟨es, clock, hes, _⟩, _⟩ := h.rg.tm
    exact own_ne h.own hes (by intro cur fr e; cases e)
  have nr : v.ownBlock ≠ some r := by
    obtain ⟨_, _, _, _, _, _, _, _, _, _, _, _, hr, _⟩ := h.rg
    exact own_ne h.own hr (by intro cur fr e; cases e)
  have g2 : w4.grownBy w5 v.ownBlock := World.grownBy.trans (World.grownBy_alloc w4 o _) hgr
  have e1 : w5.heap[mb]? = w4.heap[mb]? := g2.block mb hrg.tm.lt (Ne.symm nb)
  have e2 : w5.heap[r]? = w4.heap[r]? := g2.block r hrg.ltr (Ne.symm nr)
  obtain ⟨s1, s2⟩ := hrg.same e1 e2
  refine ⟨⟨s1, ?_, (h.bl.grown hg h.bl.size (by intro k hk; cases hk; exact h.lr)).grown g2 (Nat.le_trans h.bl.size hg.size) (fun k hk => (h.own.lt k hk).1), h.lm, h.lr⟩, s2⟩
  have : ints (natInts (x :: done).reverse) = ints (natInts done.reverse) ++ [.int .i64 (x : Int)] := by simp [ints, natInts]
  rw [this]
  exact hown

theorem Coll.own4 {w W w4 : World} {mb r : Nat} {f : Nat → Option Unit} {done : List Nat} {v : Value} (h : Coll w W mb r f done v) (hg : W.grownBy w4 (some r)) : w4.ownsRow w.heap.size 3 1 v done.length (ints (natInts done.reverse)) := by
  refine h.own.kept hg (.inr ?_)
  obtain ⟨_, _, _, _, _, _, _, _, _, _, _, _, hr, _⟩ := h.rg
  exact own_ne h.own hr (by intro cur fr e; cases e)

theorem rd_one (w : World) (x : Value) (e : TypeId) : Rd (w.alloc (.cells #[x] e)) (.slice (some ⟨w.heap.size, 0, none⟩) 1 1) 1 1 [x] := by
  refine ⟨⟨_, _, rfl, fun h => by (cases h), fun ad ha => ?_⟩, rfl⟩
  cases ha
  refine ⟨fun _ => rfl, fun j u hu => ?_⟩
  match j, hu with
  | 0, hu => simp only [List.getElem?_cons_zero, Option.some.injEq] at hu; subst hu; rw [World.cell?_alloc_at _ _ _ _ rfl]; rfl

set_option maxRecDepth 100000 in
set_option maxHeartbeats 800000 in
theorem below_yes (k : Nat) (ow : Own) (w : World) (t : Value) (rows : List ND) (h : Tab k ow w t rows) (i : Nat) (hi : i < rows.length) :
    Calls Try.prog 58 #[t, .int .i64 (i : Int)] w fun e w' => ∃ v', e = .returned (.tuple #[v', .int .i64 0]) ∧ w'.ownsRow w.heap.size 3 1 v' (below rows i).length (ints (natInts (below rows i))) ∧ Below w.heap.size w w' := by
  have H : Hid (∀ o, Tab k ow (w.alloc o) t rows) := fun o => h.below (below_alloc _ _)
  have hb : hasB rows.length (i : Int) = true := by simp [hasB, hi]
  obtain ⟨pb, mt, v, rfl, ht⟩ := h
  have HT := Lib.hid ht
  clear ht
  have hmm := @run_makeMap Try.prog
  have hmf : ∀ (fn : Fn) (first cap : Array Value) (w : World), (Instr.makeFunc fn first cap).run Try.prog w = .ok (.func fn first cap) w := fun _ _ _ _ => rfl
  go_enter Try.func58, Try.ntmps58
  go_wp2_with (first | (go_at_call 42; refine (alive_yes k ow _ _ rows (H.out _)).mono ?_; rintro e w' ⟨rfl, rfl⟩) | (go_at_call 43; refine (has_any k ow _ _ rows (H.out _) _).mono ?_; rintro e w' ⟨rfl, rfl⟩))
  obtain ⟨hE, hS⟩ := env_start HT.out
  refine (down_any _ _ _ _ _ _ _ rows i _ _ hi hE hS).mono ?_
  rintro e w2 ⟨rfl, f, hg2, hm2, hd2⟩
  have c1 := cell_of (i := 0) (v := .map (some (w.heap.size + 1))) (hE.step hS hg2).hi rfl
  have hb2 : Below w.heap.size w w2 := ((((((Below.refl w.heap.size w).alloc (Nat.le_refl _) (.cells #[.pointer (some ⟨pb, 0, none⟩)] 24)).alloc (by simp) (.map #[] 0)).alloc (by simp; omega) (.cells #[.map (some (w.heap.size + 1))] 107)).alloc (by simp; omega) _)).grown hg2 (by simp; omega) (by intro k hk; cases hk; omega)
  have hall := hd2.all
  have HB2 := Lib.hid hb2; have HM2 := Lib.hid hm2; have HA := Lib.hid hall
  clear hE hS hg2 hm2 hd2 hb2 hall hmm hmf hb
  go_wp2_with (at_range; refine wp_range HM2.out rfl (.tmp 24) 107 3 rfl Try.underlying107 rfl ?_; intro w3 hrg3 hb3)
  go_frame
  have hI0 : Coll w w3 (w.heap.size + 1) w2.heap.size f [] (.slice none 0 0) := ⟨hrg3, World.ownsRow_nil _ _ _ _, HB2.out.trans (hb3.mono HB2.out.size), by omega, HB2.out.size⟩
  have HI0 := Lib.hid hI0
  clear hrg3 hb3 hI0
  go_loopw [8, 9] (fun u _ W => ∃ done, Coll w W (w.heap.size + 1) w2.heap.size f done u) (fun _ _ W => W.rangeLeft (w.heap.size + 1) w2.heap.size)
  case atStart => exact ⟨[], HI0.out⟩
  case round =>
    obtain ⟨done, hI⟩ := hrel
    have HI := Lib.hid hI
    go_wp2_with (at_next; refine wp_next HI.out.rg natV_inj rfl (.tmp 25) rfl rfl ?_ ?_)
    · intro hall
      have hp := hI.rg.props
      have hmem : ∀ j, j ∈ done.reverse ↔ Reach rows i j := fun j => by
        rw [List.mem_reverse, ← HA.out j]
        constructor
        · intro hj
          have := hp.2 j hj
          rcases unit_cases (f j) with h | h
          · rw [h] at this; cases this
          · exact h
        · intro hj; exact hall j (by rw [hj]; rfl)
      have hnd : done.reverse.Nodup := (List.reverse_perm done).nodup_iff.2 hp.1
      have hsort := sort_below HT.out.ok hnd hmem
      have hlen : done.length = (below rows i).length := by
        have := congrArg List.length hsort
        simpa [natInts] using this
      have hbd : done.length ≤ 1024 := by
        have := below_le rows i
        have := HT.out.ok.le
        omega
      have HS := Lib.hid hsort; have HL := Lib.hid hlen
      obtain ⟨a, c, rfl⟩ := own_slice hI.own
      clear hI hp hmem hnd hsort hlen hall
      go_wp2_with (go_at_call 76; refine (sortInts_own _ w.heap.size done.length _ (natInts done.reverse) HI.out.bl.size HI.out.own (by omega)).mono ?_; rintro e w5 ⟨rfl, hown5, hg5⟩)
      go_ret2
      refine ⟨_, rfl, ?_, HI.out.bl.grown hg5 HI.out.bl.size (fun k hk => (HI.out.own.lt k hk).1)⟩
      rw [HS.out] at hown5
      rw [← HL.out]
      exact hown5
    · intro x u w4 hfx hxd hrg4 hg4 hlt hen
      have hen' : (Instr.entry (.pointer (some ⟨w2.heap.size, 0, none⟩))).run Try.prog w4 = .ok (.tuple #[.int .i64 (x : Int), .int .i64 1]) w4 := hen
      have hp := hI.rg.props
      have hbd : done.length ≤ 1024 := by
        have h1 := nodup_le hp.1 (m := i + 1) (fun y hy => by
          have h2 := hp.2 y hy
          rcases unit_cases (f y) with h | h
          · rw [h] at h2; cases h2
          · have := ((HA.out y).1 h).le HT.out.ok; omega)
        have := HT.out.ok.le
        omega
      have hown := hI.own4 hg4
      have HO := Lib.hid hown; have HR4 := Lib.hid hrg4; have HG4 := Lib.hid hg4; have HLT := Lib.hid hlt
      have hsz : w.heap.size ≤ w4.heap.size := Nat.le_trans hI.bl.size hg4.size
      clear hen hp hI hown hrg4 hg4 hlt hfx hxd
      go_wp2_with (at_builtin; refine wp_append rfl (.tmp 30) (.tmp 32) 73 rfl w.heap.size 3 _ 1 8 Try.underlying73 infoInt rfl (by decide) (by decide) _ done.length (ints (natInts done.reverse)) rfl (HO.out.alloc _) _ 1 [.int .i64 (x : Int)] rfl (rd_one w4 _ _) (by simp [Value.oneCell']) (by omega) (by simp; omega) ?_; intro v5 w5 hown5 hgr5 hat5 hnil5)
      have hfin := HI.out.next HR4.out HG4.out hown5 hgr5
      exact ⟨⟨x :: done, hfin.1⟩, by rw [hfin.2]; exact HLT.out⟩


end Go.Dk

