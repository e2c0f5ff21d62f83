/- Below of the document's tables. -/
import Derived.Test.YtmlohibhoibgkaaEc
import Derived.Test.YtmlohibhoibgkaaL
import Derived.Laws.OwnMore
namespace Go.Dk
open Go.RowKit Go.Maps Go.MapKept
open Go.Proofs hiding intOf

/-! ### plain: the set, row by row downwards -/

/-- What is reached from row i by rows that are j or more. -/
inductive RD (rows : List ND) (i j : Nat) : Nat → Prop
  | base : RD rows i j i
  | left {x : Nat} {n : ND} : RD rows i j x → j ≤ x → rows[x]? = some n → 3 ≤ n.kind → RD rows i j n.l.toNat
  | right {x : Nat} {n : ND} : RD rows i j x → j ≤ x → rows[x]? = some n → 3 ≤ n.kind → RD rows i j n.r.toNat

theorem RD.mono {rows : List ND} {i j j' : Nat} (hj : j' ≤ j) {x : Nat} (h : RD rows i j x) : RD rows i j' x := by
  induction h with
  | base => exact .base
  | left _ h2 h3 h4 ih => exact .left ih (by omega) h3 h4
  | right _ h2 h3 h4 ih => exact .right ih (by omega) h3 h4

theorem RD.top {rows : List ND} {i j x : Nat} (h : RD rows i j x) (hj : i < j) (_ok : Ok rows) : x = i := by
  induction h with
  | base => rfl
  | left _ h2 _ _ ih => omega
  | right _ h2 _ _ ih => omega

theorem RD.step {rows : List ND} {i j x : Nat} (ok : Ok rows) : RD rows i j x ↔ RD rows i (j + 1) x ∨ ∃ n, RD rows i (j + 1) j ∧ rows[j]? = some n ∧ 3 ≤ n.kind ∧ (x = n.l.toNat ∨ x = n.r.toNat) := by
  constructor
  · intro h
    induction h with
    | base => exact .inl .base
    | @left x n h1 h2 h3 h4 ih =>
      rcases ih with ih | ⟨m, g1, g2, g3, g4⟩
      · by_cases e : j + 1 ≤ x
        · exact .inl (.left ih e h3 h4)
        · have : x = j := by omega
          subst this
          exact .inr ⟨n, ih, h3, h4, .inl rfl⟩
      · have := ok.parts g2 g3
        omega
    | @right x n h1 h2 h3 h4 ih =>
      rcases ih with ih | ⟨m, g1, g2, g3, g4⟩
      · by_cases e : j + 1 ≤ x
        · exact .inl (.right ih e h3 h4)
        · have : x = j := by omega
          subst this
          exact .inr ⟨n, ih, h3, h4, .inr rfl⟩
      · have := ok.parts g2 g3
        omega
  · rintro (h | ⟨n, h1, h2, h3, rfl | rfl⟩)
    · exact h.mono (by omega)
    · exact .left (h1.mono (by omega)) (Nat.le_refl _) h2 h3
    · exact .right (h1.mono (by omega)) (Nat.le_refl _) h2 h3

theorem RD.reach {rows : List ND} {i x : Nat} : RD rows i 0 x ↔ Reach rows i x := by
  constructor
  · intro h
    induction h with
    | base => exact .refl _
    | left _ _ h3 h4 ih => exact ih.trans (.left h3 h4 (.refl _))
    | right _ _ h3 h4 ih => exact ih.trans (.right h3 h4 (.refl _))
  · intro h
    have key : ∀ y x, Reach rows y x → RD rows i 0 y → RD rows i 0 x := by
      intro y x hr
      induction hr with
      | refl => exact id
      | left h1 h2 _ ih => exact fun g => ih (.left g (Nat.zero_le _) h1 h2)
      | right h1 h2 _ ih => exact fun g => ih (.right g (Nat.zero_le _) h1 h2)
    exact key _ _ h .base

/-- The row of marks says this set. -/
def Marks (rows : List ND) (i j : Nat) (bs : List Bool) : Prop := bs.length = rows.length ∧ ∀ x, bs[x]? = some true ↔ RD rows i j x

theorem set_true {bs : List Bool} {k x : Nat} (hk : k < bs.length) : (bs.set k true)[x]? = some true ↔ bs[x]? = some true ∨ x = k := by
  rw [List.getElem?_set]
  by_cases e : k = x
  · subst e; simp [hk]
  · rw [if_neg e]
    exact ⟨.inl, fun h => h.resolve_right (fun h => e h.symm)⟩

theorem Marks.start {rows : List ND} {i : Nat} (ok : Ok rows) (hi : i < rows.length) : Marks rows i (i + 1) ((List.replicate rows.length false).set i true) := by
  refine ⟨by simp, fun x => ?_⟩
  rw [set_true (by simpa using hi)]
  constructor
  · rintro (h | rfl)
    · rw [List.getElem?_replicate] at h; split at h <;> cases h
    · exact .base
  · intro h; exact .inr (h.top (Nat.lt_succ_self _) ok)

theorem Marks.skip {rows : List ND} {i j : Nat} {bs : List Bool} (h : Marks rows i (j + 1) bs) (ok : Ok rows) (hj : bs[j]? = some false ∨ ∃ n, rows[j]? = some n ∧ ¬ 3 ≤ n.kind) : Marks rows i j bs := by
  refine ⟨h.1, fun x => ?_⟩
  rw [h.2, RD.step (i := i) (j := j) (x := x) ok]
  refine ⟨.inl, fun g => g.resolve_right ?_⟩
  rintro ⟨n, h1, h2, h3, _⟩
  rcases hj with hj | ⟨m, h4, h5⟩
  · have := (h.2 j).2 h1
    rw [hj] at this; cases this
  · rw [h4] at h2; cases h2; exact h5 h3

theorem Marks.both {rows : List ND} {i j : Nat} {bs : List Bool} (h : Marks rows i (j + 1) bs) (ok : Ok rows) (hj : bs[j]? = some true) {n : ND} (hn : rows[j]? = some n) (hk : 3 ≤ n.kind) : Marks rows i j ((bs.set n.l.toNat true).set n.r.toNat true) := by
  have hp := ok.parts hn hk
  have hl := (List.getElem?_eq_some_iff.1 hn).1
  refine ⟨by simpa using h.1, fun x => ?_⟩
  rw [set_true (by simp; rw [h.1]; omega), set_true (by rw [h.1]; omega), h.2, RD.step (i := i) (j := j) (x := x) ok]
  constructor
  · rintro ((h1 | rfl) | rfl)
    · exact .inl h1
    · exact .inr ⟨n, (h.2 j).1 hj, hn, hk, .inl rfl⟩
    · exact .inr ⟨n, (h.2 j).1 hj, hn, hk, .inr rfl⟩
  · rintro (h1 | ⟨m, _, h2, _, rfl | rfl⟩)
    · exact .inl (.inl h1)
    · rw [hn] at h2; cases h2; exact .inl (.inr rfl)
    · rw [hn] at h2; cases h2; exact .inr rfl

/-- What the second loop has collected. -/
def marked (bs : List Bool) (j : Nat) : List Nat := (List.range j).filter fun x => bs[x]? == some true
theorem marked_step (bs : List Bool) (j : Nat) : marked bs (j + 1) = if bs[j]? = some true then marked bs j ++ [j] else marked bs j := by
  unfold marked
  rw [List.range_succ, List.filter_append]
  by_cases h : bs[j]? = some true
  · simp [h]
  · simp [h]
theorem marked_le (bs : List Bool) (j : Nat) : (marked bs j).length ≤ j := by
  unfold marked
  exact Nat.le_trans (List.length_filter_le _ _) (by simp)
theorem marked_all {rows : List ND} {i : Nat} {bs : List Bool} (h : Marks rows i 0 bs) : marked bs (i + 1) = below rows i := by
  unfold marked below
  refine List.filter_congr fun x _ => ?_
  have := (h.2 x).trans RD.reach
  by_cases hr : Reach rows i x
  · simp [hr, this.2 hr]
  · have h2 : ¬ bs[x]? = some true := fun g => hr (this.1 g)
    simp [hr, h2]

theorem Ok.kinds {rows : List ND} (h : Ok rows) {i : Nat} {n : ND} (hi : rows[i]? = some n) : 1 ≤ n.kind ∧ n.kind ≤ 5 := by
  have hf := h.fit i n hi
  unfold fits at hf
  split at hf
  · omega
  · split at hf
    · omega
    · split at hf
      · omega
      · cases hf

/-! ### the walk -/
def bools (bs : List Bool) : List Value := bs.map Value.bool
theorem bools_set (bs : List Bool) (k : Nat) (b : Bool) : (bools bs).set k (.bool b) = bools (bs.set k b) := by simp [bools, List.map_set]
theorem infoBool' : (Try.prog.info? 4).map (fun i => (i.zero, i.size, i.bytes)) = some (some (.bool false), 1, 1) := by kernel_rfl
theorem infoBool : ∃ i, Try.prog.info? 4 = some i ∧ i.zero = some (.bool false) ∧ i.size = 1 ∧ i.bytes = 1 := by
  obtain ⟨i, hi, h⟩ := Option.map_eq_some_iff.1 infoBool'
  simp only [Prod.mk.injEq] at h
  exact ⟨i, hi, h⟩

structure RowB (w W : World) (n : Nat) (bs : List Bool) : Prop where
  own : W.ownsRow w.heap.size 4 1 (.slice (some ⟨w.heap.size, 0, none⟩) n n) n (bools bs)
  bl : Below w.heap.size w W

theorem RowB.set {w W : World} {n : Nat} {bs : List Bool} (h : RowB w W n bs) (k : Nat) : RowB w (W.setCell ⟨w.heap.size, k, none⟩ (.bool true)) n (bs.set k true) := by
  have := h.own.stored k (.bool true)
  rw [bools_set] at this
  exact ⟨this.1, h.bl.grown this.2 h.bl.size (by intro g hg; cases hg; exact Nat.le_refl _)⟩
theorem RowB.cell {w W : World} {n : Nat} {bs : List Bool} (h : RowB w W n bs) {k : Nat} {b : Bool} (hk : bs[k]? = some b) (hn : bs.length = n) : W.cell? ⟨w.heap.size, k, none⟩ = some (.bool b) := by
  have hl := (List.getElem?_eq_some_iff.1 hk).1
  rw [h.own.cellAt k (by omega)]
  simp [bools, hk]
theorem RowB.frozen {w W : World} {n : Nat} {bs : List Bool} (h : RowB w W n bs) (k : Nat) : W.frozen? ⟨w.heap.size, k, none⟩ = false := h.own.frozenAt k

theorem _root_.Go.World.ownsRow.alloc2 {w : World} {base : Nat} {e : TypeId} {size : Nat} {v : Value} {n : Nat} {xs : List Value} (h : w.ownsRow base e size v n xs) (o : Obj) : (w.alloc o).ownsRow base e size v n xs :=
  h.kept (row := none) (World.grownBy_alloc w o none) (by cases v.ownBlock <;> simp)

structure Outs (w W : World) (n : Nat) (bs : List Bool) (j : Nat) (v : Value) : Prop where
  row : RowB w W n bs
  own : W.ownsRow w.heap.size 3 1 v (marked bs j).length (ints (natInts (marked bs j)))

theorem Outs.next {w W w5 : World} {n : Nat} {bs : List Bool} {j : Nat} {v v5 : Value} {o : Obj} (h : Outs w W n bs j v) (_hn : 0 < n)
    (hown : w5.ownsRow w.heap.size 3 1 v5 ((marked bs j).length + 1) (ints (natInts (marked bs j)) ++ [.int .i64 (j : Int)])) (hgr : (W.alloc o).grownBy w5 v.ownBlock) (he : marked bs (j + 1) = marked bs j ++ [j]) : Outs w w5 n bs (j + 1) v5 := by
  have g2 : W.grownBy w5 v.ownBlock := World.grownBy.trans (World.grownBy_alloc W o _) hgr
  have ne : v.ownBlock ≠ some w.heap.size := by
    rcases h.row.own.2 with ⟨e, _⟩ | ⟨g, cap, cur, e, _, hg, _⟩
    · cases e
    · cases e
      exact own_ne h.own hg (by intro cur fr e; cases e)
  refine ⟨⟨h.row.own.kept g2 (.inr ?_), h.row.bl.grown g2 h.row.bl.size (fun k hk => (h.own.lt k hk).1)⟩, ?_⟩
  · intro e
    exact ne e.symm
  · rw [he]
    have : ints (natInts (marked bs j ++ [j])) = ints (natInts (marked bs j)) ++ [.int .i64 (j : Int)] := by simp [ints, natInts]
    rw [this, List.length_append]
    exact hown

set_option maxRecDepth 100000 in
theorem refBelow_no (k : Nat) (ow : Own) (w : World) (t : Value) (rows : List ND) (h : RTab k ow w t rows) (i : Int) (hb : hasB rows.length i = false) :
    Calls Try.prog 32 #[t, .int .i64 i] w fun e w' => e = .returned (.tuple #[.slice none 0 0, .int .i64 31]) ∧ w = w' := by
  have H := Lib.hid h
  clear h
  go_enter Try.func32, Try.ntmps32
  go_wp2_with (go_at_call 8; refine (refHas_any k ow _ _ rows H.out _).mono ?_; rintro e w' ⟨rfl, rfl⟩)
  go_ret2
  exact ⟨rfl, rfl⟩

set_option maxRecDepth 100000 in
set_option maxHeartbeats 800000 in
theorem refBelow_yes (k : Nat) (ow : Own) (w : World) (t : Value) (rows : List ND) (h : RTab k ow w t rows) (i : Nat) (hi : i < rows.length) :
    Calls Try.prog 32 #[t, .int .i64 (i : Int)] w fun e w' => ∃ v', e = .returned (.tuple #[v', .int .i64 0]) ∧ w'.ownsRow w.heap.size 3 1 v' (below rows i).length (ints (natInts (below rows i))) ∧ Below w.heap.size w w' := by
  have H := Lib.hid h
  have hb : hasB rows.length (i : Int) = true := by simp [hasB, hi]
  have hok := h.ok
  have hle := hok.le
  obtain ⟨rb, v, rfl, ht⟩ := h
  obtain ⟨g, c, rfl, hg, _⟩ := ht.hr.get (by omega)
  have c0 : w.cell? ⟨rb, 0, none⟩ = some (.slice (some ⟨g, 0, none⟩) rows.length c) := cell_of ht.hp rfl
  obtain ⟨inf, hi1, hi2, hi3, hi4⟩ := infoBool
  obtain ⟨w1, hmk, hown, hgr⟩ := run_makeSlice_full (P := Try.prog) w w.heap.size 103 4 inf (.bool false) 1 Try.underlying103 hi1 hi2 hi3 .i64 .i64 rows.length (by omega) (by rw [hi4]; omega) (by unfold maxLen; omega) (Nat.le_refl _)
  have hB1 : RowB w w1 rows.length (List.replicate rows.length false) := ⟨by
    have : (madeCells (Value.bool false).cells (rows.length * 1)).toList = bools (List.replicate rows.length false) := by
      rw [show (Value.bool false).cells = #[.bool false] from rfl, toList_madeCells_one]
      simp [bools]
    rw [← this]; exact hown, (Below.refl _ _).grown hgr (Nat.le_refl _) (by intro k hk; cases hk)⟩
  have d1 := hB1.cell (k := i) (b := false) (by rw [List.getElem?_replicate, if_pos hi]) (by simp)
  have f1 := hB1.frozen i
  have hB2 := hB1.set i
  have hM := Marks.start hok hi
  have HT := Lib.hid ht; have HB := Lib.hid hB2; have HM := Lib.hid hM; have HK := Lib.hid hok
  clear ht hown hgr hB1 hB2 hM hi1 hi2 hi3 hi4 hok
  go_enter Try.func32, Try.ntmps32
  go_wp2_with (go_at_call 8; refine (refHas_any k ow _ _ rows H.out _).mono ?_; rintro e w' ⟨rfl, rfl⟩)
  go_loopw [8] (fun u W => ∃ (j : Nat) (bs : List Bool), j ≤ i + 1 ∧ u = .int .i64 ((j : Int) - 1) ∧ RowB w W rows.length bs ∧ Marks rows i j bs) (fun u _ => (intOf u + 1).toNat)
  case atStart => exact ⟨i + 1, _, Nat.le_refl _, by simp, HB.out, HM.out⟩
  case round =>
    obtain ⟨j, bs, hj, rfl, hB, hM⟩ := hrel
    cases j with
    | zero =>
      rw [show (((0 : Nat) : Int) - 1) = -1 from rfl]
      have HB' := Lib.hid hB; have HM' := Lib.hid hM
      have hO : Outs w wr rows.length bs 0 (.slice none 0 0) := ⟨hB, World.ownsRow_nil _ _ _ _⟩
      have HO := Lib.hid hO
      clear hB hM hO
      go_wp2
      go_loopw [7, 9] (fun v u W => ∃ j : Nat, j ≤ i + 1 ∧ u = .int .i64 (j : Int) ∧ Outs w W rows.length bs j v) (fun _ u _ => i + 1 - (intOf u).toNat)
      case atStart => exact ⟨0, Nat.zero_le _, rfl, HO.out⟩
      case round =>
        obtain ⟨j, hj, rfl, hO⟩ := hrel
        obtain ⟨a, cc, rfl⟩ := own_slice hO.own
        by_cases hlt : j ≤ i
        · obtain ⟨b, hbj⟩ : ∃ b, bs[j]? = some b := ⟨_, List.getElem?_eq_getElem (by rw [HM'.out.1]; omega)⟩
          have d2 := hO.row.cell hbj HM'.out.1
          have hjl : j < rows.length := by omega
          have hle2 : (j : Int) ≤ (i : Int) := by omega
          have HO2 := Lib.hid hO
          have hbnd := marked_le bs j
          have hst := marked_step bs j
          have HST := Lib.hid hst
          have HBJ := Lib.hid hbj
          clear hO hst
          cases b with
          | false =>
            have HE : Hid (marked bs (j + 1) = marked bs j) := by rw [Hid, HST.out, if_neg (by rw [HBJ.out]; simp)]
            clear hbj
            go_wp2
            exact ⟨⟨j + 1, by omega, by go_num, ⟨HO2.out.row, by rw [HE.out]; exact HO2.out.own⟩⟩, by simp [intOf] <;> omega⟩
          | true =>
            have HE : Hid (marked bs (j + 1) = marked bs j ++ [j]) := by rw [Hid, HST.out, if_pos HBJ.out]
            clear hbj
            go_wp2_with (at_builtin; refine wp_append rfl (.tmp 82) (.tmp 84) 73 rfl w.heap.size 3 _ 1 8 Try.underlying73 infoInt rfl (by decide) (by decide) _ (marked bs j).length (ints (natInts (marked bs j))) rfl (HO2.out.own.alloc2 _) _ 1 [.int .i64 (j : Int)] rfl (rd_one wr _ _) (by simp [Value.oneCell']) (by omega) (by have := HO2.out.row.bl.size; simp; omega) ?_; intro v5 w5 hown5 hgr5 hat5 hnil5)
            exact ⟨⟨j + 1, by omega, by go_num, HO2.out.next (by omega) hown5 hgr5 HE.out⟩, by simp [intOf] <;> omega⟩
        · have hje : j = i + 1 := by omega
          subst hje
          have HA : Hid (marked bs (i + 1) = below rows i) := marked_all HM'.out
          have HO2 := Lib.hid hO
          clear hO
          go_wp2
          go_ret2
          exact ⟨_, rfl, by rw [← HA.out]; exact HO2.out.own, HO2.out.row.bl⟩
    | succ j =>
      rw [show (((j + 1 : Nat) : Int) - 1) = (j : Int) by omega]
      obtain ⟨b, hbj⟩ : ∃ b, bs[j]? = some b := ⟨_, List.getElem?_eq_getElem (by rw [hM.1]; omega)⟩
      obtain ⟨n, hn⟩ : ∃ n, rows[j]? = some n := ⟨_, List.getElem?_eq_getElem (by omega)⟩
      have d2 := hB.cell hbj hM.1
      have hjl : j < rows.length := by omega
      cases b with
      | false =>
        have hS := hM.skip HK.out (.inl hbj)
        have HS := Lib.hid hS; have HB' := Lib.hid hB
        clear hB hM hS hbj hn
        go_wp2
        refine ⟨⟨j, bs, by omega, by go_num, HB'.out, HS.out⟩, by simp [intOf] <;> omega⟩
      | true =>
        have htw := HT.out.below hB.bl
        obtain ⟨g', c', e, r0, r1, r2, r3, r4⟩ := htw.row hn
        cases e
        have hkk := HK.out.kinds hn
        by_cases hk : 3 ≤ n.kind
        · have hp := HK.out.parts hn hk
          obtain ⟨hl, hr⟩ := hp
          have hS := hM.both HK.out hbj hn hk
          have lL : n.l.toNat < bs.length := by rw [hM.1]; omega
          have lR : n.r.toNat < (bs.set n.l.toNat true).length := by rw [List.length_set, hM.1]; omega
          have d3 := hB.cell (List.getElem?_eq_getElem lL) hM.1
          have f3 := hB.frozen n.l.toNat
          have hB2 := hB.set n.l.toNat
          have d4 := hB2.cell (List.getElem?_eq_getElem lR) (by rw [List.length_set, hM.1])
          have f4 := hB2.frozen n.r.toNat
          have hB3 := hB2.set n.r.toNat
          have htw2 := HT.out.below hB2.bl
          obtain ⟨g2, c2, e, s0, s1, s2, s3, s4⟩ := htw2.row hn
          cases e
          have HS := Lib.hid hS; have HB3 := Lib.hid hB3
          clear hB hM hS hbj hn htw htw2 hB2 hB3
          obtain ⟨kd, nm, l, r⟩ := n
          simp only at *
          have hk1 : (kd != 1) = true := by simp; omega
          have hk2 : (kd != 2) = true := by simp; omega
          obtain ⟨l, rfl⟩ := Int.eq_ofNat_of_zero_le hl.1
          obtain ⟨r, rfl⟩ := Int.eq_ofNat_of_zero_le hr.1
          simp only [Int.toNat_natCast] at *
          have hl2 : (l : Int) < (rows.length : Int) := by omega
          have hr2 : (r : Int) < (rows.length : Int) := by omega
          go_wp2
          exact ⟨⟨j, _, by omega, by go_num, HB3.out, HS.out⟩, by simp [intOf] <;> omega⟩
        · have hS := hM.skip HK.out (.inr ⟨n, hn, hk⟩)
          have HS := Lib.hid hS; have HB' := Lib.hid hB
          clear hB hM hS hbj hn htw
          have hk2 : n.kind = 1 ∨ n.kind = 2 := by omega
          obtain ⟨kd, nm, l, r⟩ := n
          simp only at hk2 r1
          rcases hk2 with rfl | rfl
          · go_wp2
            exact ⟨⟨j, bs, by omega, by go_num, HB'.out, HS.out⟩, by simp [intOf] <;> omega⟩
          · go_wp2
            exact ⟨⟨j, bs, by omega, by go_num, HB'.out, HS.out⟩, by simp [intOf] <;> omega⟩


end Go.Dk

