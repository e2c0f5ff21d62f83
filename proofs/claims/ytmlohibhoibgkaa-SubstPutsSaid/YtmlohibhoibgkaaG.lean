/- Put, of a living table. -/
import Derived.Test.YtmlohibhoibgkaaF
import Derived.Deep.RegionLaw
import Derived.Deep.AppendLies
namespace Go.Dk
open Go.RowKit Go.Maps Go.MapKept
open Go.Proofs

theorem nodeKey (n : ND) (h1 : n.name.size ≤ maxLen) (h2 : (Lit.int .i64 n.kind).wf = true) (h3 : (Lit.int .i64 n.l).wf = true) (h4 : (Lit.int .i64 n.r).wf = true) : ∃ kl, keyOf Try.prog 36 n.val = some kl := by
  apply Option.isSome_iff_exists.1
  unfold keyOf
  rw [Try.underlying36]
  simp only
  have e1 : (Program.keyType Try.prog 36) = true := by kernel_rfl
  have e2 : n.val.formed Try.prog 36 = true := by
    have : Try.prog.cellsOf 36 = 4 := by kernel_rfl
    simp [Value.formed, ND.val, Try.underlying36, this]
  rw [e1, e2]
  simp only [Bool.and_self, if_true]
  have e0 : 0 < Try.prog.types.size := of_decide_eq_true (by kernel_rfl)
  have e3 : ∃ d, Try.prog.types.size = d + 1 := ⟨Try.prog.types.size - 1, by omega⟩
  obtain ⟨d, hd⟩ := e3
  rw [hd]
  have u1 := Try.underlying34
  have u2 := Try.underlying9
  have u3 := Try.underlying3
  have k0 : Try.prog.cellsOf 36 = 4 := by kernel_rfl
  have k1 : Try.prog.cellsOf 34 = 1 := by kernel_rfl
  have k2 : Try.prog.cellsOf 9 = 1 := by kernel_rfl
  have k3 : Try.prog.cellsOf 3 = 1 := by kernel_rfl
  simp [Program.keyLits, Try.underlying36, ND.val, Value.cells, u1, u2, u3, k0, k1, k2, k3, h1, h2, h3, h4]

theorem wf64 {n : Int} (h : -9223372036854775808 ≤ n ∧ n ≤ 9223372036854775807) : (Lit.int .i64 n).wf = true := WalkArith.wf_i64 h

theorem nodeKey_fits {m : Nat} {n : ND} (h : fits m n = 0) (hm : m ≤ 1024) : ∃ kl, keyOf Try.prog 36 n.val = some kl := by
  obtain ⟨h1, h2, h3, h4⟩ := fits_le h
  exact nodeKey n (by unfold maxLen; omega) (wf64 (by omega)) (wf64 (by omega)) (wf64 (by omega))

/-- The four cells of a boxed row, in the world of the box and later. -/
structure Boxed (w : World) (b : Nat) (n : ND) : Prop where
  c0 : w.cell? ⟨b, 0, none⟩ = some (.int .i64 n.kind)
  c1 : w.cell? ⟨b, 1, none⟩ = some (.string n.name)
  c2 : w.cell? ⟨b, 2, none⟩ = some (.int .i64 n.l)
  c3 : w.cell? ⟨b, 3, none⟩ = some (.int .i64 n.r)

theorem boxed_new (w : World) (n : ND) (T : TypeId) : Boxed (w.alloc (.cells #[.int .i64 n.kind, .string n.name, .int .i64 n.l, .int .i64 n.r] T)) w.heap.size n :=
  ⟨World.cell?_alloc_at _ _ _ _ rfl, World.cell?_alloc_at _ _ _ _ rfl, World.cell?_alloc_at _ _ _ _ rfl, World.cell?_alloc_at _ _ _ _ rfl⟩
theorem Boxed.below {w w' : World} {b : Nat} {n : ND} (h : Boxed w b n) (hb : Below w.heap.size w w') : Boxed w' b n := by
  have l : b < w.heap.size := World.block_lt_of_cell? w _ h.c0
  exact ⟨(hb.cell (p := ⟨b, 0, none⟩) l).trans h.c0, (hb.cell (p := ⟨b, 1, none⟩) l).trans h.c1, (hb.cell (p := ⟨b, 2, none⟩) l).trans h.c2, (hb.cell (p := ⟨b, 3, none⟩) l).trans h.c3⟩

set_option maxRecDepth 100000 in
set_option maxHeartbeats 400000 in
theorem put_err (k : Nat) (ow : Own) (w : World) (t : Value) (rows : List ND) (h : Tab k ow w t rows) (kd l r : Int) (nm : ByteArray) (hn : nm.size ≤ maxLen) (hf : (fits rows.length ⟨kd, nm, l, r⟩ != 0) = true) :
    Calls Try.prog 55 #[t, .agg #[.int .i64 kd, .string nm, .int .i64 l, .int .i64 r]] w fun e w' => e = .returned (.tuple #[.int .i64 0, .int .i64 (fits rows.length ⟨kd, nm, l, r⟩)]) ∧ Below w.heap.size w w' := by
  have hT : ∀ o, Tab k ow (w.alloc o) t rows := fun o => h.below (below_alloc _ _)
  have HT := Lib.hid hT; clear hT
  go_enter Try.func55, Try.ntmps55
  go_wp2_with (first
    | (go_at_call 42; refine (alive_yes k ow _ _ rows (HT.out _)).mono ?_; rintro e w' ⟨rfl, rfl⟩)
    | (go_at_call 74; refine (fits_any k ow _ _ rows (HT.out _) _ _ _ _ hn).mono ?_; rintro e w2 ⟨rfl, hb2⟩))
  go_ret2
  exact ⟨rfl, below_trans (below_alloc _ _) hb2⟩

set_option maxRecDepth 100000 in
set_option maxHeartbeats 400000 in
theorem put_found (k : Nat) (ow : Own) (w : World) (t : Value) (rows : List ND) (h : Tab k ow w t rows) (kd l r : Int) (nm : ByteArray) (hn : nm.size ≤ maxLen) (hf : fits rows.length ⟨kd, nm, l, r⟩ = 0) (i : Nat) (hi : rows.idxOf? ⟨kd, nm, l, r⟩ = some i) :
    Calls Try.prog 55 #[t, .agg #[.int .i64 kd, .string nm, .int .i64 l, .int .i64 r]] w fun e w' => e = .returned (.tuple #[.int .i64 (i : Int), .int .i64 0]) ∧ Below w.heap.size w w' := by
  have hT : ∀ o, Tab k ow (w.alloc o) t rows := fun o => h.below (below_alloc _ _)
  have HT := Lib.hid hT; clear hT
  have hB : Boxed (w.alloc (.cells #[.int .i64 kd, .string nm, .int .i64 l, .int .i64 r] 36)) w.heap.size ⟨kd, nm, l, r⟩ := boxed_new w ⟨kd, nm, l, r⟩ _
  go_enter Try.func55, Try.ntmps55
  go_wp2_with (first
    | (go_at_call 42; refine (alive_yes k ow _ _ rows (HT.out _)).mono ?_; rintro e w' ⟨rfl, rfl⟩)
    | (go_at_call 74; refine (fits_any k ow _ _ rows (HT.out _) _ _ _ _ hn).mono ?_; rintro e w2 ⟨rfl, hb2⟩))
  have hB2 := hB.below hb2
  obtain ⟨c0, c1, c2, c3⟩ := hB2
  obtain ⟨pb, mb, v, rfl, ⟨h1, h2, h3, h4, _⟩⟩ := (HT.out _).below hb2
  have c4 : w2.cell? ⟨pb, 1, none⟩ = some (.map (some mb)) := cell_of h1 rfl
  obtain ⟨kl, hkl⟩ := nodeKey_fits hf h4.le
  have hl : ∀ nq, (Instr.lookup 89 (.map (some mb)) (.agg #[.int .i64 kd, .string nm, .int .i64 l, .int .i64 r]) true).run Try.prog (w2.drewN nq) = .ok (.tuple #[.int .i64 (i : Int), .bool true]) (w2.drewN nq) := fun nq =>
    TM.look_some (h3.below (below_drewN w2 nq)) lawNode ND.val_inj Try.underlying89 hkl true hi
  clear h1 h2 h3 h4 hi hkl h hB
  go_quiet (fail)
  go_wp2
  go_ret2
  exact ⟨rfl, below_trans (below_trans (below_alloc _ _) hb2) (below_drewN _ _)⟩

set_option maxRecDepth 100000 in
set_option maxHeartbeats 400000 in
theorem put_full (k : Nat) (ow : Own) (w : World) (t : Value) (rows : List ND) (h : Tab k ow w t rows) (kd l r : Int) (nm : ByteArray) (hn : nm.size ≤ maxLen) (hf : fits rows.length ⟨kd, nm, l, r⟩ = 0) (hi : rows.idxOf? ⟨kd, nm, l, r⟩ = none) (hl : 1024 ≤ rows.length) :
    Calls Try.prog 55 #[t, .agg #[.int .i64 kd, .string nm, .int .i64 l, .int .i64 r]] w fun e w' => e = .returned (.tuple #[.int .i64 0, .int .i64 30]) ∧ Below w.heap.size w w' := by
  have hT : ∀ o, Tab k ow (w.alloc o) t rows := fun o => h.below (below_alloc _ _)
  have HT := Lib.hid hT; clear hT
  have hB : Boxed (w.alloc (.cells #[.int .i64 kd, .string nm, .int .i64 l, .int .i64 r] 36)) w.heap.size ⟨kd, nm, l, r⟩ := boxed_new w ⟨kd, nm, l, r⟩ _
  go_enter Try.func55, Try.ntmps55
  go_wp2_with (first
    | (go_at_call 42; refine (alive_yes k ow _ _ rows (HT.out _)).mono ?_; rintro e w' ⟨rfl, rfl⟩)
    | (go_at_call 74; refine (fits_any k ow _ _ rows (HT.out _) _ _ _ _ hn).mono ?_; rintro e w2 ⟨rfl, hb2⟩))
  have hB2 := hB.below hb2
  obtain ⟨c0, c1, c2, c3⟩ := hB2
  obtain ⟨pb, mb, v, rfl, ⟨h1, h2, h3, h4, _⟩⟩ := (HT.out _).below hb2
  obtain ⟨a, c, rfl⟩ := own_slice h2
  have c5 : w2.cell? ⟨pb, 0, none⟩ = some (.slice a rows.length c) := cell_of h1 rfl
  have c4 : w2.cell? ⟨pb, 1, none⟩ = some (.map (some mb)) := cell_of h1 rfl
  obtain ⟨kl, hkl⟩ := nodeKey_fits hf h4.le
  have hz : ∀ W, (zeroValue 3).run Try.prog W = .ok (.int .i64 0) W := fun _ => by kernel_rfl
  have hll : ∀ nq, (Instr.lookup 89 (.map (some mb)) (.agg #[.int .i64 kd, .string nm, .int .i64 l, .int .i64 r]) true).run Try.prog (w2.drewN nq) = .ok (.tuple #[.int .i64 0, .bool false]) (w2.drewN nq) := fun nq =>
    TM.look_none (h3.below (below_drewN w2 nq)) lawNode ND.val_inj Try.underlying89 (hz _) hkl true hi
  clear h1 h2 h3 h4 hi hkl h hB hz
  go_quiet (fail)
  go_wp2
  go_ret2
  exact ⟨rfl, below_trans (below_trans (below_alloc _ _) hb2) (below_drewN _ _)⟩

/-- Between the append and the map's store. -/
structure Mid (k : Nat) (ow : Own) (w : World) (pb mb : Nat) (v : Value) (rows : List ND) (n : ND) (W : World) : Prop where
  hp : W.heap[pb]? = some (.cells #[v, .map (some mb)] 91 (0, 0))
  hr : W.ownsRow 0 36 4 v (rows.length + 1) (nodeCells rows ++ n.cells)
  hm : TM Try.prog 36 ND.val natV W mb (fun n => rows.idxOf? n)
  bx : Boxed W w.heap.size n
  kp : Kept k ow w ow W
  cr : ∀ g, v.ownBlock = some g → g < w.heap.size → ow g = k

theorem mid_of {k : Nat} {ow : Own} {w w3 w4 : World} {pb mb g cap : Nat} {u : Value} {rows : List ND} {n : ND} {H : Nat} (hH : w.heap.size ≤ H)
    (lp : pb < w.heap.size) (lm : mb < w.heap.size) (hb : Below w.heap.size w w3) (lB : w.heap.size < w3.heap.size)
    (cp : ow pb = k) (_cm : ow mb = k) (cr : ∀ g, u.ownBlock = some g → ow g = k) (lv : ∀ g, u.ownBlock = some g → g < w.heap.size)
    (n1 : u.ownBlock ≠ some pb) (n2 : u.ownBlock ≠ some mb) (m1 : w4.heap[pb]? = some (.cells #[u, .map (some mb)] 91 (0, 0)))
    (m3 : TM Try.prog 36 ND.val natV w3 mb (fun n => rows.idxOf? n)) (bx : Boxed w3 w.heap.size n)
    (hown : w4.ownsRow 0 36 4 (.slice (some ⟨g, 0, none⟩) (rows.length + 1) cap) (rows.length + 1) (nodeCells rows ++ n.cells))
    (hat : u.ownBlock = some g ∨ g = H) (hg : w3.grownBy w4 u.ownBlock) :
    Mid k ow w pb mb (.slice (some ⟨g, 0, none⟩) (rows.length + 1) cap) rows n (w4.setCell ⟨pb, 0, none⟩ (.slice (some ⟨g, 0, none⟩) (rows.length + 1) cap)) := by
  have n3 : u.ownBlock ≠ some w.heap.size := fun e => by have := lv _ e; omega
  have hsz : w.heap.size ≤ w3.heap.size := hb.size
  have gp : g ≠ pb := by
    rcases hat with h | h
    · intro e; exact n1 (e ▸ h)
    · omega
  have so : ∀ b, b ≠ pb → (w4.setCell ⟨pb, 0, none⟩ (.slice (some ⟨g, 0, none⟩) (rows.length + 1) cap)).heap[b]? = w4.heap[b]? := fun b h => Below.heap_setCell _ _ _ _ h
  have s2 : ∀ j, (w4.setCell ⟨pb, 0, none⟩ (.slice (some ⟨g, 0, none⟩) (rows.length + 1) cap)).cell? ⟨w.heap.size, j, none⟩ = w3.cell? ⟨w.heap.size, j, none⟩ := fun j =>
    (World.cell?_of_block (so _ (by show w.heap.size ≠ pb; omega))).trans (World.cell?_of_block (hg.block _ lB (Ne.symm n3)))
  refine ⟨?_, ?_, ?_, ?_, ?_, ?_⟩
  · exact setCell_block m1 _
  · refine ⟨hown.1, .inr ?_⟩
    rcases hown.2 with ⟨h, _⟩ | ⟨g', cap', cur, h, hb', hg', r⟩
    · cases h
    · cases h
      exact ⟨g, cap, cur, rfl, hb', (so g gp).trans hg', r⟩
  · exact m3.same ((so mb (by
      intro e
      subst e
      obtain ⟨_, ⟨es, clock, hes, _⟩, _⟩ := m3
      have := (hg.block mb (by omega) (Ne.symm n1)).symm.trans m1
      rw [hes] at this
      cases this)).trans (hg.block mb (by omega) (Ne.symm n2)))
  · exact ⟨(s2 0).trans bx.c0, (s2 1).trans bx.c1, (s2 2).trans bx.c2, (s2 3).trans bx.c3⟩
  · exact ((hb.kept_ow).trans (kept_grown hg cr)).trans (kept_setCell _ cp _)
  · intro g' h hl
    cases h
    have hl' : g < w.heap.size := hl
    rcases hat with h | h
    · exact cr _ h
    · omega

theorem mid_end {k : Nat} {ow : Own} {w W W' : World} {pb mb : Nat} {v : Value} {rows : List ND} {n : ND} (h : Mid k ow w pb mb v rows n W) (ok : Ok rows) (hf : fits rows.length n = 0) (hi : rows.idxOf? n = none) (hl : rows.length < 1024)
    (lp : pb < w.heap.size) (lm : mb < w.heap.size) (cp : ow pb = k) (cm : ow mb = k)
    (hm : TM Try.prog 36 ND.val natV W' mb (upd (fun n => rows.idxOf? n) n (some rows.length))) (ho : Only mb W.drew W') :
    ∃ ow', Kept k ow w ow' W' ∧ Tab k ow' W' (.pointer (some ⟨pb, 0, none⟩)) (rows ++ [n]) := by
  have hne : pb ≠ mb := by
    intro e; subst e
    obtain ⟨_, ⟨es, clock, hes, _⟩, _⟩ := h.hm
    rw [h.hp] at hes; cases hes
  have nm : v.ownBlock ≠ some mb := by
    obtain ⟨_, ⟨es, clock, hes, _⟩, _⟩ := h.hm
    exact own_ne h.hr hes (by intro cur fr e; cases e)
  refine ⟨fun b => if b < w.heap.size then ow b else k, ((h.kp.trans (kept_drew _ _ _)).trans (ho.kept cm)).recolour (fun b hb => by simp [hb]), pb, mb, v, rfl, (ho.block pb hne).trans h.hp, ?_, ?_, ok.snoc hf hi (by omega), by simp [lp, cp], by simp [lm, cm], ?_⟩
  · have e : nodeCells (rows ++ [n]) = nodeCells rows ++ n.cells := by simp [nodeCells]
    rw [e, List.length_append]
    refine ⟨h.hr.1, ?_⟩
    rcases h.hr.2 with h1 | ⟨g, cap, cur, rfl, hb, hg, r⟩
    · exact .inl h1
    · exact .inr ⟨g, cap, cur, rfl, hb, (ho.block g (fun e => nm (by rw [e]; rfl))).trans hg, r⟩
  · have e : (fun x => (rows ++ [n]).idxOf? x) = upd (fun n => rows.idxOf? n) n (some rows.length) := by
      funext x
      rw [idxOf?_snoc rows n x hi]
      by_cases hx : x = n
      · subst hx; rw [upd_same, if_pos rfl]
      · rw [upd_other _ _ hx, if_neg hx]
    rw [e]; exact hm
  · intro g hg
    by_cases hgl : g < w.heap.size
    · simp only [hgl, if_true]; exact h.cr g hg hgl
    · simp [hgl]

set_option maxRecDepth 100000 in
set_option maxHeartbeats 800000 in
theorem put_new (k : Nat) (ow : Own) (w : World) (t : Value) (rows : List ND) (h : Tab k ow w t rows) (kd l r : Int) (nm : ByteArray) (hn : nm.size ≤ maxLen) (hf : fits rows.length ⟨kd, nm, l, r⟩ = 0) (hi : rows.idxOf? ⟨kd, nm, l, r⟩ = none) (hl : rows.length < 1024) :
    Calls Try.prog 55 #[t, .agg #[.int .i64 kd, .string nm, .int .i64 l, .int .i64 r]] w fun e w' => e = .returned (.tuple #[.int .i64 (rows.length : Int), .int .i64 0]) ∧ ∃ ow', Kept k ow w ow' w' ∧ Tab k ow' w' t (rows ++ [⟨kd, nm, l, r⟩]) := by
  obtain ⟨pb, mb, v, rfl, ht⟩ := h
  have hT : ∀ o, Tab k ow (w.alloc o) (.pointer (some ⟨pb, 0, none⟩)) rows := fun o => ⟨pb, mb, v, rfl, ht.below (below_alloc _ _)⟩
  have HT := Lib.hid hT; clear hT
  have lp := lt_of_block ht.hp
  have lm := ht.hm.lt
  have lv : ∀ g, v.ownBlock = some g → g < w.heap.size := fun g hg => (ht.hr.lt g hg).2
  have LV := Lib.hid lv; clear lv
  have hB : Boxed (w.alloc (.cells #[.int .i64 kd, .string nm, .int .i64 l, .int .i64 r] 36)) w.heap.size ⟨kd, nm, l, r⟩ := boxed_new w ⟨kd, nm, l, r⟩ _
  go_enter Try.func55, Try.ntmps55
  go_wp2_with (first
    | (go_at_call 42; refine (alive_yes k ow _ _ rows (HT.out _)).mono ?_; rintro e w' ⟨rfl, rfl⟩)
    | (go_at_call 74; refine (fits_any k ow _ _ rows (HT.out _) _ _ _ _ hn).mono ?_; rintro e w2 ⟨rfl, hb2⟩))
  have hB2 := hB.below hb2
  obtain ⟨c0, c1, c2, c3⟩ := hB2
  obtain ⟨h1, h2, h3, h4, h5, h6, h7⟩ := (ht.below (below_alloc _ _)).below hb2
  have H7 := Lib.hid h7; clear h7
  obtain ⟨a, c, rfl⟩ := own_slice h2
  have c5 : w2.cell? ⟨pb, 0, none⟩ = some (.slice a rows.length c) := cell_of h1 rfl
  have c4 : w2.cell? ⟨pb, 1, none⟩ = some (.map (some mb)) := cell_of h1 rfl
  obtain ⟨kl, hkl⟩ := nodeKey_fits hf h4.le
  have hz : ∀ W, (zeroValue 3).run Try.prog W = .ok (.int .i64 0) W := fun _ => by kernel_rfl
  have hll : ∀ nq, (Instr.lookup 89 (.map (some mb)) (.agg #[.int .i64 kd, .string nm, .int .i64 l, .int .i64 r]) true).run Try.prog (w2.drewN nq) = .ok (.tuple #[.int .i64 0, .bool false]) (w2.drewN nq) := fun nq =>
    TM.look_none (h3.below (below_drewN w2 nq)) lawNode ND.val_inj Try.underlying89 (hz _) hkl true hi
  have HI := Lib.hid hi
  have HK := Lib.hid hkl
  clear hi hkl ht hB hz
  go_quiet (fail)
  have hb3 : Below w2.heap.size w2 (w2.drewN nq) := below_drewN w2 nq
  have k0 : (w2.drewN nq).cell? ⟨w.heap.size, 0, none⟩ = some (.int .i64 kd) := c0
  have k1 : (w2.drewN nq).cell? ⟨w.heap.size, 1, none⟩ = some (.string nm) := c1
  have k2 : (w2.drewN nq).cell? ⟨w.heap.size, 2, none⟩ = some (.int .i64 l) := c2
  have k3 : (w2.drewN nq).cell? ⟨w.heap.size, 3, none⟩ = some (.int .i64 r) := c3
  have k4 : (w2.drewN nq).cell? ⟨pb, 1, none⟩ = some (.map (some mb)) := c4
  have k5 : (w2.drewN nq).cell? ⟨pb, 0, none⟩ = some (.slice a rows.length c) := c5
  have m1 : (w2.drewN nq).heap[pb]? = some (.cells #[.slice a rows.length c, .map (some mb)] 91 (0, 0)) := h1
  have m2 : (w2.drewN nq).ownsRow 0 36 4 (.slice a rows.length c) rows.length (nodeCells rows) := h2
  have m3 : TM Try.prog 36 ND.val natV (w2.drewN nq) mb (fun n => rows.idxOf? n) := h3
  clear c0 c1 c2 c3 c4 c5 h1 h2 h3 hll
  have hb4 := below_trans (below_trans (below_alloc w _) hb2) hb3
  clear hb3 hb2
  generalize w2.drewN nq = w3 at *
  have h1024 : ¬ 1024 ≤ (rows.length : Int) := by omega
  go_wp2
  obtain ⟨i0, hi0, hz0, hz1, hz2⟩ := info_parts infoNode
  have n1 : (Value.slice a rows.length c).ownBlock ≠ some pb := own_ne m2 m1 (by intro cur fr e; cases e)
  have n2 : (Value.slice a rows.length c).ownBlock ≠ some mb := by
    obtain ⟨_, ⟨es, clock, hes, _⟩, _⟩ := m3
    exact own_ne m2 hes (by intro cur fr e; cases e)
  have lB : w.heap.size < w3.heap.size := World.block_lt_of_cell? w3 _ k0
  have n3 : (Value.slice a rows.length c).ownBlock ≠ some w.heap.size := fun e => by have := LV.out _ e; omega
  have N1 := Lib.hid n1; have N2 := Lib.hid n2; have N3 := Lib.hid n3
  clear n1 n2 n3
  have l3 : w.heap.size ≤ w3.heap.size := hb4.size
  have lp3 : pb < w3.heap.size := by omega
  have lm3 : mb < w3.heap.size := by omega
  have H5 := Lib.hid h5
  have H6 := Lib.hid h6
  clear h5 h6
  go_region_law (refine step_append_lies _ rfl (.tmp 41) (.tmp 43) 22 rfl 0 36 i0 _ 4 40 Try.underlying22 hi0 hz0 hz1 hz2 rfl (by decide) _ rows.length (nodeCells rows) (by simp [Act.eval]; rfl) (by exact m2.alloc _) ⟨w3.heap.size, 0, none⟩ 1 1 (ND.cells ⟨kd, nm, l, r⟩) (by simp [Act.eval]) rfl (World.news_of_block (heap_alloc_new' _ _ rfl)) (by simp [ND.cells, Value.oneCell']) (by decide) (by unfold maxLen; omega) (by omega) (by simp) _ rfl ?_; intro g cap w4 hown hgrow hat hlt; have hgr : w3.grownBy w4 (Value.slice a rows.length c).ownBlock := grown_ad hgrow; have q1 := (hgr.block pb (by omega) (Ne.symm N1.out)).trans m1; have q2 : w4.cell? ⟨pb, 0, none⟩ = some (.slice a rows.length c) := cell_of q1 rfl; have q3 := frozen_of (i := 0) q1; have Q1 := Lib.hid q1; clear q1 hgrow)
  all_goals
    have hM := mid_of (Nat.le_of_lt (by simp; omega)) lp lm hb4 lB H5.out H6.out H7.out LV.out N1.out N2.out Q1.out m3 ⟨k0, k1, k2, k3⟩ hown hat hgr
    clear hown hat hgr q2 q3 Q1 k0 k1 k2 k3 k4 k5 m1 m2 m3 hlt
    generalize w4.setCell ⟨pb, 0, none⟩ (.slice (some ⟨g, 0, none⟩) (rows.length + 1) cap) = w5 at *
    obtain ⟨w6, hrun, ht6, ho6⟩ := TM.put (w := w5.drew) (hM.hm.below (below_drewN w5 1)) lawNode ND.val_inj Try.underlying89 HK.out rows.length
    have k4 : w5.cell? ⟨pb, 1, none⟩ = some (.map (some mb)) := cell_of hM.hp rfl
    obtain ⟨c0, c1, c2, c3⟩ := hM.bx
    have hfin := mid_end hM h4 hf HI.out hl lp lm H5.out H6.out ht6 ho6
    have HF := Lib.hid hfin
    clear hM ht6 ho6 hfin
    have hrun' : (Instr.mapUpdate 89 (.map (some mb)) (.agg #[.int .i64 kd, .string nm, .int .i64 l, .int .i64 r]) (.int .i64 (rows.length : Int))).run Try.prog w5.drew = .ok () w6 := hrun
    clear hrun
    go_wp2
    go_region
    go_wp2
    go_ret2
    exact ⟨rfl, HF.out⟩

/-- Put. -/
theorem put_any (k : Nat) (ow : Own) (w : World) (t : Value) (rows : List ND) (h : Tab k ow w t rows) (kd l r : Int) (nm : ByteArray) (hn : nm.size ≤ maxLen) :
    Calls Try.prog 55 #[t, .agg #[.int .i64 kd, .string nm, .int .i64 l, .int .i64 r]] w fun e w' => e = .returned (.tuple #[.int .i64 (put rows ⟨kd, nm, l, r⟩).id, .int .i64 (put rows ⟨kd, nm, l, r⟩).err]) ∧ ∃ ow', Kept k ow w ow' w' ∧ Tab k ow' w' t (put rows ⟨kd, nm, l, r⟩).rows := by
  unfold put
  by_cases hf : fits rows.length ⟨kd, nm, l, r⟩ = 0
  · rw [if_neg (by simpa using hf)]
    cases hi : rows.idxOf? ⟨kd, nm, l, r⟩ with
    | some i =>
      refine (put_found k ow w t rows h kd l r nm hn hf i hi).mono ?_
      rintro e w' ⟨rfl, hb⟩
      exact ⟨rfl, ow, .of_below hb, h.below hb⟩
    | none =>
      by_cases hl : 1024 ≤ rows.length
      · simp only [if_pos hl]
        refine (put_full k ow w t rows h kd l r nm hn hf hi hl).mono ?_
        rintro e w' ⟨rfl, hb⟩
        exact ⟨rfl, ow, .of_below hb, h.below hb⟩
      · simp only [if_neg hl]
        exact put_new k ow w t rows h kd l r nm hn hf hi (by omega)
  · rw [if_pos (by simpa using hf)]
    refine (put_err k ow w t rows h kd l r nm hn (by simpa using hf)).mono ?_
    rintro e w' ⟨rfl, hb⟩
    exact ⟨rfl, ow, .of_below hb, h.below hb⟩


end Go.Dk

