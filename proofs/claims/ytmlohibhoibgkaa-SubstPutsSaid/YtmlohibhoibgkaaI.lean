/- Clone of rows, Rows, Cut. -/
import Derived.Test.YtmlohibhoibgkaaH
namespace Go.Dk
open Go.RowKit Go.Maps Go.MapKept
open Go.Proofs

theorem nodeCells_one (rows : List ND) : ∀ y ∈ nodeCells rows, y.oneCell' = true := by
  intro y hy
  obtain ⟨n, _, hy⟩ := List.mem_flatMap.1 hy
  simp only [ND.cells, List.mem_cons, List.not_mem_nil, or_false] at hy
  rcases hy with rfl | rfl | rfl | rfl <;> rfl
theorem nodeCells_len (rows : List ND) : (nodeCells rows).length = rows.length * 4 := by
  induction rows with
  | nil => rfl
  | cons a t ih => simp only [nodeCells, List.flatMap_cons, List.length_append, List.length_cons] at ih ⊢; rw [ih]; simp [ND.cells]; omega

set_option maxRecDepth 100000 in
theorem cloneNodes_any (w : World) (v : Value) (rows : List ND) (hr : Rd w v rows.length 4 (nodeCells rows)) (hl : rows.length * 40 ≤ 140737488355328) :
    Calls Try.prog 63 #[v] w fun e w' => ∃ v', e = .returned v' ∧ w'.ownsRow w.heap.size 36 4 v' rows.length (nodeCells rows) ∧ Below w.heap.size w w' := by
  obtain ⟨a, c, rfl⟩ := hr.slice
  cases a with
  | none =>
    obtain ⟨⟨a, c', e, h1, _⟩, _⟩ := hr
    cases e
    obtain ⟨h0, rfl⟩ := h1 rfl
    have : rows = [] := List.eq_nil_of_length_eq_zero h0
    subst this
    have hn := fun w => Lib.run_eql_slice_nil (P := Try.prog) w 22 _ none 0 0 0 0 Try.underlying22
    go_enter Try.func63, Try.ntmps63
    go_wp2
    go_ret
    exact ⟨_, rfl, World.ownsRow_nil _ _ _ _, Below.refl _ _⟩
  | some ad =>
    have hn := fun w => Lib.run_eql_slice_nil (P := Try.prog) w 22 _ (some ad) rows.length c 0 0 Try.underlying22
    go_enter Try.func63, Try.ntmps63
    go_wp2_with (at_builtin; refine wp_append rfl (.tmp 5) (.tmp 6) 22 rfl w.heap.size 36 _ 4 40 Try.underlying22 infoNode rfl (by decide) (by decide) _ 0 [] rfl (World.ownsRow_made w _ 0 (Nat.le_refl _) (by decide) (by simp)) _ rows.length (nodeCells rows) rfl (hr.below (below_alloc _ _)) (nodeCells_one rows) (by omega) (by simp) ?_; intro v' w1 hown hgrow hat hnil)
    go_ret
    exact ⟨_, rfl, by simpa using hown, ((Below.refl _ _).alloc (Nat.le_refl _) _).grown hgrow (by simp) (by intro k hk; cases hk; exact Nat.le_refl _)⟩

set_option maxRecDepth 100000 in
theorem rows_any (k : Nat) (ow : Own) (w : World) (t : Value) (rows : List ND) (h : Tab k ow w t rows) :
    Calls Try.prog 46 #[t] w fun e w' => ∃ v', e = .returned v' ∧ w'.ownsRow w.heap.size 36 4 v' rows.length (nodeCells rows) ∧ Below w.heap.size w w' := by
  have H := Lib.hid h
  have hle := h.ok.le
  obtain ⟨pb, mb, v, rfl, ht⟩ := h
  have hrd : Rd w v rows.length 4 (nodeCells rows) := rd_own ht.hr
  obtain ⟨a, c, rfl⟩ := hrd.slice
  have c5 : w.cell? ⟨pb, 0, none⟩ = some (.slice a rows.length c) := cell_of ht.hp rfl
  clear ht
  go_enter Try.func46, Try.ntmps46
  go_wp2_with (first
    | (go_at_call 42; refine (alive_yes k ow _ _ rows H.out).mono ?_; rintro e w' ⟨rfl, rfl⟩)
    | (go_at_call 63; refine (cloneNodes_any _ _ rows hrd (by omega)).mono ?_; rintro e w' ⟨v', rfl, hown, hb⟩))
  go_ret
  exact ⟨_, rfl, hown, hb⟩

/-- delete(m, k) in a region that draws: as one step. -/
theorem del_run {w : World} {mb : Nat} {f : ND → Option Nat} (h : TM Try.prog 36 ND.val natV w mb f) (n : ND) (h1 : ∃ kl, keyOf Try.prog 36 n.val = some kl) :
    ∃ w', (Builtin.delete_ #[89, 36] 0 #[.map (some mb), n.val]).run Try.prog w = .ok (.tuple #[]) w' ∧ TM Try.prog 36 ND.val natV w' mb (upd f n none) ∧ Only mb w w' := by
  obtain ⟨kl, hkl⟩ := h1
  exact TM.del h lawNode ND.val_inj Try.underlying89 hkl 0

set_option maxRecDepth 100000 in
theorem cut_bad (k : Nat) (ow : Own) (w : World) (t : Value) (rows : List ND) (h : Tab k ow w t rows) (n : Int) (hn : n < 0 ∨ (rows.length : Int) < n) :
    Calls Try.prog 59 #[t, .int .i64 n] w fun e w' => e = .returned (.int .i64 2) ∧ w = w' := by
  have H := Lib.hid h
  obtain ⟨pb, mb, v, rfl, ht⟩ := h
  obtain ⟨a, c, rfl⟩ := own_slice ht.hr
  have c5 : w.cell? ⟨pb, 0, none⟩ = some (.slice a rows.length c) := cell_of ht.hp rfl
  clear ht
  rcases hn with hn | hn
  · go_enter Try.func59, Try.ntmps59
    go_wp2_with (go_at_call 42; refine (alive_yes k ow _ _ rows H.out).mono ?_; rintro e w' ⟨rfl, rfl⟩)
    go_ret
    exact ⟨rfl, rfl⟩
  · have hn0 : ¬ n < 0 := by omega
    go_enter Try.func59, Try.ntmps59
    go_wp2_with (go_at_call 42; refine (alive_yes k ow _ _ rows H.out).mono ?_; rintro e w' ⟨rfl, rfl⟩)
    go_ret
    exact ⟨rfl, rfl⟩

theorem cutF_step {rows : List ND} (h : rows.Nodup) {n j : Nat} {x : ND} (hx : rows[n + j]? = some x) : upd (cutF rows n j) x none = cutF rows n (j + 1) := by
  funext y
  by_cases e : y = x
  · subst e
    rw [upd_same]
    unfold cutF
    rw [idxOf?_get h hx]
    simp
  · rw [upd_other _ _ e]
    unfold cutF
    cases hi : rows.idxOf? y with
    | none => rfl
    | some i =>
      have hne : i ≠ n + j := fun h2 => e (by
        have := get_of_idxOf? hi
        rw [h2, hx] at this
        exact (Option.some.inj this).symm)
      simp only [Option.bind_some]
      congr 1
      rw [eq_iff_iff]
      omega

/-- In the loop of Cut. -/
structure CutI (w W : World) (mb : Nat) (rows : List ND) (n j : Nat) : Prop where
  g : w.grownBy W (some mb)
  m : TM Try.prog 36 ND.val natV W mb (cutF rows n j)

theorem CutI.step {w W w6 : World} {mb : Nat} {rows : List ND} {n j : Nat} (h : CutI w W mb rows n j) (_hm : mb < w.heap.size) (hd : rows.Nodup) {x : ND} (hx : rows[n + j]? = some x) {o : Obj}
    (h1 : TM Try.prog 36 ND.val natV w6 mb (upd (cutF rows n j) x none)) (h2 : Only mb (W.alloc o).drew w6) : CutI w w6 mb rows n (j + 1) := by
  refine ⟨h.g.trans ⟨h2.os, h2.tape, h2.output, ?_, fun k hk hne => (h2.block k (fun e => hne (by rw [e]))).trans (heap_alloc_old W o hk)⟩, cutF_step hd hx ▸ h1⟩
  rw [h2.size]; simp

theorem nodeCells_take (rows : List ND) (n : Nat) : nodeCells (rows.take n) = (nodeCells rows).take (n * 4) := by
  induction rows generalizing n with
  | nil => simp [nodeCells]
  | cons a t ih =>
    cases n with
    | zero => simp [nodeCells]
    | succ n =>
      simp only [List.take_succ_cons, nodeCells, List.flatMap_cons] at ih ⊢
      rw [ih, show (n + 1) * 4 = a.cells.length + n * 4 by simp [ND.cells]; omega, List.take_length_add_append]

theorem cut_end {k : Nat} {ow : Own} {w W : World} {pb mb g c n : Nat} {rows : List ND} (ht : TabAt k ow w pb mb (.slice (some ⟨g, 0, none⟩) rows.length c) rows) (hI : CutI w W mb rows n (rows.length - n)) (hn : n ≤ rows.length) (hpm : pb ≠ mb)
    (hp : W.heap[pb]? = some (.cells #[.slice (some ⟨g, 0, none⟩) rows.length c, .map (some mb)] 91 (0, 0))) :
    ∃ ow', Kept k ow w ow' (W.setCell ⟨pb, 0, none⟩ (.slice (some ⟨g, 0, none⟩) n c)) ∧ Tab k ow' (W.setCell ⟨pb, 0, none⟩ (.slice (some ⟨g, 0, none⟩) n c)) (.pointer (some ⟨pb, 0, none⟩)) (rows.take n) := by
  have hl : (rows.take n).length = n := by simp; omega
  have gp : g ≠ pb := fun e => own_ne ht.hr ht.hp (by intro cur fr e; cases e) (by rw [e]; rfl)
  have gm : g ≠ mb := by
    intro e; subst e
    obtain ⟨_, ⟨es, clock, hes, _⟩, _⟩ := ht.hm
    exact own_ne ht.hr hes (by intro cur fr e; cases e) rfl
  have so : ∀ b, b ≠ pb → (W.setCell ⟨pb, 0, none⟩ (.slice (some ⟨g, 0, none⟩) n c)).heap[b]? = W.heap[b]? := fun b h => Below.heap_setCell _ _ _ _ h
  refine ⟨ow, (kept_grown hI.g (by intro b hb; cases hb; exact ht.cm)).trans (kept_setCell _ ht.cp _), pb, mb, _, rfl, setCell_block hp _, ?_, ?_, ht.ok.take n, ht.cp, ht.cm, fun b hb => ht.cr b hb⟩
  · rw [hl]
    rcases ht.hr.2 with ⟨h, _⟩ | ⟨g', cap, cur, h, h1, h2, h3, h4, h5, h6⟩
    · cases h
    · cases h
      refine ⟨by rw [nodeCells_len, hl], .inr ⟨g, c, cur, rfl, h1, (so g gp).trans ((hI.g.block g (lt_of_block h2) (fun e => gm (Option.some.inj e))).trans h2), by omega, h4, h5, ?_⟩⟩
      rw [nodeCells_take, ← h6, List.take_take]
      congr 1
      omega
  · have := hI.m
    rw [cutF_end ht.ok.nodup n hn] at this
    exact this.same (so mb (Ne.symm hpm))

set_option maxRecDepth 100000 in
set_option maxHeartbeats 400000 in
theorem cut_good (k : Nat) (ow : Own) (w : World) (t : Value) (rows : List ND) (h : Tab k ow w t rows) (n : Nat) (hn : n < rows.length) :
    Calls Try.prog 59 #[t, .int .i64 (n : Int)] w fun e w' => e = .returned (.int .i64 0) ∧ ∃ ow', Kept k ow w ow' w' ∧ Tab k ow' w' t (rows.take n) := by
  have H := Lib.hid h
  have hle := h.ok.le
  obtain ⟨pb, mb, v, rfl, ht⟩ := h
  obtain ⟨g, c, rfl, hg, hc⟩ := own_some ht.hr (by omega)
  have hcap : rows.length ≤ c := by
    rcases ht.hr.2 with ⟨h, _⟩ | ⟨g', cap, cur, h, _, _, h2, _⟩
    · cases h
    · cases h; exact h2
  have hcn : ¬ c = n := by omega
  have hn0 : decide ((n : Int) < 0) = false := by simp
  have hn1 : ¬ rows.length < n := by omega
  have c5 : w.cell? ⟨pb, 0, none⟩ = some (.slice (some ⟨g, 0, none⟩) rows.length c) := cell_of ht.hp rfl
  have HT := Lib.hid ht
  have HC := Lib.hid hc
  clear ht hc
  go_enter Try.func59, Try.ntmps59
  go_wp2_with (go_at_call 42; refine (alive_yes k ow _ _ rows H.out).mono ?_; rintro e w' ⟨rfl, rfl⟩)
  go_loopw [6, 30] (fun _ i W => ∃ j : Nat, j ≤ rows.length - n ∧ i = .int .i64 j ∧ CutI w W mb rows n j) (fun _ i _ => rows.length - (intOf i).toNat)
  case atStart => exact ⟨0, by omega, rfl, ⟨⟨rfl, rfl, rfl, Nat.le_refl _, fun _ _ _ => rfl⟩, (cutF_zero rows n) ▸ HT.out.hm⟩⟩
  case round =>
    obtain ⟨j, hj, rfl, hI⟩ := hrel
    by_cases hlt : j < rows.length - n
    · have hxl : n + j < rows.length := by omega
      obtain ⟨x, hx⟩ : ∃ x, rows[n + j]? = some x := ⟨_, List.getElem?_eq_getElem hxl⟩
      have hgm : g ≠ mb := by
        intro e; subst e
        obtain ⟨_, ⟨es, clock, hes, _⟩, _⟩ := HT.out.hm
        exact own_ne HT.out.hr hes (by intro cur fr e; cases e) rfl
      have hcell : ∀ i, wr.cell? ⟨g, i, none⟩ = w.cell? ⟨g, i, none⟩ := fun i => World.cell?_of_block (hI.g.block g hg (fun e => hgm (Option.some.inj e)))
      have e4 : (n + j) * 4 = n * 4 + j * 4 := by omega
      have d0 : wr.cell? ⟨g, n * 4 + j * 4, none⟩ = some (.int .i64 x.kind) := by rw [hcell, ← e4]; exact HC.out _ _ (nodeCells_at rows _ x hx 0 (by omega))
      have d1 : wr.cell? ⟨g, n * 4 + j * 4 + 1, none⟩ = some (.string x.name) := by rw [hcell, ← e4]; exact HC.out _ _ (nodeCells_at rows _ x hx 1 (by omega))
      have d2 : wr.cell? ⟨g, n * 4 + j * 4 + 2, none⟩ = some (.int .i64 x.l) := by rw [hcell, ← e4]; exact HC.out _ _ (nodeCells_at rows _ x hx 2 (by omega))
      have d3 : wr.cell? ⟨g, n * 4 + j * 4 + 3, none⟩ = some (.int .i64 x.r) := by rw [hcell, ← e4]; exact HC.out _ _ (nodeCells_at rows _ x hx 3 (by omega))
      have lp := lt_of_block HT.out.hp
      have hpm : pb ≠ mb := by
        intro e; subst e
        obtain ⟨_, ⟨es, clock, hes, _⟩, _⟩ := HT.out.hm
        rw [HT.out.hp] at hes; cases hes
      have d4 : wr.cell? ⟨pb, 1, none⟩ = some (.map (some mb)) := (World.cell?_of_block (hI.g.block pb lp (fun e => hpm (Option.some.inj e)))).trans (cell_of HT.out.hp rfl)
      have lpr : pb < wr.heap.size := Nat.lt_of_lt_of_le lp hI.g.size
      obtain ⟨w6, hrun, ht6, ho6⟩ := del_run (w := (wr.alloc (.cells #[.int .i64 x.kind, .string x.name, .int .i64 x.l, .int .i64 x.r] 36)).drew) (hI.m.below (below_alloc wr _).drew) x (nodeKey_fits (HT.out.ok.fit _ _ hx) (by omega))
      have hI6 := hI.step HT.out.hm.lt HT.out.ok.nodup hx ht6 ho6
      have HI6 := Lib.hid hI6
      have hrun' : (Builtin.delete_ #[89, 36] 0 #[.map (some mb), .agg #[.int .i64 x.kind, .string x.name, .int .i64 x.l, .int .i64 x.r]]).run Try.prog (wr.alloc (.cells #[.int .i64 x.kind, .string x.name, .int .i64 x.l, .int .i64 x.r] 36)).drew = .ok (.tuple #[]) w6 := hrun
      clear hI6 ht6 ho6 hI hx hcell hrun e4
      go_wp2
      go_region
      go_wp2
      exact ⟨⟨j + 1, by omega, by go_num, HI6.out⟩, by simp [intOf]; omega⟩
    · have hjn : j = rows.length - n := by omega
      subst hjn
      have lp := lt_of_block HT.out.hp
      have hpm : pb ≠ mb := by
        intro e; subst e
        obtain ⟨_, ⟨es, clock, hes, _⟩, _⟩ := HT.out.hm
        rw [HT.out.hp] at hes; cases hes
      have d4 : wr.heap[pb]? = some (.cells #[.slice (some ⟨g, 0, none⟩) rows.length c, .map (some mb)] 91 (0, 0)) := (hI.g.block pb lp (fun e => hpm (Option.some.inj e))).trans HT.out.hp
      have d5 : wr.cell? ⟨pb, 0, none⟩ = some (.slice (some ⟨g, 0, none⟩) rows.length c) := cell_of d4 rfl
      have d6 := frozen_of (i := 0) d4
      have hfin := cut_end HT.out hI (by omega) hpm d4
      have HF := Lib.hid hfin
      clear hI d4 hfin
      go_wp2
      go_ret
      exact ⟨rfl, HF.out⟩

set_option maxRecDepth 100000 in
set_option maxHeartbeats 400000 in
theorem cut_all (k : Nat) (ow : Own) (w : World) (t : Value) (rows : List ND) (h : Tab k ow w t rows) :
    Calls Try.prog 59 #[t, .int .i64 (rows.length : Int)] w fun e w' => e = .returned (.int .i64 0) ∧ ∃ ow', Kept k ow w ow' w' ∧ Tab k ow' w' t rows := by
  have H := Lib.hid h
  have hle := h.ok.le
  obtain ⟨pb, mb, v, rfl, ht⟩ := h
  have hfin : ∃ ow', Kept k ow w ow' (w.setCell ⟨pb, 0, none⟩ v) ∧ Tab k ow' (w.setCell ⟨pb, 0, none⟩ v) (.pointer (some ⟨pb, 0, none⟩)) rows := by
    have hp : (w.setCell ⟨pb, 0, none⟩ v).heap[pb]? = w.heap[pb]? := by rw [setCell_block ht.hp, ht.hp]; simp
    have hsame : ∀ b, (w.setCell ⟨pb, 0, none⟩ v).heap[b]? = w.heap[b]? := fun b => by
      by_cases e : b = pb
      · rw [e]; exact hp
      · exact Below.heap_setCell _ _ _ _ e
    exact ⟨ow, kept_setCell w ht.cp v, pb, mb, v, rfl, ht.below ⟨rfl, rfl, rfl, by simp, fun b _ => hsame b⟩⟩
  have HF := Lib.hid hfin
  clear hfin
  have c5 : w.cell? ⟨pb, 0, none⟩ = some v := cell_of ht.hp rfl
  have c6 := frozen_of (i := 0) ht.hp
  have hn0 : decide ((rows.length : Int) < 0) = false := by simp
  have hr := ht.hr
  clear ht
  rcases hr.2 with ⟨rfl, h0⟩ | ⟨g, c, cur, rfl, _, _, hcap, _⟩
  · have h0' : rows = [] := List.eq_nil_of_length_eq_zero h0
    subst h0'
    go_enter Try.func59, Try.ntmps59
    go_wp2_with (go_at_call 42; refine (alive_yes k ow _ _ _ H.out).mono ?_; rintro e w' ⟨rfl, rfl⟩)
    refine wp_loop_rounds 1 ?_
    rw [rounds_succ]
    go_wp2
    go_ret
    exact ⟨rfl, HF.out⟩
  · clear hr
    by_cases hcn : c = rows.length
    · subst hcn
      go_enter Try.func59, Try.ntmps59
      go_wp2_with (go_at_call 42; refine (alive_yes k ow _ _ _ H.out).mono ?_; rintro e w' ⟨rfl, rfl⟩)
      refine wp_loop_rounds 1 ?_
      rw [rounds_succ]
      go_wp2
      go_ret
      exact ⟨rfl, HF.out⟩
    · go_enter Try.func59, Try.ntmps59
      go_wp2_with (go_at_call 42; refine (alive_yes k ow _ _ _ H.out).mono ?_; rintro e w' ⟨rfl, rfl⟩)
      refine wp_loop_rounds 1 ?_
      rw [rounds_succ]
      go_wp2
      go_ret
      exact ⟨rfl, HF.out⟩

/-- What Cut does to a living table. -/
def cutP (rows : List ND) (n : Int) : Int × List ND := if 0 ≤ n ∧ n ≤ rows.length then (0, rows.take n.toNat) else (2, rows)

theorem cut_any (k : Nat) (ow : Own) (w : World) (t : Value) (rows : List ND) (h : Tab k ow w t rows) (n : Int) :
    Calls Try.prog 59 #[t, .int .i64 n] w fun e w' => e = .returned (.int .i64 (cutP rows n).1) ∧ ∃ ow', Kept k ow w ow' w' ∧ Tab k ow' w' t (cutP rows n).2 := by
  unfold cutP
  by_cases hn : 0 ≤ n ∧ n ≤ rows.length
  · rw [if_pos hn]
    obtain ⟨m, rfl⟩ := Int.eq_ofNat_of_zero_le hn.1
    by_cases hm : m < rows.length
    · exact cut_good k ow w t rows h m hm
    · have : m = rows.length := by omega
      subst this
      simp only [Int.toNat_natCast, List.take_length]
      exact cut_all k ow w t rows h
  · rw [if_neg hn]
    refine (cut_bad k ow w t rows h n (by omega)).mono ?_
    rintro e w' ⟨rfl, rfl⟩
    exact ⟨rfl, ow, .refl _ _ _, h⟩


end Go.Dk

