/- Clone of rows, Rows, Cut. -/
import Derived.Test.YtfldpjacgeoegaaGreatH
namespace Go.Dk
open Go.RowKit Go.Maps Go.MapKept
open Go.Proofs

theorem nodeCells_one (rows : List ND) : ∀ y ∈ nodeCells rows, y.oneCell' = true := by
  intro y hy
  obtain ⟨n, _, hy⟩ := List.mem_flatMap.1 hy
  simp only [ND.cells, List.mem_cons, List.not_mem_nil, or_false] at hy
  rcases hy with rfl | rfl | rfl | rfl <;> rfl
theorem nodeCells_len (rows : List ND) : (nodeCells rows).length = rows.length * 4 := by
  induction rows with
  | nil => rfl
  | cons a t ih => simp only [nodeCells, List.flatMap_cons, List.length_append, List.length_cons] at ih ⊢; rw [ih]; simp [ND.cells]; omega

set_option maxRecDepth 100000 in
theorem cloneNodes_any (w : World) (v : Value) (rows : List ND) (hr : Rd w v rows.length 4 (nodeCells rows)) (hl : rows.length * 40 ≤ 140737488355328) :
    Calls Tryz.prog 73 #[v] w fun e w' => ∃ v', e = .returned v' ∧ w'.ownsRow w.heap.size 51 4 v' rows.length (nodeCells rows) ∧ Below w.heap.size w w' := by
  obtain ⟨a, c, rfl⟩ := hr.slice
  cases a with
  | none =>
    obtain ⟨⟨a, c', e, h1, _⟩, _⟩ := hr
    cases e
    obtain ⟨h0, rfl⟩ := h1 rfl
    have : rows = [] := List.eq_nil_of_length_eq_zero h0
    subst this
    have hn := fun w => Lib.run_eql_slice_nil (P := Tryz.prog) w 22 _ none 0 0 0 0 Tryz.underlying22
    go_enter Tryz.func73, Tryz.ntmps73
    go_wp2
    go_ret
    exact ⟨_, rfl, World.ownsRow_nil _ _ _ _, Below.refl _ _⟩
  | some ad =>
    have hn := fun w => Lib.run_eql_slice_nil (P := Tryz.prog) w 22 _ (some ad) rows.length c 0 0 Tryz.underlying22
    go_enter Tryz.func73, Tryz.ntmps73
    go_wp2_with (at_builtin; refine wp_append rfl (.tmp 5) (.tmp 6) 22 rfl w.heap.size 51 _ 4 40 Tryz.underlying22 infoNode rfl (by decide) (by decide) _ 0 [] rfl (World.ownsRow_made w _ 0 (Nat.le_refl _) (by decide) (by simp)) _ rows.length (nodeCells rows) rfl (hr.below (below_alloc _ _)) (nodeCells_one rows) (by omega) (by simp) ?_; intro v' w1 hown hgrow hat hnil)
    go_ret
    exact ⟨_, rfl, by simpa using hown, ((Below.refl _ _).alloc (Nat.le_refl _) _).grown hgrow (by simp) (by intro k hk; cases hk; exact Nat.le_refl _)⟩

set_option maxRecDepth 100000 in
theorem rows_any (k : Nat) (ow : Own) (w : World) (t : Value) (rows : List ND) (h : Tab k ow w t rows) :
    Calls Tryz.prog 58 #[t] w fun e w' => ∃ v', e = .returned v' ∧ w'.ownsRow w.heap.size 51 4 v' rows.length (nodeCells rows) ∧ Below w.heap.size w w' := by
  have H := Lib.hid h
  have hle := h.ok.le
  obtain ⟨pb, mb, v, rfl, ht⟩ := h
  have hrd : Rd w v rows.length 4 (nodeCells rows) := rd_own ht.hr
  obtain ⟨a, c, rfl⟩ := hrd.slice
  have c5 : w.cell? ⟨pb, 0, none⟩ = some (.slice a rows.length c) := cell_of ht.hp rfl
  clear ht
  go_enter Tryz.func58, Tryz.ntmps58
  go_wp2_with (first
    | (go_at_call 60; refine (alive_yes k ow _ _ rows H.out).mono ?_; rintro e w' ⟨rfl, rfl⟩)
    | (go_at_call 73; refine (cloneNodes_any _ _ rows hrd (by omega)).mono ?_; rintro e w' ⟨v', rfl, hown, hb⟩))
  go_ret
  exact ⟨_, rfl, hown, hb⟩

/-- delete(m, k) in a region that draws: as one step. -/
theorem del_run {w : World} {mb : Nat} {f : ND → Option Nat} (h : TM Tryz.prog 51 ND.val natV w mb f) (n : ND) (h1 : ∃ kl, keyOf Tryz.prog 51 n.val = some kl) :
    ∃ w', (Builtin.delete_ #[72, 51] 0 #[.map (some mb), n.val]).run Tryz.prog w = .ok (.tuple #[]) w' ∧ TM Tryz.prog 51 ND.val natV w' mb (upd f n none) ∧ Only mb w w' := by
  obtain ⟨kl, hkl⟩ := h1
  exact TM.del h lawNode ND.val_inj Tryz.underlying72 hkl 0



theorem cutF_step {rows : List ND} (h : rows.Nodup) {n j : Nat} {x : ND} (hx : rows[n + j]? = some x) : upd (cutF rows n j) x none = cutF rows n (j + 1) := by
  funext y
  by_cases e : y = x
  · subst e
    rw [upd_same]
    unfold cutF
    rw [idxOf?_get h hx]
    simp
  · rw [upd_other _ _ e]
    unfold cutF
    cases hi : rows.idxOf? y with
    | none => rfl
    | some i =>
      have hne : i ≠ n + j := fun h2 => e (by
        have := get_of_idxOf? hi
        rw [h2, hx] at this
        exact (Option.some.inj this).symm)
      simp only [Option.bind_some]
      congr 1
      rw [eq_iff_iff]
      omega

/-- In the loop of Cut. -/
structure CutI (w W : World) (mb : Nat) (rows : List ND) (n j : Nat) : Prop where
  g : w.grownBy W (some mb)
  m : TM Tryz.prog 51 ND.val natV W mb (cutF rows n j)

theorem CutI.step {w W w6 : World} {mb : Nat} {rows : List ND} {n j : Nat} (h : CutI w W mb rows n j) (_hm : mb < w.heap.size) (hd : rows.Nodup) {x : ND} (hx : rows[n + j]? = some x) {o : Obj}
    (h1 : TM Tryz.prog 51 ND.val natV w6 mb (upd (cutF rows n j) x none)) (h2 : Only mb (W.alloc o).drew w6) : CutI w w6 mb rows n (j + 1) := by
  refine ⟨h.g.trans ⟨h2.os, h2.tape, h2.output, ?_, fun k hk hne => (h2.block k (fun e => hne (by rw [e]))).trans (heap_alloc_old W o hk)⟩, cutF_step hd hx ▸ h1⟩
  rw [h2.size]; simp

theorem nodeCells_take (rows : List ND) (n : Nat) : nodeCells (rows.take n) = (nodeCells rows).take (n * 4) := by
  induction rows generalizing n with
  | nil => simp [nodeCells]
  | cons a t ih =>
    cases n with
    | zero => simp [nodeCells]
    | succ n =>
      simp only [List.take_succ_cons, nodeCells, List.flatMap_cons] at ih ⊢
      rw [ih, show (n + 1) * 4 = a.cells.length + n * 4 by simp [ND.cells]; omega, List.take_length_add_append]

theorem cut_end {k : Nat} {ow : Own} {w W : World} {pb mb g c n : Nat} {rows : List ND} (ht : TabAt k ow w pb mb (.slice (some ⟨g, 0, none⟩) rows.length c) rows) (hI : CutI w W mb rows n (rows.length - n)) (hn : n ≤ rows.length) (hpm : pb ≠ mb)
    (hp : W.heap[pb]? = some (.cells #[.slice (some ⟨g, 0, none⟩) rows.length c, .map (some mb)] 74 (0, 0))) :
    ∃ ow', Kept k ow w ow' (W.setCell ⟨pb, 0, none⟩ (.slice (some ⟨g, 0, none⟩) n c)) ∧ Tab k ow' (W.setCell ⟨pb, 0, none⟩ (.slice (some ⟨g, 0, none⟩) n c)) (.pointer (some ⟨pb, 0, none⟩)) (rows.take n) := by
  have hl : (rows.take n).length = n := by simp; omega
  have gp : g ≠ pb := fun e => own_ne ht.hr ht.hp (by intro cur fr e; cases e) (by rw [e]; rfl)
  have gm : g ≠ mb := by
    intro e; subst e
    obtain ⟨_, ⟨es, clock, hes, _⟩, _⟩ := ht.hm
    exact own_ne ht.hr hes (by intro cur fr e; cases e) rfl
  have so : ∀ b, b ≠ pb → (W.setCell ⟨pb, 0, none⟩ (.slice (some ⟨g, 0, none⟩) n c)).heap[b]? = W.heap[b]? := fun b h => Below.heap_setCell _ _ _ _ h
  refine ⟨ow, (kept_grown hI.g (by intro b hb; cases hb; exact ht.cm)).trans (kept_setCell _ ht.cp _), pb, mb, _, rfl, setCell_block hp _, ?_, ?_, ht.ok.take n, ht.cp, ht.cm, fun b hb => ht.cr b hb⟩
  · rw [hl]
    rcases ht.hr.2 with ⟨h, _⟩ | ⟨g', cap, cur, h, h1, h2, h3, h4, h5, h6⟩
    · cases h
    · cases h
      refine ⟨by rw [nodeCells_len, hl], .inr ⟨g, c, cur, rfl, h1, (so g gp).trans ((hI.g.block g (lt_of_block h2) (fun e => gm (Option.some.inj e))).trans h2), by omega, h4, h5, ?_⟩⟩
      rw [nodeCells_take, ← h6, List.take_take]
      congr 1
      omega
  · have := hI.m
    rw [cutF_end ht.ok.nodup n hn] at this
    exact this.same (so mb (Ne.symm hpm))





/-- What Cut does to a living table. -/
def cutP (rows : List ND) (n : Int) : Int × List ND := if 0 ≤ n ∧ n ≤ rows.length then (0, rows.take n.toNat) else (2, rows)




end Go.Dk

