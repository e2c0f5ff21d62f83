/- The document's tables: Put, Atom, Bot, Two, Imp, Not, Cut. -/
import Derived.Test.YtmlohibhoibgkaaEa
import Derived.Test.YtmlohibhoibgkaaEb
import Derived.Test.YtmlohibhoibgkaaJ
namespace Go.Dk
open Go.RowKit Go.Maps Go.MapKept
open Go.Proofs hiding intOf

theorem refPut_any (k : Nat) (ow : Own) (w : World) (t : Value) (rows : List ND) (h : RTab k ow w t rows) (kd l r : Int) (nm : ByteArray) (hn : nm.size ≤ maxLen) :
    Calls Try.prog 54 #[t, .agg #[.int .i64 kd, .string nm, .int .i64 l, .int .i64 r]] w (RPutPost k ow w t (put rows ⟨kd, nm, l, r⟩)) := by
  unfold put RPutPost
  by_cases hf : fits rows.length ⟨kd, nm, l, r⟩ = 0
  · rw [if_neg (by simpa using hf)]
    cases hi : rows.idxOf? ⟨kd, nm, l, r⟩ with
    | some i =>
      refine (refPut_found k ow w t rows h kd l r nm hn hf i hi).mono ?_
      rintro e w' ⟨rfl, hb⟩
      exact ⟨rfl, ow, .of_below hb, h.below hb⟩
    | none =>
      by_cases hl : 1024 ≤ rows.length
      · simp only [if_pos hl]
        refine (refPut_full k ow w t rows h kd l r nm hn hf hi hl).mono ?_
        rintro e w' ⟨rfl, hb⟩
        exact ⟨rfl, ow, .of_below hb, h.below hb⟩
      · simp only [if_neg hl]
        exact refPut_new k ow w t rows h kd l r nm hn hf hi (by omega)
  · rw [if_pos (by simpa using hf)]
    refine (refPut_err k ow w t rows h kd l r nm hn hf).mono ?_
    rintro e w' ⟨rfl, hb⟩
    exact ⟨rfl, ow, .of_below hb, h.below hb⟩

section
variable (k : Nat) (ow : Own) (w : World) (t : Value) (rows : List ND) (h : RTab k ow w t rows)
include h



set_option maxRecDepth 100000 in
theorem refBot_any : Calls Try.prog 88 #[t] w (RPutPost k ow w t (put rows ⟨2, ⟨#[]⟩, 0, 0⟩)) := by
  go_enter Try.func88, Try.ntmps88
  go_wp2_with (go_at_call 54; refine (refPut_any k ow _ _ rows h _ _ _ _ empty_le).mono ?_; rintro e w' ⟨rfl, hq⟩)
  go_ret2
  exact ⟨rfl, hq⟩

set_option maxRecDepth 100000 in
theorem refTwo_any (kd a b : Int) : Calls Try.prog 52 #[t, .int .i64 kd, .int .i64 a, .int .i64 b] w (RPutPost k ow w t (put rows ⟨kd, ⟨#[]⟩, a, b⟩)) := by
  go_enter Try.func52, Try.ntmps52
  go_wp2_with (go_at_call 54; refine (refPut_any k ow _ _ rows h _ _ _ _ empty_le).mono ?_; rintro e w' ⟨rfl, hq⟩)
  go_ret2
  exact ⟨rfl, hq⟩

set_option maxRecDepth 100000 in
theorem refImp_any (a b : Int) : Calls Try.prog 89 #[t, .int .i64 a, .int .i64 b] w (RPutPost k ow w t (put rows ⟨5, ⟨#[]⟩, a, b⟩)) := by
  go_enter Try.func89, Try.ntmps89
  go_wp2_with (go_at_call 52; refine (refTwo_any k ow _ _ rows h _ _ _).mono ?_; rintro e w' ⟨rfl, hq⟩)
  go_ret2
  exact ⟨rfl, hq⟩

end



set_option maxRecDepth 100000 in
theorem refCut_bad (k : Nat) (ow : Own) (w : World) (t : Value) (rows : List ND) (h : RTab k ow w t rows) (n : Int) (hn : n < 0 ∨ (rows.length : Int) < n) :
    Calls Try.prog 71 #[t, .int .i64 n] w fun e w' => e = .returned (.int .i64 2) ∧ w = w' := by
  obtain ⟨rb, v, rfl, ht⟩ := h
  obtain ⟨a, c, rfl⟩ := ht.hr.slice
  have c5 : w.cell? ⟨rb, 0, none⟩ = some (.slice a rows.length c) := cell_of ht.hp rfl
  clear ht
  rcases hn with hn | hn
  · go_enter Try.func71, Try.ntmps71
    go_wp2
    go_ret
    exact ⟨rfl, rfl⟩
  · have hn0 : ¬ n < 0 := by omega
    go_enter Try.func71, Try.ntmps71
    go_wp2
    go_ret
    exact ⟨rfl, rfl⟩

/-- Behind the document's Cut. -/
theorem refcut_end {k : Nat} {ow : Own} {w : World} {rb : Nat} {v u : Value} {rows : List ND} {n : Nat} (ht : RTabAt k ow w rb v rows) (hn : n ≤ rows.length) (hu : RowW w 36 4 u n (nodeCells (rows.take n))) (ho : u.ownBlock = v.ownBlock) :
    ∃ ow', Kept k ow w ow' (w.setCell ⟨rb, 0, none⟩ u) ∧ RTab k ow' (w.setCell ⟨rb, 0, none⟩ u) (.pointer (some ⟨rb, 0, none⟩)) (rows.take n) := by
  have hl : (rows.take n).length = n := by simp; omega
  have nb : v.ownBlock ≠ some rb := ht.hr.ne ht.hp (by intro cur fr e; cases e)
  refine ⟨ow, kept_setCell _ ht.cp _, rb, u, rfl, setCell_block ht.hp _, ?_, ht.ok.take n, ht.cp, fun g hg => ht.cr g (ho ▸ hg)⟩
  rw [hl]
  exact hu.same fun g hg => Below.heap_setCell _ _ _ _ (fun e => nb (by rw [← ho, hg]; exact congrArg some e))

set_option maxRecDepth 100000 in
set_option maxHeartbeats 400000 in
theorem refCut_good (k : Nat) (ow : Own) (w : World) (t : Value) (rows : List ND) (h : RTab k ow w t rows) (n : Nat) (hn : n ≤ rows.length) :
    Calls Try.prog 71 #[t, .int .i64 (n : Int)] w fun e w' => e = .returned (.int .i64 0) ∧ ∃ ow', Kept k ow w ow' w' ∧ RTab k ow' w' t (rows.take n) := by
  have hle := h.ok.le
  obtain ⟨rb, v, rfl, ht⟩ := h
  have HT := Lib.hid ht
  have hn0 : decide ((n : Int) < 0) = false := by simp
  have hn1 : ¬ rows.length < n := by omega
  have c6 := frozen_of (i := 0) ht.hp
  have hm : rows.length ≤ maxLen := by unfold maxLen; omega
  rcases Nat.eq_zero_or_pos rows.length with h0 | h0
  · have : rows = [] := List.eq_nil_of_length_eq_zero h0
    subst this
    obtain rfl : n = 0 := by simpa using hn
    rcases ht.hr with h1 | ⟨g, cur, rfl, h1⟩
    · rcases h1.2 with ⟨rfl, _⟩ | ⟨g, cap, cur, rfl, _, _, hcap, _⟩
      · have c5 : w.cell? ⟨rb, 0, none⟩ = some (.slice none 0 0) := cell_of ht.hp rfl
        have HF := Lib.hid (refcut_end ht (n := 0) (by simp) (.inl (World.ownsRow_nil _ _ _ _)) rfl)
        clear ht h1
        go_enter Try.func71, Try.ntmps71
        go_wp2
        go_ret
        exact ⟨rfl, HF.out⟩
      · have c5 : w.cell? ⟨rb, 0, none⟩ = some (.slice (some ⟨g, 0, none⟩) 0 cap) := cell_of ht.hp rfl
        have HF := Lib.hid (refcut_end ht (u := .slice (some ⟨g, 0, none⟩) 0 0) (n := 0) (by simp) (by simpa [nodeCells] using ht.hr.cut (n' := 0) (by simp) (by simp [maxLen]) rfl) rfl)
        clear ht h1
        go_enter Try.func71, Try.ntmps71
        go_wp2
        go_ret
        exact ⟨rfl, HF.out⟩
    · have c5 : w.cell? ⟨rb, 0, none⟩ = some (.slice (some ⟨g, 0, none⟩) 0 0) := cell_of ht.hp rfl
      have HF := Lib.hid (refcut_end ht (u := .slice (some ⟨g, 0, none⟩) 0 0) (n := 0) (by simp) (by simpa [nodeCells] using ht.hr.cut (n' := 0) (by simp) (by simp [maxLen]) rfl) rfl)
      clear ht h1
      go_enter Try.func71, Try.ntmps71
      go_wp2
      go_ret
      exact ⟨rfl, HF.out⟩
  · obtain ⟨g, c, rfl, hg, _⟩ := ht.hr.get h0
    have hcap : rows.length ≤ c := by
      rcases ht.hr with h1 | ⟨g', cur, h1, _⟩
      · rcases h1.2 with ⟨h, _⟩ | ⟨g', cap, cur, h, _, _, h2, _⟩
        · cases h
        · cases h; exact h2
      · cases h1; exact Nat.le_refl _
    have c5 : w.cell? ⟨rb, 0, none⟩ = some (.slice (some ⟨g, 0, none⟩) rows.length c) := cell_of ht.hp rfl
    have hcn : n ≤ c := by omega
    have HF := Lib.hid (refcut_end ht (u := .slice (some ⟨g, 0, none⟩) n n) hn (by rw [nodeCells_take]; exact ht.hr.cut hn hm rfl) rfl)
    clear ht
    go_enter Try.func71, Try.ntmps71
    go_wp2
    go_ret
    exact ⟨rfl, HF.out⟩

theorem refCut_any (k : Nat) (ow : Own) (w : World) (t : Value) (rows : List ND) (h : RTab k ow w t rows) (n : Int) :
    Calls Try.prog 71 #[t, .int .i64 n] w fun e w' => e = .returned (.int .i64 (cutP rows n).1) ∧ ∃ ow', Kept k ow w ow' w' ∧ RTab k ow' w' t (cutP rows n).2 := by
  unfold cutP
  by_cases hn : 0 ≤ n ∧ n ≤ rows.length
  · rw [if_pos hn]
    obtain ⟨m, rfl⟩ := Int.eq_ofNat_of_zero_le hn.1
    exact refCut_good k ow w t rows h m (by omega)
  · rw [if_neg hn]
    refine (refCut_bad k ow w t rows h n (by omega)).mono ?_
    rintro e w' ⟨rfl, rfl⟩
    exact ⟨rfl, ow, .refl _ _ _, h⟩


end Go.Dk

