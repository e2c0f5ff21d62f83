/- What each method of package formula does to a living table. -/
import Derived.Test.YtmlohibhoibgkaaW
namespace Go.Dk
open Go.RowKit Go.Maps Go.MapKept
open Go.Proofs

set_option maxRecDepth 100000 in
theorem alive_yes (k : Nat) (ow : Own) (w : World) (t : Value) (rows : List ND) (h : Tab k ow w t rows) :
    Calls Try.prog 42 #[t] w fun e w' => e = .returned (.bool true) ∧ w = w' := by
  obtain ⟨pb, mb, v, rfl, ⟨hb, _⟩⟩ := h
  have c1 : w.cell? ⟨pb, 1, none⟩ = some (.map (some mb)) := cell_of hb rfl
  clear hb
  have hn := fun w => run_neq_map_nil (P := Try.prog) w 89 _ _ (some mb) Try.underlying89
  go_enter Try.func42, Try.ntmps42
  go_wp2
  go_ret
  exact ⟨rfl, rfl⟩


set_option maxRecDepth 100000 in
theorem has_any (k : Nat) (ow : Own) (w : World) (t : Value) (rows : List ND) (h : Tab k ow w t rows) (i : Int) :
    Calls Try.prog 43 #[t, .int .i64 i] w fun e w' => e = .returned (.bool (hasB rows.length i)) ∧ w = w' := by
  obtain ⟨pb, mb, v, rfl, ⟨hb, hr, _⟩⟩ := h
  obtain ⟨a, c, rfl⟩ := own_slice hr
  have c0 : w.cell? ⟨pb, 0, none⟩ = some (.slice a rows.length c) := cell_of hb rfl
  clear hb hr
  by_cases h0 : 0 ≤ i
  · by_cases h1 : i < (rows.length : Int)
    · go_enter Try.func43, Try.ntmps43
      go_wp2
      go_ret
      exact ⟨ret_bool (by simp [hasB, h0, h1]), rfl⟩
    · go_enter Try.func43, Try.ntmps43
      go_wp2
      go_ret
      exact ⟨ret_bool (by simp [hasB, h0, h1]), rfl⟩
  · go_enter Try.func43, Try.ntmps43
    go_wp2
    go_ret
    exact ⟨ret_bool (by simp [hasB]; omega), rfl⟩

set_option maxRecDepth 100000 in
theorem new_any (k : Nat) (ow : Own) (w : World) :
    Calls Try.prog 29 #[] w fun e w' => ∃ t ow', e = .returned t ∧ Tab k ow' w' t [] ∧ Kept k ow w ow' w' ∧ Below w.heap.size w w' := by
  have hmm := @run_makeMap Try.prog
  go_enter Try.func29, Try.ntmps29
  go_wp2
  go_ret
  refine ⟨_, fun b => if b < w.heap.size then ow b else k, rfl, ⟨w.heap.size + 1, w.heap.size, .slice none 0 0, rfl, ⟨?_, World.ownsRow_nil _ _ _ _, ?_, Ok.nil, by simp; omega, by simp, by simp [Value.ownBlock]⟩⟩, ?_, ?_⟩
  · exact heap_alloc_new' _ _ (by simp)
  · exact (TM.made _ _ _ _ w).same (heap_alloc_old _ _ (by simp))
  · exact (Kept.of_below (ow := ow) (below_trans (below_alloc _ _) (below_alloc _ _))).recolour (by intro b hb; simp [hb])
  · exact below_trans (below_alloc _ _) (below_alloc _ _)

set_option maxRecDepth 100000 in
set_option maxHeartbeats 400000 in
theorem fits_any (k : Nat) (ow : Own) (w : World) (t : Value) (rows : List ND) (h : Tab k ow w t rows) (kd l r : Int) (nm : ByteArray) (hn : nm.size ≤ maxLen) :
    Calls Try.prog 74 #[t, .agg #[.int .i64 kd, .string nm, .int .i64 l, .int .i64 r]] w fun e w' => e = .returned (.int .i64 (fits rows.length ⟨kd, nm, l, r⟩)) ∧ Below w.heap.size w w' := by
  by_cases h1 : kd = 1
  · subst h1
    by_cases h2 : l = 0
    · subst h2
      by_cases h3 : r = 0
      · subst h3
        cases h4 : word nm with
        | true =>
          go_enter Try.func74, Try.ntmps74
          go_wp2_with (go_at_call 34; refine (word_any _ _ hn).mono ?_; rintro e w' ⟨rfl, rfl⟩)
          go_ret
          exact ⟨ret_int (by simp [fits, h4]), below_alloc _ _⟩
        | false =>
          go_enter Try.func74, Try.ntmps74
          go_wp2_with (go_at_call 34; refine (word_any _ _ hn).mono ?_; rintro e w' ⟨rfl, rfl⟩)
          go_ret
          exact ⟨ret_int (by simp [fits, h4]), below_alloc _ _⟩
      · have hb : (r != 0) = true := by simp [h3]
        go_enter Try.func74, Try.ntmps74
        go_wp2
        go_ret
        exact ⟨ret_int (by simp [fits, h3]), below_alloc _ _⟩
    · have hb : (l != 0) = true := by simp [h2]
      go_enter Try.func74, Try.ntmps74
      go_wp2
      go_ret
      exact ⟨ret_int (by simp [fits, h2]), below_alloc _ _⟩
  · by_cases h2 : kd = 2
    · subst h2
      go_enter Try.func74, Try.ntmps74
      go_wp2
      all_goals (go_ret; exact ⟨ret_int (by simp_all [fits, bytes_nil]), below_alloc _ _⟩)
    · by_cases h3 : kd = 3 ∨ kd = 4 ∨ kd = 5
      · have hm : fits rows.length ⟨kd, nm, l, r⟩ = if nm.size ≠ 0 ∨ hasB rows.length l = false ∨ hasB rows.length r = false then 31 else 0 := by
          unfold fits; rw [if_neg h1, if_neg h2, if_pos h3]
        have HM := Lib.hid hm; clear hm
        have hT : ∀ o, Tab k ow (w.alloc o) t rows := fun o => h.below (below_alloc _ _)
        have HT := Lib.hid hT; clear hT
        cases h4 : nm.toList.isEmpty with
        | false =>
          have h4' : ¬ nm.toList = [] := by intro h; rw [h] at h4; cases h4
          have H5 : Hid (¬ nm.size = 0) := fun e => h4' (bytes_nil.2 e)
          rcases h3 with rfl | rfl | rfl
          all_goals
            go_enter Try.func74, Try.ntmps74
            go_wp2
            go_ret
            exact ⟨ret_int (by rw [HM.out, if_pos (.inl H5.out)]), below_alloc _ _⟩
        | true =>
          have h4' : nm.toList = [] := by simpa using h4
          have H5 : Hid (nm.size = 0) := bytes_nil.1 h4'
          clear h4'
          cases h5 : hasB rows.length l with
          | false =>
            have H6 : Hid (hasB rows.length l = false) := h5
            rcases h3 with rfl | rfl | rfl
            all_goals
              go_enter Try.func74, Try.ntmps74
              go_wp2_with (go_at_call 43; refine (has_any k ow _ _ rows (HT.out _) _).mono ?_; rintro e w' ⟨rfl, rfl⟩)
              go_ret
              exact ⟨ret_int (by rw [HM.out, if_pos (.inr (.inl H6.out))]), below_alloc _ _⟩
          | true =>
            have H6 : Hid (hasB rows.length l = true) := h5
            cases h7 : hasB rows.length r with
            | false =>
              have H8 : Hid (hasB rows.length r = false) := h7
              rcases h3 with rfl | rfl | rfl
              all_goals
                go_enter Try.func74, Try.ntmps74
                go_wp2_with (go_at_call 43; refine (has_any k ow _ _ rows (HT.out _) _).mono ?_; rintro e w' ⟨rfl, rfl⟩)
                go_ret
                exact ⟨ret_int (by rw [HM.out, if_pos (.inr (.inr H8.out))]), below_alloc _ _⟩
            | true =>
              have H8 : Hid (hasB rows.length r = true) := h7
              rcases h3 with rfl | rfl | rfl
              all_goals
                go_enter Try.func74, Try.ntmps74
                go_wp2_with (go_at_call 43; refine (has_any k ow _ _ rows (HT.out _) _).mono ?_; rintro e w' ⟨rfl, rfl⟩)
                go_ret
                exact ⟨ret_int (by rw [HM.out, if_neg (by rw [H5.out, H6.out, H8.out]; simp)]), below_alloc _ _⟩
      · have ha : ¬ kd = 3 := fun e => h3 (.inl e)
        have hb : ¬ kd = 4 := fun e => h3 (.inr (.inl e))
        have hc : ¬ kd = 5 := fun e => h3 (.inr (.inr e))
        have HM : Hid (fits rows.length ⟨kd, nm, l, r⟩ = 31) := by unfold fits; rw [Hid, if_neg h1, if_neg h2, if_neg h3]
        go_enter Try.func74, Try.ntmps74
        go_wp2
        go_ret
        exact ⟨ret_int (by rw [HM.out]), below_alloc _ _⟩


end Go.Dk

