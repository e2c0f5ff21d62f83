/- A table that no call made: what its methods answer. -/
import Derived.Test.YtmlohibhoibgkaaL
import Derived.Test.YtmlohibhoibgkaaJ
namespace Go.Dk
open Go.RowKit Go.Maps Go.MapKept
open Go.Proofs

/-- A table that no call made: nil, or the zero value. -/
def Dead (w : World) (t : Value) : Prop :=
  t = .pointer none ∨ ∃ b, t = .pointer (some ⟨b, 0, none⟩) ∧ w.cell? ⟨b, 1, none⟩ = some (.map none)
theorem Dead.below {w w' : World} {t : Value} (h : Dead w t) (hb : Below w.heap.size w w') : Dead w' t := by
  rcases h with h | ⟨b, e, h⟩
  · exact .inl h
  · exact .inr ⟨b, e, (hb.cell (World.block_lt_of_cell? w _ h)).trans h⟩

set_option maxRecDepth 100000 in
theorem alive_dead (w : World) (t : Value) (h : Dead w t) : Calls Try.prog 42 #[t] w fun e w' => e = .returned (.bool false) ∧ w = w' := by
  rcases h with rfl | ⟨b, rfl, c1⟩
  · go_enter Try.func42, Try.ntmps42
    go_wp2
    go_ret
    exact ⟨rfl, rfl⟩
  · have hn := fun w => run_neq_map_nil (P := Try.prog) w 89 _ _ none Try.underlying89
    go_enter Try.func42, Try.ntmps42
    go_wp2
    go_ret
    exact ⟨rfl, rfl⟩

def Two (a b : Value) (w : World) (e : Ending) (w' : World) : Prop := e = .returned (.tuple #[a, b]) ∧ Below w.heap.size w w'
def One (a : Value) (w : World) (e : Ending) (w' : World) : Prop := e = .returned a ∧ Below w.heap.size w w'

section
variable (w : World) (t : Value) (h : Dead w t)
include h

set_option maxRecDepth 100000 in
theorem put_dead (n : ND) : Calls Try.prog 55 #[t, n.val] w (Two (.int .i64 0) (.int .i64 1) w) := by
  have H : Hid (∀ o, Dead (w.alloc o) t) := fun o => h.below (below_alloc _ _)
  clear h
  obtain ⟨kd, nm, l, r⟩ := n
  unfold ND.val
  go_enter Try.func55, Try.ntmps55
  go_wp2_with (go_at_call 42; refine (alive_dead _ _ (H.out _)).mono ?_; rintro e w' ⟨rfl, rfl⟩)
  go_ret2
  exact ⟨rfl, below_alloc _ _⟩

set_option maxRecDepth 100000 in
theorem atom_dead (s : ByteArray) : Calls Try.prog 30 #[t, .string s] w (Two (.int .i64 0) (.int .i64 1) w) := by
  have H := Lib.hid h
  clear h
  go_enter Try.func30, Try.ntmps30
  go_wp2_with (go_at_call 55; refine (put_dead _ _ H.out ⟨1, s, 0, 0⟩).mono ?_; rintro e w' ⟨rfl, hq⟩)
  go_ret2
  exact ⟨rfl, hq⟩

set_option maxRecDepth 100000 in
theorem bot_dead : Calls Try.prog 65 #[t] w (Two (.int .i64 0) (.int .i64 1) w) := by
  have H := Lib.hid h
  clear h
  go_enter Try.func65, Try.ntmps65
  go_wp2_with (go_at_call 55; refine (put_dead _ _ H.out ⟨2, ⟨#[]⟩, 0, 0⟩).mono ?_; rintro e w' ⟨rfl, hq⟩)
  go_ret2
  exact ⟨rfl, hq⟩





set_option maxRecDepth 100000 in
theorem imp_dead (a b : Int) : Calls Try.prog 31 #[t, .int .i64 a, .int .i64 b] w (Two (.int .i64 0) (.int .i64 1) w) := by
  have H := Lib.hid h
  clear h
  go_enter Try.func31, Try.ntmps31
  go_wp2_with (go_at_call 55; refine (put_dead _ _ H.out ⟨5, ⟨#[]⟩, a, b⟩).mono ?_; rintro e w' ⟨rfl, hq⟩)
  go_ret2
  exact ⟨rfl, hq⟩

set_option maxRecDepth 100000 in
theorem not_dead (a : Int) : Calls Try.prog 56 #[t, .int .i64 a] w (Two (.int .i64 0) (.int .i64 1) w) := by
  have H := Lib.hid h
  clear h
  go_enter Try.func56, Try.ntmps56
  go_wp2_with (go_at_call 42; refine (alive_dead _ _ H.out).mono ?_; rintro e w' ⟨rfl, rfl⟩)
  go_ret2
  exact ⟨rfl, Below.refl _ _⟩

set_option maxRecDepth 100000 in
theorem cut_dead (a : Int) : Calls Try.prog 59 #[t, .int .i64 a] w (One (.int .i64 1) w) := by
  have H := Lib.hid h
  clear h
  go_enter Try.func59, Try.ntmps59
  go_wp2_with (go_at_call 42; refine (alive_dead _ _ H.out).mono ?_; rintro e w' ⟨rfl, rfl⟩)
  go_ret
  exact ⟨rfl, Below.refl _ _⟩

set_option maxRecDepth 100000 in
theorem node_dead (a : Int) : Calls Try.prog 15 #[t, .int .i64 a] w (Two (.agg #[.int .i64 0, .string ⟨#[]⟩, .int .i64 0, .int .i64 0]) (.bool false) w) := by
  have H : Hid (∀ o, Dead (w.alloc o) t) := fun o => h.below (below_alloc _ _)
  clear h
  go_enter Try.func15, Try.ntmps15
  go_wp2_with (go_at_call 42; refine (alive_dead _ _ (H.out _)).mono ?_; rintro e w' ⟨rfl, rfl⟩)
  exact bodyPost_ret (v := .tuple #[.agg #[.int .i64 0, .string ⟨#[]⟩, .int .i64 0, .int .i64 0], .bool false]) (by simp [results, Try.results15, go_sem]) rfl ⟨rfl, below_alloc _ _⟩



set_option maxRecDepth 100000 in
theorem len_dead : Calls Try.prog 21 #[t] w (One (.int .i64 0) w) := by
  have H := Lib.hid h
  clear h
  go_enter Try.func21, Try.ntmps21
  go_wp2_with (go_at_call 42; refine (alive_dead _ _ H.out).mono ?_; rintro e w' ⟨rfl, rfl⟩)
  go_ret
  exact ⟨rfl, Below.refl _ _⟩

set_option maxRecDepth 100000 in
theorem rows_dead : Calls Try.prog 46 #[t] w (One (.slice none 0 0) w) := by
  have H := Lib.hid h
  clear h
  go_enter Try.func46, Try.ntmps46
  go_wp2_with (go_at_call 42; refine (alive_dead _ _ H.out).mono ?_; rintro e w' ⟨rfl, rfl⟩)
  go_ret
  exact ⟨rfl, Below.refl _ _⟩




end


end Go.Dk

