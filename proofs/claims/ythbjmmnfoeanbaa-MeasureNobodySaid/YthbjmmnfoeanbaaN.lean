/- A table that no call made: what its methods answer. -/
import Derived.Test.YthbjmmnfoeanbaaL
import Derived.Test.YthbjmmnfoeanbaaJ
namespace Go.Dk
open Go.RowKit Go.Maps Go.MapKept
open Go.Proofs

/-- A table that no call made: nil, or the zero value. -/
def Dead (w : World) (t : Value) : Prop :=
  t = .pointer none ∨ ∃ b, t = .pointer (some ⟨b, 0, none⟩) ∧ w.cell? ⟨b, 1, none⟩ = some (.map none)
theorem Dead.below {w w' : World} {t : Value} (h : Dead w t) (hb : Below w.heap.size w w') : Dead w' t := by
  rcases h with h | ⟨b, e, h⟩
  · exact .inl h
  · exact .inr ⟨b, e, (hb.cell (World.block_lt_of_cell? w _ h)).trans h⟩

set_option maxRecDepth 100000 in
theorem alive_dead (w : World) (t : Value) (h : Dead w t) : Calls Try.prog 82 #[t] w fun e w' => e = .returned (.bool false) ∧ w = w' := by
  rcases h with rfl | ⟨b, rfl, c1⟩
  · go_enter Try.func82, Try.ntmps82
    go_wp2
    go_ret
    exact ⟨rfl, rfl⟩
  · have hn := fun w => run_neq_map_nil (P := Try.prog) w 41 _ _ none Try.underlying41
    go_enter Try.func82, Try.ntmps82
    go_wp2
    go_ret
    exact ⟨rfl, rfl⟩

def Two (a b : Value) (w : World) (e : Ending) (w' : World) : Prop := e = .returned (.tuple #[a, b]) ∧ Below w.heap.size w w'
def One (a : Value) (w : World) (e : Ending) (w' : World) : Prop := e = .returned a ∧ Below w.heap.size w w'

section
variable (w : World) (t : Value) (h : Dead w t)
include h

set_option maxRecDepth 100000 in
theorem put_dead (n : ND) : Calls Try.prog 69 #[t, n.val] w (Two (.int .i64 0) (.int .i64 1) w) := by
  have H : Hid (∀ o, Dead (w.alloc o) t) := fun o => h.below (below_alloc _ _)
  clear h
  obtain ⟨kd, nm, l, r⟩ := n
  unfold ND.val
  go_enter Try.func69, Try.ntmps69
  go_wp2_with (go_at_call 82; refine (alive_dead _ _ (H.out _)).mono ?_; rintro e w' ⟨rfl, rfl⟩)
  go_ret2
  exact ⟨rfl, below_alloc _ _⟩

set_option maxRecDepth 100000 in
theorem atom_dead (s : ByteArray) : Calls Try.prog 19 #[t, .string s] w (Two (.int .i64 0) (.int .i64 1) w) := by
  have H := Lib.hid h
  clear h
  go_enter Try.func19, Try.ntmps19
  go_wp2_with (go_at_call 69; refine (put_dead _ _ H.out ⟨1, s, 0, 0⟩).mono ?_; rintro e w' ⟨rfl, hq⟩)
  go_ret2
  exact ⟨rfl, hq⟩
set_option maxRecDepth 100000 in
theorem bot_dead : Calls Try.prog 79 #[t] w (Two (.int .i64 0) (.int .i64 1) w) := by
  have H := Lib.hid h
  clear h
  go_enter Try.func79, Try.ntmps79
  go_wp2_with (go_at_call 69; refine (put_dead _ _ H.out ⟨2, ⟨#[]⟩, 0, 0⟩).mono ?_; rintro e w' ⟨rfl, hq⟩)
  go_ret2
  exact ⟨rfl, hq⟩
set_option maxRecDepth 100000 in
theorem and_dead (a b : Int) : Calls Try.prog 73 #[t, .int .i64 a, .int .i64 b] w (Two (.int .i64 0) (.int .i64 1) w) := by
  have H := Lib.hid h
  clear h
  go_enter Try.func73, Try.ntmps73
  go_wp2_with (go_at_call 69; refine (put_dead _ _ H.out ⟨3, ⟨#[]⟩, a, b⟩).mono ?_; rintro e w' ⟨rfl, hq⟩)
  go_ret2
  exact ⟨rfl, hq⟩
set_option maxRecDepth 100000 in
theorem or_dead (a b : Int) : Calls Try.prog 76 #[t, .int .i64 a, .int .i64 b] w (Two (.int .i64 0) (.int .i64 1) w) := by
  have H := Lib.hid h
  clear h
  go_enter Try.func76, Try.ntmps76
  go_wp2_with (go_at_call 69; refine (put_dead _ _ H.out ⟨4, ⟨#[]⟩, a, b⟩).mono ?_; rintro e w' ⟨rfl, hq⟩)
  go_ret2
  exact ⟨rfl, hq⟩
set_option maxRecDepth 100000 in
theorem imp_dead (a b : Int) : Calls Try.prog 74 #[t, .int .i64 a, .int .i64 b] w (Two (.int .i64 0) (.int .i64 1) w) := by
  have H := Lib.hid h
  clear h
  go_enter Try.func74, Try.ntmps74
  go_wp2_with (go_at_call 69; refine (put_dead _ _ H.out ⟨5, ⟨#[]⟩, a, b⟩).mono ?_; rintro e w' ⟨rfl, hq⟩)
  go_ret2
  exact ⟨rfl, hq⟩
set_option maxRecDepth 100000 in
theorem not_dead (a : Int) : Calls Try.prog 75 #[t, .int .i64 a] w (Two (.int .i64 0) (.int .i64 1) w) := by
  have H := Lib.hid h
  clear h
  go_enter Try.func75, Try.ntmps75
  go_wp2_with (go_at_call 82; refine (alive_dead _ _ H.out).mono ?_; rintro e w' ⟨rfl, rfl⟩)
  go_ret2
  exact ⟨rfl, Below.refl _ _⟩
set_option maxRecDepth 100000 in
theorem cut_dead (a : Int) : Calls Try.prog 80 #[t, .int .i64 a] w (One (.int .i64 1) w) := by
  have H := Lib.hid h
  clear h
  go_enter Try.func80, Try.ntmps80
  go_wp2_with (go_at_call 82; refine (alive_dead _ _ H.out).mono ?_; rintro e w' ⟨rfl, rfl⟩)
  go_ret
  exact ⟨rfl, Below.refl _ _⟩
set_option maxRecDepth 100000 in
theorem node_dead (a : Int) : Calls Try.prog 58 #[t, .int .i64 a] w (Two (.agg #[.int .i64 0, .string ⟨#[]⟩, .int .i64 0, .int .i64 0]) (.bool false) w) := by
  have H : Hid (∀ o, Dead (w.alloc o) t) := fun o => h.below (below_alloc _ _)
  clear h
  go_enter Try.func58, Try.ntmps58
  go_wp2_with (go_at_call 82; refine (alive_dead _ _ (H.out _)).mono ?_; rintro e w' ⟨rfl, rfl⟩)
  exact bodyPost_ret (v := .tuple #[.agg #[.int .i64 0, .string ⟨#[]⟩, .int .i64 0, .int .i64 0], .bool false]) (by simp [results, Try.results58, go_sem]) rfl ⟨rfl, below_alloc _ _⟩
set_option maxRecDepth 100000 in
theorem find_dead (n : ND) : Calls Try.prog 31 #[t, n.val] w (Two (.int .i64 0) (.bool false) w) := by
  have H : Hid (∀ o, Dead (w.alloc o) t) := fun o => h.below (below_alloc _ _)
  clear h
  obtain ⟨kd, nm, l, r⟩ := n
  unfold ND.val
  go_enter Try.func31, Try.ntmps31
  go_wp2_with (go_at_call 82; refine (alive_dead _ _ (H.out _)).mono ?_; rintro e w' ⟨rfl, rfl⟩)
  go_ret2
  exact ⟨rfl, below_alloc _ _⟩
set_option maxRecDepth 100000 in
set_option maxHeartbeats 1000000 in
theorem below_dead (a : Int) : Calls Try.prog 42 #[t, .int .i64 a] w (Two (.slice none 0 0) (.int .i64 1) w) := by
  have H : Hid (∀ o, Dead (w.alloc o) t) := fun o => h.below (below_alloc _ _)
  rcases h with rfl | ⟨b, rfl, c1⟩
  · go_enter Try.func42, Try.ntmps42
    go_wp2_with (go_at_call 82; refine (alive_dead _ _ (H.out _)).mono ?_; rintro e w' ⟨rfl, rfl⟩)
    go_ret2
    exact ⟨rfl, below_alloc _ _⟩
  · clear c1
    go_enter Try.func42, Try.ntmps42
    go_wp2_with (go_at_call 82; refine (alive_dead _ _ (H.out _)).mono ?_; rintro e w' ⟨rfl, rfl⟩)
    go_ret2
    exact ⟨rfl, below_alloc _ _⟩
set_option maxRecDepth 100000 in
theorem len_dead : Calls Try.prog 41 #[t] w (One (.int .i64 0) w) := by
  have H := Lib.hid h
  clear h
  go_enter Try.func41, Try.ntmps41
  go_wp2_with (go_at_call 82; refine (alive_dead _ _ H.out).mono ?_; rintro e w' ⟨rfl, rfl⟩)
  go_ret
  exact ⟨rfl, Below.refl _ _⟩
set_option maxRecDepth 100000 in
theorem rows_dead : Calls Try.prog 28 #[t] w (One (.slice none 0 0) w) := by
  have H := Lib.hid h
  clear h
  go_enter Try.func28, Try.ntmps28
  go_wp2_with (go_at_call 82; refine (alive_dead _ _ H.out).mono ?_; rintro e w' ⟨rfl, rfl⟩)
  go_ret
  exact ⟨rfl, Below.refl _ _⟩
set_option maxRecDepth 100000 in
theorem copy_dead : Calls Try.prog 81 #[t] w (One (.pointer none) w) := by
  have H := Lib.hid h
  clear h
  go_enter Try.func81, Try.ntmps81
  go_wp2_with (go_at_call 82; refine (alive_dead _ _ H.out).mono ?_; rintro e w' ⟨rfl, rfl⟩)
  go_ret
  exact ⟨rfl, Below.refl _ _⟩
end
end Go.Dk
