/- A table that no call made: what its methods answer. -/
import Derived.Test.YtfldpjacgeoegaaL
import Derived.Test.YtfldpjacgeoegaaJ
namespace Go.Dk
open Go.RowKit Go.Maps Go.MapKept
open Go.Proofs

/-- A table that no call made: nil, or the zero value. -/
def Dead (w : World) (t : Value) : Prop :=
  t = .pointer none ∨ ∃ b, t = .pointer (some ⟨b, 0, none⟩) ∧ w.cell? ⟨b, 1, none⟩ = some (.map none)
theorem Dead.below {w w' : World} {t : Value} (h : Dead w t) (hb : Below w.heap.size w w') : Dead w' t := by
  rcases h with h | ⟨b, e, h⟩
  · exact .inl h
  · exact .inr ⟨b, e, (hb.cell (World.block_lt_of_cell? w _ h)).trans h⟩

set_option maxRecDepth 100000 in
theorem alive_dead (w : World) (t : Value) (h : Dead w t) : Calls Try.prog 70 #[t] w fun e w' => e = .returned (.bool false) ∧ w = w' := by
  rcases h with rfl | ⟨b, rfl, c1⟩
  · go_enter Try.func70, Try.ntmps70
    go_wp2
    go_ret
    exact ⟨rfl, rfl⟩
  · have hn := fun w => run_neq_map_nil (P := Try.prog) w 46 _ _ none Try.underlying46
    go_enter Try.func70, Try.ntmps70
    go_wp2
    go_ret
    exact ⟨rfl, rfl⟩

def Two (a b : Value) (w : World) (e : Ending) (w' : World) : Prop := e = .returned (.tuple #[a, b]) ∧ Below w.heap.size w w'
def One (a : Value) (w : World) (e : Ending) (w' : World) : Prop := e = .returned a ∧ Below w.heap.size w w'

section
variable (w : World) (t : Value) (h : Dead w t)
include h

set_option maxRecDepth 100000 in
theorem put_dead (n : ND) : Calls Try.prog 92 #[t, n.val] w (Two (.int .i64 0) (.int .i64 1) w) := by
  have H : Hid (∀ o, Dead (w.alloc o) t) := fun o => h.below (below_alloc _ _)
  clear h
  obtain ⟨kd, nm, l, r⟩ := n
  unfold ND.val
  go_enter Try.func92, Try.ntmps92
  go_wp2_with (go_at_call 70; refine (alive_dead _ _ (H.out _)).mono ?_; rintro e w' ⟨rfl, rfl⟩)
  go_ret2
  exact ⟨rfl, below_alloc _ _⟩

set_option maxRecDepth 100000 in
theorem atom_dead (s : ByteArray) : Calls Try.prog 57 #[t, .string s] w (Two (.int .i64 0) (.int .i64 1) w) := by
  have H := Lib.hid h
  clear h
  go_enter Try.func57, Try.ntmps57
  go_wp2_with (go_at_call 92; refine (put_dead _ _ H.out ⟨1, s, 0, 0⟩).mono ?_; rintro e w' ⟨rfl, hq⟩)
  go_ret2
  exact ⟨rfl, hq⟩

set_option maxRecDepth 100000 in
theorem bot_dead : Calls Try.prog 110 #[t] w (Two (.int .i64 0) (.int .i64 1) w) := by
  have H := Lib.hid h
  clear h
  go_enter Try.func110, Try.ntmps110
  go_wp2_with (go_at_call 92; refine (put_dead _ _ H.out ⟨2, ⟨#[]⟩, 0, 0⟩).mono ?_; rintro e w' ⟨rfl, hq⟩)
  go_ret2
  exact ⟨rfl, hq⟩





set_option maxRecDepth 100000 in
theorem imp_dead (a b : Int) : Calls Try.prog 58 #[t, .int .i64 a, .int .i64 b] w (Two (.int .i64 0) (.int .i64 1) w) := by
  have H := Lib.hid h
  clear h
  go_enter Try.func58, Try.ntmps58
  go_wp2_with (go_at_call 92; refine (put_dead _ _ H.out ⟨5, ⟨#[]⟩, a, b⟩).mono ?_; rintro e w' ⟨rfl, hq⟩)
  go_ret2
  exact ⟨rfl, hq⟩

set_option maxRecDepth 100000 in
theorem not_dead (a : Int) : Calls Try.prog 103 #[t, .int .i64 a] w (Two (.int .i64 0) (.int .i64 1) w) := by
  have H := Lib.hid h
  clear h
  go_enter Try.func103, Try.ntmps103
  go_wp2_with (go_at_call 70; refine (alive_dead _ _ H.out).mono ?_; rintro e w' ⟨rfl, rfl⟩)
  go_ret2
  exact ⟨rfl, Below.refl _ _⟩

set_option maxRecDepth 100000 in
theorem cut_dead (a : Int) : Calls Try.prog 105 #[t, .int .i64 a] w (One (.int .i64 1) w) := by
  have H := Lib.hid h
  clear h
  go_enter Try.func105, Try.ntmps105
  go_wp2_with (go_at_call 70; refine (alive_dead _ _ H.out).mono ?_; rintro e w' ⟨rfl, rfl⟩)
  go_ret
  exact ⟨rfl, Below.refl _ _⟩

set_option maxRecDepth 100000 in
theorem node_dead (a : Int) : Calls Try.prog 29 #[t, .int .i64 a] w (Two (.agg #[.int .i64 0, .string ⟨#[]⟩, .int .i64 0, .int .i64 0]) (.bool false) w) := by
  have H : Hid (∀ o, Dead (w.alloc o) t) := fun o => h.below (below_alloc _ _)
  clear h
  go_enter Try.func29, Try.ntmps29
  go_wp2_with (go_at_call 70; refine (alive_dead _ _ (H.out _)).mono ?_; rintro e w' ⟨rfl, rfl⟩)
  exact bodyPost_ret (v := .tuple #[.agg #[.int .i64 0, .string ⟨#[]⟩, .int .i64 0, .int .i64 0], .bool false]) (by simp [results, Try.results29, go_sem]) rfl ⟨rfl, below_alloc _ _⟩



set_option maxRecDepth 100000 in
theorem len_dead : Calls Try.prog 35 #[t] w (One (.int .i64 0) w) := by
  have H := Lib.hid h
  clear h
  go_enter Try.func35, Try.ntmps35
  go_wp2_with (go_at_call 70; refine (alive_dead _ _ H.out).mono ?_; rintro e w' ⟨rfl, rfl⟩)
  go_ret
  exact ⟨rfl, Below.refl _ _⟩

set_option maxRecDepth 100000 in
theorem rows_dead : Calls Try.prog 74 #[t] w (One (.slice none 0 0) w) := by
  have H := Lib.hid h
  clear h
  go_enter Try.func74, Try.ntmps74
  go_wp2_with (go_at_call 70; refine (alive_dead _ _ H.out).mono ?_; rintro e w' ⟨rfl, rfl⟩)
  go_ret
  exact ⟨rfl, Below.refl _ _⟩

set_option maxRecDepth 100000 in
theorem copy_dead : Calls Try.prog 82 #[t] w (One (.pointer none) w) := by
  have H := Lib.hid h
  clear h
  go_enter Try.func82, Try.ntmps82
  go_wp2_with (go_at_call 70; refine (alive_dead _ _ H.out).mono ?_; rintro e w' ⟨rfl, rfl⟩)
  go_ret
  exact ⟨rfl, Below.refl _ _⟩


end


end Go.Dk

