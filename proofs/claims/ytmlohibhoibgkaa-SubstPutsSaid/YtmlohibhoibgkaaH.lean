/- Atom, Bot, And, Or, Imp, Not, Node, Find, Len of a living table. -/
import Derived.Test.YtmlohibhoibgkaaG
namespace Go.Dk
open Go.RowKit Go.Maps Go.MapKept
open Go.Proofs

theorem empty_le : (⟨#[]⟩ : ByteArray).size ≤ maxLen := by unfold maxLen; show 0 ≤ _; omega

/-- What a call that puts rows comes to. -/
def PutPost (k : Nat) (ow : Own) (w : World) (t : Value) (p : Put) (e : Ending) (w' : World) : Prop :=
  e = .returned (.tuple #[.int .i64 p.id, .int .i64 p.err]) ∧ ∃ ow', Kept k ow w ow' w' ∧ Tab k ow' w' t p.rows

section
variable (k : Nat) (ow : Own) (w : World) (t : Value) (rows : List ND) (h : Tab k ow w t rows)
include h

set_option maxRecDepth 100000 in
theorem atom_any (s : ByteArray) (hs : s.size ≤ maxLen) : Calls Try.prog 30 #[t, .string s] w (PutPost k ow w t (put rows ⟨1, s, 0, 0⟩)) := by
  go_enter Try.func30, Try.ntmps30
  go_wp2_with (go_at_call 55; refine (put_any k ow _ _ rows h _ _ _ _ hs).mono ?_; rintro e w' ⟨rfl, hq⟩)
  go_ret2
  exact ⟨rfl, hq⟩

set_option maxRecDepth 100000 in
theorem bot_any : Calls Try.prog 65 #[t] w (PutPost k ow w t (put rows ⟨2, ⟨#[]⟩, 0, 0⟩)) := by
  go_enter Try.func65, Try.ntmps65
  go_wp2_with (go_at_call 55; refine (put_any k ow _ _ rows h _ _ _ _ empty_le).mono ?_; rintro e w' ⟨rfl, hq⟩)
  go_ret2
  exact ⟨rfl, hq⟩





set_option maxRecDepth 100000 in
theorem imp_any (a b : Int) : Calls Try.prog 31 #[t, .int .i64 a, .int .i64 b] w (PutPost k ow w t (put rows ⟨5, ⟨#[]⟩, a, b⟩)) := by
  go_enter Try.func31, Try.ntmps31
  go_wp2_with (go_at_call 55; refine (put_any k ow _ _ rows h _ _ _ _ empty_le).mono ?_; rintro e w' ⟨rfl, hq⟩)
  go_ret2
  exact ⟨rfl, hq⟩

set_option maxRecDepth 100000 in
theorem len_any : Calls Try.prog 21 #[t] w fun e w' => e = .returned (.int .i64 (rows.length : Int)) ∧ w = w' := by
  have h0 := h
  obtain ⟨pb, mb, v, rfl, ⟨h1, h2, _⟩⟩ := h
  obtain ⟨a, c, rfl⟩ := own_slice h2
  have c5 : w.cell? ⟨pb, 0, none⟩ = some (.slice a rows.length c) := cell_of h1 rfl
  clear h1 h2
  go_enter Try.func21, Try.ntmps21
  go_wp2_with (go_at_call 42; refine (alive_yes k ow _ _ rows h0).mono ?_; rintro e w' ⟨rfl, rfl⟩)
  go_ret
  exact ⟨rfl, rfl⟩

end


set_option maxRecDepth 100000 in
theorem not_any (k : Nat) (ow : Own) (w : World) (t : Value) (rows : List ND) (h : Tab k ow w t rows) (a : Int) : Calls Try.prog 56 #[t, .int .i64 a] w (PutPost k ow w t (notP rows a)) := by
  cases ha : hasB rows.length a with
  | false =>
    have HN : Hid (notP rows a = ⟨rows, 0, 31⟩) := by unfold notP; rw [Hid, if_pos ha]
    have H := Lib.hid h
    go_enter Try.func56, Try.ntmps56
    go_wp2_with (first | (go_at_call 42; refine (alive_yes k ow _ _ rows H.out).mono ?_; rintro e w' ⟨rfl, rfl⟩) | (go_at_call 43; refine (has_any k ow _ _ rows H.out _).mono ?_; rintro e w' ⟨rfl, rfl⟩))
    go_ret2
    rw [HN.out]
    exact ⟨rfl, ow, .refl _ _ _, H.out⟩
  | true =>
    have hn : notP rows a = if (put rows ⟨2, ⟨#[]⟩, 0, 0⟩).err ≠ 0 then ⟨(put rows ⟨2, ⟨#[]⟩, 0, 0⟩).rows, 0, (put rows ⟨2, ⟨#[]⟩, 0, 0⟩).err⟩ else put (put rows ⟨2, ⟨#[]⟩, 0, 0⟩).rows ⟨5, ⟨#[]⟩, a, (put rows ⟨2, ⟨#[]⟩, 0, 0⟩).id⟩ := by
      unfold notP
      rw [if_neg (by simp [ha])]
      rfl
    have HN := Lib.hid hn; clear hn
    have H := Lib.hid h
    by_cases hz : (put rows ⟨2, ⟨#[]⟩, 0, 0⟩).err = 0
    · go_enter Try.func56, Try.ntmps56
      go_wp2_with (first | (go_at_call 42; refine (alive_yes k ow _ _ rows H.out).mono ?_; rintro e w' ⟨rfl, rfl⟩) | (go_at_call 43; refine (has_any k ow _ _ rows H.out _).mono ?_; rintro e w' ⟨rfl, rfl⟩) | (go_at_call 65; refine (bot_any k ow _ _ rows H.out).mono ?_; rintro e w1 ⟨rfl, ow1, hk1, ht1⟩) | (go_at_call 31; refine (imp_any k ow1 _ _ _ ht1 _ _).mono ?_; rintro e w2 ⟨rfl, ow2, hk2, ht2⟩))
      go_ret2
      rw [HN.out, if_neg (by simp [hz])]
      exact ⟨rfl, ow2, hk1.trans hk2, ht2⟩
    · have hb : ((put rows ⟨2, ⟨#[]⟩, 0, 0⟩).err != 0) = true := by simp [hz]
      go_enter Try.func56, Try.ntmps56
      go_wp2_with (first | (go_at_call 42; refine (alive_yes k ow _ _ rows H.out).mono ?_; rintro e w' ⟨rfl, rfl⟩) | (go_at_call 43; refine (has_any k ow _ _ rows H.out _).mono ?_; rintro e w' ⟨rfl, rfl⟩) | (go_at_call 65; refine (bot_any k ow _ _ rows H.out).mono ?_; rintro e w1 ⟨rfl, ow1, hk1, ht1⟩))
      go_ret2
      rw [HN.out, if_pos hz]
      exact ⟨rfl, ow1, hk1, ht1⟩

theorem own_some {w : World} {base n : Nat} {e : TypeId} {size : Nat} {v : Value} {xs : List Value} (h : w.ownsRow base e size v n xs) (hn : 0 < n) : ∃ g c, v = .slice (some ⟨g, 0, none⟩) n c ∧ g < w.heap.size ∧ ∀ j u, xs[j]? = some u → w.cell? ⟨g, j, none⟩ = some u := by
  obtain ⟨g, c, rfl, _, hg⟩ := h.form hn
  refine ⟨g, c, rfl, hg, fun j u hu => ?_⟩
  have := h.cells (g := g) rfl j u hu
  rwa [show (⟨g, 0, none⟩ : Addr).add j = ⟨g, j, none⟩ by unfold Addr.add; split <;> simp_all] at this

theorem nodeCells_at (rows : List ND) (i : Nat) (n : ND) (h : rows[i]? = some n) (j : Nat) (hj : j < 4) : (nodeCells rows)[i * 4 + j]? = n.cells[j]? := by
  induction rows generalizing i with
  | nil => simp at h
  | cons a t ih =>
    cases i with
    | zero =>
      simp at h
      subst h
      simp only [nodeCells, List.flatMap_cons, Nat.zero_mul, Nat.zero_add]
      rw [List.getElem?_append_left (by simpa [ND.cells] using hj)]
    | succ i =>
      have := ih i (by simpa using h)
      simp only [nodeCells, List.flatMap_cons] at this ⊢
      rw [List.getElem?_append_right (by simp [ND.cells]; omega)]
      rw [← this]
      congr 1
      simp [ND.cells]; omega

/-- A row's four cells in a table. -/
theorem TabAt.row {k : Nat} {ow : Own} {w : World} {pb mb : Nat} {v : Value} {rows : List ND} (h : TabAt k ow w pb mb v rows) (i : Nat) (n : ND) (hi : rows[i]? = some n) :
    ∃ g c, v = .slice (some ⟨g, 0, none⟩) rows.length c ∧ g < w.heap.size ∧ ow g = k ∧ w.cell? ⟨g, i * 4, none⟩ = some (.int .i64 n.kind) ∧ w.cell? ⟨g, i * 4 + 1, none⟩ = some (.string n.name) ∧ w.cell? ⟨g, i * 4 + 2, none⟩ = some (.int .i64 n.l) ∧ w.cell? ⟨g, i * 4 + 3, none⟩ = some (.int .i64 n.r) := by
  have hl := (List.getElem?_eq_some_iff.1 hi).1
  obtain ⟨g, c, rfl, hg, hc⟩ := own_some h.hr (by omega)
  exact ⟨g, c, rfl, hg, h.cr g rfl, hc _ _ (nodeCells_at rows i n hi 0 (by omega)), hc _ _ (nodeCells_at rows i n hi 1 (by omega)), hc _ _ (nodeCells_at rows i n hi 2 (by omega)), hc _ _ (nodeCells_at rows i n hi 3 (by omega))⟩

set_option maxRecDepth 100000 in
theorem node_yes (k : Nat) (ow : Own) (w : World) (t : Value) (rows : List ND) (h : Tab k ow w t rows) (i : Nat) (n : ND) (hi : rows[i]? = some n) :
    Calls Try.prog 15 #[t, .int .i64 (i : Int)] w fun e w' => e = .returned (.tuple #[.agg #[.int .i64 n.kind, .string n.name, .int .i64 n.l, .int .i64 n.r], .bool true]) ∧ Below w.heap.size w w' := by
  have hlt := (List.getElem?_eq_some_iff.1 hi).1
  have hb : hasB rows.length (i : Int) = true := by simp [hasB, hlt]
  have hle := h.ok.le
  have H : Hid (∀ o, Tab k ow (w.alloc o) t rows) := fun o => h.below (below_alloc _ _)
  obtain ⟨pb, mb, v, rfl, ht⟩ := h
  obtain ⟨g, c, rfl, hg, _, c0, c1, c2, c3⟩ := ht.row i n hi
  have c5 : w.cell? ⟨pb, 0, none⟩ = some (.slice (some ⟨g, 0, none⟩) rows.length c) := cell_of ht.hp rfl
  have lp := lt_of_block ht.hp
  clear ht hi
  go_enter Try.func15, Try.ntmps15
  go_wp2_with (first | (go_at_call 42; refine (alive_yes k ow _ _ rows (H.out _)).mono ?_; rintro e w' ⟨rfl, rfl⟩) | (go_at_call 43; refine (has_any k ow _ _ rows (H.out _) _).mono ?_; rintro e w' ⟨rfl, rfl⟩))
  refine bodyPost_ret (v := .tuple #[.agg #[.int .i64 n.kind, .string n.name, .int .i64 n.l, .int .i64 n.r], .bool true]) (by simp [results, Try.results15, go_sem]) rfl ⟨rfl, below_alloc _ _⟩

set_option maxRecDepth 100000 in
theorem node_no (k : Nat) (ow : Own) (w : World) (t : Value) (rows : List ND) (h : Tab k ow w t rows) (i : Int) (hb : hasB rows.length i = false) :
    Calls Try.prog 15 #[t, .int .i64 i] w fun e w' => e = .returned (.tuple #[.agg #[.int .i64 0, .string ⟨#[]⟩, .int .i64 0, .int .i64 0], .bool false]) ∧ Below w.heap.size w w' := by
  have H : Hid (∀ o, Tab k ow (w.alloc o) t rows) := fun o => h.below (below_alloc _ _)
  clear h
  go_enter Try.func15, Try.ntmps15
  go_wp2_with (first | (go_at_call 42; refine (alive_yes k ow _ _ rows (H.out _)).mono ?_; rintro e w' ⟨rfl, rfl⟩) | (go_at_call 43; refine (has_any k ow _ _ rows (H.out _) _).mono ?_; rintro e w' ⟨rfl, rfl⟩))
  exact bodyPost_ret (v := .tuple #[.agg #[.int .i64 0, .string ⟨#[]⟩, .int .i64 0, .int .i64 0], .bool false]) (by simp [results, Try.results15, go_sem]) rfl ⟨rfl, below_alloc _ _⟩




end Go.Dk

