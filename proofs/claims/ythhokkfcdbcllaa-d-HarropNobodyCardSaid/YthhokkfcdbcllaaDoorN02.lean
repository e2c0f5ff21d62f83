/- Parts of the proof: F, G, H, I, J, K, L, M, Ed. -/
import Derived.Deep.RegionLaw
import Derived.Deep.AppendLies
import Derived.Laws.EntriesVeiled
import Derived.Deep.Slices
import Derived.Lib.SmallJoins
import Derived.SizedLaws
import Derived.ChangeMaps5
import Derived.Deep.DeepCutAuto
import Derived.Deep.CutBlock
import Derived.ArgAppend
import Derived.Test.YthhokkfcdbcllaaDoorN01
section
namespace Go.Dk
open Go.RowKit Go.Maps Go.MapKept
open Go.Proofs hiding intOf
set_option maxRecDepth 100000 in
theorem alive_yes (k : Nat) (ow : Own) (w : World) (t : Value) (rows : List ND) (h : Tab k ow w t rows) :
    Calls Tryd.prog 23 #[t] w fun e w' => e = .returned (.bool true) ∧ w = w' := by
  obtain ⟨pb, mb, v, rfl, ⟨hb, _⟩⟩ := h
  have c1 : w.cell? ⟨pb, 1, none⟩ = some (.map (some mb)) := cell_of hb rfl
  clear hb
  have hn := fun w => run_neq_map_nil (P := Tryd.prog) w 27 _ _ (some mb) Tryd.underlying27
  go_enter Tryd.func23, Tryd.ntmps23
  go_wp2
  go_ret
  exact ⟨rfl, rfl⟩
set_option maxRecDepth 100000 in
theorem has_any (k : Nat) (ow : Own) (w : World) (t : Value) (rows : List ND) (h : Tab k ow w t rows) (i : Int) :
    Calls Tryd.prog 24 #[t, .int .i64 i] w fun e w' => e = .returned (.bool (hasB rows.length i)) ∧ w = w' := by
  obtain ⟨pb, mb, v, rfl, ⟨hb, hr, _⟩⟩ := h
  obtain ⟨a, c, rfl⟩ := own_slice hr
  have c0 : w.cell? ⟨pb, 0, none⟩ = some (.slice a rows.length c) := cell_of hb rfl
  clear hb hr
  by_cases h0 : 0 ≤ i
  · by_cases h1 : i < (rows.length : Int)
    · go_enter Tryd.func24, Tryd.ntmps24
      go_wp2
      go_ret
      exact ⟨ret_bool (by simp [hasB, h0, h1]), rfl⟩
    · go_enter Tryd.func24, Tryd.ntmps24
      go_wp2
      go_ret
      exact ⟨ret_bool (by simp [hasB, h0, h1]), rfl⟩
  · go_enter Tryd.func24, Tryd.ntmps24
    go_wp2
    go_ret
    exact ⟨ret_bool (by simp [hasB]; omega), rfl⟩
set_option maxRecDepth 100000 in
theorem new_any (k : Nat) (ow : Own) (w : World) :
    Calls Tryd.prog 20 #[] w fun e w' => ∃ t ow', e = .returned t ∧ Tab k ow' w' t [] ∧ Kept k ow w ow' w' ∧ Below w.heap.size w w' := by
  have hmm := @run_makeMap Tryd.prog
  go_enter Tryd.func20, Tryd.ntmps20
  go_wp2
  go_ret
  refine ⟨_, fun b => if b < w.heap.size then ow b else k, rfl, ⟨w.heap.size + 1, w.heap.size, .slice none 0 0, rfl, ⟨?_, World.ownsRow_nil _ _ _ _, ?_, Ok.nil, by simp; omega, by simp, by simp [Value.ownBlock]⟩⟩, ?_, ?_⟩
  · exact heap_alloc_new' _ _ (by simp)
  · exact (TM.made _ _ _ _ w).same (heap_alloc_old _ _ (by simp))
  · exact (Kept.of_below (ow := ow) (below_trans (below_alloc _ _) (below_alloc _ _))).recolour (by intro b hb; simp [hb])
  · exact below_trans (below_alloc _ _) (below_alloc _ _)
set_option maxRecDepth 100000 in
set_option maxHeartbeats 400000 in
theorem fits_any (k : Nat) (ow : Own) (w : World) (t : Value) (rows : List ND) (h : Tab k ow w t rows) (kd l r : Int) (nm : ByteArray) (hn : nm.size ≤ maxLen) :
    Calls Tryd.prog 34 #[t, .agg #[.int .i64 kd, .string nm, .int .i64 l, .int .i64 r]] w fun e w' => e = .returned (.int .i64 (fits rows.length ⟨kd, nm, l, r⟩)) ∧ Below w.heap.size w w' := by
  by_cases h1 : kd = 1
  · subst h1
    by_cases h2 : l = 0
    · subst h2
      by_cases h3 : r = 0
      · subst h3
        cases h4 : word nm with
        | true =>
          go_enter Tryd.func34, Tryd.ntmps34
          go_wp2_with (go_at_call 30; refine (word_any _ _ hn).mono ?_; rintro e w' ⟨rfl, rfl⟩)
          go_ret
          exact ⟨ret_int (by simp [fits, h4]), below_alloc _ _⟩
        | false =>
          go_enter Tryd.func34, Tryd.ntmps34
          go_wp2_with (go_at_call 30; refine (word_any _ _ hn).mono ?_; rintro e w' ⟨rfl, rfl⟩)
          go_ret
          exact ⟨ret_int (by simp [fits, h4]), below_alloc _ _⟩
      · have hb : (r != 0) = true := by simp [h3]
        go_enter Tryd.func34, Tryd.ntmps34
        go_wp2
        go_ret
        exact ⟨ret_int (by simp [fits, h3]), below_alloc _ _⟩
    · have hb : (l != 0) = true := by simp [h2]
      go_enter Tryd.func34, Tryd.ntmps34
      go_wp2
      go_ret
      exact ⟨ret_int (by simp [fits, h2]), below_alloc _ _⟩
  · by_cases h2 : kd = 2
    · subst h2
      go_enter Tryd.func34, Tryd.ntmps34
      go_wp2
      all_goals (go_ret; exact ⟨ret_int (by simp_all [fits, bytes_nil]), below_alloc _ _⟩)
    · by_cases h3 : kd = 3 ∨ kd = 4 ∨ kd = 5
      · have hm : fits rows.length ⟨kd, nm, l, r⟩ = if nm.size ≠ 0 ∨ hasB rows.length l = false ∨ hasB rows.length r = false then 31 else 0 := by
          unfold fits; rw [if_neg h1, if_neg h2, if_pos h3]
        have HM := Lib.hid hm; clear hm
        have hT : ∀ o, Tab k ow (w.alloc o) t rows := fun o => h.below (below_alloc _ _)
        have HT := Lib.hid hT; clear hT
        cases h4 : nm.toList.isEmpty with
        | false =>
          have h4' : ¬ nm.toList = [] := by intro h; rw [h] at h4; cases h4
          have H5 : Hid (¬ nm.size = 0) := fun e => h4' (bytes_nil.2 e)
          rcases h3 with rfl | rfl | rfl
          all_goals
            go_enter Tryd.func34, Tryd.ntmps34
            go_wp2
            go_ret
            exact ⟨ret_int (by rw [HM.out, if_pos (.inl H5.out)]), below_alloc _ _⟩
        | true =>
          have h4' : nm.toList = [] := by simpa using h4
          have H5 : Hid (nm.size = 0) := bytes_nil.1 h4'
          clear h4'
          cases h5 : hasB rows.length l with
          | false =>
            have H6 : Hid (hasB rows.length l = false) := h5
            rcases h3 with rfl | rfl | rfl
            all_goals
              go_enter Tryd.func34, Tryd.ntmps34
              go_wp2_with (go_at_call 24; refine (has_any k ow _ _ rows (HT.out _) _).mono ?_; rintro e w' ⟨rfl, rfl⟩)
              go_ret
              exact ⟨ret_int (by rw [HM.out, if_pos (.inr (.inl H6.out))]), below_alloc _ _⟩
          | true =>
            have H6 : Hid (hasB rows.length l = true) := h5
            cases h7 : hasB rows.length r with
            | false =>
              have H8 : Hid (hasB rows.length r = false) := h7
              rcases h3 with rfl | rfl | rfl
              all_goals
                go_enter Tryd.func34, Tryd.ntmps34
                go_wp2_with (go_at_call 24; refine (has_any k ow _ _ rows (HT.out _) _).mono ?_; rintro e w' ⟨rfl, rfl⟩)
                go_ret
                exact ⟨ret_int (by rw [HM.out, if_pos (.inr (.inr H8.out))]), below_alloc _ _⟩
            | true =>
              have H8 : Hid (hasB rows.length r = true) := h7
              rcases h3 with rfl | rfl | rfl
              all_goals
                go_enter Tryd.func34, Tryd.ntmps34
                go_wp2_with (go_at_call 24; refine (has_any k ow _ _ rows (HT.out _) _).mono ?_; rintro e w' ⟨rfl, rfl⟩)
                go_ret
                exact ⟨ret_int (by rw [HM.out, if_neg (by rw [H5.out, H6.out, H8.out]; simp)]), below_alloc _ _⟩
      · have ha : ¬ kd = 3 := fun e => h3 (.inl e)
        have hb : ¬ kd = 4 := fun e => h3 (.inr (.inl e))
        have hc : ¬ kd = 5 := fun e => h3 (.inr (.inr e))
        have HM : Hid (fits rows.length ⟨kd, nm, l, r⟩ = 31) := by unfold fits; rw [Hid, if_neg h1, if_neg h2, if_neg h3]
        go_enter Tryd.func34, Tryd.ntmps34
        go_wp2
        go_ret
        exact ⟨ret_int (by rw [HM.out]), below_alloc _ _⟩
end Go.Dk
end

section
namespace Go.Dk
open Go.RowKit Go.Maps Go.MapKept
open Go.Proofs hiding intOf
theorem nodeKey (n : ND) (h1 : n.name.size ≤ maxLen) (h2 : (Lit.int .i64 n.kind).wf = true) (h3 : (Lit.int .i64 n.l).wf = true) (h4 : (Lit.int .i64 n.r).wf = true) : ∃ kl, keyOf Tryd.prog 45 n.val = some kl := by
  apply Option.isSome_iff_exists.1
  unfold keyOf
  rw [Tryd.underlying45]
  simp only
  have e1 : (Program.keyType Tryd.prog 45) = true := by kernel_rfl
  have e2 : n.val.formed Tryd.prog 45 = true := by
    have : Tryd.prog.cellsOf 45 = 4 := by kernel_rfl
    simp [Value.formed, ND.val, Tryd.underlying45, this]
  rw [e1, e2]
  simp only [Bool.and_self, if_true]
  have e0 : 0 < Tryd.prog.types.size := of_decide_eq_true (by kernel_rfl)
  have e3 : ∃ d, Tryd.prog.types.size = d + 1 := ⟨Tryd.prog.types.size - 1, by omega⟩
  obtain ⟨d, hd⟩ := e3
  rw [hd]
  have u1 := Tryd.underlying43
  have u2 := Tryd.underlying9
  have u3 := Tryd.underlying3
  have k0 : Tryd.prog.cellsOf 45 = 4 := by kernel_rfl
  have k1 : Tryd.prog.cellsOf 43 = 1 := by kernel_rfl
  have k2 : Tryd.prog.cellsOf 9 = 1 := by kernel_rfl
  have k3 : Tryd.prog.cellsOf 3 = 1 := by kernel_rfl
  simp [Program.keyLits, Tryd.underlying45, ND.val, Value.cells, u1, u2, u3, k0, k1, k2, k3, h1, h2, h3, h4]
theorem wf64 {n : Int} (h : -9223372036854775808 ≤ n ∧ n ≤ 9223372036854775807) : (Lit.int .i64 n).wf = true := WalkArith.wf_i64 h
theorem nodeKey_fits {m : Nat} {n : ND} (h : fits m n = 0) (hm : m ≤ 1024) : ∃ kl, keyOf Tryd.prog 45 n.val = some kl := by
  obtain ⟨h1, h2, h3, h4⟩ := fits_le h
  exact nodeKey n (by unfold maxLen; omega) (wf64 (by omega)) (wf64 (by omega)) (wf64 (by omega))
/-- The four cells of a boxed row, in the world of the box and later. -/
structure Boxed (w : World) (b : Nat) (n : ND) : Prop where
  c0 : w.cell? ⟨b, 0, none⟩ = some (.int .i64 n.kind)
  c1 : w.cell? ⟨b, 1, none⟩ = some (.string n.name)
  c2 : w.cell? ⟨b, 2, none⟩ = some (.int .i64 n.l)
  c3 : w.cell? ⟨b, 3, none⟩ = some (.int .i64 n.r)
theorem boxed_new (w : World) (n : ND) (T : TypeId) : Boxed (w.alloc (.cells #[.int .i64 n.kind, .string n.name, .int .i64 n.l, .int .i64 n.r] T)) w.heap.size n :=
  ⟨World.cell?_alloc_at _ _ _ _ rfl, World.cell?_alloc_at _ _ _ _ rfl, World.cell?_alloc_at _ _ _ _ rfl, World.cell?_alloc_at _ _ _ _ rfl⟩
theorem Boxed.below {w w' : World} {b : Nat} {n : ND} (h : Boxed w b n) (hb : Below w.heap.size w w') : Boxed w' b n := by
  have l : b < w.heap.size := World.block_lt_of_cell? w _ h.c0
  exact ⟨(hb.cell (p := ⟨b, 0, none⟩) l).trans h.c0, (hb.cell (p := ⟨b, 1, none⟩) l).trans h.c1, (hb.cell (p := ⟨b, 2, none⟩) l).trans h.c2, (hb.cell (p := ⟨b, 3, none⟩) l).trans h.c3⟩
set_option maxRecDepth 100000 in
set_option maxHeartbeats 400000 in
theorem put_err (k : Nat) (ow : Own) (w : World) (t : Value) (rows : List ND) (h : Tab k ow w t rows) (kd l r : Int) (nm : ByteArray) (hn : nm.size ≤ maxLen) (hf : (fits rows.length ⟨kd, nm, l, r⟩ != 0) = true) :
    Calls Tryd.prog 21 #[t, .agg #[.int .i64 kd, .string nm, .int .i64 l, .int .i64 r]] w fun e w' => e = .returned (.tuple #[.int .i64 0, .int .i64 (fits rows.length ⟨kd, nm, l, r⟩)]) ∧ Below w.heap.size w w' := by
  have hT : ∀ o, Tab k ow (w.alloc o) t rows := fun o => h.below (below_alloc _ _)
  have HT := Lib.hid hT; clear hT
  go_enter Tryd.func21, Tryd.ntmps21
  go_wp2_with (first
    | (go_at_call 23; refine (alive_yes k ow _ _ rows (HT.out _)).mono ?_; rintro e w' ⟨rfl, rfl⟩)
    | (go_at_call 34; refine (fits_any k ow _ _ rows (HT.out _) _ _ _ _ hn).mono ?_; rintro e w2 ⟨rfl, hb2⟩))
  go_ret2
  exact ⟨rfl, below_trans (below_alloc _ _) hb2⟩
set_option maxRecDepth 100000 in
set_option maxHeartbeats 400000 in
theorem put_found (k : Nat) (ow : Own) (w : World) (t : Value) (rows : List ND) (h : Tab k ow w t rows) (kd l r : Int) (nm : ByteArray) (hn : nm.size ≤ maxLen) (hf : fits rows.length ⟨kd, nm, l, r⟩ = 0) (i : Nat) (hi : rows.idxOf? ⟨kd, nm, l, r⟩ = some i) :
    Calls Tryd.prog 21 #[t, .agg #[.int .i64 kd, .string nm, .int .i64 l, .int .i64 r]] w fun e w' => e = .returned (.tuple #[.int .i64 (i : Int), .int .i64 0]) ∧ Below w.heap.size w w' := by
  have hT : ∀ o, Tab k ow (w.alloc o) t rows := fun o => h.below (below_alloc _ _)
  have HT := Lib.hid hT; clear hT
  have hB : Boxed (w.alloc (.cells #[.int .i64 kd, .string nm, .int .i64 l, .int .i64 r] 45)) w.heap.size ⟨kd, nm, l, r⟩ := boxed_new w ⟨kd, nm, l, r⟩ _
  go_enter Tryd.func21, Tryd.ntmps21
  go_wp2_with (first
    | (go_at_call 23; refine (alive_yes k ow _ _ rows (HT.out _)).mono ?_; rintro e w' ⟨rfl, rfl⟩)
    | (go_at_call 34; refine (fits_any k ow _ _ rows (HT.out _) _ _ _ _ hn).mono ?_; rintro e w2 ⟨rfl, hb2⟩))
  have hB2 := hB.below hb2
  obtain ⟨c0, c1, c2, c3⟩ := hB2
  obtain ⟨pb, mb, v, rfl, ⟨h1, h2, h3, h4, _⟩⟩ := (HT.out _).below hb2
  have c4 : w2.cell? ⟨pb, 1, none⟩ = some (.map (some mb)) := cell_of h1 rfl
  obtain ⟨kl, hkl⟩ := nodeKey_fits hf h4.le
  have hl : ∀ nq, (Instr.lookup 27 (.map (some mb)) (.agg #[.int .i64 kd, .string nm, .int .i64 l, .int .i64 r]) true).run Tryd.prog (w2.drewN nq) = .ok (.tuple #[.int .i64 (i : Int), .bool true]) (w2.drewN nq) := fun nq =>
    TM.look_some (h3.below (below_drewN w2 nq)) lawNode ND.val_inj Tryd.underlying27 hkl true hi
  clear h1 h2 h3 h4 hi hkl h hB
  go_quiet (fail)
  go_wp2
  go_ret2
  exact ⟨rfl, below_trans (below_trans (below_alloc _ _) hb2) (below_drewN _ _)⟩
set_option maxRecDepth 100000 in
set_option maxHeartbeats 400000 in
theorem put_full (k : Nat) (ow : Own) (w : World) (t : Value) (rows : List ND) (h : Tab k ow w t rows) (kd l r : Int) (nm : ByteArray) (hn : nm.size ≤ maxLen) (hf : fits rows.length ⟨kd, nm, l, r⟩ = 0) (hi : rows.idxOf? ⟨kd, nm, l, r⟩ = none) (hl : 1024 ≤ rows.length) :
    Calls Tryd.prog 21 #[t, .agg #[.int .i64 kd, .string nm, .int .i64 l, .int .i64 r]] w fun e w' => e = .returned (.tuple #[.int .i64 0, .int .i64 30]) ∧ Below w.heap.size w w' := by
  have hT : ∀ o, Tab k ow (w.alloc o) t rows := fun o => h.below (below_alloc _ _)
  have HT := Lib.hid hT; clear hT
  have hB : Boxed (w.alloc (.cells #[.int .i64 kd, .string nm, .int .i64 l, .int .i64 r] 45)) w.heap.size ⟨kd, nm, l, r⟩ := boxed_new w ⟨kd, nm, l, r⟩ _
  go_enter Tryd.func21, Tryd.ntmps21
  go_wp2_with (first
    | (go_at_call 23; refine (alive_yes k ow _ _ rows (HT.out _)).mono ?_; rintro e w' ⟨rfl, rfl⟩)
    | (go_at_call 34; refine (fits_any k ow _ _ rows (HT.out _) _ _ _ _ hn).mono ?_; rintro e w2 ⟨rfl, hb2⟩))
  have hB2 := hB.below hb2
  obtain ⟨c0, c1, c2, c3⟩ := hB2
  obtain ⟨pb, mb, v, rfl, ⟨h1, h2, h3, h4, _⟩⟩ := (HT.out _).below hb2
  obtain ⟨a, c, rfl⟩ := own_slice h2
  have c5 : w2.cell? ⟨pb, 0, none⟩ = some (.slice a rows.length c) := cell_of h1 rfl
  have c4 : w2.cell? ⟨pb, 1, none⟩ = some (.map (some mb)) := cell_of h1 rfl
  obtain ⟨kl, hkl⟩ := nodeKey_fits hf h4.le
  have hz : ∀ W, (zeroValue 3).run Tryd.prog W = .ok (.int .i64 0) W := fun _ => by kernel_rfl
  have hll : ∀ nq, (Instr.lookup 27 (.map (some mb)) (.agg #[.int .i64 kd, .string nm, .int .i64 l, .int .i64 r]) true).run Tryd.prog (w2.drewN nq) = .ok (.tuple #[.int .i64 0, .bool false]) (w2.drewN nq) := fun nq =>
    TM.look_none (h3.below (below_drewN w2 nq)) lawNode ND.val_inj Tryd.underlying27 (hz _) hkl true hi
  clear h1 h2 h3 h4 hi hkl h hB hz
  go_quiet (fail)
  go_wp2
  go_ret2
  exact ⟨rfl, below_trans (below_trans (below_alloc _ _) hb2) (below_drewN _ _)⟩
/-- Between the append and the map's store. -/
structure Mid (k : Nat) (ow : Own) (w : World) (pb mb : Nat) (v : Value) (rows : List ND) (n : ND) (W : World) : Prop where
  hp : W.heap[pb]? = some (.cells #[v, .map (some mb)] 29 (0, 0))
  hr : W.ownsRow 0 45 4 v (rows.length + 1) (nodeCells rows ++ n.cells)
  hm : TM Tryd.prog 45 ND.val natV W mb (fun n => rows.idxOf? n)
  bx : Boxed W w.heap.size n
  kp : Kept k ow w ow W
  cr : ∀ g, v.ownBlock = some g → g < w.heap.size → ow g = k
theorem mid_of {k : Nat} {ow : Own} {w w3 w4 : World} {pb mb g cap : Nat} {u : Value} {rows : List ND} {n : ND} {H : Nat} (hH : w.heap.size ≤ H)
    (lp : pb < w.heap.size) (lm : mb < w.heap.size) (hb : Below w.heap.size w w3) (lB : w.heap.size < w3.heap.size)
    (cp : ow pb = k) (_cm : ow mb = k) (cr : ∀ g, u.ownBlock = some g → ow g = k) (lv : ∀ g, u.ownBlock = some g → g < w.heap.size)
    (n1 : u.ownBlock ≠ some pb) (n2 : u.ownBlock ≠ some mb) (m1 : w4.heap[pb]? = some (.cells #[u, .map (some mb)] 29 (0, 0)))
    (m3 : TM Tryd.prog 45 ND.val natV w3 mb (fun n => rows.idxOf? n)) (bx : Boxed w3 w.heap.size n)
    (hown : w4.ownsRow 0 45 4 (.slice (some ⟨g, 0, none⟩) (rows.length + 1) cap) (rows.length + 1) (nodeCells rows ++ n.cells))
    (hat : u.ownBlock = some g ∨ g = H) (hg : w3.grownBy w4 u.ownBlock) :
    Mid k ow w pb mb (.slice (some ⟨g, 0, none⟩) (rows.length + 1) cap) rows n (w4.setCell ⟨pb, 0, none⟩ (.slice (some ⟨g, 0, none⟩) (rows.length + 1) cap)) := by
  have n3 : u.ownBlock ≠ some w.heap.size := fun e => by have := lv _ e; omega
  have hsz : w.heap.size ≤ w3.heap.size := hb.size
  have gp : g ≠ pb := by
    rcases hat with h | h
    · intro e; exact n1 (e ▸ h)
    · omega
  have so : ∀ b, b ≠ pb → (w4.setCell ⟨pb, 0, none⟩ (.slice (some ⟨g, 0, none⟩) (rows.length + 1) cap)).heap[b]? = w4.heap[b]? := fun b h => Below.heap_setCell _ _ _ _ h
  have s2 : ∀ j, (w4.setCell ⟨pb, 0, none⟩ (.slice (some ⟨g, 0, none⟩) (rows.length + 1) cap)).cell? ⟨w.heap.size, j, none⟩ = w3.cell? ⟨w.heap.size, j, none⟩ := fun j =>
    (World.cell?_of_block (so _ (by show w.heap.size ≠ pb; omega))).trans (World.cell?_of_block (hg.block _ lB (Ne.symm n3)))
  refine ⟨?_, ?_, ?_, ?_, ?_, ?_⟩
  · exact setCell_block m1 _
  · refine ⟨hown.1, .inr ?_⟩
    rcases hown.2 with ⟨h, _⟩ | ⟨g', cap', cur, h, hb', hg', r⟩
    · cases h
    · cases h
      exact ⟨g, cap, cur, rfl, hb', (so g gp).trans hg', r⟩
  · exact m3.same ((so mb (by
      intro e
      subst e
      obtain ⟨_, ⟨es, clock, hes, _⟩, _⟩ := m3
      have := (hg.block mb (by omega) (Ne.symm n1)).symm.trans m1
      rw [hes] at this
      cases this)).trans (hg.block mb (by omega) (Ne.symm n2)))
  · exact ⟨(s2 0).trans bx.c0, (s2 1).trans bx.c1, (s2 2).trans bx.c2, (s2 3).trans bx.c3⟩
  · exact ((hb.kept_ow).trans (kept_grown hg cr)).trans (kept_setCell _ cp _)
  · intro g' h hl
    cases h
    have hl' : g < w.heap.size := hl
    rcases hat with h | h
    · exact cr _ h
    · omega
theorem mid_end {k : Nat} {ow : Own} {w W W' : World} {pb mb : Nat} {v : Value} {rows : List ND} {n : ND} (h : Mid k ow w pb mb v rows n W) (ok : Ok rows) (hf : fits rows.length n = 0) (hi : rows.idxOf? n = none) (hl : rows.length < 1024)
    (lp : pb < w.heap.size) (lm : mb < w.heap.size) (cp : ow pb = k) (cm : ow mb = k)
    (hm : TM Tryd.prog 45 ND.val natV W' mb (upd (fun n => rows.idxOf? n) n (some rows.length))) (ho : Only mb W.drew W') :
    ∃ ow', Kept k ow w ow' W' ∧ Tab k ow' W' (.pointer (some ⟨pb, 0, none⟩)) (rows ++ [n]) := by
  have hne : pb ≠ mb := by
    intro e; subst e
    obtain ⟨_, ⟨es, clock, hes, _⟩, _⟩ := h.hm
    rw [h.hp] at hes; cases hes
  have nm : v.ownBlock ≠ some mb := by
    obtain ⟨_, ⟨es, clock, hes, _⟩, _⟩ := h.hm
    exact own_ne h.hr hes (by intro cur fr e; cases e)
  refine ⟨fun b => if b < w.heap.size then ow b else k, ((h.kp.trans (kept_drew _ _ _)).trans (ho.kept cm)).recolour (fun b hb => by simp [hb]), pb, mb, v, rfl, (ho.block pb hne).trans h.hp, ?_, ?_, ok.snoc hf hi (by omega), by simp [lp, cp], by simp [lm, cm], ?_⟩
  · have e : nodeCells (rows ++ [n]) = nodeCells rows ++ n.cells := by simp [nodeCells]
    rw [e, List.length_append]
    refine ⟨h.hr.1, ?_⟩
    rcases h.hr.2 with h1 | ⟨g, cap, cur, rfl, hb, hg, r⟩
    · exact .inl h1
    · exact .inr ⟨g, cap, cur, rfl, hb, (ho.block g (fun e => nm (by rw [e]; rfl))).trans hg, r⟩
  · have e : (fun x => (rows ++ [n]).idxOf? x) = upd (fun n => rows.idxOf? n) n (some rows.length) := by
      funext x
      rw [idxOf?_snoc rows n x hi]
      by_cases hx : x = n
      · subst hx; rw [upd_same, if_pos rfl]
      · rw [upd_other _ _ hx, if_neg hx]
    rw [e]; exact hm
  · intro g hg
    by_cases hgl : g < w.heap.size
    · simp only [hgl, if_true]; exact h.cr g hg hgl
    · simp [hgl]
set_option maxRecDepth 100000 in
set_option maxHeartbeats 800000 in
theorem put_new (k : Nat) (ow : Own) (w : World) (t : Value) (rows : List ND) (h : Tab k ow w t rows) (kd l r : Int) (nm : ByteArray) (hn : nm.size ≤ maxLen) (hf : fits rows.length ⟨kd, nm, l, r⟩ = 0) (hi : rows.idxOf? ⟨kd, nm, l, r⟩ = none) (hl : rows.length < 1024) :
    Calls Tryd.prog 21 #[t, .agg #[.int .i64 kd, .string nm, .int .i64 l, .int .i64 r]] w fun e w' => e = .returned (.tuple #[.int .i64 (rows.length : Int), .int .i64 0]) ∧ ∃ ow', Kept k ow w ow' w' ∧ Tab k ow' w' t (rows ++ [⟨kd, nm, l, r⟩]) := by
  obtain ⟨pb, mb, v, rfl, ht⟩ := h
  have hT : ∀ o, Tab k ow (w.alloc o) (.pointer (some ⟨pb, 0, none⟩)) rows := fun o => ⟨pb, mb, v, rfl, ht.below (below_alloc _ _)⟩
  have HT := Lib.hid hT; clear hT
  have lp := lt_of_block ht.hp
  have lm := ht.hm.lt
  have lv : ∀ g, v.ownBlock = some g → g < w.heap.size := fun g hg => (ht.hr.lt g hg).2
  have LV := Lib.hid lv; clear lv
  have hB : Boxed (w.alloc (.cells #[.int .i64 kd, .string nm, .int .i64 l, .int .i64 r] 45)) w.heap.size ⟨kd, nm, l, r⟩ := boxed_new w ⟨kd, nm, l, r⟩ _
  go_enter Tryd.func21, Tryd.ntmps21
  go_wp2_with (first
    | (go_at_call 23; refine (alive_yes k ow _ _ rows (HT.out _)).mono ?_; rintro e w' ⟨rfl, rfl⟩)
    | (go_at_call 34; refine (fits_any k ow _ _ rows (HT.out _) _ _ _ _ hn).mono ?_; rintro e w2 ⟨rfl, hb2⟩))
  have hB2 := hB.below hb2
  obtain ⟨c0, c1, c2, c3⟩ := hB2
  obtain ⟨h1, h2, h3, h4, h5, h6, h7⟩ := (ht.below (below_alloc _ _)).below hb2
  have H7 := Lib.hid h7; clear h7
  obtain ⟨a, c, rfl⟩ := own_slice h2
  have c5 : w2.cell? ⟨pb, 0, none⟩ = some (.slice a rows.length c) := cell_of h1 rfl
  have c4 : w2.cell? ⟨pb, 1, none⟩ = some (.map (some mb)) := cell_of h1 rfl
  obtain ⟨kl, hkl⟩ := nodeKey_fits hf h4.le
  have hz : ∀ W, (zeroValue 3).run Tryd.prog W = .ok (.int .i64 0) W := fun _ => by kernel_rfl
  have hll : ∀ nq, (Instr.lookup 27 (.map (some mb)) (.agg #[.int .i64 kd, .string nm, .int .i64 l, .int .i64 r]) true).run Tryd.prog (w2.drewN nq) = .ok (.tuple #[.int .i64 0, .bool false]) (w2.drewN nq) := fun nq =>
    TM.look_none (h3.below (below_drewN w2 nq)) lawNode ND.val_inj Tryd.underlying27 (hz _) hkl true hi
  have HI := Lib.hid hi
  have HK := Lib.hid hkl
  clear hi hkl ht hB hz
  go_quiet (fail)
  have hb3 : Below w2.heap.size w2 (w2.drewN nq) := below_drewN w2 nq
  have k0 : (w2.drewN nq).cell? ⟨w.heap.size, 0, none⟩ = some (.int .i64 kd) := c0
  have k1 : (w2.drewN nq).cell? ⟨w.heap.size, 1, none⟩ = some (.string nm) := c1
  have k2 : (w2.drewN nq).cell? ⟨w.heap.size, 2, none⟩ = some (.int .i64 l) := c2
  have k3 : (w2.drewN nq).cell? ⟨w.heap.size, 3, none⟩ = some (.int .i64 r) := c3
  have k4 : (w2.drewN nq).cell? ⟨pb, 1, none⟩ = some (.map (some mb)) := c4
  have k5 : (w2.drewN nq).cell? ⟨pb, 0, none⟩ = some (.slice a rows.length c) := c5
  have m1 : (w2.drewN nq).heap[pb]? = some (.cells #[.slice a rows.length c, .map (some mb)] 29 (0, 0)) := h1
  have m2 : (w2.drewN nq).ownsRow 0 45 4 (.slice a rows.length c) rows.length (nodeCells rows) := h2
  have m3 : TM Tryd.prog 45 ND.val natV (w2.drewN nq) mb (fun n => rows.idxOf? n) := h3
  clear c0 c1 c2 c3 c4 c5 h1 h2 h3 hll
  have hb4 := below_trans (below_trans (below_alloc w _) hb2) hb3
  clear hb3 hb2
  generalize w2.drewN nq = w3 at *
  have h1024 : ¬ 1024 ≤ (rows.length : Int) := by omega
  go_wp2
  obtain ⟨i0, hi0, hz0, hz1, hz2⟩ := info_parts infoNode
  have n1 : (Value.slice a rows.length c).ownBlock ≠ some pb := own_ne m2 m1 (by intro cur fr e; cases e)
  have n2 : (Value.slice a rows.length c).ownBlock ≠ some mb := by
    obtain ⟨_, ⟨es, clock, hes, _⟩, _⟩ := m3
    exact own_ne m2 hes (by intro cur fr e; cases e)
  have lB : w.heap.size < w3.heap.size := World.block_lt_of_cell? w3 _ k0
  have n3 : (Value.slice a rows.length c).ownBlock ≠ some w.heap.size := fun e => by have := LV.out _ e; omega
  have N1 := Lib.hid n1; have N2 := Lib.hid n2; have N3 := Lib.hid n3
  clear n1 n2 n3
  have l3 : w.heap.size ≤ w3.heap.size := hb4.size
  have lp3 : pb < w3.heap.size := by omega
  have lm3 : mb < w3.heap.size := by omega
  have H5 := Lib.hid h5
  have H6 := Lib.hid h6
  clear h5 h6
  go_region_law (refine step_append_lies _ rfl (.tmp 41) (.tmp 43) 26 rfl 0 45 i0 _ 4 40 Tryd.underlying26 hi0 hz0 hz1 hz2 rfl (by decide) _ rows.length (nodeCells rows) (by simp [Act.eval]; rfl) (by exact m2.alloc _) ⟨w3.heap.size, 0, none⟩ 1 1 (ND.cells ⟨kd, nm, l, r⟩) (by simp [Act.eval]) rfl (World.news_of_block (heap_alloc_new' _ _ rfl)) (by simp [ND.cells, Value.oneCell']) (by decide) (by unfold maxLen; omega) (by omega) (by simp) _ rfl ?_; intro g cap w4 hown hgrow hat hlt; have hgr : w3.grownBy w4 (Value.slice a rows.length c).ownBlock := grown_ad hgrow; have q1 := (hgr.block pb (by omega) (Ne.symm N1.out)).trans m1; have q2 : w4.cell? ⟨pb, 0, none⟩ = some (.slice a rows.length c) := cell_of q1 rfl; have q3 := frozen_of (i := 0) q1; have Q1 := Lib.hid q1; clear q1 hgrow)
  all_goals
    have hM := mid_of (Nat.le_of_lt (by simp; omega)) lp lm hb4 lB H5.out H6.out H7.out LV.out N1.out N2.out Q1.out m3 ⟨k0, k1, k2, k3⟩ hown hat hgr
    clear hown hat hgr q2 q3 Q1 k0 k1 k2 k3 k4 k5 m1 m2 m3 hlt
    generalize w4.setCell ⟨pb, 0, none⟩ (.slice (some ⟨g, 0, none⟩) (rows.length + 1) cap) = w5 at *
    obtain ⟨w6, hrun, ht6, ho6⟩ := TM.put (w := w5.drew) (hM.hm.below (below_drewN w5 1)) lawNode ND.val_inj Tryd.underlying27 HK.out rows.length
    have k4 : w5.cell? ⟨pb, 1, none⟩ = some (.map (some mb)) := cell_of hM.hp rfl
    obtain ⟨c0, c1, c2, c3⟩ := hM.bx
    have hfin := mid_end hM h4 hf HI.out hl lp lm H5.out H6.out ht6 ho6
    have HF := Lib.hid hfin
    clear hM ht6 ho6 hfin
    have hrun' : (Instr.mapUpdate 27 (.map (some mb)) (.agg #[.int .i64 kd, .string nm, .int .i64 l, .int .i64 r]) (.int .i64 (rows.length : Int))).run Tryd.prog w5.drew = .ok () w6 := hrun
    clear hrun
    go_wp2
    go_region
    go_wp2
    go_ret2
    exact ⟨rfl, HF.out⟩
/-- Put. -/
theorem put_any (k : Nat) (ow : Own) (w : World) (t : Value) (rows : List ND) (h : Tab k ow w t rows) (kd l r : Int) (nm : ByteArray) (hn : nm.size ≤ maxLen) :
    Calls Tryd.prog 21 #[t, .agg #[.int .i64 kd, .string nm, .int .i64 l, .int .i64 r]] w fun e w' => e = .returned (.tuple #[.int .i64 (put rows ⟨kd, nm, l, r⟩).id, .int .i64 (put rows ⟨kd, nm, l, r⟩).err]) ∧ ∃ ow', Kept k ow w ow' w' ∧ Tab k ow' w' t (put rows ⟨kd, nm, l, r⟩).rows := by
  unfold put
  by_cases hf : fits rows.length ⟨kd, nm, l, r⟩ = 0
  · rw [if_neg (by simpa using hf)]
    cases hi : rows.idxOf? ⟨kd, nm, l, r⟩ with
    | some i =>
      refine (put_found k ow w t rows h kd l r nm hn hf i hi).mono ?_
      rintro e w' ⟨rfl, hb⟩
      exact ⟨rfl, ow, .of_below hb, h.below hb⟩
    | none =>
      by_cases hl : 1024 ≤ rows.length
      · simp only [if_pos hl]
        refine (put_full k ow w t rows h kd l r nm hn hf hi hl).mono ?_
        rintro e w' ⟨rfl, hb⟩
        exact ⟨rfl, ow, .of_below hb, h.below hb⟩
      · simp only [if_neg hl]
        exact put_new k ow w t rows h kd l r nm hn hf hi (by omega)
  · rw [if_pos (by simpa using hf)]
    refine (put_err k ow w t rows h kd l r nm hn (by simpa using hf)).mono ?_
    rintro e w' ⟨rfl, hb⟩
    exact ⟨rfl, ow, .of_below hb, h.below hb⟩
end Go.Dk
end

section
namespace Go.Dk
open Go.RowKit Go.Maps Go.MapKept
open Go.Proofs hiding intOf
theorem empty_le : (⟨#[]⟩ : ByteArray).size ≤ maxLen := by unfold maxLen; show 0 ≤ _; omega
/-- What a call that puts rows comes to. -/
def PutPost (k : Nat) (ow : Own) (w : World) (t : Value) (p : Put) (e : Ending) (w' : World) : Prop :=
  e = .returned (.tuple #[.int .i64 p.id, .int .i64 p.err]) ∧ ∃ ow', Kept k ow w ow' w' ∧ Tab k ow' w' t p.rows
section
variable (k : Nat) (ow : Own) (w : World) (t : Value) (rows : List ND) (h : Tab k ow w t rows)
include h
set_option maxRecDepth 100000 in
theorem imp_any (a b : Int) : Calls Tryd.prog 36 #[t, .int .i64 a, .int .i64 b] w (PutPost k ow w t (put rows ⟨5, ⟨#[]⟩, a, b⟩)) := by
  go_enter Tryd.func36, Tryd.ntmps36
  go_wp2_with (go_at_call 21; refine (put_any k ow _ _ rows h _ _ _ _ empty_le).mono ?_; rintro e w' ⟨rfl, hq⟩)
  go_ret2
  exact ⟨rfl, hq⟩
set_option maxRecDepth 100000 in
theorem len_any : Calls Tryd.prog 16 #[t] w fun e w' => e = .returned (.int .i64 (rows.length : Int)) ∧ w = w' := by
  have h0 := h
  obtain ⟨pb, mb, v, rfl, ⟨h1, h2, _⟩⟩ := h
  obtain ⟨a, c, rfl⟩ := own_slice h2
  have c5 : w.cell? ⟨pb, 0, none⟩ = some (.slice a rows.length c) := cell_of h1 rfl
  clear h1 h2
  go_enter Tryd.func16, Tryd.ntmps16
  go_wp2_with (go_at_call 23; refine (alive_yes k ow _ _ rows h0).mono ?_; rintro e w' ⟨rfl, rfl⟩)
  go_ret
  exact ⟨rfl, rfl⟩
end
theorem own_some {w : World} {base n : Nat} {e : TypeId} {size : Nat} {v : Value} {xs : List Value} (h : w.ownsRow base e size v n xs) (hn : 0 < n) : ∃ g c, v = .slice (some ⟨g, 0, none⟩) n c ∧ g < w.heap.size ∧ ∀ j u, xs[j]? = some u → w.cell? ⟨g, j, none⟩ = some u := by
  obtain ⟨g, c, rfl, _, hg⟩ := h.form hn
  refine ⟨g, c, rfl, hg, fun j u hu => ?_⟩
  have := h.cells (g := g) rfl j u hu
  rwa [show (⟨g, 0, none⟩ : Addr).add j = ⟨g, j, none⟩ by unfold Addr.add; split <;> simp_all] at this
theorem nodeCells_at (rows : List ND) (i : Nat) (n : ND) (h : rows[i]? = some n) (j : Nat) (hj : j < 4) : (nodeCells rows)[i * 4 + j]? = n.cells[j]? := by
  induction rows generalizing i with
  | nil => simp at h
  | cons a t ih =>
    cases i with
    | zero =>
      simp at h
      subst h
      simp only [nodeCells, List.flatMap_cons, Nat.zero_mul, Nat.zero_add]
      rw [List.getElem?_append_left (by simpa [ND.cells] using hj)]
    | succ i =>
      have := ih i (by simpa using h)
      simp only [nodeCells, List.flatMap_cons] at this ⊢
      rw [List.getElem?_append_right (by simp [ND.cells]; omega)]
      rw [← this]
      congr 1
      simp [ND.cells]; omega
/-- A row's four cells in a table. -/
theorem TabAt.row {k : Nat} {ow : Own} {w : World} {pb mb : Nat} {v : Value} {rows : List ND} (h : TabAt k ow w pb mb v rows) (i : Nat) (n : ND) (hi : rows[i]? = some n) :
    ∃ g c, v = .slice (some ⟨g, 0, none⟩) rows.length c ∧ g < w.heap.size ∧ ow g = k ∧ w.cell? ⟨g, i * 4, none⟩ = some (.int .i64 n.kind) ∧ w.cell? ⟨g, i * 4 + 1, none⟩ = some (.string n.name) ∧ w.cell? ⟨g, i * 4 + 2, none⟩ = some (.int .i64 n.l) ∧ w.cell? ⟨g, i * 4 + 3, none⟩ = some (.int .i64 n.r) := by
  have hl := (List.getElem?_eq_some_iff.1 hi).1
  obtain ⟨g, c, rfl, hg, hc⟩ := own_some h.hr (by omega)
  exact ⟨g, c, rfl, hg, h.cr g rfl, hc _ _ (nodeCells_at rows i n hi 0 (by omega)), hc _ _ (nodeCells_at rows i n hi 1 (by omega)), hc _ _ (nodeCells_at rows i n hi 2 (by omega)), hc _ _ (nodeCells_at rows i n hi 3 (by omega))⟩
set_option maxRecDepth 100000 in
theorem node_yes (k : Nat) (ow : Own) (w : World) (t : Value) (rows : List ND) (h : Tab k ow w t rows) (i : Nat) (n : ND) (hi : rows[i]? = some n) :
    Calls Tryd.prog 14 #[t, .int .i64 (i : Int)] w fun e w' => e = .returned (.tuple #[.agg #[.int .i64 n.kind, .string n.name, .int .i64 n.l, .int .i64 n.r], .bool true]) ∧ Below w.heap.size w w' := by
  have hlt := (List.getElem?_eq_some_iff.1 hi).1
  have hb : hasB rows.length (i : Int) = true := by simp [hasB, hlt]
  have hle := h.ok.le
  have H : Hid (∀ o, Tab k ow (w.alloc o) t rows) := fun o => h.below (below_alloc _ _)
  obtain ⟨pb, mb, v, rfl, ht⟩ := h
  obtain ⟨g, c, rfl, hg, _, c0, c1, c2, c3⟩ := ht.row i n hi
  have c5 : w.cell? ⟨pb, 0, none⟩ = some (.slice (some ⟨g, 0, none⟩) rows.length c) := cell_of ht.hp rfl
  have lp := lt_of_block ht.hp
  clear ht hi
  go_enter Tryd.func14, Tryd.ntmps14
  go_wp2_with (first | (go_at_call 23; refine (alive_yes k ow _ _ rows (H.out _)).mono ?_; rintro e w' ⟨rfl, rfl⟩) | (go_at_call 24; refine (has_any k ow _ _ rows (H.out _) _).mono ?_; rintro e w' ⟨rfl, rfl⟩))
  refine bodyPost_ret (v := .tuple #[.agg #[.int .i64 n.kind, .string n.name, .int .i64 n.l, .int .i64 n.r], .bool true]) (by simp [results, Tryd.results14, go_sem]) rfl ⟨rfl, below_alloc _ _⟩
set_option maxRecDepth 100000 in
theorem node_no (k : Nat) (ow : Own) (w : World) (t : Value) (rows : List ND) (h : Tab k ow w t rows) (i : Int) (hb : hasB rows.length i = false) :
    Calls Tryd.prog 14 #[t, .int .i64 i] w fun e w' => e = .returned (.tuple #[.agg #[.int .i64 0, .string ⟨#[]⟩, .int .i64 0, .int .i64 0], .bool false]) ∧ Below w.heap.size w w' := by
  have H : Hid (∀ o, Tab k ow (w.alloc o) t rows) := fun o => h.below (below_alloc _ _)
  clear h
  go_enter Tryd.func14, Tryd.ntmps14
  go_wp2_with (first | (go_at_call 23; refine (alive_yes k ow _ _ rows (H.out _)).mono ?_; rintro e w' ⟨rfl, rfl⟩) | (go_at_call 24; refine (has_any k ow _ _ rows (H.out _) _).mono ?_; rintro e w' ⟨rfl, rfl⟩))
  exact bodyPost_ret (v := .tuple #[.agg #[.int .i64 0, .string ⟨#[]⟩, .int .i64 0, .int .i64 0], .bool false]) (by simp [results, Tryd.results14, go_sem]) rfl ⟨rfl, below_alloc _ _⟩
end Go.Dk
end

section
namespace Go.Dk
open Go.RowKit Go.Maps Go.MapKept
open Go.Proofs hiding intOf
theorem nodeCells_len (rows : List ND) : (nodeCells rows).length = rows.length * 4 := by
  induction rows with
  | nil => rfl
  | cons a t ih => simp only [nodeCells, List.flatMap_cons, List.length_append, List.length_cons] at ih ⊢; rw [ih]; simp [ND.cells]; omega
/-- delete(m, k) in a region that draws: as one step. -/
theorem del_run {w : World} {mb : Nat} {f : ND → Option Nat} (h : TM Tryd.prog 45 ND.val natV w mb f) (n : ND) (h1 : ∃ kl, keyOf Tryd.prog 45 n.val = some kl) :
    ∃ w', (Builtin.delete_ #[27, 45] 0 #[.map (some mb), n.val]).run Tryd.prog w = .ok (.tuple #[]) w' ∧ TM Tryd.prog 45 ND.val natV w' mb (upd f n none) ∧ Only mb w w' := by
  obtain ⟨kl, hkl⟩ := h1
  exact TM.del h lawNode ND.val_inj Tryd.underlying27 hkl 0
set_option maxRecDepth 100000 in
theorem cut_bad (k : Nat) (ow : Own) (w : World) (t : Value) (rows : List ND) (h : Tab k ow w t rows) (n : Int) (hn : n < 0 ∨ (rows.length : Int) < n) :
    Calls Tryd.prog 18 #[t, .int .i64 n] w fun e w' => e = .returned (.int .i64 2) ∧ w = w' := by
  have H := Lib.hid h
  obtain ⟨pb, mb, v, rfl, ht⟩ := h
  obtain ⟨a, c, rfl⟩ := own_slice ht.hr
  have c5 : w.cell? ⟨pb, 0, none⟩ = some (.slice a rows.length c) := cell_of ht.hp rfl
  clear ht
  rcases hn with hn | hn
  · go_enter Tryd.func18, Tryd.ntmps18
    go_wp2_with (go_at_call 23; refine (alive_yes k ow _ _ rows H.out).mono ?_; rintro e w' ⟨rfl, rfl⟩)
    go_ret
    exact ⟨rfl, rfl⟩
  · have hn0 : ¬ n < 0 := by omega
    go_enter Tryd.func18, Tryd.ntmps18
    go_wp2_with (go_at_call 23; refine (alive_yes k ow _ _ rows H.out).mono ?_; rintro e w' ⟨rfl, rfl⟩)
    go_ret
    exact ⟨rfl, rfl⟩
theorem cutF_step {rows : List ND} (h : rows.Nodup) {n j : Nat} {x : ND} (hx : rows[n + j]? = some x) : upd (cutF rows n j) x none = cutF rows n (j + 1) := by
  funext y
  by_cases e : y = x
  · subst e
    rw [upd_same]
    unfold cutF
    rw [idxOf?_get h hx]
    simp
  · rw [upd_other _ _ e]
    unfold cutF
    cases hi : rows.idxOf? y with
    | none => rfl
    | some i =>
      have hne : i ≠ n + j := fun h2 => e (by
        have := get_of_idxOf? hi
        rw [h2, hx] at this
        exact (Option.some.inj this).symm)
      simp only [Option.bind_some]
      congr 1
      rw [eq_iff_iff]
      omega
/-- In the loop of Cut. -/
structure CutI (w W : World) (mb : Nat) (rows : List ND) (n j : Nat) : Prop where
  g : w.grownBy W (some mb)
  m : TM Tryd.prog 45 ND.val natV W mb (cutF rows n j)
theorem CutI.step {w W w6 : World} {mb : Nat} {rows : List ND} {n j : Nat} (h : CutI w W mb rows n j) (_hm : mb < w.heap.size) (hd : rows.Nodup) {x : ND} (hx : rows[n + j]? = some x) {o : Obj}
    (h1 : TM Tryd.prog 45 ND.val natV w6 mb (upd (cutF rows n j) x none)) (h2 : Only mb (W.alloc o).drew w6) : CutI w w6 mb rows n (j + 1) := by
  refine ⟨h.g.trans ⟨h2.os, h2.tape, h2.output, ?_, fun k hk hne => (h2.block k (fun e => hne (by rw [e]))).trans (heap_alloc_old W o hk)⟩, cutF_step hd hx ▸ h1⟩
  rw [h2.size]; simp
theorem nodeCells_take (rows : List ND) (n : Nat) : nodeCells (rows.take n) = (nodeCells rows).take (n * 4) := by
  induction rows generalizing n with
  | nil => simp [nodeCells]
  | cons a t ih =>
    cases n with
    | zero => simp [nodeCells]
    | succ n =>
      simp only [List.take_succ_cons, nodeCells, List.flatMap_cons] at ih ⊢
      rw [ih, show (n + 1) * 4 = a.cells.length + n * 4 by simp [ND.cells]; omega, List.take_length_add_append]
theorem cut_end {k : Nat} {ow : Own} {w W : World} {pb mb g c n : Nat} {rows : List ND} (ht : TabAt k ow w pb mb (.slice (some ⟨g, 0, none⟩) rows.length c) rows) (hI : CutI w W mb rows n (rows.length - n)) (hn : n ≤ rows.length) (hpm : pb ≠ mb)
    (hp : W.heap[pb]? = some (.cells #[.slice (some ⟨g, 0, none⟩) rows.length c, .map (some mb)] 29 (0, 0))) :
    ∃ ow', Kept k ow w ow' (W.setCell ⟨pb, 0, none⟩ (.slice (some ⟨g, 0, none⟩) n c)) ∧ Tab k ow' (W.setCell ⟨pb, 0, none⟩ (.slice (some ⟨g, 0, none⟩) n c)) (.pointer (some ⟨pb, 0, none⟩)) (rows.take n) := by
  have hl : (rows.take n).length = n := by simp; omega
  have gp : g ≠ pb := fun e => own_ne ht.hr ht.hp (by intro cur fr e; cases e) (by rw [e]; rfl)
  have gm : g ≠ mb := by
    intro e; subst e
    obtain ⟨_, ⟨es, clock, hes, _⟩, _⟩ := ht.hm
    exact own_ne ht.hr hes (by intro cur fr e; cases e) rfl
  have so : ∀ b, b ≠ pb → (W.setCell ⟨pb, 0, none⟩ (.slice (some ⟨g, 0, none⟩) n c)).heap[b]? = W.heap[b]? := fun b h => Below.heap_setCell _ _ _ _ h
  refine ⟨ow, (kept_grown hI.g (by intro b hb; cases hb; exact ht.cm)).trans (kept_setCell _ ht.cp _), pb, mb, _, rfl, setCell_block hp _, ?_, ?_, ht.ok.take n, ht.cp, ht.cm, fun b hb => ht.cr b hb⟩
  · rw [hl]
    rcases ht.hr.2 with ⟨h, _⟩ | ⟨g', cap, cur, h, h1, h2, h3, h4, h5, h6⟩
    · cases h
    · cases h
      refine ⟨by rw [nodeCells_len, hl], .inr ⟨g, c, cur, rfl, h1, (so g gp).trans ((hI.g.block g (lt_of_block h2) (fun e => gm (Option.some.inj e))).trans h2), by omega, h4, h5, ?_⟩⟩
      rw [nodeCells_take, ← h6, List.take_take]
      congr 1
      omega
  · have := hI.m
    rw [cutF_end ht.ok.nodup n hn] at this
    exact this.same (so mb (Ne.symm hpm))
set_option maxRecDepth 100000 in
set_option maxHeartbeats 400000 in
theorem cut_good (k : Nat) (ow : Own) (w : World) (t : Value) (rows : List ND) (h : Tab k ow w t rows) (n : Nat) (hn : n < rows.length) :
    Calls Tryd.prog 18 #[t, .int .i64 (n : Int)] w fun e w' => e = .returned (.int .i64 0) ∧ ∃ ow', Kept k ow w ow' w' ∧ Tab k ow' w' t (rows.take n) := by
  have H := Lib.hid h
  have hle := h.ok.le
  obtain ⟨pb, mb, v, rfl, ht⟩ := h
  obtain ⟨g, c, rfl, hg, hc⟩ := own_some ht.hr (by omega)
  have hcap : rows.length ≤ c := by
    rcases ht.hr.2 with ⟨h, _⟩ | ⟨g', cap, cur, h, _, _, h2, _⟩
    · cases h
    · cases h; exact h2
  have hcn : ¬ c = n := by omega
  have hn0 : decide ((n : Int) < 0) = false := by simp
  have hn1 : ¬ rows.length < n := by omega
  have c5 : w.cell? ⟨pb, 0, none⟩ = some (.slice (some ⟨g, 0, none⟩) rows.length c) := cell_of ht.hp rfl
  have HT := Lib.hid ht
  have HC := Lib.hid hc
  clear ht hc
  go_enter Tryd.func18, Tryd.ntmps18
  go_wp2_with (go_at_call 23; refine (alive_yes k ow _ _ rows H.out).mono ?_; rintro e w' ⟨rfl, rfl⟩)
  go_loopw [6, 30] (fun _ i W => ∃ j : Nat, j ≤ rows.length - n ∧ i = .int .i64 j ∧ CutI w W mb rows n j) (fun _ i _ => rows.length - (intOf i).toNat)
  case atStart => exact ⟨0, by omega, rfl, ⟨⟨rfl, rfl, rfl, Nat.le_refl _, fun _ _ _ => rfl⟩, (cutF_zero rows n) ▸ HT.out.hm⟩⟩
  case round =>
    obtain ⟨j, hj, rfl, hI⟩ := hrel
    by_cases hlt : j < rows.length - n
    · have hxl : n + j < rows.length := by omega
      obtain ⟨x, hx⟩ : ∃ x, rows[n + j]? = some x := ⟨_, List.getElem?_eq_getElem hxl⟩
      have hgm : g ≠ mb := by
        intro e; subst e
        obtain ⟨_, ⟨es, clock, hes, _⟩, _⟩ := HT.out.hm
        exact own_ne HT.out.hr hes (by intro cur fr e; cases e) rfl
      have hcell : ∀ i, wr.cell? ⟨g, i, none⟩ = w.cell? ⟨g, i, none⟩ := fun i => World.cell?_of_block (hI.g.block g hg (fun e => hgm (Option.some.inj e)))
      have e4 : (n + j) * 4 = n * 4 + j * 4 := by omega
      have d0 : wr.cell? ⟨g, n * 4 + j * 4, none⟩ = some (.int .i64 x.kind) := by rw [hcell, ← e4]; exact HC.out _ _ (nodeCells_at rows _ x hx 0 (by omega))
      have d1 : wr.cell? ⟨g, n * 4 + j * 4 + 1, none⟩ = some (.string x.name) := by rw [hcell, ← e4]; exact HC.out _ _ (nodeCells_at rows _ x hx 1 (by omega))
      have d2 : wr.cell? ⟨g, n * 4 + j * 4 + 2, none⟩ = some (.int .i64 x.l) := by rw [hcell, ← e4]; exact HC.out _ _ (nodeCells_at rows _ x hx 2 (by omega))
      have d3 : wr.cell? ⟨g, n * 4 + j * 4 + 3, none⟩ = some (.int .i64 x.r) := by rw [hcell, ← e4]; exact HC.out _ _ (nodeCells_at rows _ x hx 3 (by omega))
      have lp := lt_of_block HT.out.hp
      have hpm : pb ≠ mb := by
        intro e; subst e
        obtain ⟨_, ⟨es, clock, hes, _⟩, _⟩ := HT.out.hm
        rw [HT.out.hp] at hes; cases hes
      have d4 : wr.cell? ⟨pb, 1, none⟩ = some (.map (some mb)) := (World.cell?_of_block (hI.g.block pb lp (fun e => hpm (Option.some.inj e)))).trans (cell_of HT.out.hp rfl)
      have lpr : pb < wr.heap.size := Nat.lt_of_lt_of_le lp hI.g.size
      obtain ⟨w6, hrun, ht6, ho6⟩ := del_run (w := (wr.alloc (.cells #[.int .i64 x.kind, .string x.name, .int .i64 x.l, .int .i64 x.r] 45)).drew) (hI.m.below (below_alloc wr _).drew) x (nodeKey_fits (HT.out.ok.fit _ _ hx) (by omega))
      have hI6 := hI.step HT.out.hm.lt HT.out.ok.nodup hx ht6 ho6
      have HI6 := Lib.hid hI6
      have hrun' : (Builtin.delete_ #[27, 45] 0 #[.map (some mb), .agg #[.int .i64 x.kind, .string x.name, .int .i64 x.l, .int .i64 x.r]]).run Tryd.prog (wr.alloc (.cells #[.int .i64 x.kind, .string x.name, .int .i64 x.l, .int .i64 x.r] 45)).drew = .ok (.tuple #[]) w6 := hrun
      clear hI6 ht6 ho6 hI hx hcell hrun e4
      go_wp2
      go_region
      go_wp2
      exact ⟨⟨j + 1, by omega, by go_num, HI6.out⟩, by simp [intOf]; omega⟩
    · have hjn : j = rows.length - n := by omega
      subst hjn
      have lp := lt_of_block HT.out.hp
      have hpm : pb ≠ mb := by
        intro e; subst e
        obtain ⟨_, ⟨es, clock, hes, _⟩, _⟩ := HT.out.hm
        rw [HT.out.hp] at hes; cases hes
      have d4 : wr.heap[pb]? = some (.cells #[.slice (some ⟨g, 0, none⟩) rows.length c, .map (some mb)] 29 (0, 0)) := (hI.g.block pb lp (fun e => hpm (Option.some.inj e))).trans HT.out.hp
      have d5 : wr.cell? ⟨pb, 0, none⟩ = some (.slice (some ⟨g, 0, none⟩) rows.length c) := cell_of d4 rfl
      have d6 := frozen_of (i := 0) d4
      have hfin := cut_end HT.out hI (by omega) hpm d4
      have HF := Lib.hid hfin
      clear hI d4 hfin
      go_wp2
      go_ret
      exact ⟨rfl, HF.out⟩
set_option maxRecDepth 100000 in
set_option maxHeartbeats 400000 in
theorem cut_all (k : Nat) (ow : Own) (w : World) (t : Value) (rows : List ND) (h : Tab k ow w t rows) :
    Calls Tryd.prog 18 #[t, .int .i64 (rows.length : Int)] w fun e w' => e = .returned (.int .i64 0) ∧ ∃ ow', Kept k ow w ow' w' ∧ Tab k ow' w' t rows := by
  have H := Lib.hid h
  have hle := h.ok.le
  obtain ⟨pb, mb, v, rfl, ht⟩ := h
  have hfin : ∃ ow', Kept k ow w ow' (w.setCell ⟨pb, 0, none⟩ v) ∧ Tab k ow' (w.setCell ⟨pb, 0, none⟩ v) (.pointer (some ⟨pb, 0, none⟩)) rows := by
    have hp : (w.setCell ⟨pb, 0, none⟩ v).heap[pb]? = w.heap[pb]? := by rw [setCell_block ht.hp, ht.hp]; simp
    have hsame : ∀ b, (w.setCell ⟨pb, 0, none⟩ v).heap[b]? = w.heap[b]? := fun b => by
      by_cases e : b = pb
      · rw [e]; exact hp
      · exact Below.heap_setCell _ _ _ _ e
    exact ⟨ow, kept_setCell w ht.cp v, pb, mb, v, rfl, ht.below ⟨rfl, rfl, rfl, by simp, fun b _ => hsame b⟩⟩
  have HF := Lib.hid hfin
  clear hfin
  have c5 : w.cell? ⟨pb, 0, none⟩ = some v := cell_of ht.hp rfl
  have c6 := frozen_of (i := 0) ht.hp
  have hn0 : decide ((rows.length : Int) < 0) = false := by simp
  have hr := ht.hr
  clear ht
  rcases hr.2 with ⟨rfl, h0⟩ | ⟨g, c, cur, rfl, _, _, hcap, _⟩
  · have h0' : rows = [] := List.eq_nil_of_length_eq_zero h0
    subst h0'
    go_enter Tryd.func18, Tryd.ntmps18
    go_wp2_with (go_at_call 23; refine (alive_yes k ow _ _ _ H.out).mono ?_; rintro e w' ⟨rfl, rfl⟩)
    refine wp_loop_rounds 1 ?_
    rw [rounds_succ]
    go_wp2
    go_ret
    exact ⟨rfl, HF.out⟩
  · clear hr
    by_cases hcn : c = rows.length
    · subst hcn
      go_enter Tryd.func18, Tryd.ntmps18
      go_wp2_with (go_at_call 23; refine (alive_yes k ow _ _ _ H.out).mono ?_; rintro e w' ⟨rfl, rfl⟩)
      refine wp_loop_rounds 1 ?_
      rw [rounds_succ]
      go_wp2
      go_ret
      exact ⟨rfl, HF.out⟩
    · go_enter Tryd.func18, Tryd.ntmps18
      go_wp2_with (go_at_call 23; refine (alive_yes k ow _ _ _ H.out).mono ?_; rintro e w' ⟨rfl, rfl⟩)
      refine wp_loop_rounds 1 ?_
      rw [rounds_succ]
      go_wp2
      go_ret
      exact ⟨rfl, HF.out⟩
/-- What Cut does to a living table. -/
def cutP (rows : List ND) (n : Int) : Int × List ND := if 0 ≤ n ∧ n ≤ rows.length then (0, rows.take n.toNat) else (2, rows)
theorem cut_any (k : Nat) (ow : Own) (w : World) (t : Value) (rows : List ND) (h : Tab k ow w t rows) (n : Int) :
    Calls Tryd.prog 18 #[t, .int .i64 n] w fun e w' => e = .returned (.int .i64 (cutP rows n).1) ∧ ∃ ow', Kept k ow w ow' w' ∧ Tab k ow' w' t (cutP rows n).2 := by
  unfold cutP
  by_cases hn : 0 ≤ n ∧ n ≤ rows.length
  · rw [if_pos hn]
    obtain ⟨m, rfl⟩ := Int.eq_ofNat_of_zero_le hn.1
    by_cases hm : m < rows.length
    · exact cut_good k ow w t rows h m hm
    · have : m = rows.length := by omega
      subst this
      simp only [Int.toNat_natCast, List.take_length]
      exact cut_all k ow w t rows h
  · rw [if_neg hn]
    refine (cut_bad k ow w t rows h n (by omega)).mono ?_
    rintro e w' ⟨rfl, rfl⟩
    exact ⟨rfl, ow, .refl _ _ _, h⟩
end Go.Dk
end

section
namespace Go.Dk
open Go.RowKit Go.Maps Go.MapKept
open Go.Proofs hiding intOf
theorem Tab.recolour {k k2 : Nat} {ow ow2 : Own} {w : World} {t : Value} {rows : List ND} (h : Tab k ow w t rows) (hc : ∀ b, ow b = k → ow2 b = k2) : Tab k2 ow2 w t rows := by
  obtain ⟨pb, mb, v, rfl, ⟨h1, h2, h3, h4, h5, h6, h7⟩⟩ := h
  exact ⟨pb, mb, v, rfl, h1, h2, h3, h4, hc _ h5, hc _ h6, fun g hg => hc _ (h7 g hg)⟩
def owC (w : World) : Own := fun b => if b < w.heap.size then 0 else 1
theorem kept_below' {w w' : World} {ow' : Own} (h : Kept 1 (owC w) w ow' w') : Below w.heap.size w w' := h.below (Nat.le_refl _) (by intro b hb; simp [owC, hb])
/-- In the loop of Copy. -/
structure CopyI (w W : World) (c : Value) (rows : List ND) (j : Nat) : Prop where
  ex : ∃ ow', Tab 1 ow' W c (rows.take j) ∧ Kept 1 (owC w) w ow' W
theorem CopyI.bel {w W : World} {c : Value} {rows : List ND} {j : Nat} (h : CopyI w W c rows j) : Below w.heap.size w W := by
  obtain ⟨ow', _, hk⟩ := h
  exact hk.below (Nat.le_refl _) (by intro b hb; simp [owC, hb])
theorem idxOf?_take {rows : List ND} (hd : rows.Nodup) {j : Nat} {x : ND} (hx : rows[j]? = some x) : (rows.take j).idxOf? x = none := by
  refine List.idxOf?_eq_none_iff.2 fun hm => ?_
  obtain ⟨i, hi⟩ := List.mem_iff_getElem?.1 hm
  rw [List.getElem?_take] at hi
  split at hi
  · have h1 := idxOf?_get hd hi
    have h2 := idxOf?_get hd hx
    rw [h1] at h2
    cases h2
    omega
  · cases hi
set_option maxRecDepth 100000 in
set_option maxHeartbeats 800000 in
theorem copy_any (k : Nat) (ow : Own) (w : World) (t : Value) (rows : List ND) (h : Tab k ow w t rows) (k2 : Nat) :
    Calls Tryd.prog 25 #[t] w fun e w' => ∃ c ow', e = .returned c ∧ Tab k2 ow' w' c rows ∧ Kept k2 ow w ow' w' ∧ Below w.heap.size w w' := by
  have H := Lib.hid h
  have hok := h.ok
  have hle := hok.le
  obtain ⟨pb, mb, v, rfl, ht⟩ := h
  have hrd := rd_own ht.hr
  obtain ⟨a, c, rfl⟩ := hrd.slice
  have lp := lt_of_block ht.hp
  have HT := Lib.hid ht
  clear ht hrd
  go_enter Tryd.func25, Tryd.ntmps25
  go_wp2_with (first
    | (go_at_call 23; refine (alive_yes k ow _ _ rows H.out).mono ?_; rintro e w' ⟨rfl, rfl⟩)
    | (go_at_call 20; refine (new_any 1 (owC w) w).mono ?_; rintro e w1 ⟨tc, ow1, rfl, ht1, hk1, hb1⟩; have c5 : w1.cell? ⟨pb, 0, none⟩ = some (.slice a rows.length c) := (hb1.cell (p := ⟨pb, 0, none⟩) lp).trans (cell_of HT.out.hp rfl)))
  have HI0 : Hid (CopyI w w1 tc rows 0) := ⟨ow1, by simpa using ht1, hk1⟩
  obtain ⟨pc, mc, vc, rfl, hat1⟩ := ht1
  clear hat1 hk1 hb1
  go_loopw [4, 5, 15] (fun _ _ i W => ∃ j : Nat, j ≤ rows.length ∧ i = .int .i64 j ∧ CopyI w W (.pointer (some ⟨pc, 0, none⟩)) rows j) (fun _ _ i _ => rows.length - (intOf i).toNat)
  case atStart => exact ⟨0, by omega, rfl, HI0.out⟩
  case round =>
    obtain ⟨j, hj, rfl, hI⟩ := hrel
    by_cases hlt : j < rows.length
    · obtain ⟨x, hx⟩ : ∃ x, rows[j]? = some x := ⟨_, List.getElem?_eq_getElem hlt⟩
      obtain ⟨rs, hrs⟩ : ∃ rs, rs = rows.take j := ⟨_, rfl⟩
      obtain rfl : rs.length = j := by rw [hrs]; simp; omega
      have hlen : (rows.take rs.length).length = rs.length := by rw [← hrs]
      obtain ⟨g, c', hv, hg, hc⟩ := own_some HT.out.hr (by omega)
      cases hv
      have hbl := hI.bel
      have d0 : wr.cell? ⟨g, rs.length * 4, none⟩ = some (.int .i64 x.kind) := (hbl.cell (p := ⟨g, rs.length * 4, none⟩) hg).trans (hc _ _ (nodeCells_at rows _ x hx 0 (by omega)))
      have d1 : wr.cell? ⟨g, rs.length * 4 + 1, none⟩ = some (.string x.name) := (hbl.cell (p := ⟨g, rs.length * 4 + 1, none⟩) hg).trans (hc _ _ (nodeCells_at rows _ x hx 1 (by omega)))
      have d2 : wr.cell? ⟨g, rs.length * 4 + 2, none⟩ = some (.int .i64 x.l) := (hbl.cell (p := ⟨g, rs.length * 4 + 2, none⟩) hg).trans (hc _ _ (nodeCells_at rows _ x hx 2 (by omega)))
      have d3 : wr.cell? ⟨g, rs.length * 4 + 3, none⟩ = some (.int .i64 x.r) := (hbl.cell (p := ⟨g, rs.length * 4 + 3, none⟩) hg).trans (hc _ _ (nodeCells_at rows _ x hx 3 (by omega)))
      have hI' := hI
      obtain ⟨ow', ⟨pc', mc', vc', hpe, htc⟩, hkc⟩ := hI
      cases hpe
      have HJ := Lib.hid hI'
      obtain ⟨a', c'', rfl⟩ := own_slice htc.hr
      rw [← hrs] at htc
      have e5 : wr.cell? ⟨pc, 0, none⟩ = some (.slice a' rs.length c'') := cell_of htc.hp rfl
      have e4 : wr.cell? ⟨pc, 1, none⟩ = some (.map (some mc')) := cell_of htc.hp rfl
      have lpc := lt_of_block htc.hp
      have m2 := htc.hr
      obtain ⟨i0, hi0, hz0, hz1, hz2⟩ := info_parts infoNode
      have hq : ∀ W, Below wr.heap.size wr W → W.heap[pc]? = some (.cells #[.slice a' rs.length c'', .map (some mc')] 29 (0, 0)) := fun W hb => (hb.block pc lpc).trans htc.hp
      have n1 : (Value.slice a' rs.length c'').ownBlock ≠ some pc := own_ne m2 htc.hp (by intro cur fr e; cases e)
      have HQ := Lib.hid hq
      have HC := Lib.hid htc
      have HX := Lib.hid hx
      have HK := Lib.hid hkc
      have N1 := Lib.hid n1
      have HRS := Lib.hid hrs
      have HLN := Lib.hid hlen
      have lmc := htc.hm.lt
      have hlo : rs.length ≤ 1024 := by omega
      clear hq htc hx hkc hc hI' n1 hbl hrs hlen
      have hb4 : Below wr.heap.size wr (wr.alloc (.cells #[.int .i64 x.kind, .string x.name, .int .i64 x.l, .int .i64 x.r] 45)) := below_alloc wr _
      have hbx : Boxed (wr.alloc (.cells #[.int .i64 x.kind, .string x.name, .int .i64 x.l, .int .i64 x.r] 45)) wr.heap.size x := boxed_new wr x _
      have lB : wr.heap.size < (wr.alloc (.cells #[.int .i64 x.kind, .string x.name, .int .i64 x.l, .int .i64 x.r] 45)).heap.size := by simp
      go_wp2
      generalize hw3 : wr.alloc (.cells #[.int .i64 x.kind, .string x.name, .int .i64 x.l, .int .i64 x.r] 45) = w3 at *
      clear hw3 d0 d1 d2 d3
      obtain ⟨k0, k1, k2', k3⟩ := hbx
      have ht3 := HC.out.below hb4
      have k4 : w3.cell? ⟨pc, 1, none⟩ = some (.map (some mc')) := cell_of ht3.hp rfl
      have k5 : w3.cell? ⟨pc, 0, none⟩ = some (.slice a' rs.length c'') := cell_of ht3.hp rfl
      have m1 := ht3.hr
      have lp3 : pc < w3.heap.size := lt_of_block ht3.hp
      have HT3 := Lib.hid ht3
      have HB4 := Lib.hid hb4
      clear ht3 hb4 e4 e5 m2
      go_region_law (refine step_append_lies _ rfl (.tmp 24) (.tmp 26) 26 rfl 0 45 i0 _ 4 40 Tryd.underlying26 hi0 hz0 hz1 hz2 rfl (by decide) _ rs.length (nodeCells rs) (by simp [Act.eval]; rfl) (by exact m1.alloc _) ⟨w3.heap.size, 0, none⟩ 1 1 (ND.cells x) (by simp [Act.eval]) rfl (World.news_of_block (heap_alloc_new' _ _ rfl)) (by simp [ND.cells, Value.oneCell']) (by decide) (by unfold maxLen; omega) (by omega) (by simp) _ rfl ?_; intro g cap w4 hown hgrow hat hlt; have hgr : w3.grownBy w4 (Value.slice a' rs.length c'').ownBlock := grown_ad hgrow; have q1 := (hgr.block pc lp3 (Ne.symm N1.out)).trans HT3.out.hp; have q2 : w4.cell? ⟨pc, 0, none⟩ = some (.slice a' rs.length c'') := cell_of q1 rfl; have q3 := frozen_of (i := 0) q1; have Q1 := Lib.hid q1; clear q1 hgrow)
      all_goals
        have hM := mid_of (Nat.le_of_lt (by simp; omega)) lpc lmc HB4.out lB HC.out.cp HC.out.cm HC.out.cr (fun g hg => (HC.out.hr.lt g hg).2) N1.out (by
          obtain ⟨_, ⟨es, clock, hes, _⟩, _⟩ := HC.out.hm
          exact own_ne HC.out.hr hes (by intro cur fr e; cases e)) Q1.out HT3.out.hm ⟨k0, k1, k2', k3⟩ hown hat hgr
        clear hown hat hgr q2 q3 Q1 k0 k1 k2' k3 k4 k5 m1 HT3 HB4
        generalize w4.setCell ⟨pc, 0, none⟩ (.slice (some ⟨g, 0, none⟩) (rs.length + 1) cap) = w5 at *
        have hxr : rs.idxOf? x = none := by rw [HRS.out]; exact idxOf?_take hok.nodup HX.out
        have hfx : fits rs.length x = 0 := hok.fit _ _ HX.out
        obtain ⟨kl, hkl⟩ := nodeKey_fits hfx (by omega)
        obtain ⟨w6, hrun, ht6, ho6⟩ := TM.put (w := w5.drew) (hM.hm.below (below_drewN w5 1)) lawNode ND.val_inj Tryd.underlying27 hkl rs.length
        have k4 : w5.cell? ⟨pc, 1, none⟩ = some (.map (some mc')) := cell_of hM.hp rfl
        obtain ⟨c0, c1, c2, c3⟩ := hM.bx
        have hfin := mid_end hM HC.out.ok hfx hxr (by omega) lpc lmc HC.out.cp HC.out.cm ht6 ho6
        have HF : Hid (CopyI w w6 (.pointer (some ⟨pc, 0, none⟩)) rows (rs.length + 1)) := by
          obtain ⟨ow6, hk6, ht6⟩ := hfin
          refine ⟨ow6, ?_, HK.out.trans hk6⟩
          have : rows.take (rs.length + 1) = rs ++ [x] := by
            rw [List.take_add_one, ← HRS.out, HX.out]; rfl
          rw [this]; exact ht6
        have hrun' : (Instr.mapUpdate 27 (.map (some mc')) (.agg #[.int .i64 x.kind, .string x.name, .int .i64 x.l, .int .i64 x.r]) (.int .i64 (rs.length : Int))).run Tryd.prog w5.drew = .ok () w6 := hrun
        clear hM ht6 ho6 hfin hrun hkl hxr hfx
        go_wp2
        go_region
        go_wp2
        exact ⟨⟨rs.length + 1, by omega, by go_num, HF.out⟩, by simp [intOf]; omega⟩
    · have hjn : j = rows.length := by omega
      subst hjn
      have hfin : ∃ ow', Tab k2 ow' wr (.pointer (some ⟨pc, 0, none⟩)) rows ∧ Kept k2 ow w ow' wr ∧ Below w.heap.size w wr := by
        have hb := hI.bel
        obtain ⟨ow', htc, hkc⟩ := hI
        rw [List.take_length] at htc
        refine ⟨fun b => if b < w.heap.size then ow b else k2, htc.recolour (fun b hb => ?_), ⟨hb.os, hb.tape, hb.output, hb.size, fun b hb => by simp [hb], fun b hl _ => hb.block b hl⟩, hb⟩
        by_cases hl : b < w.heap.size
        · have := hkc.own b hl
          rw [hb] at this
          simp [owC, hl] at this
        · simp [hl]
      have HF := Lib.hid hfin
      clear hI hfin
      go_wp2
      go_ret
      obtain ⟨ow', h1, h2, h3⟩ := HF.out
      exact ⟨_, ow', rfl, h1, h2, h3⟩
end Go.Dk
end

section
namespace Go.Dk
open Go.RowKit Go.Maps Go.MapKept
open Go.Proofs hiding intOf
theorem natV_inj : ∀ x y : Nat, natV x = natV y → x = y := by
  intro x y h
  simp only [natV, Value.int.injEq, true_and] at h
  omega
theorem lawInt : Keyed Tryd.prog 3 := int_keyed Tryd.underlying3
theorem keyNat (i : Nat) (h : i ≤ 9223372036854775807) : keyOf Tryd.prog 3 (natV i) = some (.int .i64 (i : Int)) := keyOf_int_mk Tryd.underlying3 (wf64 (by omega))
theorem zeroInt (w : World) : (zeroValue 3).run Tryd.prog w = .ok (.int .i64 0) w := by kernel_rfl
def oneV (_ : Unit) : Value := .int .i64 1
/-- A map whose keys are the numbers of a set. -/
abbrev SetM (w : World) (b : Nat) (f : Nat → Option Unit) : Prop := TM Tryd.prog 3 natV oneV w b f
/-- What the closure has captured, and the table's rows. -/
structure Env (w : World) (ib tb db mb pb mt : Nat) (v : Value) (rows : List ND) : Prop where
  hi : w.heap[ib]? = some (.cells #[.map (some mb)] 105 (0, 0))
  ht : w.heap[tb]? = some (.cells #[.pointer (some ⟨pb, 0, none⟩)] 24 (0, 0))
  hd : w.heap[db]? = some (.cells #[.func (.func 48) #[] #[.pointer (some ⟨ib, 0, none⟩), .pointer (some ⟨tb, 0, none⟩), .pointer (some ⟨db, 0, none⟩)]] 113 (0, 0))
  hp : w.heap[pb]? = some (.cells #[v, .map (some mt)] 29 (0, 0))
  hr : w.ownsRow 0 45 4 v rows.length (nodeCells rows)
  ok : Ok rows
theorem Env.step {w w' : World} {ib tb db mb pb mt : Nat} {v : Value} {rows : List ND} {f : Nat → Option Unit} (h : Env w ib tb db mb pb mt v rows) (hm : SetM w mb f) (hg : w.grownBy w' (some mb)) : Env w' ib tb db mb pb mt v rows := by
  obtain ⟨_, ⟨es, clock, hes, _⟩, _⟩ := hm
  have ne : ∀ {b : Nat} {cs : Array Value} {t : TypeId} {fr : Nat × Nat}, w.heap[b]? = some (.cells cs t fr) → w'.heap[b]? = some (.cells cs t fr) := fun {b cs t fr} hb =>
    (hg.block b (lt_of_block hb) (fun e => by cases e; rw [hes] at hb; cases hb)).trans hb
  refine ⟨ne h.hi, ne h.ht, ne h.hd, ne h.hp, ⟨h.hr.1, ?_⟩, h.ok⟩
  rcases h.hr.2 with h1 | ⟨g, cap, cur, rfl, hb, hg', r⟩
  · exact .inl h1
  · exact .inr ⟨g, cap, cur, rfl, hb, ne hg', r⟩
theorem _root_.Go.Dk.Only.grown {b : Nat} {w w' : World} (h : Only b w w') : w.grownBy w' (some b) :=
  ⟨h.os, h.tape, h.output, by rw [h.size]; exact Nat.le_refl _, fun k _ hk => h.block k (fun e => hk (by rw [e]))⟩
/-- The cells that the closure reads. -/
structure EnvC (w : World) (ib tb db mb pb g c len : Nat) (i : Nat) (n : ND) : Prop where
  c1 : w.cell? ⟨ib, 0, none⟩ = some (.map (some mb))
  c2 : w.cell? ⟨tb, 0, none⟩ = some (.pointer (some ⟨pb, 0, none⟩))
  c3 : w.cell? ⟨db, 0, none⟩ = some (.func (.func 48) #[] #[.pointer (some ⟨ib, 0, none⟩), .pointer (some ⟨tb, 0, none⟩), .pointer (some ⟨db, 0, none⟩)])
  c4 : w.cell? ⟨pb, 0, none⟩ = some (.slice (some ⟨g, 0, none⟩) len c)
  d0 : w.cell? ⟨g, i * 4, none⟩ = some (.int .i64 n.kind)
  d1 : w.cell? ⟨g, i * 4 + 1, none⟩ = some (.string n.name)
  d2 : w.cell? ⟨g, i * 4 + 2, none⟩ = some (.int .i64 n.l)
  d3 : w.cell? ⟨g, i * 4 + 3, none⟩ = some (.int .i64 n.r)
  l3 : db < w.heap.size
theorem Env.cells {w : World} {ib tb db mb pb mt g c : Nat} {rows : List ND} (h : Env w ib tb db mb pb mt (.slice (some ⟨g, 0, none⟩) rows.length c) rows) {i : Nat} {n : ND} (hi : rows[i]? = some n) : EnvC w ib tb db mb pb g c rows.length i n := by
  have hl := (List.getElem?_eq_some_iff.1 hi).1
  obtain ⟨g', c', hv, hg, hc⟩ := own_some h.hr (by omega)
  cases hv
  exact ⟨cell_of h.hi rfl, cell_of h.ht rfl, cell_of h.hd rfl, cell_of h.hp rfl, hc _ _ (nodeCells_at rows i n hi 0 (by omega)), hc _ _ (nodeCells_at rows i n hi 1 (by omega)), hc _ _ (nodeCells_at rows i n hi 2 (by omega)), hc _ _ (nodeCells_at rows i n hi 3 (by omega)), lt_of_block h.hd⟩
theorem Env.below {w w' : World} {ib tb db mb pb mt : Nat} {v : Value} {rows : List ND} (h : Env w ib tb db mb pb mt v rows) (hb : Below w.heap.size w w') : Env w' ib tb db mb pb mt v rows := by
  have ne : ∀ {b : Nat} {o : Obj}, w.heap[b]? = some o → w'.heap[b]? = some o := fun {b o} hx => (hb.block b (lt_of_block hx)).trans hx
  refine ⟨ne h.hi, ne h.ht, ne h.hd, ne h.hp, ⟨h.hr.1, ?_⟩, h.ok⟩
  rcases h.hr.2 with h1 | ⟨g, cap, cur, rfl, hb, hg', r⟩
  · exact .inl h1
  · exact .inr ⟨g, cap, cur, rfl, hb, ne hg', r⟩
/-- What going down from row i has made of the set. -/
structure Down (rows : List ND) (i : Nat) (f f' : Nat → Option Unit) : Prop where
  more : ∀ j, f j = some () → f' j = some ()
  self : f' i = some ()
  only : ∀ j, f' j = some () → f j = some () ∨ Reach rows i j
  shut : ∀ j n, f' j = some () → f j = none → rows[j]? = some n → 3 ≤ n.kind → f' n.l.toNat = some () ∧ f' n.r.toNat = some ()
theorem Down.same {rows : List ND} {i : Nat} {f : Nat → Option Unit} (h : f i = some ()) : Down rows i f f :=
  ⟨fun _ h => h, h, fun _ h => .inl h, fun j n h1 h2 => by rw [h1] at h2; cases h2⟩
theorem unit_cases (x : Option Unit) : x = none ∨ x = some () := by cases x with | none => exact .inl rfl | some u => exact .inr rfl
theorem Down.leaf {rows : List ND} {i : Nat} {n : ND} {f : Nat → Option Unit} (hi : rows[i]? = some n) (hk : ¬ 3 ≤ n.kind) : Down rows i f (upd f i (some ())) := by
  refine ⟨fun j hj => ?_, upd_same _ _ _, fun j hj => ?_, fun j m h1 h2 h3 h4 => ?_⟩
  · by_cases e : j = i
    · subst e; exact upd_same _ _ _
    · rw [upd_other _ _ e]; exact hj
  · by_cases e : j = i
    · subst e; exact .inr (.refl _)
    · rw [upd_other _ _ e] at hj; exact .inl hj
  · by_cases e : j = i
    · subst e; rw [hi] at h3; cases h3; exact absurd h4 hk
    · rw [upd_other _ _ e] at h1; rw [h1] at h2; cases h2
theorem Down.node {rows : List ND} {i : Nat} {n : ND} {f f1 f2 : Nat → Option Unit} (hi : rows[i]? = some n) (hk : 3 ≤ n.kind) (h1 : Down rows n.l.toNat (upd f i (some ())) f1) (h2 : Down rows n.r.toNat f1 f2) : Down rows i f f2 := by
  have up : ∀ j, f j = some () → upd f i (some ()) j = some () := fun j hj => by
    by_cases e : j = i
    · subst e; exact upd_same _ _ _
    · rw [upd_other _ _ e]; exact hj
  refine ⟨fun j hj => h2.more j (h1.more j (up j hj)), h2.more _ (h1.more _ (upd_same _ _ _)), fun j hj => ?_, fun j m a b c d => ?_⟩
  · rcases h2.only j hj with h | h
    · rcases h1.only j h with h | h
      · by_cases e : j = i
        · subst e; exact .inr (.refl _)
        · rw [upd_other _ _ e] at h; exact .inl h
      · exact .inr (.left hi hk h)
    · exact .inr (.right hi hk h)
  · rcases unit_cases (f1 j) with h | h
    · exact h2.shut j m a h c d
    · by_cases e : j = i
      · subst e
        rw [hi] at c; cases c
        exact ⟨h2.more _ h1.self, h2.self⟩
      · have := h1.shut j m h (by rw [upd_other _ _ e]; exact b) c d
        exact ⟨h2.more _ this.1, h2.more _ this.2⟩
/-- From an empty set: just what lies below. -/
theorem Down.all {rows : List ND} {i : Nat} {f : Nat → Option Unit} (h : Down rows i (fun _ => none) f) (j : Nat) : f j = some () ↔ Reach rows i j := by
  constructor
  · intro hj
    rcases h.only j hj with h | h
    · cases h
    · exact h
  · intro hr
    have : ∀ a b, Reach rows a b → f a = some () → f b = some () := by
      intro a b hab
      induction hab with
      | refl => exact fun h => h
      | left a1 a2 _ ih => exact fun ha => ih (h.shut _ _ ha rfl a1 a2).1
      | right a1 a2 _ ih => exact fun ha => ih (h.shut _ _ ha rfl a1 a2).2
    exact this _ _ hr h.self
set_option maxRecDepth 100000 in
set_option maxHeartbeats 400000 in
theorem down_any (ib tb db mb pb mt : Nat) (v : Value) (rows : List ND) (i : Nat) : ∀ (w : World) (f : Nat → Option Unit), i < rows.length → Env w ib tb db mb pb mt v rows → SetM w mb f →
    Calls Tryd.prog 48 #[.int .i64 (i : Int), .pointer (some ⟨ib, 0, none⟩), .pointer (some ⟨tb, 0, none⟩), .pointer (some ⟨db, 0, none⟩)] w fun e w' => e = .returned (.tuple #[]) ∧ ∃ f', w.grownBy w' (some mb) ∧ SetM w' mb f' ∧ Down rows i f f' := by
  induction i using Nat.strongRecOn with
  | _ i ih =>
    intro w f hi hE hm
    have hle := hE.ok.le
    obtain ⟨n, hn⟩ : ∃ n, rows[i]? = some n := ⟨_, List.getElem?_eq_getElem hi⟩
    have c1 : w.cell? ⟨ib, 0, none⟩ = some (.map (some mb)) := cell_of hE.hi rfl
    have hkey := keyNat i (by omega)
    rcases unit_cases (f i) with h0 | h0
    · have hl : (Instr.lookup 105 (.map (some mb)) (.int .i64 (i : Int)) false).run Tryd.prog w = .ok (.int .i64 0) w := hm.look_none lawInt natV_inj Tryd.underlying105 (zeroInt _) hkey false h0
      obtain ⟨kd, nm, l, r⟩ := n
      have HE := Lib.hid hE
      have HM := Lib.hid hm
      have HK := Lib.hid hkey
      have HN := Lib.hid hn
      have H0 := Lib.hid h0
      have IH := Lib.hid ih
      obtain ⟨g, c', rfl, hg, _⟩ := own_some hE.hr (by omega)
      clear hE hm hkey hn h0 ih
      by_cases hk : 3 ≤ kd
      · obtain ⟨⟨p1, p2⟩, p3, p4⟩ := HE.out.ok.parts HN.out hk
        simp only at p1 p2 p3 p4
        obtain ⟨x, rfl⟩ := Int.eq_ofNat_of_zero_le p1
        obtain ⟨y, rfl⟩ := Int.eq_ofNat_of_zero_le p3
        go_enter Tryd.func48, Tryd.ntmps48
        go_wp2_with (at_mapUpdate; refine wp_put HM.out lawInt natV_inj rfl (.tmp 10) (.tmp 11) _ 105 3 rfl Tryd.underlying105 rfl i rfl () rfl HK.out ?_; intro w2 hm2 ho2; have hE2 := HE.out.step HM.out ho2.grown; obtain ⟨c1', c2, c3, c4, d0, d1, d2, d3, l3⟩ := hE2.cells HN.out; have HE2 := Lib.hid hE2; have HM2 := Lib.hid hm2; have HO2 := Lib.hid ho2; clear hE2 hm2 ho2)
        have hE3 := HE2.out.below (below_alloc w2 (.cells #[.int .i64 kd, .string nm, .int .i64 (x : Int), .int .i64 (y : Int)] 45))
        have hM3 := HM2.out.below (below_alloc w2 (.cells #[.int .i64 kd, .string nm, .int .i64 (x : Int), .int .i64 (y : Int)] 45))
        refine (IH.out x (by omega) _ _ (by omega) hE3 hM3).mono ?_
        rintro e w4 ⟨rfl, f1, hg4, hm4, hd4⟩
        have hE4 := hE3.step hM3 hg4
        have c3' := hE4.cells HN.out |>.c3
        have c9 : w4.cell? ⟨w2.heap.size, 3, none⟩ = some (.int .i64 (y : Int)) := hg4.cell (a := ⟨w2.heap.size, 3, none⟩) (World.cell?_alloc_at _ _ _ _ rfl) (by have := HM2.out.lt; intro e; cases e; simp at this)
        have HE4 := Lib.hid hE4; have HM4 := Lib.hid hm4; have HD4 := Lib.hid hd4; have HG4 := Lib.hid hg4
        clear hE4 hm4 hd4 hg4 hE3 hM3 c1' c2 c3 c4 d0 d1 d2 d3
        go_wp2_with fail
        refine (IH.out y (by omega) _ _ (by omega) HE4.out HM4.out).mono ?_
        rintro e w5 ⟨rfl, f2, hg5, hm5, hd5⟩
        have hfin : w.grownBy w5 (some mb) := ((HO2.out.grown.trans (World.grownBy_alloc w2 _ _)).trans HG4.out).trans hg5
        have HF := Lib.hid hfin; have HM5 := Lib.hid hm5; have HD5 := Lib.hid hd5
        clear hg5 hm5 hd5 hfin
        go_wp2
        go_end0
        exact ⟨rfl, f2, HF.out, HM5.out, Down.node HN.out hk HD4.out HD5.out⟩
      · have HD := Lib.hid (Down.leaf (f := f) HN.out hk)
        go_enter Tryd.func48, Tryd.ntmps48
        go_wp2_with (at_mapUpdate; refine wp_put HM.out lawInt natV_inj rfl (.tmp 10) (.tmp 11) _ 105 3 rfl Tryd.underlying105 rfl i rfl () rfl HK.out ?_; intro w2 hm2 ho2; have hE2 := HE.out.step HM.out ho2.grown; obtain ⟨c1', c2, c3, c4, d0, d1, d2, d3, l3⟩ := hE2.cells HN.out; have HE2 := Lib.hid hE2; have HM2 := Lib.hid hm2; have HO2 := Lib.hid ho2; clear hE2 hm2 ho2)
        go_end0
        exact ⟨rfl, HO2.out.grown.trans (World.grownBy_alloc w2 _ _), upd f i (some ()), HM2.out.below (below_alloc _ _), HD.out⟩
    · have hl : (Instr.lookup 105 (.map (some mb)) (.int .i64 (i : Int)) false).run Tryd.prog w = .ok (.int .i64 1) w := hm.look_some lawInt natV_inj Tryd.underlying105 hkey false h0
      have HD := Lib.hid (Down.same (rows := rows) h0)
      have HM := Lib.hid hm
      clear hm hE ih h0 hkey
      go_enter Tryd.func48, Tryd.ntmps48
      go_wp2
      exact bodyPost_ret (results_none rfl _ _ _) rfl ⟨rfl, f, ⟨rfl, rfl, rfl, Nat.le_refl _, fun _ _ _ => rfl⟩, HM.out, HD.out⟩
end Go.Dk
end

section
namespace Go.Dk
open Go.RowKit Go.Maps Go.MapKept
open Go.Proofs hiding intOf
theorem env_start {k : Nat} {ow : Own} {w : World} {pb mt : Nat} {v : Value} {rows : List ND} (h : TabAt k ow w pb mt v rows) :
    Env ((((w.alloc (.cells #[.pointer (some ⟨pb, 0, none⟩)] 24)).alloc (.map #[] 0)).alloc (.cells #[.map (some (w.heap.size + 1))] 105)).alloc (.cells #[.func (.func 48) #[] #[.pointer (some ⟨w.heap.size + 1 + 1, 0, none⟩), .pointer (some ⟨w.heap.size, 0, none⟩), .pointer (some ⟨w.heap.size + 1 + 1 + 1, 0, none⟩)]] 113))
      (w.heap.size + 1 + 1) w.heap.size (w.heap.size + 1 + 1 + 1) (w.heap.size + 1) pb mt v rows ∧
    SetM ((((w.alloc (.cells #[.pointer (some ⟨pb, 0, none⟩)] 24)).alloc (.map #[] 0)).alloc (.cells #[.map (some (w.heap.size + 1))] 105)).alloc (.cells #[.func (.func 48) #[] #[.pointer (some ⟨w.heap.size + 1 + 1, 0, none⟩), .pointer (some ⟨w.heap.size, 0, none⟩), .pointer (some ⟨w.heap.size + 1 + 1 + 1, 0, none⟩)]] 113))
      (w.heap.size + 1) (fun _ => none) := by
  have ht := (((h.below (below_alloc w (.cells #[.pointer (some ⟨pb, 0, none⟩)] 24))).below (below_alloc _ (.map #[] 0))).below (below_alloc _ (.cells #[.map (some (w.heap.size + 1))] 105))).below (below_alloc _ (.cells #[.func (.func 48) #[] #[.pointer (some ⟨w.heap.size + 1 + 1, 0, none⟩), .pointer (some ⟨w.heap.size, 0, none⟩), .pointer (some ⟨w.heap.size + 1 + 1 + 1, 0, none⟩)]] 113))
  refine ⟨⟨?_, ?_, ?_, ht.hp, ht.hr, ht.ok⟩, ?_⟩
  · rw [heap_alloc_old _ _ (by simp)]; exact heap_alloc_new' _ _ (by simp)
  · rw [heap_alloc_old _ _ (by simp; omega), heap_alloc_old _ _ (by simp; omega), heap_alloc_old _ _ (by simp)]; exact heap_alloc_new' _ _ (by simp)
  · exact heap_alloc_new' _ _ (by simp)
  · have := TM.made Tryd.prog 3 natV oneV (w.alloc (.cells #[.pointer (some ⟨pb, 0, none⟩)] 24))
    rw [World.size_alloc] at this
    exact (this.below (below_alloc _ _)).below (below_alloc _ _)
theorem Rng.props {κ ν : Type} {P : Program} {k : TypeId} {ek : κ → Value} {ev : ν → Value} {w : World} {b r : Nat} {f : κ → Option ν} {done : List κ} (h : Rng P k ek ev w b r f done) : done.Nodup ∧ ∀ x ∈ done, (f x).isSome = true := by
  obtain ⟨_, _, _, _, _, _, _, _, _, _, _, _, _, _, _, _, _, h1, h2⟩ := h
  exact ⟨h1, h2⟩
theorem nodup_le {l : List Nat} (hd : l.Nodup) {m : Nat} (h : ∀ x ∈ l, x < m) : l.length ≤ m := by
  have hp : l.Perm ((List.range m).filter fun x => decide (x ∈ l)) := by
    refine (List.perm_ext_iff_of_nodup hd (List.nodup_range.sublist List.filter_sublist)).2 fun x => ?_
    simp only [List.mem_filter, List.mem_range, decide_eq_true_eq]
    exact ⟨fun hx => ⟨h x hx, hx⟩, fun hx => hx.2⟩
  rw [hp.length_eq]
  exact Nat.le_trans (List.length_filter_le _ _) (by simp)
/-- In the loop that collects the keys. -/
structure Coll (w W : World) (mb r : Nat) (f : Nat → Option Unit) (done : List Nat) (v : Value) : Prop where
  rg : Rng Tryd.prog 3 natV oneV W mb r f done
  own : W.ownsRow w.heap.size 3 1 v done.length (ints (natInts done.reverse))
  bl : Below w.heap.size w W
  lm : w.heap.size ≤ mb
  lr : w.heap.size ≤ r
theorem infoInt : (Tryd.prog.info? 3).map (fun i => (i.zero, i.size, i.bytes)) = some (some (.int .i64 0), 1, 8) := by kernel_rfl
theorem Coll.next {w W w4 w5 : World} {mb r : Nat} {f : Nat → Option Unit} {done : List Nat} {v v5 : Value} {x : Nat} {o : Obj} (h : Coll w W mb r f done v) (hrg : Rng Tryd.prog 3 natV oneV w4 mb r f (x :: done)) (hg : W.grownBy w4 (some r))
    (hown : w5.ownsRow w.heap.size 3 1 v5 (done.length + 1) (ints (natInts done.reverse) ++ [.int .i64 (x : Int)])) (hgr : (w4.alloc o).grownBy w5 v.ownBlock) : Coll w w5 mb r f (x :: done) v5 ∧ w5.rangeLeft mb r = w4.rangeLeft mb r := by
  have nb : v.ownBlock ≠ some mb := by
    obtain ⟨_, ⟨es, clock, hes, _⟩, _⟩ := h.rg.tm
    exact own_ne h.own hes (by intro cur fr e; cases e)
  have nr : v.ownBlock ≠ some r := by
    obtain ⟨_, _, _, _, _, _, _, _, _, _, _, _, hr, _⟩ := h.rg
    exact own_ne h.own hr (by intro cur fr e; cases e)
  have g2 : w4.grownBy w5 v.ownBlock := World.grownBy.trans (World.grownBy_alloc w4 o _) hgr
  have e1 : w5.heap[mb]? = w4.heap[mb]? := g2.block mb hrg.tm.lt (Ne.symm nb)
  have e2 : w5.heap[r]? = w4.heap[r]? := g2.block r hrg.ltr (Ne.symm nr)
  obtain ⟨s1, s2⟩ := hrg.same e1 e2
  refine ⟨⟨s1, ?_, (h.bl.grown hg h.bl.size (by intro k hk; cases hk; exact h.lr)).grown g2 (Nat.le_trans h.bl.size hg.size) (fun k hk => (h.own.lt k hk).1), h.lm, h.lr⟩, s2⟩
  have : ints (natInts (x :: done).reverse) = ints (natInts done.reverse) ++ [.int .i64 (x : Int)] := by simp [ints, natInts]
  rw [this]
  exact hown
theorem Coll.own4 {w W w4 : World} {mb r : Nat} {f : Nat → Option Unit} {done : List Nat} {v : Value} (h : Coll w W mb r f done v) (hg : W.grownBy w4 (some r)) : w4.ownsRow w.heap.size 3 1 v done.length (ints (natInts done.reverse)) := by
  refine h.own.kept hg (.inr ?_)
  obtain ⟨_, _, _, _, _, _, _, _, _, _, _, _, hr, _⟩ := h.rg
  exact own_ne h.own hr (by intro cur fr e; cases e)
theorem rd_one (w : World) (x : Value) (e : TypeId) : Rd (w.alloc (.cells #[x] e)) (.slice (some ⟨w.heap.size, 0, none⟩) 1 1) 1 1 [x] := by
  refine ⟨⟨_, _, rfl, fun h => by (cases h), fun ad ha => ?_⟩, rfl⟩
  cases ha
  refine ⟨fun _ => rfl, fun j u hu => ?_⟩
  match j, hu with
  | 0, hu => simp only [List.getElem?_cons_zero, Option.some.injEq] at hu; subst hu; rw [World.cell?_alloc_at _ _ _ _ rfl]; rfl
set_option maxRecDepth 100000 in
set_option maxHeartbeats 800000 in
theorem below_yes (k : Nat) (ow : Own) (w : World) (t : Value) (rows : List ND) (h : Tab k ow w t rows) (i : Nat) (hi : i < rows.length) :
    Calls Tryd.prog 41 #[t, .int .i64 (i : Int)] w fun e w' => ∃ v', e = .returned (.tuple #[v', .int .i64 0]) ∧ w'.ownsRow w.heap.size 3 1 v' (below rows i).length (ints (natInts (below rows i))) ∧ Below w.heap.size w w' := by
  have H : Hid (∀ o, Tab k ow (w.alloc o) t rows) := fun o => h.below (below_alloc _ _)
  have hb : hasB rows.length (i : Int) = true := by simp [hasB, hi]
  obtain ⟨pb, mt, v, rfl, ht⟩ := h
  have HT := Lib.hid ht
  clear ht
  have hmm := @run_makeMap Tryd.prog
  have hmf : ∀ (fn : Fn) (first cap : Array Value) (w : World), (Instr.makeFunc fn first cap).run Tryd.prog w = .ok (.func fn first cap) w := fun _ _ _ _ => rfl
  go_enter Tryd.func41, Tryd.ntmps41
  go_wp2_with (first | (go_at_call 23; refine (alive_yes k ow _ _ rows (H.out _)).mono ?_; rintro e w' ⟨rfl, rfl⟩) | (go_at_call 24; refine (has_any k ow _ _ rows (H.out _) _).mono ?_; rintro e w' ⟨rfl, rfl⟩))
  obtain ⟨hE, hS⟩ := env_start HT.out
  refine (down_any _ _ _ _ _ _ _ rows i _ _ hi hE hS).mono ?_
  rintro e w2 ⟨rfl, f, hg2, hm2, hd2⟩
  have c1 := cell_of (i := 0) (v := .map (some (w.heap.size + 1))) (hE.step hS hg2).hi rfl
  have hb2 : Below w.heap.size w w2 := ((((((Below.refl w.heap.size w).alloc (Nat.le_refl _) (.cells #[.pointer (some ⟨pb, 0, none⟩)] 24)).alloc (by simp) (.map #[] 0)).alloc (by simp; omega) (.cells #[.map (some (w.heap.size + 1))] 105)).alloc (by simp; omega) _)).grown hg2 (by simp; omega) (by intro k hk; cases hk; omega)
  have hall := hd2.all
  have HB2 := Lib.hid hb2; have HM2 := Lib.hid hm2; have HA := Lib.hid hall
  clear hE hS hg2 hm2 hd2 hb2 hall hmm hmf hb
  go_wp2_with (at_range; refine wp_range HM2.out rfl (.tmp 24) 105 3 rfl Tryd.underlying105 rfl ?_; intro w3 hrg3 hb3)
  go_frame
  have hI0 : Coll w w3 (w.heap.size + 1) w2.heap.size f [] (.slice none 0 0) := ⟨hrg3, World.ownsRow_nil _ _ _ _, HB2.out.trans (hb3.mono HB2.out.size), by omega, HB2.out.size⟩
  have HI0 := Lib.hid hI0
  clear hrg3 hb3 hI0
  go_loopw [8, 9] (fun u _ W => ∃ done, Coll w W (w.heap.size + 1) w2.heap.size f done u) (fun _ _ W => W.rangeLeft (w.heap.size + 1) w2.heap.size)
  case atStart => exact ⟨[], HI0.out⟩
  case round =>
    obtain ⟨done, hI⟩ := hrel
    have HI := Lib.hid hI
    go_wp2_with (at_next; refine wp_next HI.out.rg natV_inj rfl (.tmp 25) rfl rfl ?_ ?_)
    · intro hall
      have hp := hI.rg.props
      have hmem : ∀ j, j ∈ done.reverse ↔ Reach rows i j := fun j => by
        rw [List.mem_reverse, ← HA.out j]
        constructor
        · intro hj
          have := hp.2 j hj
          rcases unit_cases (f j) with h | h
          · rw [h] at this; cases this
          · exact h
        · intro hj; exact hall j (by rw [hj]; rfl)
      have hnd : done.reverse.Nodup := (List.reverse_perm done).nodup_iff.2 hp.1
      have hsort := sort_below HT.out.ok hnd hmem
      have hlen : done.length = (below rows i).length := by
        have := congrArg List.length hsort
        simpa [natInts] using this
      have hbd : done.length ≤ 1024 := by
        have := below_le rows i
        have := HT.out.ok.le
        omega
      have HS := Lib.hid hsort; have HL := Lib.hid hlen
      obtain ⟨a, c, rfl⟩ := own_slice hI.own
      clear hI hp hmem hnd hsort hlen hall
      go_wp2_with (go_at_call 49; refine (sortInts_own _ w.heap.size done.length _ (natInts done.reverse) HI.out.bl.size HI.out.own (by omega)).mono ?_; rintro e w5 ⟨rfl, hown5, hg5⟩)
      go_ret2
      refine ⟨_, rfl, ?_, HI.out.bl.grown hg5 HI.out.bl.size (fun k hk => (HI.out.own.lt k hk).1)⟩
      rw [HS.out] at hown5
      rw [← HL.out]
      exact hown5
    · intro x u w4 hfx hxd hrg4 hg4 hlt hen
      have hen' : (Instr.entry (.pointer (some ⟨w2.heap.size, 0, none⟩))).run Tryd.prog w4 = .ok (.tuple #[.int .i64 (x : Int), .int .i64 1]) w4 := hen
      have hp := hI.rg.props
      have hbd : done.length ≤ 1024 := by
        have h1 := nodup_le hp.1 (m := i + 1) (fun y hy => by
          have h2 := hp.2 y hy
          rcases unit_cases (f y) with h | h
          · rw [h] at h2; cases h2
          · have := ((HA.out y).1 h).le HT.out.ok; omega)
        have := HT.out.ok.le
        omega
      have hown := hI.own4 hg4
      have HO := Lib.hid hown; have HR4 := Lib.hid hrg4; have HG4 := Lib.hid hg4; have HLT := Lib.hid hlt
      have hsz : w.heap.size ≤ w4.heap.size := Nat.le_trans hI.bl.size hg4.size
      clear hen hp hI hown hrg4 hg4 hlt hfx hxd
      go_wp2_with (at_builtin; refine wp_append rfl (.tmp 30) (.tmp 32) 22 rfl w.heap.size 3 _ 1 8 Tryd.underlying22 infoInt rfl (by decide) (by decide) _ done.length (ints (natInts done.reverse)) rfl (HO.out.alloc _) _ 1 [.int .i64 (x : Int)] rfl (rd_one w4 _ _) (by simp [Value.oneCell']) (by omega) (by simp; omega) ?_; intro v5 w5 hown5 hgr5 hat5 hnil5)
      have hfin := HI.out.next HR4.out HG4.out hown5 hgr5
      exact ⟨⟨x :: done, hfin.1⟩, by rw [hfin.2]; exact HLT.out⟩
end Go.Dk
end

section
namespace Go.Dk
open Go.RowKit Go.Maps Go.MapKept Go.ChangeShapes Go.WideShapes Go.Deep
open Go.Proofs hiding intOf
theorem choose_fn {α : Type} [Inhabited α] {n : Nat} {p : Nat → α → Prop} (h : ∀ i, i < n → ∃ x, p i x) : ∃ f : Nat → α, ∀ i, i < n → p i (f i) := choose_lt h
theorem flat_at {α : Type} {f : α → List Value} {s : Nat} (hf : ∀ a, (f a).length = s) : ∀ (l : List α) (j : Nat) (u : Value), (l.flatMap f)[j]? = some u → ∃ i k a, j = i * s + k ∧ k < s ∧ l[i]? = some a ∧ (f a)[k]? = some u
  | [], j, u, h => by simp at h
  | a :: l, j, u, h => by
    rw [List.flatMap_cons] at h
    by_cases hj : j < s
    · rw [List.getElem?_append_left (by rw [hf]; exact hj)] at h
      exact ⟨0, j, a, by simp, hj, rfl, h⟩
    · rw [List.getElem?_append_right (by rw [hf]; omega), hf] at h
      obtain ⟨i, k, b, e, hk, h1, h2⟩ := flat_at hf l _ u h
      exact ⟨i + 1, k, b, by rw [Nat.add_mul]; omega, hk, by simpa using h1, h2⟩
section
variable {H : Type} {enc : TypeId × Value → H} {w : World} {base : Nat} {spare : Nat → Bool} {held : Bool}
set_option maxRecDepth 100000 in
/-- A slice that comes in, whatever its elements. -/
theorem open_rows {α : Type} [Inhabited α] {te ts : TypeId} (cells : α → List Value) (In : α → Prop) (s : Nat) (hs : 0 < s) (hlen : ∀ a, (cells a).length = s) (hc : Tryd.prog.cellsOf te = s) (ht : Tryd.prog.underlying ts = some (.slice te))
    (hop : ∀ (fuel : Nat) (cs : List Value) (x : DataW H × List MemPlace), DataW.trod enc Tryd.prog w base spare held fuel te cs = some x → ∃ a, cs = cells a ∧ In a)
    {v : Value} {r : Go.Reach} {b0 : Nat} {d : DataW H} {p : List MemPlace} (hv : Value.okWide Tryd.prog w r b0 ts v) (h : DataW.Trod enc Tryd.prog w base spare held ts v d p) :
    ∃ rows : List α, Rd w v rows.length s (rows.flatMap cells) ∧ rows.length ≤ maxLen ∧ (∀ n ∈ rows, In n) ∧ ∀ B, (∀ m ∈ d.weights Tryd.prog ts, m ≤ B) → rows.length * Tryd.prog.bytesOf te ≤ B := by
  obtain ⟨a, len, cap, rfl⟩ := okWide_slice ht hv
  obtain ⟨fuel, hf⟩ := h
  have hfl : ∀ l : List α, (l.flatMap cells).length = l.length * s := by
    intro l
    induction l with
    | nil => simp
    | cons a t ih => rw [List.flatMap_cons, List.length_append, ih, hlen, List.length_cons, Nat.add_mul]; omega
  rcases open_slice ht hf with ⟨hcs, hdp⟩ | ⟨x, l, c, m, n, D, Pl, hcs, _, hl, hm, hmm, hx, hi⟩
  · simp [Value.cells] at hcs
    obtain ⟨rfl, rfl, rfl⟩ := hcs
    obtain ⟨rfl, rfl⟩ := Prod.mk.inj hdp
    exact ⟨[], ⟨⟨none, 0, rfl, fun _ => ⟨rfl, rfl⟩, fun _ h => by cases h⟩, by simp⟩, by simp, by simp, by simp⟩
  · simp [Value.cells] at hcs
    obtain ⟨rfl, rfl, rfl⟩ := hcs
    have hlm : len ≤ m := by rw [hmm]; split <;> omega
    obtain ⟨f, hF⟩ := choose_fn (α := α) (n := len) (p := fun i nd => w.cells? base (x.add (i * s)) s = some (cells nd) ∧ In nd) (fun i hil => by
      obtain ⟨cs', h1, h2⟩ := hi i (by omega)
      rw [hc] at h1
      obtain ⟨nd, e, hn⟩ := hop _ _ _ h2
      exact ⟨nd, by rw [← e]; exact h1, hn⟩)
    have hll : ((List.range len).map f).length = len := by simp
    refine ⟨(List.range len).map f, ⟨⟨some x, cap, by rw [hll], fun h => by (cases h), fun ad ha => ?_⟩, hfl _⟩, by rw [hll]; omega, ?_, ?_⟩
    · cases ha
      have hs' : len ≠ 0 → x.spot = none := by
        intro h0
        obtain ⟨_, _, hat⟩ := World.cells?_some (hF 0 (by omega)).1
        have := hat 0 hs
        rw [Nat.zero_mul, add_add, List.getElem?_eq_getElem (by rw [hlen]; exact hs)] at this
        obtain ⟨b, o, sp⟩ := x
        cases sp with
        | none => rfl
        | some s =>
          exfalso
          unfold Addr.add World.cell? at this
          simp at this
          split at this <;> simp at this
      refine ⟨fun h => hs' (by rwa [hll] at h), fun j u hu => ?_⟩
      obtain ⟨i, k, nd, rfl, hk, h1, h2⟩ := flat_at (s := s) hlen _ _ _ hu
      have hil : i < len := by
        have := (List.getElem?_eq_some_iff.1 h1).1
        rw [hll] at this; exact this
      rw [List.getElem?_map, List.getElem?_range hil] at h1
      simp only [Option.map_some, Option.some.injEq] at h1
      subst h1
      obtain ⟨_, _, hat⟩ := World.cells?_some (hF i hil).1
      have := hat k hk
      rw [h2, add_add] at this
      rw [← this]
      congr 1
      have hs' := hs' (by omega)
      obtain ⟨b, o, sp⟩ := x
      simp only at hs'
      subst hs'
      unfold Addr.add
      split <;> simp_all
    · intro n hn
      obtain ⟨i, hi', rfl⟩ := List.mem_map.1 hn
      exact (hF i (List.mem_range.1 hi')).2
    · intro B hB
      rw [(Prod.mk.inj hx).1] at hB
      have := hB ((((List.range len).map D).length + ((List.range (m - len)).map fun j => D (len + j)).length) * Tryd.prog.bytesOf te) (by simp [DataW.weights, ht])
      simp only [List.length_map, List.length_range] at this ⊢
      exact Nat.le_trans (Nat.mul_le_mul_right _ (by omega)) this
/-- Numbers that come in. -/
def IntIn (z : Int) : Prop := (Lit.int .i64 z).wf = true
theorem ints_flat (zs : List Int) : zs.flatMap (fun z => [Value.int .i64 z]) = ints zs := by
  induction zs with
  | nil => rfl
  | cons a t ih => rw [List.flatMap_cons, ih]; rfl
set_option maxRecDepth 100000 in
theorem open_intsR {v : Value} {r : Go.Reach} {b0 : Nat} {d : DataW H} {p : List MemPlace} (hv : Value.okWide Tryd.prog w r b0 22 v) (h : DataW.Trod enc Tryd.prog w base spare held 22 v d p) :
    ∃ zs : List Int, Rd w v zs.length 1 (ints zs) ∧ zs.length ≤ maxLen ∧ (∀ z ∈ zs, IntIn z) ∧ ∀ B, (∀ m ∈ d.weights Tryd.prog 22, m ≤ B) → zs.length * 8 ≤ B := by
  have hby : Tryd.prog.bytesOf 3 = 8 := by kernel_rfl
  have := open_rows (te := 3) (fun z => [Value.int .i64 z]) IntIn 1 (by decide) (fun _ => rfl) (by kernel_rfl) Tryd.underlying22 (fun _ _ _ h => by obtain ⟨z, e, _, hw⟩ := DataW.trod_int Tryd.underlying3 h; exact ⟨z, e, hw⟩) hv h
  rw [hby] at this
  simp only [ints_flat] at this
  exact this
end
theorem sized_arg {H : Type} {P : Program} {ts : List TypeId} {ds : List (DataW H)} {j : Nat} {t : TypeId} {d : DataW H} (h : (DataW.weightsEach P ts ds).all (· ≤ reachBytes) = true) (ht : ts[j]? = some t) (hd : ds[j]? = some d) : ∀ m ∈ d.weights P t, m ≤ 140737488355328 := fun m hm => by
  have := List.all_eq_true.1 h m (DataW.weights_mem_each ht hd m hm)
  have h2 : m ≤ reachBytes := by simpa using this
  have : reachBytes ≤ 140737488355328 := by decide
  omega
end Go.Dk
end

section
namespace Go.Dk
open Go.RowKit Go.Maps Go.MapKept
open Go.Proofs hiding intOf
/-- The first error of putting rows one behind the other onto acc; 0: none. -/
def fromE : List ND → List ND → Int
  | _, [] => 0
  | acc, n :: r => if (put acc n).err ≠ 0 then (put acc n).err else if (put acc n).id ≠ (acc.length : Int) then 31 else fromE (acc ++ [n]) r
theorem put_new_rows {acc : List ND} {n : ND} (_ok : Ok acc) (he : (put acc n).err = 0) (hi : (put acc n).id = (acc.length : Int)) : (put acc n).rows = acc ++ [n] := by
  unfold put at *
  split at he
  · rename_i hf; simp only at he; exact absurd he hf
  · rename_i hf
    rw [if_neg hf] at hi ⊢
    cases hx : acc.idxOf? n with
    | some i =>
      rw [hx] at hi
      simp only at hi
      have := (List.getElem?_eq_some_iff.1 (get_of_idxOf? hx)).1
      omega
    | none =>
      rw [hx] at hi he
      simp only at hi he ⊢
      split at he
      · cases he
      · rename_i hl; rw [if_neg hl]
theorem fromE_step {rows : List ND} {i : Nat} {n : ND} (hi : rows[i]? = some n) : fromE (rows.take i) (rows.drop i) = if (put (rows.take i) n).err ≠ 0 then (put (rows.take i) n).err else if (put (rows.take i) n).id ≠ ((rows.take i).length : Int) then 31 else fromE (rows.take (i + 1)) (rows.drop (i + 1)) := by
  have hl := (List.getElem?_eq_some_iff.1 hi).1
  have e : rows.drop i = n :: rows.drop (i + 1) := by
    rw [List.drop_eq_getElem_cons hl, (List.getElem?_eq_some_iff.1 hi).2]
  have e2 : rows.take (i + 1) = rows.take i ++ [n] := by rw [List.take_add_one, hi]; rfl
  rw [e, fromE, e2]
/-- The cells of row i of a slice of rows that can be read. -/
theorem nodes_at {w : World} {v : Value} {rows : List ND} (h : Rd w v rows.length 4 (nodeCells rows)) {i : Nat} {n : ND} (hi : rows[i]? = some n) :
    ∃ b o c, v = .slice (some ⟨b, o, none⟩) rows.length c ∧ w.cell? ⟨b, o + i * 4, none⟩ = some (.int .i64 n.kind) ∧ w.cell? ⟨b, o + i * 4 + 1, none⟩ = some (.string n.name) ∧ w.cell? ⟨b, o + i * 4 + 2, none⟩ = some (.int .i64 n.l) ∧ w.cell? ⟨b, o + i * 4 + 3, none⟩ = some (.int .i64 n.r) := by
  have hl := (List.getElem?_eq_some_iff.1 hi).1
  obtain ⟨b, o, c, rfl, hc⟩ := h.some (by omega)
  have e : ∀ j, o + (i * 4 + j) = o + i * 4 + j := fun j => by omega
  exact ⟨b, o, c, rfl, hc _ _ (nodeCells_at rows i n hi 0 (by omega)), by rw [← e]; exact hc _ _ (nodeCells_at rows i n hi 1 (by omega)), by rw [← e]; exact hc _ _ (nodeCells_at rows i n hi 2 (by omega)), by rw [← e]; exact hc _ _ (nodeCells_at rows i n hi 3 (by omega))⟩
/-- What a From comes to. -/
def FromPost (T : Nat → Own → World → Value → List ND → Prop) (k : Nat) (ow : Own) (w : World) (rows : List ND) (e : Ending) (w' : World) : Prop :=
  ∃ v', e = .returned (.tuple #[v', .int .i64 (fromE [] rows)]) ∧ Below w.heap.size w w' ∧ (fromE [] rows = 0 → ∃ ow', Kept k ow w ow' w' ∧ T k ow' w' v' rows) ∧ (fromE [] rows ≠ 0 → v' = .pointer none)
structure FromI (T : Nat → Own → World → Value → List ND → Prop) (w W : World) (t : Value) (rows : List ND) (i : Nat) : Prop where
  ex : ∃ ow', T 1 ow' W t (rows.take i) ∧ Kept 1 (owC w) w ow' W
  eq : fromE [] rows = fromE (rows.take i) (rows.drop i)
theorem FromI.bel {T : Nat → Own → World → Value → List ND → Prop} {w W : World} {t : Value} {rows : List ND} {i : Nat} (h : FromI T w W t rows i) : Below w.heap.size w W := by
  obtain ⟨⟨ow', _, hk⟩, _⟩ := h
  exact kept_below' hk
theorem from_done {T : Nat → Own → World → Value → List ND → Prop} (rec : ∀ {k k2 : Nat} {ow ow2 : Own} {w : World} {t : Value} {rows : List ND}, T k ow w t rows → (∀ b, ow b = k → ow2 b = k2) → T k2 ow2 w t rows)
    {w W : World} {t : Value} {rows : List ND} (h : FromI T w W t rows rows.length) (k : Nat) (ow : Own) : fromE [] rows = 0 ∧ ∃ ow', Kept k ow w ow' W ∧ T k ow' W t rows := by
  have hb := h.bel
  obtain ⟨⟨ow', ht, hk⟩, he⟩ := h
  rw [List.take_length] at ht
  refine ⟨by rw [he]; simp [fromE], fun b => if b < w.heap.size then ow b else k, (hb.kept_ow).recolour (fun b hb => by simp [hb]), rec ht fun b hb' => ?_⟩
  by_cases hl : b < w.heap.size
  · have := hk.own b hl
    rw [hb'] at this
    simp [owC, hl] at this
  · simp [hl]
set_option maxRecDepth 100000 in
set_option maxHeartbeats 400000 in
theorem from_any (k : Nat) (ow : Own) (w : World) (v : Value) (rows : List ND) (hn : ∀ n ∈ rows, n.name.size ≤ maxLen) (hr : Rd w v rows.length 4 (nodeCells rows)) (hm : rows.length ≤ maxLen) :
    Calls Tryd.prog 11 #[v] w (FromPost Tab k ow w rows) := by
  unfold maxLen at hm
  have HR := Lib.hid hr
  have HN := Lib.hid hn
  obtain ⟨a, c, rfl⟩ := hr.slice
  clear hr hn
  go_enter Tryd.func11, Tryd.ntmps11
  go_wp2_with (go_at_call 20; refine (new_any 1 (owC w) w).mono ?_; rintro e w1 ⟨tc, ow1, rfl, ht1, hk1, hb1⟩)
  have H0 : Hid (FromI Tab w w1 tc rows 0) := ⟨⟨ow1, by simpa using ht1, hk1⟩, rfl⟩
  clear ht1 hk1 hb1
  go_loopw [5, 6, 7, 8, 12] (fun _ _ _ _ i W => ∃ j : Nat, j ≤ rows.length ∧ i = .int .i64 j ∧ FromI Tab w W tc rows j) (fun _ _ _ _ i _ => rows.length - (intOf i).toNat)
  case atStart => exact ⟨0, Nat.zero_le _, rfl, H0.out⟩
  case round =>
    obtain ⟨j, hj, rfl, hI⟩ := hrel
    have HI := Lib.hid hI
    by_cases hlt : j < rows.length
    · obtain ⟨n, hx⟩ : ∃ n, rows[j]? = some n := ⟨_, List.getElem?_eq_getElem hlt⟩
      obtain ⟨b, o, c', hv, d0, d1, d2, d3⟩ := nodes_at (HR.out.below hI.bel) hx
      cases hv
      obtain ⟨ow1, ht1, hk1⟩ := hI.ex
      have hstep := fromE_step hx
      have hlen : (rows.take j).length = j := by simp; omega
      have hnm : n.name.size ≤ maxLen := HN.out n (List.mem_of_getElem? hx)
      have HT1 := Lib.hid (ht1.below (below_alloc wr (.cells #[.int .i64 n.kind, .string n.name, .int .i64 n.l, .int .i64 n.r] 45)))
      have HK1 := Lib.hid (hk1.trans (below_alloc wr (.cells #[.int .i64 n.kind, .string n.name, .int .i64 n.l, .int .i64 n.r] 45)).kept_ow); have HX := Lib.hid hx; have HS := Lib.hid hstep; have HL := Lib.hid hlen
      obtain ⟨kd, nm, l, r⟩ := n
      clear hI ht1 hk1 hx hstep hlen
      by_cases he : (put (rows.take j) ⟨kd, nm, l, r⟩).err = 0
      · by_cases hi : (put (rows.take j) ⟨kd, nm, l, r⟩).id = (j : Int)
        · have HE := Lib.hid he; have HID := Lib.hid hi
          go_wp2_with (go_at_call 21; refine (put_any 1 _ _ _ _ HT1.out _ _ _ _ hnm).mono ?_; rintro e w2 ⟨rfl, ow2, hk2, ht2⟩)
          refine ⟨⟨j + 1, by omega, by go_num, ⟨ow2, ?_, HK1.out.trans hk2⟩, ?_⟩, by simp [intOf]; omega⟩
          · have e2 : rows.take (j + 1) = rows.take j ++ [⟨kd, nm, l, r⟩] := by rw [List.take_add_one, HX.out]; rfl
            rw [e2, ← put_new_rows HT1.out.ok HE.out (by rw [HID.out, HL.out])]
            exact ht2
          · rw [HI.out.eq, HS.out, if_neg (by simp [HE.out]), if_neg (by rw [HID.out, HL.out]; simp)]
        · have hb : ((put (rows.take j) ⟨kd, nm, l, r⟩).id != (j : Int)) = true := by simp [hi]
          have HF : Hid (fromE [] rows = 31) := by rw [Hid, HI.out.eq, HS.out, if_neg (by simp [he]), if_pos (by rw [HL.out]; exact hi)]
          go_wp2_with (go_at_call 21; refine (put_any 1 _ _ _ _ HT1.out _ _ _ _ hnm).mono ?_; rintro e w2 ⟨rfl, ow2, hk2, ht2⟩)
          go_ret2
          refine ⟨.pointer none, by rw [HF.out]; rfl, kept_below' (HK1.out.trans hk2), (by rw [HF.out]; intro h; cases h), fun _ => rfl⟩
      · have hb : ((put (rows.take j) ⟨kd, nm, l, r⟩).err != 0) = true := by simp [he]
        have hb' : ((put (rows.take j) ⟨kd, nm, l, r⟩).err == 0) = false := by simp [he]
        have HF : Hid (fromE [] rows = (put (rows.take j) ⟨kd, nm, l, r⟩).err) := by rw [Hid, HI.out.eq, HS.out, if_pos he]
        have HE := Lib.hid he
        clear he
        go_wp2_with (go_at_call 21; refine (put_any 1 _ _ _ _ HT1.out _ _ _ _ hnm).mono ?_; rintro e w2 ⟨rfl, ow2, hk2, ht2⟩)
        go_ret2
        refine ⟨.pointer none, by rw [HF.out]; rfl, kept_below' (HK1.out.trans hk2), (by rw [HF.out]; intro h; exact absurd h HE.out), fun _ => rfl⟩
    · have hjl : j = rows.length := by omega
      subst hjl
      obtain ⟨f1, f2⟩ := from_done (fun h hc => h.recolour hc) hI k ow
      have HF1 := Lib.hid f1; have HF2 := Lib.hid f2
      clear hI f1 f2
      go_wp2
      go_ret2
      refine ⟨_, by rw [HF1.out]; rfl, HI.out.bel, fun _ => HF2.out, fun h => absurd HF1.out h⟩
end Go.Dk
end
