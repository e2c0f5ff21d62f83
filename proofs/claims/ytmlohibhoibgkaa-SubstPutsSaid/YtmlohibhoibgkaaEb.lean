/- Put of the document's tables: what fits. -/
import Derived.Test.YtmlohibhoibgkaaE
import Derived.Deep.DeepCutAuto
import Derived.Deep.CutBlock
import Derived.Deep.RegionLaw
namespace Go.Dk
open Go.RowKit Go.Maps Go.MapKept
open Go.Proofs hiding intOf

theorem fits_ways {m : Nat} {kd l r : Int} {nm : ByteArray} (h : fits m ⟨kd, nm, l, r⟩ = 0) : (kd = 1 ∧ l = 0 ∧ r = 0 ∧ word nm = true) ∨ (kd = 2 ∧ nm.toList = [] ∧ l = 0 ∧ r = 0) ∨ ((kd = 3 ∨ kd = 4 ∨ kd = 5) ∧ nm.toList = [] ∧ hasB m l = true ∧ hasB m r = true) := by
  unfold fits at h
  split at h
  · rename_i h1
    split at h
    · cases h
    · rename_i h2
      split at h
      · rename_i h3
        simp only [not_or, Classical.not_not] at h2
        exact .inl ⟨h1, h2.1, h2.2, h3⟩
      · cases h
  · split at h
    · rename_i h1
      split at h
      · cases h
      · rename_i h2
        simp only [not_or, Classical.not_not] at h2
        exact .inr (.inl ⟨h1, bytes_nil.2 h2.1, h2.2.1, h2.2.2⟩)
    · split at h
      · rename_i h1
        split at h
        · cases h
        · rename_i h2
          simp only [not_or, Classical.not_not, Bool.not_eq_false] at h2
          exact .inr (.inr ⟨h1, bytes_nil.2 h2.1, h2.2.1, h2.2.2⟩)
      · cases h

set_option maxRecDepth 100000 in
set_option maxHeartbeats 800000 in
theorem refPut_found (k : Nat) (ow : Own) (w : World) (t : Value) (rows : List ND) (h : RTab k ow w t rows) (kd l r : Int) (nm : ByteArray) (hn : nm.size ≤ maxLen) (hf : fits rows.length ⟨kd, nm, l, r⟩ = 0) (i : Nat) (hi : rows.idxOf? ⟨kd, nm, l, r⟩ = some i) :
    Calls Try.prog 54 #[t, .agg #[.int .i64 kd, .string nm, .int .i64 l, .int .i64 r]] w fun e w' => e = .returned (.tuple #[.int .i64 (i : Int), .int .i64 0]) ∧ Below w.heap.size w w' := by
  have H := Lib.hid h
  have HF := Lib.hid hf
  have hbx : Boxed (w.alloc (.cells #[.int .i64 kd, .string nm, .int .i64 l, .int .i64 r] 36)) w.heap.size ⟨kd, nm, l, r⟩ := boxed_new w ⟨kd, nm, l, r⟩ _
  have HB := Lib.hid hbx
  obtain ⟨rb, v, rfl, ht⟩ := h
  clear ht hf hbx
  go_enter Try.func54, Try.ntmps54
  go_upto_block 0 with fail
  go_cut [] (fun wx => Below (w.alloc (.cells #[.int .i64 kd, .string nm, .int .i64 l, .int .i64 r] 36)).heap.size (w.alloc (.cells #[.int .i64 kd, .string nm, .int .i64 l, .int .i64 r] 36)) wx)
  case first =>
    have B0 := Below.refl (w.alloc (.cells #[.int .i64 kd, .string nm, .int .i64 l, .int .i64 r] 36)).heap.size (w.alloc (.cells #[.int .i64 kd, .string nm, .int .i64 l, .int .i64 r] 36))
    rcases fits_ways HF.out with ⟨rfl, rfl, rfl, h4⟩ | ⟨rfl, h4, rfl, rfl⟩ | ⟨h3, h4, h5, h6⟩
    · go_wp2_with (go_at_call 50; refine (refWord_any _ _ hn).mono ?_; rintro e w2 ⟨rfl, hb2⟩)
      go_meet
      exact hb2
    · go_wp2
      go_meet
      exact B0
    · rcases h3 with rfl | rfl | rfl
      all_goals
        go_wp2_with (go_at_call 8; refine (refHas_any k ow _ _ rows (H.out.below (below_alloc _ _)) _).mono ?_; rintro e w' ⟨rfl, rfl⟩)
        go_meet
        exact B0
  case rest =>
    obtain ⟨c0, c1, c2, c3⟩ := HB.out.below hcut
    have hr := H.out.below (below_trans (below_alloc w _) hcut)
    have HR := Lib.hid hr; have HC := Lib.hid hcut
    clear hcut hr
    go_wp2_with (go_at_call 11; refine (refFind_any k ow _ _ rows HR.out _ _ _ _).mono ?_; rintro e w2 ⟨rfl, hb2⟩)
    go_ret2
    exact ⟨rfl, below_trans (below_trans (below_alloc _ _) HC.out) hb2⟩

set_option maxRecDepth 100000 in
set_option maxHeartbeats 800000 in
theorem refPut_full (k : Nat) (ow : Own) (w : World) (t : Value) (rows : List ND) (h : RTab k ow w t rows) (kd l r : Int) (nm : ByteArray) (hn : nm.size ≤ maxLen) (hf : fits rows.length ⟨kd, nm, l, r⟩ = 0) (hi : rows.idxOf? ⟨kd, nm, l, r⟩ = none) (hl : 1024 ≤ rows.length) :
    Calls Try.prog 54 #[t, .agg #[.int .i64 kd, .string nm, .int .i64 l, .int .i64 r]] w fun e w' => e = .returned (.tuple #[.int .i64 0, .int .i64 30]) ∧ Below w.heap.size w w' := by
  have H := Lib.hid h
  have HF := Lib.hid hf
  have hbx : Boxed (w.alloc (.cells #[.int .i64 kd, .string nm, .int .i64 l, .int .i64 r] 36)) w.heap.size ⟨kd, nm, l, r⟩ := boxed_new w ⟨kd, nm, l, r⟩ _
  have HB := Lib.hid hbx
  obtain ⟨rb, v, rfl, ht⟩ := h
  obtain ⟨a, c, rfl⟩ := ht.hr.slice
  have HT := Lib.hid ht
  clear ht hf hbx
  go_enter Try.func54, Try.ntmps54
  go_upto_block 0 with fail
  go_cut [] (fun wx => Below (w.alloc (.cells #[.int .i64 kd, .string nm, .int .i64 l, .int .i64 r] 36)).heap.size (w.alloc (.cells #[.int .i64 kd, .string nm, .int .i64 l, .int .i64 r] 36)) wx)
  case first =>
    have B0 := Below.refl (w.alloc (.cells #[.int .i64 kd, .string nm, .int .i64 l, .int .i64 r] 36)).heap.size (w.alloc (.cells #[.int .i64 kd, .string nm, .int .i64 l, .int .i64 r] 36))
    rcases fits_ways HF.out with ⟨rfl, rfl, rfl, h4⟩ | ⟨rfl, h4, rfl, rfl⟩ | ⟨h3, h4, h5, h6⟩
    · go_wp2_with (go_at_call 50; refine (refWord_any _ _ hn).mono ?_; rintro e w2 ⟨rfl, hb2⟩)
      go_meet
      exact hb2
    · go_wp2
      go_meet
      exact B0
    · rcases h3 with rfl | rfl | rfl
      all_goals
        go_wp2_with (go_at_call 8; refine (refHas_any k ow _ _ rows (H.out.below (below_alloc _ _)) _).mono ?_; rintro e w' ⟨rfl, rfl⟩)
        go_meet
        exact B0
  case rest =>
    obtain ⟨c0, c1, c2, c3⟩ := HB.out.below hcut
    have hbel := below_trans (below_alloc w _) hcut
    have hr := H.out.below hbel
    have htr := HT.out.below hbel
    have HR := Lib.hid hr; have HC := Lib.hid hcut; have HTR := Lib.hid htr; have HBL := Lib.hid hbel
    clear hcut hr htr hbel
    go_wp2_with (go_at_call 11; refine (refFind_any k ow _ _ rows HR.out _ _ _ _).mono ?_; rintro e w2 ⟨rfl, hb2⟩; have cp : w2.cell? ⟨rb, 0, none⟩ = some (.slice a rows.length c) := cell_of (HTR.out.below hb2).hp rfl)
    go_ret2
    exact ⟨rfl, below_trans HBL.out hb2⟩

/-- Behind the append of the document's Put. -/
theorem refmid_of {k : Nat} {ow : Own} {w w3 w4 : World} {rb g cap : Nat} {u : Value} {rows : List ND} {n : ND} {H : Nat} (hH : w.heap.size ≤ H)
    (lp : rb < w.heap.size) (hb : Below w.heap.size w w3) (cp : ow rb = k) (cr : ∀ g, u.ownBlock = some g → ow g = k) (n1 : u.ownBlock ≠ some rb)
    (m1 : w4.heap[rb]? = some (.cells #[u] 69 (0, 0))) (ok : Ok rows) (hf : fits rows.length n = 0) (hi : rows.idxOf? n = none) (hl : rows.length < 1024)
    (hown : w4.ownsRow 0 36 4 (.slice (some ⟨g, 0, none⟩) (rows.length + 1) cap) (rows.length + 1) (nodeCells rows ++ n.cells))
    (hat : u.ownBlock = some g ∨ H ≤ g) (hg : w3.grownBy w4 u.ownBlock) :
    (w4.setCell ⟨rb, 0, none⟩ (.slice (some ⟨g, 0, none⟩) (rows.length + 1) cap)).cell? ⟨rb, 0, none⟩ = some (.slice (some ⟨g, 0, none⟩) (rows.length + 1) cap) ∧
    ∃ ow', Kept k ow w ow' (w4.setCell ⟨rb, 0, none⟩ (.slice (some ⟨g, 0, none⟩) (rows.length + 1) cap)) ∧ RTab k ow' (w4.setCell ⟨rb, 0, none⟩ (.slice (some ⟨g, 0, none⟩) (rows.length + 1) cap)) (.pointer (some ⟨rb, 0, none⟩)) (rows ++ [n]) := by
  have gp : g ≠ rb := by
    rcases hat with h | h
    · intro e; exact n1 (e ▸ h)
    · omega
  have so : ∀ b, b ≠ rb → (w4.setCell ⟨rb, 0, none⟩ (.slice (some ⟨g, 0, none⟩) (rows.length + 1) cap)).heap[b]? = w4.heap[b]? := fun b h => Below.heap_setCell _ _ _ _ h
  have hp := setCell_block (i := 0) m1 (.slice (some ⟨g, 0, none⟩) (rows.length + 1) cap)
  refine ⟨cell_of hp rfl, fun b => if b < w.heap.size then ow b else k, ((hb.kept_ow.trans (kept_grown hg cr)).trans (kept_setCell _ cp _)).recolour (fun b hb => by simp [hb]), rb, _, rfl, hp, ?_, ok.snoc hf hi (by omega), by simp [lp, cp], fun g' h => ?_⟩
  · have e : nodeCells (rows ++ [n]) = nodeCells rows ++ n.cells := by simp [nodeCells]
    rw [e, List.length_append]
    refine .inl ⟨hown.1, .inr ?_⟩
    rcases hown.2 with ⟨h, _⟩ | ⟨g', cap', cur, h, hb', hg', r⟩
    · cases h
    · cases h
      exact ⟨g, cap, cur, rfl, hb', (so g gp).trans hg', r⟩
  · cases h
    show (if g < w.heap.size then ow g else k) = k
    split
    · rename_i hl'
      rcases hat with h | h
      · exact cr _ h
      · omega
    · rfl

set_option maxRecDepth 100000 in
set_option maxHeartbeats 800000 in
theorem refPut_new (k : Nat) (ow : Own) (w : World) (t : Value) (rows : List ND) (h : RTab k ow w t rows) (kd l r : Int) (nm : ByteArray) (hn : nm.size ≤ maxLen) (hf : fits rows.length ⟨kd, nm, l, r⟩ = 0) (hi : rows.idxOf? ⟨kd, nm, l, r⟩ = none) (hl : rows.length < 1024) :
    Calls Try.prog 54 #[t, .agg #[.int .i64 kd, .string nm, .int .i64 l, .int .i64 r]] w fun e w' => e = .returned (.tuple #[.int .i64 (rows.length : Int), .int .i64 0]) ∧ ∃ ow', Kept k ow w ow' w' ∧ RTab k ow' w' t (rows ++ [⟨kd, nm, l, r⟩]) := by
  have H := Lib.hid h
  have HF := Lib.hid hf
  have hbx : Boxed (w.alloc (.cells #[.int .i64 kd, .string nm, .int .i64 l, .int .i64 r] 36)) w.heap.size ⟨kd, nm, l, r⟩ := boxed_new w ⟨kd, nm, l, r⟩ _
  have HB := Lib.hid hbx
  obtain ⟨rb, v, rfl, ht⟩ := h
  obtain ⟨a, c, rfl⟩ := ht.hr.slice
  have HT := Lib.hid ht
  have HI := Lib.hid hi
  clear ht hf hbx
  go_enter Try.func54, Try.ntmps54
  go_upto_block 0 with fail
  go_cut [] (fun wx => Below (w.alloc (.cells #[.int .i64 kd, .string nm, .int .i64 l, .int .i64 r] 36)).heap.size (w.alloc (.cells #[.int .i64 kd, .string nm, .int .i64 l, .int .i64 r] 36)) wx)
  case first =>
    have B0 := Below.refl (w.alloc (.cells #[.int .i64 kd, .string nm, .int .i64 l, .int .i64 r] 36)).heap.size (w.alloc (.cells #[.int .i64 kd, .string nm, .int .i64 l, .int .i64 r] 36))
    rcases fits_ways HF.out with ⟨rfl, rfl, rfl, h4⟩ | ⟨rfl, h4, rfl, rfl⟩ | ⟨h3, h4, h5, h6⟩
    · go_wp2_with (go_at_call 50; refine (refWord_any _ _ hn).mono ?_; rintro e w2 ⟨rfl, hb2⟩)
      go_meet
      exact hb2
    · go_wp2
      go_meet
      exact B0
    · rcases h3 with rfl | rfl | rfl
      all_goals
        go_wp2_with (go_at_call 8; refine (refHas_any k ow _ _ rows (H.out.below (below_alloc _ _)) _).mono ?_; rintro e w' ⟨rfl, rfl⟩)
        go_meet
        exact B0
  case rest =>
    have hbx := HB.out.below hcut
    have hbel := below_trans (below_alloc w _) hcut
    have hr := H.out.below hbel
    have htr := HT.out.below hbel
    have HBX := Lib.hid hbx
    obtain ⟨c0, c1, c2, c3⟩ := hbx
    have HR := Lib.hid hr; have HC := Lib.hid hcut; have HTR := Lib.hid htr; have HBL := Lib.hid hbel
    have h1024 : ¬ 1024 ≤ (rows.length : Int) := by omega
    clear hcut hr htr hbel
    go_wp2_with (go_at_call 11; refine (refFind_any k ow _ _ rows HR.out _ _ _ _).mono ?_; rintro e w3 ⟨rfl, hb3⟩; have cp : w3.cell? ⟨rb, 0, none⟩ = some (.slice a rows.length c) := cell_of (HTR.out.below hb3).hp rfl; clear c0 c1 c2 c3; obtain ⟨c0, c1, c2, c3⟩ := HBX.out.below hb3)
    have ht3 := HTR.out.below hb3
    have m2 := ht3.hr
    have lp3 : rb < w3.heap.size := lt_of_block ht3.hp
    have n1 : (Value.slice a rows.length c).ownBlock ≠ some rb := m2.ne ht3.hp (by intro cur fr e; cases e)
    have N1 := Lib.hid n1; have HT3 := Lib.hid ht3
    have HB3 := Lib.hid (below_trans HBL.out hb3)
    have lB : w.heap.size < w3.heap.size := World.block_lt_of_cell? w3 _ c0
    clear n1 ht3 hb3
    go_region_law (refine step_append_roww rfl (.tmp 78) (.tmp 80) 22 rfl 36 _ 4 40 Try.underlying22 infoNode rfl (by decide) _ rows.length (nodeCells rows) (by simp [Act.eval]; rfl) (by exact m2.alloc _) ⟨w3.heap.size, 0, none⟩ 1 1 (ND.cells ⟨kd, nm, l, r⟩) (by simp [Act.eval]) rfl (World.news_of_block (heap_alloc_new' _ _ rfl)) (by simp [ND.cells, Value.oneCell']) (by decide) (by unfold maxLen; omega) (by omega) ?_; intro g cap w4 hown hgrow hat hlt; have hgr : w3.grownBy w4 (Value.slice a rows.length c).ownBlock := grown_ad hgrow; have q1 := (hgr.block rb lp3 (Ne.symm N1.out)).trans HT3.out.hp; have q2 : w4.cell? ⟨rb, 0, none⟩ = some (.slice a rows.length c) := cell_of q1 rfl; have q3 := frozen_of (i := 0) q1; have Q1 := Lib.hid q1; clear q1 hgrow)
    all_goals
      have hfin := refmid_of (k := k) (ow := ow) (w := w) (n := ⟨kd, nm, l, r⟩) (H := w3.heap.size) (Nat.le_of_lt lB) (lt_of_block HT.out.hp) HB3.out HT.out.cp HT.out.cr N1.out Q1.out HT.out.ok HF.out HI.out hl hown (hat.imp id (fun h => by simp at h; omega)) hgr
      obtain ⟨s1, s2⟩ := hfin
      have HS := Lib.hid s2
      clear s2 hown hat hgr q2 q3 Q1
      generalize w4.setCell ⟨rb, 0, none⟩ (.slice (some ⟨g, 0, none⟩) (rows.length + 1) cap) = w5 at *
      go_wp2
      go_ret2
      exact ⟨rfl, HS.out⟩

/-- What a call that puts rows into a table of the document's comes to. -/
def RPutPost (k : Nat) (ow : Own) (w : World) (t : Value) (p : Put) (e : Ending) (w' : World) : Prop :=
  e = .returned (.tuple #[.int .i64 p.id, .int .i64 p.err]) ∧ ∃ ow', Kept k ow w ow' w' ∧ RTab k ow' w' t p.rows


end Go.Dk

