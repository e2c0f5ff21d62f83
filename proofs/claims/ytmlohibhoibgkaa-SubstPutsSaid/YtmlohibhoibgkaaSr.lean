/- Layer 7: the image of Simple. Written by wip/genimage.py. -/
import Derived.Test.YtmlohibhoibgkaaSq
namespace Go.Dk
open Go.RowKit Go.Maps Go.MapKept
open Go.Proofs hiding intOf

/-- The image's two boxes. -/
structure ImgB (w W : World) (t : Value) (n : ND) : Prop where
  c0 : W.cell? ⟨w.heap.size, 0, none⟩ = some t
  bx : Boxed W (w.heap.size + 1) n
  bl : Below w.heap.size w W
theorem ImgB.start (w : World) (t : Value) (n : ND) (T T2 : TypeId) : ImgB w ((w.alloc (.cells #[t] T)).alloc (.cells #[.int .i64 n.kind, .string n.name, .int .i64 n.l, .int .i64 n.r] T2)) t n := by
  have h := boxed_new (w.alloc (.cells #[t] T)) n T2
  rw [World.size_alloc] at h
  exact ⟨(World.cell?_alloc_lt _ _ _ (by simp)).trans (World.cell?_alloc_at _ _ _ _ rfl), h, below_trans (below_alloc _ _) (below_alloc _ _)⟩
theorem ImgB.below {w W W' : World} {t : Value} {n : ND} (h : ImgB w W t n) (hb : Below W.heap.size W W') : ImgB w W' t n :=
  ⟨(hb.cell (World.block_lt_of_cell? _ _ h.c0)).trans h.c0, h.bx.below hb, below_trans h.bl hb⟩
theorem ImgB.facts {w W : World} {t : Value} {n : ND} (h : ImgB w W t n) : W.cell? ⟨w.heap.size, 0, none⟩ = some t ∧ (W.cell? ⟨w.heap.size + 1, 0, none⟩ = some (.int .i64 n.kind) ∧ W.cell? ⟨w.heap.size + 1, 1, none⟩ = some (.string n.name) ∧ W.cell? ⟨w.heap.size + 1, 2, none⟩ = some (.int .i64 n.l) ∧ W.cell? ⟨w.heap.size + 1, 3, none⟩ = some (.int .i64 n.r)) ∧ w.heap.size + 1 < W.heap.size :=
  ⟨h.c0, ⟨h.bx.c0, h.bx.c1, h.bx.c2, h.bx.c3⟩, World.block_lt_of_cell? _ _ h.bx.c0⟩

set_option maxRecDepth 100000 in
set_option maxHeartbeats 4000000 in
theorem image3_any (ow : Own) (w : World) (t : Value) (rows : List ND) (h : Tab 1 ow w t rows) (k : Nat) (a b : Int) (nm : ByteArray) (l r : Nat) :
    Calls Try.prog 47 #[.agg #[t], .int .i64 (k : Int), .agg #[.int .i64 3, .string nm, .int .i64 a, .int .i64 b], .int .i64 (l : Int), .int .i64 (r : Int)] w (PutPost 1 ow w t (simpOf' rows k ⟨3, nm, a, b⟩ l r)) := by
  have H := Lib.hid h
  clear h
  have HI := Lib.hid (ImgB.start w t ⟨3, nm, a, b⟩ 97 36)
  have Cnol := Lib.hid (fun W hb => no07_any ow W t rows (H.out.below hb) l)
  have Cnor := Lib.hid (fun W hb => no07_any ow W t rows (H.out.below hb) r)
  have Cyesl := Lib.hid (fun W hb => yes07_any ow W t rows (H.out.below hb) l)
  have Cyesr := Lib.hid (fun W hb => yes07_any ow W t rows (H.out.below hb) r)
  by_cases hnol : noB rows (l : Int) = true
  · as_aux_lemma =>
    have HE : Hid (simpOf' rows k ⟨3, nm, a, b⟩ l r = put rows ⟨2, ⟨#[]⟩, 0, 0⟩) := by unfold Hid simpOf'; simp [hnol]; first | rfl | done
    rw [hnol] at Cnol
    clear hnol
    go_enter Try.func47, Try.ntmps47
    go_wp2_with (first | (go_at_call_of 64 (Value.int IntKind.i64 (l : Int)); refine (Cnol.out _ HI.out.bl).mono ?_; rintro e w3 ⟨rfl, hb3⟩; have HI := Lib.hid (HI.out.below hb3); obtain ⟨c0, ⟨d0, d1, d2, d3⟩, zz⟩ := HI.out.facts; simp only at d0 d1 d2 d3; clear hb3) | fail)
    refine (bot_any 1 ow _ t rows (H.out.below HI.out.bl)).mono ?_
    rintro e w9 hp
    have HP := Lib.hid (PutPost.from HI.out.bl hp)
    obtain ⟨rfl, _⟩ := hp
    go_wp2_with fail
    go_ret2
    rw [HE.out]
    exact HP.out
  · rw [Bool.not_eq_true] at hnol
    by_cases hnor : noB rows (r : Int) = true
    · as_aux_lemma =>
      have HE : Hid (simpOf' rows k ⟨3, nm, a, b⟩ l r = put rows ⟨2, ⟨#[]⟩, 0, 0⟩) := by unfold Hid simpOf'; simp [hnol, hnor]; first | rfl | done
      rw [hnol] at Cnol
      rw [hnor] at Cnor
      clear hnol hnor
      go_enter Try.func47, Try.ntmps47
      go_wp2_with (first | (go_at_call_of 64 (Value.int IntKind.i64 (l : Int)); refine (Cnol.out _ HI.out.bl).mono ?_; rintro e w3 ⟨rfl, hb3⟩; have HI := Lib.hid (HI.out.below hb3); obtain ⟨c0, ⟨d0, d1, d2, d3⟩, zz⟩ := HI.out.facts; simp only at d0 d1 d2 d3; clear hb3) | (go_at_call_of 64 (Value.int IntKind.i64 (r : Int)); refine (Cnor.out _ HI.out.bl).mono ?_; rintro e w3 ⟨rfl, hb3⟩; have HI := Lib.hid (HI.out.below hb3); obtain ⟨c0, ⟨d0, d1, d2, d3⟩, zz⟩ := HI.out.facts; simp only at d0 d1 d2 d3; clear hb3) | fail)
      refine (bot_any 1 ow _ t rows (H.out.below HI.out.bl)).mono ?_
      rintro e w9 hp
      have HP := Lib.hid (PutPost.from HI.out.bl hp)
      obtain ⟨rfl, _⟩ := hp
      go_wp2_with fail
      go_ret2
      rw [HE.out]
      exact HP.out
    · rw [Bool.not_eq_true] at hnor
      by_cases hyesl : yesB rows (l : Int) = true
      · as_aux_lemma =>
        have HE : Hid (simpOf' rows k ⟨3, nm, a, b⟩ l r = ⟨rows, (r : Int), 0⟩) := by unfold Hid simpOf'; simp [hnol, hnor, hyesl]
        rw [hnol] at Cnol
        rw [hnor] at Cnor
        rw [hyesl] at Cyesl
        clear hnol hnor hyesl
        go_enter Try.func47, Try.ntmps47
        go_wp2_with (first | (go_at_call_of 64 (Value.int IntKind.i64 (l : Int)); refine (Cnol.out _ HI.out.bl).mono ?_; rintro e w3 ⟨rfl, hb3⟩; have HI := Lib.hid (HI.out.below hb3); obtain ⟨c0, ⟨d0, d1, d2, d3⟩, zz⟩ := HI.out.facts; simp only at d0 d1 d2 d3; clear hb3) | (go_at_call_of 64 (Value.int IntKind.i64 (r : Int)); refine (Cnor.out _ HI.out.bl).mono ?_; rintro e w3 ⟨rfl, hb3⟩; have HI := Lib.hid (HI.out.below hb3); obtain ⟨c0, ⟨d0, d1, d2, d3⟩, zz⟩ := HI.out.facts; simp only at d0 d1 d2 d3; clear hb3) | (go_at_call_of 66 (Value.int IntKind.i64 (l : Int)); refine (Cyesl.out _ HI.out.bl).mono ?_; rintro e w3 ⟨rfl, hb3⟩; have HI := Lib.hid (HI.out.below hb3); obtain ⟨c0, ⟨d0, d1, d2, d3⟩, zz⟩ := HI.out.facts; simp only at d0 d1 d2 d3; clear hb3) | fail)
        go_ret2
        rw [HE.out]
        exact ⟨rfl, ow, HI.out.bl.kept_ow, H.out.below HI.out.bl⟩
      · rw [Bool.not_eq_true] at hyesl
        by_cases hyesr : yesB rows (r : Int) = true
        · as_aux_lemma =>
          have HE : Hid (simpOf' rows k ⟨3, nm, a, b⟩ l r = ⟨rows, (l : Int), 0⟩) := by unfold Hid simpOf'; simp [hnol, hnor, hyesl, hyesr]
          rw [hnol] at Cnol
          rw [hnor] at Cnor
          rw [hyesl] at Cyesl
          rw [hyesr] at Cyesr
          clear hnol hnor hyesl hyesr
          go_enter Try.func47, Try.ntmps47
          go_wp2_with (first | (go_at_call_of 64 (Value.int IntKind.i64 (l : Int)); refine (Cnol.out _ HI.out.bl).mono ?_; rintro e w3 ⟨rfl, hb3⟩; have HI := Lib.hid (HI.out.below hb3); obtain ⟨c0, ⟨d0, d1, d2, d3⟩, zz⟩ := HI.out.facts; simp only at d0 d1 d2 d3; clear hb3) | (go_at_call_of 64 (Value.int IntKind.i64 (r : Int)); refine (Cnor.out _ HI.out.bl).mono ?_; rintro e w3 ⟨rfl, hb3⟩; have HI := Lib.hid (HI.out.below hb3); obtain ⟨c0, ⟨d0, d1, d2, d3⟩, zz⟩ := HI.out.facts; simp only at d0 d1 d2 d3; clear hb3) | (go_at_call_of 66 (Value.int IntKind.i64 (l : Int)); refine (Cyesl.out _ HI.out.bl).mono ?_; rintro e w3 ⟨rfl, hb3⟩; have HI := Lib.hid (HI.out.below hb3); obtain ⟨c0, ⟨d0, d1, d2, d3⟩, zz⟩ := HI.out.facts; simp only at d0 d1 d2 d3; clear hb3) | (go_at_call_of 66 (Value.int IntKind.i64 (r : Int)); refine (Cyesr.out _ HI.out.bl).mono ?_; rintro e w3 ⟨rfl, hb3⟩; have HI := Lib.hid (HI.out.below hb3); obtain ⟨c0, ⟨d0, d1, d2, d3⟩, zz⟩ := HI.out.facts; simp only at d0 d1 d2 d3; clear hb3) | fail)
          go_ret2
          rw [HE.out]
          exact ⟨rfl, ow, HI.out.bl.kept_ow, H.out.below HI.out.bl⟩
        · rw [Bool.not_eq_true] at hyesr
          by_cases he : l = r
          · as_aux_lemma =>
            have HE : Hid (simpOf' rows k ⟨3, nm, a, b⟩ l r = ⟨rows, (l : Int), 0⟩) := by subst he; unfold Hid simpOf'; simp [hnol, hnor, hyesl, hyesr]
            rw [hnol] at Cnol
            rw [hnor] at Cnor
            rw [hyesl] at Cyesl
            rw [hyesr] at Cyesr
            have ge : ((l : Int) == (r : Int)) = true := by subst he; simp
            clear hnol hnor hyesl hyesr he
            go_enter Try.func47, Try.ntmps47
            go_wp2_with (first | (go_at_call_of 64 (Value.int IntKind.i64 (l : Int)); refine (Cnol.out _ HI.out.bl).mono ?_; rintro e w3 ⟨rfl, hb3⟩; have HI := Lib.hid (HI.out.below hb3); obtain ⟨c0, ⟨d0, d1, d2, d3⟩, zz⟩ := HI.out.facts; simp only at d0 d1 d2 d3; clear hb3) | (go_at_call_of 64 (Value.int IntKind.i64 (r : Int)); refine (Cnor.out _ HI.out.bl).mono ?_; rintro e w3 ⟨rfl, hb3⟩; have HI := Lib.hid (HI.out.below hb3); obtain ⟨c0, ⟨d0, d1, d2, d3⟩, zz⟩ := HI.out.facts; simp only at d0 d1 d2 d3; clear hb3) | (go_at_call_of 66 (Value.int IntKind.i64 (l : Int)); refine (Cyesl.out _ HI.out.bl).mono ?_; rintro e w3 ⟨rfl, hb3⟩; have HI := Lib.hid (HI.out.below hb3); obtain ⟨c0, ⟨d0, d1, d2, d3⟩, zz⟩ := HI.out.facts; simp only at d0 d1 d2 d3; clear hb3) | (go_at_call_of 66 (Value.int IntKind.i64 (r : Int)); refine (Cyesr.out _ HI.out.bl).mono ?_; rintro e w3 ⟨rfl, hb3⟩; have HI := Lib.hid (HI.out.below hb3); obtain ⟨c0, ⟨d0, d1, d2, d3⟩, zz⟩ := HI.out.facts; simp only at d0 d1 d2 d3; clear hb3) | fail)
            go_ret2
            rw [HE.out]
            exact ⟨rfl, ow, HI.out.bl.kept_ow, H.out.below HI.out.bl⟩
          · as_aux_lemma =>
            have he2 : ¬ ((l : Int) = (r : Int)) := by omega
            have HE : Hid (simpOf' rows k ⟨3, nm, a, b⟩ l r = plainP rows k ⟨3, nm, a, b⟩ l r) := by unfold Hid simpOf' plainP; simp [hnol, hnor, hyesl, hyesr, he2]
            rw [hnol] at Cnol
            rw [hnor] at Cnor
            rw [hyesl] at Cyesl
            rw [hyesr] at Cyesr
            have ge : ((l : Int) == (r : Int)) = false := by rw [beq_eq_false_iff_ne]; omega
            clear hnol hnor hyesl hyesr he he2
            go_enter Try.func47, Try.ntmps47
            go_wp2_with (first | (go_at_call_of 64 (Value.int IntKind.i64 (l : Int)); refine (Cnol.out _ HI.out.bl).mono ?_; rintro e w3 ⟨rfl, hb3⟩; have HI := Lib.hid (HI.out.below hb3); obtain ⟨c0, ⟨d0, d1, d2, d3⟩, zz⟩ := HI.out.facts; simp only at d0 d1 d2 d3; clear hb3) | (go_at_call_of 64 (Value.int IntKind.i64 (r : Int)); refine (Cnor.out _ HI.out.bl).mono ?_; rintro e w3 ⟨rfl, hb3⟩; have HI := Lib.hid (HI.out.below hb3); obtain ⟨c0, ⟨d0, d1, d2, d3⟩, zz⟩ := HI.out.facts; simp only at d0 d1 d2 d3; clear hb3) | (go_at_call_of 66 (Value.int IntKind.i64 (l : Int)); refine (Cyesl.out _ HI.out.bl).mono ?_; rintro e w3 ⟨rfl, hb3⟩; have HI := Lib.hid (HI.out.below hb3); obtain ⟨c0, ⟨d0, d1, d2, d3⟩, zz⟩ := HI.out.facts; simp only at d0 d1 d2 d3; clear hb3) | (go_at_call_of 66 (Value.int IntKind.i64 (r : Int)); refine (Cyesr.out _ HI.out.bl).mono ?_; rintro e w3 ⟨rfl, hb3⟩; have HI := Lib.hid (HI.out.below hb3); obtain ⟨c0, ⟨d0, d1, d2, d3⟩, zz⟩ := HI.out.facts; simp only at d0 d1 d2 d3; clear hb3) | fail)
            refine (plain_any ow _ t rows (H.out.below HI.out.bl) k 3 a b l r nm).mono ?_
            rintro e w9 hp
            have HP := Lib.hid (PutPost.from HI.out.bl hp)
            obtain ⟨rfl, _⟩ := hp
            go_wp2_with fail
            go_ret2
            rw [HE.out]
            exact HP.out

set_option maxRecDepth 100000 in
set_option maxHeartbeats 4000000 in
theorem image4_any (ow : Own) (w : World) (t : Value) (rows : List ND) (h : Tab 1 ow w t rows) (k : Nat) (a b : Int) (nm : ByteArray) (l r : Nat) :
    Calls Try.prog 47 #[.agg #[t], .int .i64 (k : Int), .agg #[.int .i64 4, .string nm, .int .i64 a, .int .i64 b], .int .i64 (l : Int), .int .i64 (r : Int)] w (PutPost 1 ow w t (simpOf' rows k ⟨4, nm, a, b⟩ l r)) := by
  have H := Lib.hid h
  clear h
  have HI := Lib.hid (ImgB.start w t ⟨4, nm, a, b⟩ 97 36)
  have Cnol := Lib.hid (fun W hb => no07_any ow W t rows (H.out.below hb) l)
  have Cnor := Lib.hid (fun W hb => no07_any ow W t rows (H.out.below hb) r)
  have Cyesl := Lib.hid (fun W hb => yes07_any ow W t rows (H.out.below hb) l)
  have Cyesr := Lib.hid (fun W hb => yes07_any ow W t rows (H.out.below hb) r)
  by_cases hyesl : yesB rows (l : Int) = true
  · as_aux_lemma =>
    have HE : Hid (simpOf' rows k ⟨4, nm, a, b⟩ l r = topP rows) := by unfold Hid simpOf'; simp [hyesl]
    rw [hyesl] at Cyesl
    clear hyesl
    go_enter Try.func47, Try.ntmps47
    go_wp2_with (first | (go_at_call_of 66 (Value.int IntKind.i64 (l : Int)); refine (Cyesl.out _ HI.out.bl).mono ?_; rintro e w3 ⟨rfl, hb3⟩; have HI := Lib.hid (HI.out.below hb3); obtain ⟨c0, ⟨d0, d1, d2, d3⟩, zz⟩ := HI.out.facts; simp only at d0 d1 d2 d3; clear hb3) | fail)
    refine (top07_any ow _ t rows (H.out.below HI.out.bl)).mono ?_
    rintro e w9 hp
    have HP := Lib.hid (PutPost.from HI.out.bl hp)
    obtain ⟨rfl, _⟩ := hp
    go_wp2_with fail
    go_ret2
    rw [HE.out]
    exact HP.out
  · rw [Bool.not_eq_true] at hyesl
    by_cases hyesr : yesB rows (r : Int) = true
    · as_aux_lemma =>
      have HE : Hid (simpOf' rows k ⟨4, nm, a, b⟩ l r = topP rows) := by unfold Hid simpOf'; simp [hyesl, hyesr]
      rw [hyesl] at Cyesl
      rw [hyesr] at Cyesr
      clear hyesl hyesr
      go_enter Try.func47, Try.ntmps47
      go_wp2_with (first | (go_at_call_of 66 (Value.int IntKind.i64 (l : Int)); refine (Cyesl.out _ HI.out.bl).mono ?_; rintro e w3 ⟨rfl, hb3⟩; have HI := Lib.hid (HI.out.below hb3); obtain ⟨c0, ⟨d0, d1, d2, d3⟩, zz⟩ := HI.out.facts; simp only at d0 d1 d2 d3; clear hb3) | (go_at_call_of 66 (Value.int IntKind.i64 (r : Int)); refine (Cyesr.out _ HI.out.bl).mono ?_; rintro e w3 ⟨rfl, hb3⟩; have HI := Lib.hid (HI.out.below hb3); obtain ⟨c0, ⟨d0, d1, d2, d3⟩, zz⟩ := HI.out.facts; simp only at d0 d1 d2 d3; clear hb3) | fail)
      refine (top07_any ow _ t rows (H.out.below HI.out.bl)).mono ?_
      rintro e w9 hp
      have HP := Lib.hid (PutPost.from HI.out.bl hp)
      obtain ⟨rfl, _⟩ := hp
      go_wp2_with fail
      go_ret2
      rw [HE.out]
      exact HP.out
    · rw [Bool.not_eq_true] at hyesr
      by_cases hnol : noB rows (l : Int) = true
      · as_aux_lemma =>
        have HE : Hid (simpOf' rows k ⟨4, nm, a, b⟩ l r = ⟨rows, (r : Int), 0⟩) := by unfold Hid simpOf'; simp [hyesl, hyesr, hnol]
        rw [hyesl] at Cyesl
        rw [hyesr] at Cyesr
        rw [hnol] at Cnol
        clear hyesl hyesr hnol
        go_enter Try.func47, Try.ntmps47
        go_wp2_with (first | (go_at_call_of 66 (Value.int IntKind.i64 (l : Int)); refine (Cyesl.out _ HI.out.bl).mono ?_; rintro e w3 ⟨rfl, hb3⟩; have HI := Lib.hid (HI.out.below hb3); obtain ⟨c0, ⟨d0, d1, d2, d3⟩, zz⟩ := HI.out.facts; simp only at d0 d1 d2 d3; clear hb3) | (go_at_call_of 66 (Value.int IntKind.i64 (r : Int)); refine (Cyesr.out _ HI.out.bl).mono ?_; rintro e w3 ⟨rfl, hb3⟩; have HI := Lib.hid (HI.out.below hb3); obtain ⟨c0, ⟨d0, d1, d2, d3⟩, zz⟩ := HI.out.facts; simp only at d0 d1 d2 d3; clear hb3) | (go_at_call_of 64 (Value.int IntKind.i64 (l : Int)); refine (Cnol.out _ HI.out.bl).mono ?_; rintro e w3 ⟨rfl, hb3⟩; have HI := Lib.hid (HI.out.below hb3); obtain ⟨c0, ⟨d0, d1, d2, d3⟩, zz⟩ := HI.out.facts; simp only at d0 d1 d2 d3; clear hb3) | fail)
        go_ret2
        rw [HE.out]
        exact ⟨rfl, ow, HI.out.bl.kept_ow, H.out.below HI.out.bl⟩
      · rw [Bool.not_eq_true] at hnol
        by_cases hnor : noB rows (r : Int) = true
        · as_aux_lemma =>
          have HE : Hid (simpOf' rows k ⟨4, nm, a, b⟩ l r = ⟨rows, (l : Int), 0⟩) := by unfold Hid simpOf'; simp [hyesl, hyesr, hnol, hnor]
          rw [hyesl] at Cyesl
          rw [hyesr] at Cyesr
          rw [hnol] at Cnol
          rw [hnor] at Cnor
          clear hyesl hyesr hnol hnor
          go_enter Try.func47, Try.ntmps47
          go_wp2_with (first | (go_at_call_of 66 (Value.int IntKind.i64 (l : Int)); refine (Cyesl.out _ HI.out.bl).mono ?_; rintro e w3 ⟨rfl, hb3⟩; have HI := Lib.hid (HI.out.below hb3); obtain ⟨c0, ⟨d0, d1, d2, d3⟩, zz⟩ := HI.out.facts; simp only at d0 d1 d2 d3; clear hb3) | (go_at_call_of 66 (Value.int IntKind.i64 (r : Int)); refine (Cyesr.out _ HI.out.bl).mono ?_; rintro e w3 ⟨rfl, hb3⟩; have HI := Lib.hid (HI.out.below hb3); obtain ⟨c0, ⟨d0, d1, d2, d3⟩, zz⟩ := HI.out.facts; simp only at d0 d1 d2 d3; clear hb3) | (go_at_call_of 64 (Value.int IntKind.i64 (l : Int)); refine (Cnol.out _ HI.out.bl).mono ?_; rintro e w3 ⟨rfl, hb3⟩; have HI := Lib.hid (HI.out.below hb3); obtain ⟨c0, ⟨d0, d1, d2, d3⟩, zz⟩ := HI.out.facts; simp only at d0 d1 d2 d3; clear hb3) | (go_at_call_of 64 (Value.int IntKind.i64 (r : Int)); refine (Cnor.out _ HI.out.bl).mono ?_; rintro e w3 ⟨rfl, hb3⟩; have HI := Lib.hid (HI.out.below hb3); obtain ⟨c0, ⟨d0, d1, d2, d3⟩, zz⟩ := HI.out.facts; simp only at d0 d1 d2 d3; clear hb3) | fail)
          go_ret2
          rw [HE.out]
          exact ⟨rfl, ow, HI.out.bl.kept_ow, H.out.below HI.out.bl⟩
        · rw [Bool.not_eq_true] at hnor
          by_cases he : l = r
          · as_aux_lemma =>
            have HE : Hid (simpOf' rows k ⟨4, nm, a, b⟩ l r = ⟨rows, (l : Int), 0⟩) := by subst he; unfold Hid simpOf'; simp [hyesl, hyesr, hnol, hnor]
            rw [hyesl] at Cyesl
            rw [hyesr] at Cyesr
            rw [hnol] at Cnol
            rw [hnor] at Cnor
            have ge : ((l : Int) == (r : Int)) = true := by subst he; simp
            clear hyesl hyesr hnol hnor he
            go_enter Try.func47, Try.ntmps47
            go_wp2_with (first | (go_at_call_of 66 (Value.int IntKind.i64 (l : Int)); refine (Cyesl.out _ HI.out.bl).mono ?_; rintro e w3 ⟨rfl, hb3⟩; have HI := Lib.hid (HI.out.below hb3); obtain ⟨c0, ⟨d0, d1, d2, d3⟩, zz⟩ := HI.out.facts; simp only at d0 d1 d2 d3; clear hb3) | (go_at_call_of 66 (Value.int IntKind.i64 (r : Int)); refine (Cyesr.out _ HI.out.bl).mono ?_; rintro e w3 ⟨rfl, hb3⟩; have HI := Lib.hid (HI.out.below hb3); obtain ⟨c0, ⟨d0, d1, d2, d3⟩, zz⟩ := HI.out.facts; simp only at d0 d1 d2 d3; clear hb3) | (go_at_call_of 64 (Value.int IntKind.i64 (l : Int)); refine (Cnol.out _ HI.out.bl).mono ?_; rintro e w3 ⟨rfl, hb3⟩; have HI := Lib.hid (HI.out.below hb3); obtain ⟨c0, ⟨d0, d1, d2, d3⟩, zz⟩ := HI.out.facts; simp only at d0 d1 d2 d3; clear hb3) | (go_at_call_of 64 (Value.int IntKind.i64 (r : Int)); refine (Cnor.out _ HI.out.bl).mono ?_; rintro e w3 ⟨rfl, hb3⟩; have HI := Lib.hid (HI.out.below hb3); obtain ⟨c0, ⟨d0, d1, d2, d3⟩, zz⟩ := HI.out.facts; simp only at d0 d1 d2 d3; clear hb3) | fail)
            go_ret2
            rw [HE.out]
            exact ⟨rfl, ow, HI.out.bl.kept_ow, H.out.below HI.out.bl⟩
          · as_aux_lemma =>
            have he2 : ¬ ((l : Int) = (r : Int)) := by omega
            have HE : Hid (simpOf' rows k ⟨4, nm, a, b⟩ l r = plainP rows k ⟨4, nm, a, b⟩ l r) := by unfold Hid simpOf' plainP; simp [hyesl, hyesr, hnol, hnor, he2]
            rw [hyesl] at Cyesl
            rw [hyesr] at Cyesr
            rw [hnol] at Cnol
            rw [hnor] at Cnor
            have ge : ((l : Int) == (r : Int)) = false := by rw [beq_eq_false_iff_ne]; omega
            clear hyesl hyesr hnol hnor he he2
            go_enter Try.func47, Try.ntmps47
            go_wp2_with (first | (go_at_call_of 66 (Value.int IntKind.i64 (l : Int)); refine (Cyesl.out _ HI.out.bl).mono ?_; rintro e w3 ⟨rfl, hb3⟩; have HI := Lib.hid (HI.out.below hb3); obtain ⟨c0, ⟨d0, d1, d2, d3⟩, zz⟩ := HI.out.facts; simp only at d0 d1 d2 d3; clear hb3) | (go_at_call_of 66 (Value.int IntKind.i64 (r : Int)); refine (Cyesr.out _ HI.out.bl).mono ?_; rintro e w3 ⟨rfl, hb3⟩; have HI := Lib.hid (HI.out.below hb3); obtain ⟨c0, ⟨d0, d1, d2, d3⟩, zz⟩ := HI.out.facts; simp only at d0 d1 d2 d3; clear hb3) | (go_at_call_of 64 (Value.int IntKind.i64 (l : Int)); refine (Cnol.out _ HI.out.bl).mono ?_; rintro e w3 ⟨rfl, hb3⟩; have HI := Lib.hid (HI.out.below hb3); obtain ⟨c0, ⟨d0, d1, d2, d3⟩, zz⟩ := HI.out.facts; simp only at d0 d1 d2 d3; clear hb3) | (go_at_call_of 64 (Value.int IntKind.i64 (r : Int)); refine (Cnor.out _ HI.out.bl).mono ?_; rintro e w3 ⟨rfl, hb3⟩; have HI := Lib.hid (HI.out.below hb3); obtain ⟨c0, ⟨d0, d1, d2, d3⟩, zz⟩ := HI.out.facts; simp only at d0 d1 d2 d3; clear hb3) | fail)
            refine (plain_any ow _ t rows (H.out.below HI.out.bl) k 4 a b l r nm).mono ?_
            rintro e w9 hp
            have HP := Lib.hid (PutPost.from HI.out.bl hp)
            obtain ⟨rfl, _⟩ := hp
            go_wp2_with fail
            go_ret2
            rw [HE.out]
            exact HP.out

set_option maxRecDepth 100000 in
set_option maxHeartbeats 4000000 in
theorem image5_any (ow : Own) (w : World) (t : Value) (rows : List ND) (h : Tab 1 ow w t rows) (k : Nat) (a b : Int) (nm : ByteArray) (l r : Nat) :
    Calls Try.prog 47 #[.agg #[t], .int .i64 (k : Int), .agg #[.int .i64 5, .string nm, .int .i64 a, .int .i64 b], .int .i64 (l : Int), .int .i64 (r : Int)] w (PutPost 1 ow w t (simpOf' rows k ⟨5, nm, a, b⟩ l r)) := by
  have H := Lib.hid h
  clear h
  have HI := Lib.hid (ImgB.start w t ⟨5, nm, a, b⟩ 97 36)
  have Cnol := Lib.hid (fun W hb => no07_any ow W t rows (H.out.below hb) l)
  have Cnor := Lib.hid (fun W hb => no07_any ow W t rows (H.out.below hb) r)
  have Cyesl := Lib.hid (fun W hb => yes07_any ow W t rows (H.out.below hb) l)
  have Cyesr := Lib.hid (fun W hb => yes07_any ow W t rows (H.out.below hb) r)
  by_cases hnol : noB rows (l : Int) = true
  · as_aux_lemma =>
    have HE : Hid (simpOf' rows k ⟨5, nm, a, b⟩ l r = topP rows) := by unfold Hid simpOf'; simp [hnol]
    rw [hnol] at Cnol
    clear hnol
    go_enter Try.func47, Try.ntmps47
    go_wp2_with (first | (go_at_call_of 64 (Value.int IntKind.i64 (l : Int)); refine (Cnol.out _ HI.out.bl).mono ?_; rintro e w3 ⟨rfl, hb3⟩; have HI := Lib.hid (HI.out.below hb3); obtain ⟨c0, ⟨d0, d1, d2, d3⟩, zz⟩ := HI.out.facts; simp only at d0 d1 d2 d3; clear hb3) | fail)
    refine (top07_any ow _ t rows (H.out.below HI.out.bl)).mono ?_
    rintro e w9 hp
    have HP := Lib.hid (PutPost.from HI.out.bl hp)
    obtain ⟨rfl, _⟩ := hp
    go_wp2_with fail
    go_ret2
    rw [HE.out]
    exact HP.out
  · rw [Bool.not_eq_true] at hnol
    by_cases hyesr : yesB rows (r : Int) = true
    · as_aux_lemma =>
      have HE : Hid (simpOf' rows k ⟨5, nm, a, b⟩ l r = topP rows) := by unfold Hid simpOf'; simp [hnol, hyesr]
      rw [hnol] at Cnol
      rw [hyesr] at Cyesr
      clear hnol hyesr
      go_enter Try.func47, Try.ntmps47
      go_wp2_with (first | (go_at_call_of 64 (Value.int IntKind.i64 (l : Int)); refine (Cnol.out _ HI.out.bl).mono ?_; rintro e w3 ⟨rfl, hb3⟩; have HI := Lib.hid (HI.out.below hb3); obtain ⟨c0, ⟨d0, d1, d2, d3⟩, zz⟩ := HI.out.facts; simp only at d0 d1 d2 d3; clear hb3) | (go_at_call_of 66 (Value.int IntKind.i64 (r : Int)); refine (Cyesr.out _ HI.out.bl).mono ?_; rintro e w3 ⟨rfl, hb3⟩; have HI := Lib.hid (HI.out.below hb3); obtain ⟨c0, ⟨d0, d1, d2, d3⟩, zz⟩ := HI.out.facts; simp only at d0 d1 d2 d3; clear hb3) | fail)
      refine (top07_any ow _ t rows (H.out.below HI.out.bl)).mono ?_
      rintro e w9 hp
      have HP := Lib.hid (PutPost.from HI.out.bl hp)
      obtain ⟨rfl, _⟩ := hp
      go_wp2_with fail
      go_ret2
      rw [HE.out]
      exact HP.out
    · rw [Bool.not_eq_true] at hyesr
      by_cases he : l = r
      · as_aux_lemma =>
        have HE : Hid (simpOf' rows k ⟨5, nm, a, b⟩ l r = topP rows) := by subst he; unfold Hid simpOf'; simp [hnol, hyesr]
        rw [hnol] at Cnol
        rw [hyesr] at Cyesr
        have ge : ((l : Int) == (r : Int)) = true := by subst he; simp
        clear hnol hyesr he
        go_enter Try.func47, Try.ntmps47
        go_wp2_with (first | (go_at_call_of 64 (Value.int IntKind.i64 (l : Int)); refine (Cnol.out _ HI.out.bl).mono ?_; rintro e w3 ⟨rfl, hb3⟩; have HI := Lib.hid (HI.out.below hb3); obtain ⟨c0, ⟨d0, d1, d2, d3⟩, zz⟩ := HI.out.facts; simp only at d0 d1 d2 d3; clear hb3) | (go_at_call_of 66 (Value.int IntKind.i64 (r : Int)); refine (Cyesr.out _ HI.out.bl).mono ?_; rintro e w3 ⟨rfl, hb3⟩; have HI := Lib.hid (HI.out.below hb3); obtain ⟨c0, ⟨d0, d1, d2, d3⟩, zz⟩ := HI.out.facts; simp only at d0 d1 d2 d3; clear hb3) | fail)
        refine (top07_any ow _ t rows (H.out.below HI.out.bl)).mono ?_
        rintro e w9 hp
        have HP := Lib.hid (PutPost.from HI.out.bl hp)
        obtain ⟨rfl, _⟩ := hp
        go_wp2_with fail
        go_ret2
        rw [HE.out]
        exact HP.out
      · by_cases hyesl : yesB rows (l : Int) = true
        · as_aux_lemma =>
          have he2 : ¬ ((l : Int) = (r : Int)) := by omega
          have HE : Hid (simpOf' rows k ⟨5, nm, a, b⟩ l r = ⟨rows, (r : Int), 0⟩) := by unfold Hid simpOf'; simp [hnol, hyesr, he2, hyesl]
          rw [hnol] at Cnol
          rw [hyesr] at Cyesr
          have ge : ((l : Int) == (r : Int)) = false := by rw [beq_eq_false_iff_ne]; omega
          rw [hyesl] at Cyesl
          clear hnol hyesr he hyesl he2
          go_enter Try.func47, Try.ntmps47
          go_wp2_with (first | (go_at_call_of 64 (Value.int IntKind.i64 (l : Int)); refine (Cnol.out _ HI.out.bl).mono ?_; rintro e w3 ⟨rfl, hb3⟩; have HI := Lib.hid (HI.out.below hb3); obtain ⟨c0, ⟨d0, d1, d2, d3⟩, zz⟩ := HI.out.facts; simp only at d0 d1 d2 d3; clear hb3) | (go_at_call_of 66 (Value.int IntKind.i64 (r : Int)); refine (Cyesr.out _ HI.out.bl).mono ?_; rintro e w3 ⟨rfl, hb3⟩; have HI := Lib.hid (HI.out.below hb3); obtain ⟨c0, ⟨d0, d1, d2, d3⟩, zz⟩ := HI.out.facts; simp only at d0 d1 d2 d3; clear hb3) | (go_at_call_of 66 (Value.int IntKind.i64 (l : Int)); refine (Cyesl.out _ HI.out.bl).mono ?_; rintro e w3 ⟨rfl, hb3⟩; have HI := Lib.hid (HI.out.below hb3); obtain ⟨c0, ⟨d0, d1, d2, d3⟩, zz⟩ := HI.out.facts; simp only at d0 d1 d2 d3; clear hb3) | fail)
          go_ret2
          rw [HE.out]
          exact ⟨rfl, ow, HI.out.bl.kept_ow, H.out.below HI.out.bl⟩
        · as_aux_lemma =>
          rw [Bool.not_eq_true] at hyesl
          have he2 : ¬ ((l : Int) = (r : Int)) := by omega
          have HE : Hid (simpOf' rows k ⟨5, nm, a, b⟩ l r = plainP rows k ⟨5, nm, a, b⟩ l r) := by unfold Hid simpOf' plainP; simp [hnol, hyesr, he2, hyesl]
          rw [hnol] at Cnol
          rw [hyesr] at Cyesr
          have ge : ((l : Int) == (r : Int)) = false := by rw [beq_eq_false_iff_ne]; omega
          rw [hyesl] at Cyesl
          clear hnol hyesr he hyesl he2
          go_enter Try.func47, Try.ntmps47
          go_wp2_with (first | (go_at_call_of 64 (Value.int IntKind.i64 (l : Int)); refine (Cnol.out _ HI.out.bl).mono ?_; rintro e w3 ⟨rfl, hb3⟩; have HI := Lib.hid (HI.out.below hb3); obtain ⟨c0, ⟨d0, d1, d2, d3⟩, zz⟩ := HI.out.facts; simp only at d0 d1 d2 d3; clear hb3) | (go_at_call_of 66 (Value.int IntKind.i64 (r : Int)); refine (Cyesr.out _ HI.out.bl).mono ?_; rintro e w3 ⟨rfl, hb3⟩; have HI := Lib.hid (HI.out.below hb3); obtain ⟨c0, ⟨d0, d1, d2, d3⟩, zz⟩ := HI.out.facts; simp only at d0 d1 d2 d3; clear hb3) | (go_at_call_of 66 (Value.int IntKind.i64 (l : Int)); refine (Cyesl.out _ HI.out.bl).mono ?_; rintro e w3 ⟨rfl, hb3⟩; have HI := Lib.hid (HI.out.below hb3); obtain ⟨c0, ⟨d0, d1, d2, d3⟩, zz⟩ := HI.out.facts; simp only at d0 d1 d2 d3; clear hb3) | fail)
          refine (plain_any ow _ t rows (H.out.below HI.out.bl) k 5 a b l r nm).mono ?_
          rintro e w9 hp
          have HP := Lib.hid (PutPost.from HI.out.bl hp)
          obtain ⟨rfl, _⟩ := hp
          go_wp2_with fail
          go_ret2
          rw [HE.out]
          exact HP.out

set_option maxRecDepth 100000 in
set_option maxHeartbeats 1000000 in
theorem image12_any (ow : Own) (w : World) (t : Value) (rows : List ND) (h : Tab 1 ow w t rows) (k : Nat) (kd a b : Int) (nm : ByteArray) (l r : Nat) (hk : kd = 1 ∨ kd = 2) :
    Calls Try.prog 47 #[.agg #[t], .int .i64 (k : Int), .agg #[.int .i64 kd, .string nm, .int .i64 a, .int .i64 b], .int .i64 (l : Int), .int .i64 (r : Int)] w (PutPost 1 ow w t (simpOf' rows k ⟨kd, nm, a, b⟩ l r)) := by
  have H := Lib.hid h
  clear h
  have HI := Lib.hid (ImgB.start w t ⟨kd, nm, a, b⟩ 97 36)
  have HE : Hid (simpOf' rows k ⟨kd, nm, a, b⟩ l r = plainP rows k ⟨kd, nm, a, b⟩ l r) := by
    unfold Hid simpOf' plainP
    rcases hk with rfl | rfl <;> simp
  have g3 : (kd == 3) = false := by rcases hk with rfl | rfl <;> rfl
  have g4 : (kd == 4) = false := by rcases hk with rfl | rfl <;> rfl
  have g5 : (kd == 5) = false := by rcases hk with rfl | rfl <;> rfl
  clear hk
  go_enter Try.func47, Try.ntmps47
  go_wp2_with fail
  refine (plain_any ow _ t rows (H.out.below HI.out.bl) k kd a b l r nm).mono ?_
  rintro e w9 hp
  have HP := Lib.hid (PutPost.from HI.out.bl hp)
  obtain ⟨rfl, _⟩ := hp
  go_wp2_with fail
  go_ret2
  rw [HE.out]
  exact HP.out

theorem image_any (ow : Own) (w : World) (t : Value) (rows : List ND) (h : Tab 1 ow w t rows) (k : Nat) (n : ND) (hk : 1 ≤ n.kind ∧ n.kind ≤ 5) (l r : Int) (hl : 0 ≤ l) (hr : 0 ≤ r) :
    Calls Try.prog 47 #[.agg #[t], .int .i64 (k : Int), .agg #[.int .i64 n.kind, .string n.name, .int .i64 n.l, .int .i64 n.r], .int .i64 l, .int .i64 r] w (PutPost 1 ow w t (simpOf' rows k n l r)) := by
  obtain ⟨l, rfl⟩ := Int.eq_ofNat_of_zero_le hl
  obtain ⟨r, rfl⟩ := Int.eq_ofNat_of_zero_le hr
  obtain ⟨kd, nm, a, b⟩ := n
  simp only at hk
  by_cases h3 : kd = 3
  · subst h3; exact image3_any ow w t rows h k a b nm l r
  · by_cases h4 : kd = 4
    · subst h4; exact image4_any ow w t rows h k a b nm l r
    · by_cases h5 : kd = 5
      · subst h5; exact image5_any ow w t rows h k a b nm l r
      · exact image12_any ow w t rows h k kd a b nm l r (by omega)

end Go.Dk

