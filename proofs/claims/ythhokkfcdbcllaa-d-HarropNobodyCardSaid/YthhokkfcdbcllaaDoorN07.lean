/- Parts of the proof: Kt, Ku. -/
import Derived.Test.YthhokkfcdbcllaaDoorN01
import Derived.Test.YthhokkfcdbcllaaDoorN02
import Derived.Test.YthhokkfcdbcllaaDoorN03
import Derived.Test.YthhokkfcdbcllaaDoorN04
import Derived.Test.YthhokkfcdbcllaaDoorN05
import Derived.Test.YthhokkfcdbcllaaDoorN06
section
namespace Go.Dk
open Go.RowKit Go.Maps Go.MapKept
open Go.Proofs hiding intOf
def foundP : Option (Int × Nat) → (Int × Nat) × Bool
  | some x => (x, true)
  | none => ((0, 0), false)
theorem foundV_P (o : Option (Int × Nat)) : foundV o = .tuple #[.agg #[.int .i64 (foundP o).1.1, .int .i64 ((foundP o).1.2 : Int)], .bool (foundP o).2] := by cases o <;> rfl
/-- What the tries answer. -/
def tryP (rows : List ND) (s : SQ) : Nat → (Int × Nat) × Bool
  | 0 => foundP (leastP rows s isBot)
  | 1 => ((2, s.goal), s.left.testBit s.goal)
  | 2 => foundP (leastP rows s isSure)
  | 3 => ((8, s.goal), (rowAt rows s.goal).kind == 5)
  | 4 => ((9, s.goal), (rowAt rows s.goal).kind == 3)
  | 5 => foundP (leastP rows s isOr)
  | _ => ((14, 0), true)
theorem foundP_no {o : Option (Int × Nat)} (h : (foundP o).2 = false) : o = none := by
  cases o with
  | none => rfl
  | some x => cases h
theorem foundP_yes {o : Option (Int × Nat)} (h : (foundP o).2 = true) : o = some (foundP o).1 := by
  cases o with
  | none => cases h
  | some x => rfl
theorem applyP_at (rows : List ND) (s : SQ) {j : Nat} (hj : j ≤ 6) (hn : ∀ i, i < j → (tryP rows s i).2 = false) (hy : (tryP rows s j).2 = true) : applyP rows s = (tryP rows s j).1 := by
  have e : applyP rows s = match leastP rows s isBot with
    | some x => x
    | none =>
      if s.left.testBit s.goal then (2, s.goal) else
      match leastP rows s isSure with
      | some x => x
      | none =>
        if (rowAt rows s.goal).kind = 5 then (8, s.goal) else
        if (rowAt rows s.goal).kind = 3 then (9, s.goal) else
        match leastP rows s isOr with
        | some x => x
        | none => (14, 0) := rfl
  rw [e]
  by_cases h0 : j = 0
  · subst h0
    rw [foundP_yes hy]; rfl
  rw [foundP_no (hn 0 (by omega))]
  by_cases h1 : j = 1
  · subst h1
    have hy1 : s.left.testBit s.goal = true := hy
    simp only
    rw [if_pos hy1]; rfl
  have n1 : s.left.testBit s.goal = false := hn 1 (by omega)
  simp only
  rw [if_neg (by rw [n1]; simp)]
  by_cases h2 : j = 2
  · subst h2
    rw [foundP_yes hy]; rfl
  rw [foundP_no (hn 2 (by omega))]
  by_cases h3 : j = 3
  · subst h3
    have : (rowAt rows s.goal).kind = 5 := by simpa [tryP] using hy
    simp only
    rw [if_pos this]; rfl
  have n3 : ¬ (rowAt rows s.goal).kind = 5 := by simpa [tryP] using hn 3 (by omega)
  simp only
  rw [if_neg n3]
  by_cases h4 : j = 4
  · subst h4
    have : (rowAt rows s.goal).kind = 3 := by simpa [tryP] using hy
    rw [if_pos this]; rfl
  have n4 : ¬ (rowAt rows s.goal).kind = 3 := by simpa [tryP] using hn 4 (by omega)
  rw [if_neg n4]
  by_cases h5 : j = 5
  · subst h5
    rw [foundP_yes hy]; rfl
  rw [foundP_no (hn 5 (by omega))]
  obtain rfl : j = 6 := by omega
  rfl
def triesL (w : World) : List Value := [.func (.func 58) #[] #[.pointer (some ⟨w.heap.size, 0, none⟩), .pointer (some ⟨w.heap.size + 1, 0, none⟩)], .func (.func 61) #[] #[.pointer (some ⟨w.heap.size + 1, 0, none⟩)], .func (.func 63) #[] #[.pointer (some ⟨w.heap.size, 0, none⟩), .pointer (some ⟨w.heap.size + 1, 0, none⟩)], .func (.func 65) #[] #[.pointer (some ⟨w.heap.size + 1, 0, none⟩), .pointer (some ⟨w.heap.size, 0, none⟩)], .func (.func 67) #[] #[.pointer (some ⟨w.heap.size + 1, 0, none⟩), .pointer (some ⟨w.heap.size, 0, none⟩)], .func (.func 68) #[] #[.pointer (some ⟨w.heap.size, 0, none⟩), .pointer (some ⟨w.heap.size + 1, 0, none⟩)]]
structure ApplyF (w W4 : World) (k : Nat) (ow : Own) (pb : Nat) (rows : List ND) (s : SQ) : Prop where
  bel : Below w.heap.size w W4
  tr : TryW k ow W4 pb w.heap.size (w.heap.size + 1) rows s
  fo : BoxB W4 (w.heap.size + 1 + 1) [.int .i64 0, .int .i64 0] 118
  fs : BoxB W4 (w.heap.size + 1 + 1 + 1) (triesL w) 131
  sz : W4.heap.size = w.heap.size + 4
theorem apply_frame (w : World) (k : Nat) (ow : Own) (pb : Nat) (rows : List ND) (s : SQ) (h : Tab k ow w (.pointer (some ⟨pb, 0, none⟩)) rows) (hT : TabG w) (hs : Wf rows s) :
    ApplyF w ((((w.alloc (.cells #[.pointer (some ⟨pb, 0, none⟩)] 24)).alloc (.cells (seqL s.left s.goal).toArray 81)).alloc (.cells #[.int .i64 0, .int .i64 0] 118)).alloc (.cells (triesL w).toArray 131)) k ow pb rows s := by
  have hb : Below w.heap.size w ((((w.alloc (.cells #[.pointer (some ⟨pb, 0, none⟩)] 24)).alloc (.cells (seqL s.left s.goal).toArray 81)).alloc (.cells #[.int .i64 0, .int .i64 0] 118)).alloc (.cells (triesL w).toArray 131)) :=
    below_trans (below_trans (below_trans (below_alloc _ _) (below_alloc _ _)) (below_alloc _ _)) (below_alloc _ _)
  refine ⟨hb, ⟨h.below hb, hT.below hb, hs, ?_, ?_⟩, ?_, ?_, by simp⟩
  · have h1 := (((BoxB.new w [.pointer (some ⟨pb, 0, none⟩)] 24).below (below_alloc _ (.cells (seqL s.left s.goal).toArray 81))).below (below_alloc _ (.cells #[.int .i64 0, .int .i64 0] 118))).below (below_alloc _ (.cells (triesL w).toArray 131))
    exact h1.cell (i := 0) rfl
  · have h1 := ((BoxB.new (w.alloc (.cells #[.pointer (some ⟨pb, 0, none⟩)] 24)) (seqL s.left s.goal) 81).below (below_alloc _ (.cells #[.int .i64 0, .int .i64 0] 118))).below (below_alloc _ (.cells (triesL w).toArray 131))
    simpa using h1
  · have h1 := (BoxB.new ((w.alloc (.cells #[.pointer (some ⟨pb, 0, none⟩)] 24)).alloc (.cells (seqL s.left s.goal).toArray 81)) [.int .i64 0, .int .i64 0] 118).below (below_alloc _ (.cells (triesL w).toArray 131))
    simpa using h1
  · have h1 := BoxB.new (((w.alloc (.cells #[.pointer (some ⟨pb, 0, none⟩)] 24)).alloc (.cells (seqL s.left s.goal).toArray 81)).alloc (.cells #[.int .i64 0, .int .i64 0] 118)) (triesL w) 131
    simpa using h1
set_option maxRecDepth 100000 in
set_option maxHeartbeats 4000000 in
theorem apply_any (k : Nat) (ow : Own) (w : World) (t : Value) (rows : List ND) (h : Tab k ow w t rows) (hT : TabG w) (s : SQ) (hs : Wf rows s) :
    Calls Tryd.prog 52 #[t, .agg (seqL s.left s.goal).toArray] w fun e w' => e = .returned (.agg #[.int .i64 (applyP rows s).1, .int .i64 ((applyP rows s).2 : Int)]) ∧ Below w.heap.size w w' := by
  obtain ⟨pb, rfl⟩ : ∃ pb, t = .pointer (some ⟨pb, 0, none⟩) := by obtain ⟨pb, _, _, e, _⟩ := h; exact ⟨pb, e⟩
  have HF := Lib.hid (apply_frame w k ow pb rows s h hT hs)
  clear h hT hs
  go_enter Tryd.func52, Tryd.ntmps52
  go_wp2_with fail
  have e0 : (.cells #[.func (.func 58) #[] #[.pointer (some ⟨w.heap.size, 0, none⟩), .pointer (some ⟨w.heap.size + 1, 0, none⟩)], .func (.func 61) #[] #[.pointer (some ⟨w.heap.size + 1, 0, none⟩)], .func (.func 63) #[] #[.pointer (some ⟨w.heap.size, 0, none⟩), .pointer (some ⟨w.heap.size + 1, 0, none⟩)], .func (.func 65) #[] #[.pointer (some ⟨w.heap.size + 1, 0, none⟩), .pointer (some ⟨w.heap.size, 0, none⟩)], .func (.func 67) #[] #[.pointer (some ⟨w.heap.size + 1, 0, none⟩), .pointer (some ⟨w.heap.size, 0, none⟩)], .func (.func 68) #[] #[.pointer (some ⟨w.heap.size, 0, none⟩), .pointer (some ⟨w.heap.size + 1, 0, none⟩)]] 131 : Obj) = .cells (triesL w).toArray 131 := rfl
  rw [e0] at *
  clear e0
  generalize ((((w.alloc (.cells #[.pointer (some ⟨pb, 0, none⟩)] 24)).alloc (.cells (seqL s.left s.goal).toArray 81)).alloc (.cells #[.int .i64 0, .int .i64 0] 118)).alloc (.cells (triesL w).toArray 131)) = W4 at *
  go_loopw [19] (fun i W => ∃ j : Nat, j ≤ 6 ∧ i = .int .i64 (j : Int) ∧ (∀ i, i < j → (tryP rows s i).2 = false) ∧ Below W4.heap.size W4 W) (fun i _ => 6 - (intOf i).toNat)
  case atStart => exact ⟨0, by omega, rfl, fun i hi => by omega, Below.refl _ _⟩
  case round =>
    obtain ⟨j, hj, rfl, hno, hI⟩ := hrel
    have HN := Lib.hid hno
    have HI := Lib.hid hI
    clear hno hI
    obtain h0 | h0 | h0 | h0 | h0 | h0 | h0 : j = 0 ∨ j = 1 ∨ j = 2 ∨ j = 3 ∨ j = 4 ∨ j = 5 ∨ j = 6 := by omega
    · subst h0
      have hc := (HF.out.fs.below HI.out).cell (i := 0) (v := .func (.func 58) #[] #[.pointer (some ⟨w.heap.size, 0, none⟩), .pointer (some ⟨w.heap.size + 1, 0, none⟩)]) rfl
      obtain ⟨a, b, c, hv⟩ : ∃ a b c, tryP rows s 0 = ((a, b), c) := ⟨_, _, _, rfl⟩
      have HV := Lib.hid hv
      have HT1 := try1_any k ow _ pb _ _ rows s (HF.out.tr.below HI.out)
      have hv' : foundP (leastP rows s isBot) = ((a, b), c) := hv
      rw [foundV_P, hv'] at HT1
      simp only at HT1
      clear hv'
      have HJ := Lib.hid HT1
      clear HT1 hv
      cases c with
      | false =>
        as_aux_lemma =>
        go_wp2_with (first
          | (go_at_call 58; refine HJ.out.mono ?_; rintro e W1 ⟨rfl, hb1⟩; have HB1 := Lib.hid (HI.out.trans (hb1.mono HI.out.size)); clear hb1 HJ)
          | (refine wp_storeRow rFound (.tmp 8) (.tmp 26) rfl rfl rfl (ys := [.int .i64 a, .int .i64 (b : Int)]) rfl (BoxB.new W1 [.int .i64 0, .int .i64 0] 118) rfl rfl (by simp [Value.oneCell']) ?_; intro W2 hb2 ho2; have HK2 := Lib.hid hb2; have HB2 := Lib.hid (HB1.out.trans (((below_alloc W1 _).trans (ho2.below (Nat.le_refl _))).mono HB1.out.size)); clear hb2 ho2)
          | (refine wp_loadRow rFound (.tmp 8) rfl rfl rfl HK2.out rfl ?_)
          | (refine wp_storeRow rFound (.tmp 4) (.tmp 29) rfl rfl rfl (ys := [.int .i64 a, .int .i64 (b : Int)]) rfl (HF.out.fo.below HB2.out) rfl rfl (by simp [Value.oneCell']) ?_; intro W7 hb7 ho7; have K7 := Lib.hid hb7; have K8 := Lib.hid ((HF.out.bel.trans (HB2.out.mono HF.out.bel.size)).trans (ho7.below (by omega))); clear hb7 ho7))
        refine ⟨⟨1, by omega, rfl, fun i hi => ?_, HB2.out⟩, by simp [intOf]⟩
        by_cases hi2 : i = 0
        · rw [hi2, HV.out]
        · exact HN.out i (by omega)
      | true =>
        as_aux_lemma =>
        go_wp2_with (first
          | (go_at_call 58; refine HJ.out.mono ?_; rintro e W1 ⟨rfl, hb1⟩; have HB1 := Lib.hid (HI.out.trans (hb1.mono HI.out.size)); clear hb1 HJ)
          | (refine wp_storeRow rFound (.tmp 8) (.tmp 26) rfl rfl rfl (ys := [.int .i64 a, .int .i64 (b : Int)]) rfl (BoxB.new W1 [.int .i64 0, .int .i64 0] 118) rfl rfl (by simp [Value.oneCell']) ?_; intro W2 hb2 ho2; have HK2 := Lib.hid hb2; have HB2 := Lib.hid (HB1.out.trans (((below_alloc W1 _).trans (ho2.below (Nat.le_refl _))).mono HB1.out.size)); clear hb2 ho2)
          | (refine wp_loadRow rFound (.tmp 8) rfl rfl rfl HK2.out rfl ?_)
          | (refine wp_storeRow rFound (.tmp 4) (.tmp 29) rfl rfl rfl (ys := [.int .i64 a, .int .i64 (b : Int)]) rfl (HF.out.fo.below HB2.out) rfl rfl (by simp [Value.oneCell']) ?_; intro W7 hb7 ho7; have K7 := Lib.hid hb7; have K8 := Lib.hid ((HF.out.bel.trans (HB2.out.mono HF.out.bel.size)).trans (ho7.below (by omega))); clear hb7 ho7))
        exact bodyPost_ret (results_row rFound rfl rfl K7.out rfl) rfl ⟨by rw [applyP_at rows s (j := 0) (by omega) HN.out (by rw [HV.out]), HV.out], K8.out⟩
    · subst h0
      have hc := (HF.out.fs.below HI.out).cell (i := 1) (v := .func (.func 61) #[] #[.pointer (some ⟨w.heap.size + 1, 0, none⟩)]) rfl
      obtain ⟨a, b, c, hv⟩ : ∃ a b c, tryP rows s 1 = ((a, b), c) := ⟨_, _, _, rfl⟩
      have HV := Lib.hid hv
      have HT1 := try2_any k ow _ pb _ _ rows s (HF.out.tr.below HI.out)
      have hv1 : (((2, s.goal), s.left.testBit s.goal) : (Int × Nat) × Bool) = ((a, b), c) := hv
      obtain ⟨ha, hc2⟩ := Prod.mk.inj hv1
      obtain ⟨ha1, ha2⟩ := Prod.mk.inj ha
      rw [hc2, ha1, ha2] at HT1
      clear hv1 ha ha1 ha2 hc2
      have HJ := Lib.hid HT1
      clear HT1 hv
      cases c with
      | false =>
        as_aux_lemma =>
        go_wp2_with (first
          | (go_at_call 61; refine HJ.out.mono ?_; rintro e W1 ⟨rfl, hb1⟩; have HB1 := Lib.hid (HI.out.trans (hb1.mono HI.out.size)); clear hb1 HJ)
          | (refine wp_storeRow rFound (.tmp 8) (.tmp 26) rfl rfl rfl (ys := [.int .i64 a, .int .i64 (b : Int)]) rfl (BoxB.new W1 [.int .i64 0, .int .i64 0] 118) rfl rfl (by simp [Value.oneCell']) ?_; intro W2 hb2 ho2; have HK2 := Lib.hid hb2; have HB2 := Lib.hid (HB1.out.trans (((below_alloc W1 _).trans (ho2.below (Nat.le_refl _))).mono HB1.out.size)); clear hb2 ho2)
          | (refine wp_loadRow rFound (.tmp 8) rfl rfl rfl HK2.out rfl ?_)
          | (refine wp_storeRow rFound (.tmp 4) (.tmp 29) rfl rfl rfl (ys := [.int .i64 a, .int .i64 (b : Int)]) rfl (HF.out.fo.below HB2.out) rfl rfl (by simp [Value.oneCell']) ?_; intro W7 hb7 ho7; have K7 := Lib.hid hb7; have K8 := Lib.hid ((HF.out.bel.trans (HB2.out.mono HF.out.bel.size)).trans (ho7.below (by omega))); clear hb7 ho7))
        refine ⟨⟨2, by omega, rfl, fun i hi => ?_, HB2.out⟩, by simp [intOf]⟩
        by_cases hi2 : i = 1
        · rw [hi2, HV.out]
        · exact HN.out i (by omega)
      | true =>
        as_aux_lemma =>
        go_wp2_with (first
          | (go_at_call 61; refine HJ.out.mono ?_; rintro e W1 ⟨rfl, hb1⟩; have HB1 := Lib.hid (HI.out.trans (hb1.mono HI.out.size)); clear hb1 HJ)
          | (refine wp_storeRow rFound (.tmp 8) (.tmp 26) rfl rfl rfl (ys := [.int .i64 a, .int .i64 (b : Int)]) rfl (BoxB.new W1 [.int .i64 0, .int .i64 0] 118) rfl rfl (by simp [Value.oneCell']) ?_; intro W2 hb2 ho2; have HK2 := Lib.hid hb2; have HB2 := Lib.hid (HB1.out.trans (((below_alloc W1 _).trans (ho2.below (Nat.le_refl _))).mono HB1.out.size)); clear hb2 ho2)
          | (refine wp_loadRow rFound (.tmp 8) rfl rfl rfl HK2.out rfl ?_)
          | (refine wp_storeRow rFound (.tmp 4) (.tmp 29) rfl rfl rfl (ys := [.int .i64 a, .int .i64 (b : Int)]) rfl (HF.out.fo.below HB2.out) rfl rfl (by simp [Value.oneCell']) ?_; intro W7 hb7 ho7; have K7 := Lib.hid hb7; have K8 := Lib.hid ((HF.out.bel.trans (HB2.out.mono HF.out.bel.size)).trans (ho7.below (by omega))); clear hb7 ho7))
        exact bodyPost_ret (results_row rFound rfl rfl K7.out rfl) rfl ⟨by rw [applyP_at rows s (j := 1) (by omega) HN.out (by rw [HV.out]), HV.out], K8.out⟩
    · subst h0
      have hc := (HF.out.fs.below HI.out).cell (i := 2) (v := .func (.func 63) #[] #[.pointer (some ⟨w.heap.size, 0, none⟩), .pointer (some ⟨w.heap.size + 1, 0, none⟩)]) rfl
      obtain ⟨a, b, c, hv⟩ : ∃ a b c, tryP rows s 2 = ((a, b), c) := ⟨_, _, _, rfl⟩
      have HV := Lib.hid hv
      have HT1 := try3_any k ow _ pb _ _ rows s (HF.out.tr.below HI.out)
      have hv' : foundP (leastP rows s isSure) = ((a, b), c) := hv
      rw [foundV_P, hv'] at HT1
      simp only at HT1
      clear hv'
      have HJ := Lib.hid HT1
      clear HT1 hv
      cases c with
      | false =>
        as_aux_lemma =>
        go_wp2_with (first
          | (go_at_call 63; refine HJ.out.mono ?_; rintro e W1 ⟨rfl, hb1⟩; have HB1 := Lib.hid (HI.out.trans (hb1.mono HI.out.size)); clear hb1 HJ)
          | (refine wp_storeRow rFound (.tmp 8) (.tmp 26) rfl rfl rfl (ys := [.int .i64 a, .int .i64 (b : Int)]) rfl (BoxB.new W1 [.int .i64 0, .int .i64 0] 118) rfl rfl (by simp [Value.oneCell']) ?_; intro W2 hb2 ho2; have HK2 := Lib.hid hb2; have HB2 := Lib.hid (HB1.out.trans (((below_alloc W1 _).trans (ho2.below (Nat.le_refl _))).mono HB1.out.size)); clear hb2 ho2)
          | (refine wp_loadRow rFound (.tmp 8) rfl rfl rfl HK2.out rfl ?_)
          | (refine wp_storeRow rFound (.tmp 4) (.tmp 29) rfl rfl rfl (ys := [.int .i64 a, .int .i64 (b : Int)]) rfl (HF.out.fo.below HB2.out) rfl rfl (by simp [Value.oneCell']) ?_; intro W7 hb7 ho7; have K7 := Lib.hid hb7; have K8 := Lib.hid ((HF.out.bel.trans (HB2.out.mono HF.out.bel.size)).trans (ho7.below (by omega))); clear hb7 ho7))
        refine ⟨⟨3, by omega, rfl, fun i hi => ?_, HB2.out⟩, by simp [intOf]⟩
        by_cases hi2 : i = 2
        · rw [hi2, HV.out]
        · exact HN.out i (by omega)
      | true =>
        as_aux_lemma =>
        go_wp2_with (first
          | (go_at_call 63; refine HJ.out.mono ?_; rintro e W1 ⟨rfl, hb1⟩; have HB1 := Lib.hid (HI.out.trans (hb1.mono HI.out.size)); clear hb1 HJ)
          | (refine wp_storeRow rFound (.tmp 8) (.tmp 26) rfl rfl rfl (ys := [.int .i64 a, .int .i64 (b : Int)]) rfl (BoxB.new W1 [.int .i64 0, .int .i64 0] 118) rfl rfl (by simp [Value.oneCell']) ?_; intro W2 hb2 ho2; have HK2 := Lib.hid hb2; have HB2 := Lib.hid (HB1.out.trans (((below_alloc W1 _).trans (ho2.below (Nat.le_refl _))).mono HB1.out.size)); clear hb2 ho2)
          | (refine wp_loadRow rFound (.tmp 8) rfl rfl rfl HK2.out rfl ?_)
          | (refine wp_storeRow rFound (.tmp 4) (.tmp 29) rfl rfl rfl (ys := [.int .i64 a, .int .i64 (b : Int)]) rfl (HF.out.fo.below HB2.out) rfl rfl (by simp [Value.oneCell']) ?_; intro W7 hb7 ho7; have K7 := Lib.hid hb7; have K8 := Lib.hid ((HF.out.bel.trans (HB2.out.mono HF.out.bel.size)).trans (ho7.below (by omega))); clear hb7 ho7))
        exact bodyPost_ret (results_row rFound rfl rfl K7.out rfl) rfl ⟨by rw [applyP_at rows s (j := 2) (by omega) HN.out (by rw [HV.out]), HV.out], K8.out⟩
    · subst h0
      have hc := (HF.out.fs.below HI.out).cell (i := 3) (v := .func (.func 65) #[] #[.pointer (some ⟨w.heap.size + 1, 0, none⟩), .pointer (some ⟨w.heap.size, 0, none⟩)]) rfl
      obtain ⟨a, b, c, hv⟩ : ∃ a b c, tryP rows s 3 = ((a, b), c) := ⟨_, _, _, rfl⟩
      have HV := Lib.hid hv
      have HT1 := try4_any k ow _ pb _ _ rows s (HF.out.tr.below HI.out)
      have hv1 : (((8, s.goal), (rowAt rows s.goal).kind == 5) : (Int × Nat) × Bool) = ((a, b), c) := hv
      obtain ⟨ha, hc2⟩ := Prod.mk.inj hv1
      obtain ⟨ha1, ha2⟩ := Prod.mk.inj ha
      rw [hc2, ha1, ha2] at HT1
      clear hv1 ha ha1 ha2 hc2
      have HJ := Lib.hid HT1
      clear HT1 hv
      cases c with
      | false =>
        as_aux_lemma =>
        go_wp2_with (first
          | (go_at_call 65; refine HJ.out.mono ?_; rintro e W1 ⟨rfl, hb1⟩; have HB1 := Lib.hid (HI.out.trans (hb1.mono HI.out.size)); clear hb1 HJ)
          | (refine wp_storeRow rFound (.tmp 8) (.tmp 26) rfl rfl rfl (ys := [.int .i64 a, .int .i64 (b : Int)]) rfl (BoxB.new W1 [.int .i64 0, .int .i64 0] 118) rfl rfl (by simp [Value.oneCell']) ?_; intro W2 hb2 ho2; have HK2 := Lib.hid hb2; have HB2 := Lib.hid (HB1.out.trans (((below_alloc W1 _).trans (ho2.below (Nat.le_refl _))).mono HB1.out.size)); clear hb2 ho2)
          | (refine wp_loadRow rFound (.tmp 8) rfl rfl rfl HK2.out rfl ?_)
          | (refine wp_storeRow rFound (.tmp 4) (.tmp 29) rfl rfl rfl (ys := [.int .i64 a, .int .i64 (b : Int)]) rfl (HF.out.fo.below HB2.out) rfl rfl (by simp [Value.oneCell']) ?_; intro W7 hb7 ho7; have K7 := Lib.hid hb7; have K8 := Lib.hid ((HF.out.bel.trans (HB2.out.mono HF.out.bel.size)).trans (ho7.below (by omega))); clear hb7 ho7))
        refine ⟨⟨4, by omega, rfl, fun i hi => ?_, HB2.out⟩, by simp [intOf]⟩
        by_cases hi2 : i = 3
        · rw [hi2, HV.out]
        · exact HN.out i (by omega)
      | true =>
        as_aux_lemma =>
        go_wp2_with (first
          | (go_at_call 65; refine HJ.out.mono ?_; rintro e W1 ⟨rfl, hb1⟩; have HB1 := Lib.hid (HI.out.trans (hb1.mono HI.out.size)); clear hb1 HJ)
          | (refine wp_storeRow rFound (.tmp 8) (.tmp 26) rfl rfl rfl (ys := [.int .i64 a, .int .i64 (b : Int)]) rfl (BoxB.new W1 [.int .i64 0, .int .i64 0] 118) rfl rfl (by simp [Value.oneCell']) ?_; intro W2 hb2 ho2; have HK2 := Lib.hid hb2; have HB2 := Lib.hid (HB1.out.trans (((below_alloc W1 _).trans (ho2.below (Nat.le_refl _))).mono HB1.out.size)); clear hb2 ho2)
          | (refine wp_loadRow rFound (.tmp 8) rfl rfl rfl HK2.out rfl ?_)
          | (refine wp_storeRow rFound (.tmp 4) (.tmp 29) rfl rfl rfl (ys := [.int .i64 a, .int .i64 (b : Int)]) rfl (HF.out.fo.below HB2.out) rfl rfl (by simp [Value.oneCell']) ?_; intro W7 hb7 ho7; have K7 := Lib.hid hb7; have K8 := Lib.hid ((HF.out.bel.trans (HB2.out.mono HF.out.bel.size)).trans (ho7.below (by omega))); clear hb7 ho7))
        exact bodyPost_ret (results_row rFound rfl rfl K7.out rfl) rfl ⟨by rw [applyP_at rows s (j := 3) (by omega) HN.out (by rw [HV.out]), HV.out], K8.out⟩
    · subst h0
      have hc := (HF.out.fs.below HI.out).cell (i := 4) (v := .func (.func 67) #[] #[.pointer (some ⟨w.heap.size + 1, 0, none⟩), .pointer (some ⟨w.heap.size, 0, none⟩)]) rfl
      obtain ⟨a, b, c, hv⟩ : ∃ a b c, tryP rows s 4 = ((a, b), c) := ⟨_, _, _, rfl⟩
      have HV := Lib.hid hv
      have HT1 := try5_any k ow _ pb _ _ rows s (HF.out.tr.below HI.out)
      have hv1 : (((9, s.goal), (rowAt rows s.goal).kind == 3) : (Int × Nat) × Bool) = ((a, b), c) := hv
      obtain ⟨ha, hc2⟩ := Prod.mk.inj hv1
      obtain ⟨ha1, ha2⟩ := Prod.mk.inj ha
      rw [hc2, ha1, ha2] at HT1
      clear hv1 ha ha1 ha2 hc2
      have HJ := Lib.hid HT1
      clear HT1 hv
      cases c with
      | false =>
        as_aux_lemma =>
        go_wp2_with (first
          | (go_at_call 67; refine HJ.out.mono ?_; rintro e W1 ⟨rfl, hb1⟩; have HB1 := Lib.hid (HI.out.trans (hb1.mono HI.out.size)); clear hb1 HJ)
          | (refine wp_storeRow rFound (.tmp 8) (.tmp 26) rfl rfl rfl (ys := [.int .i64 a, .int .i64 (b : Int)]) rfl (BoxB.new W1 [.int .i64 0, .int .i64 0] 118) rfl rfl (by simp [Value.oneCell']) ?_; intro W2 hb2 ho2; have HK2 := Lib.hid hb2; have HB2 := Lib.hid (HB1.out.trans (((below_alloc W1 _).trans (ho2.below (Nat.le_refl _))).mono HB1.out.size)); clear hb2 ho2)
          | (refine wp_loadRow rFound (.tmp 8) rfl rfl rfl HK2.out rfl ?_)
          | (refine wp_storeRow rFound (.tmp 4) (.tmp 29) rfl rfl rfl (ys := [.int .i64 a, .int .i64 (b : Int)]) rfl (HF.out.fo.below HB2.out) rfl rfl (by simp [Value.oneCell']) ?_; intro W7 hb7 ho7; have K7 := Lib.hid hb7; have K8 := Lib.hid ((HF.out.bel.trans (HB2.out.mono HF.out.bel.size)).trans (ho7.below (by omega))); clear hb7 ho7))
        refine ⟨⟨5, by omega, rfl, fun i hi => ?_, HB2.out⟩, by simp [intOf]⟩
        by_cases hi2 : i = 4
        · rw [hi2, HV.out]
        · exact HN.out i (by omega)
      | true =>
        as_aux_lemma =>
        go_wp2_with (first
          | (go_at_call 67; refine HJ.out.mono ?_; rintro e W1 ⟨rfl, hb1⟩; have HB1 := Lib.hid (HI.out.trans (hb1.mono HI.out.size)); clear hb1 HJ)
          | (refine wp_storeRow rFound (.tmp 8) (.tmp 26) rfl rfl rfl (ys := [.int .i64 a, .int .i64 (b : Int)]) rfl (BoxB.new W1 [.int .i64 0, .int .i64 0] 118) rfl rfl (by simp [Value.oneCell']) ?_; intro W2 hb2 ho2; have HK2 := Lib.hid hb2; have HB2 := Lib.hid (HB1.out.trans (((below_alloc W1 _).trans (ho2.below (Nat.le_refl _))).mono HB1.out.size)); clear hb2 ho2)
          | (refine wp_loadRow rFound (.tmp 8) rfl rfl rfl HK2.out rfl ?_)
          | (refine wp_storeRow rFound (.tmp 4) (.tmp 29) rfl rfl rfl (ys := [.int .i64 a, .int .i64 (b : Int)]) rfl (HF.out.fo.below HB2.out) rfl rfl (by simp [Value.oneCell']) ?_; intro W7 hb7 ho7; have K7 := Lib.hid hb7; have K8 := Lib.hid ((HF.out.bel.trans (HB2.out.mono HF.out.bel.size)).trans (ho7.below (by omega))); clear hb7 ho7))
        exact bodyPost_ret (results_row rFound rfl rfl K7.out rfl) rfl ⟨by rw [applyP_at rows s (j := 4) (by omega) HN.out (by rw [HV.out]), HV.out], K8.out⟩
    · subst h0
      have hc := (HF.out.fs.below HI.out).cell (i := 5) (v := .func (.func 68) #[] #[.pointer (some ⟨w.heap.size, 0, none⟩), .pointer (some ⟨w.heap.size + 1, 0, none⟩)]) rfl
      obtain ⟨a, b, c, hv⟩ : ∃ a b c, tryP rows s 5 = ((a, b), c) := ⟨_, _, _, rfl⟩
      have HV := Lib.hid hv
      have HT1 := try6_any k ow _ pb _ _ rows s (HF.out.tr.below HI.out)
      have hv' : foundP (leastP rows s isOr) = ((a, b), c) := hv
      rw [foundV_P, hv'] at HT1
      simp only at HT1
      clear hv'
      have HJ := Lib.hid HT1
      clear HT1 hv
      cases c with
      | false =>
        as_aux_lemma =>
        go_wp2_with (first
          | (go_at_call 68; refine HJ.out.mono ?_; rintro e W1 ⟨rfl, hb1⟩; have HB1 := Lib.hid (HI.out.trans (hb1.mono HI.out.size)); clear hb1 HJ)
          | (refine wp_storeRow rFound (.tmp 8) (.tmp 26) rfl rfl rfl (ys := [.int .i64 a, .int .i64 (b : Int)]) rfl (BoxB.new W1 [.int .i64 0, .int .i64 0] 118) rfl rfl (by simp [Value.oneCell']) ?_; intro W2 hb2 ho2; have HK2 := Lib.hid hb2; have HB2 := Lib.hid (HB1.out.trans (((below_alloc W1 _).trans (ho2.below (Nat.le_refl _))).mono HB1.out.size)); clear hb2 ho2)
          | (refine wp_loadRow rFound (.tmp 8) rfl rfl rfl HK2.out rfl ?_)
          | (refine wp_storeRow rFound (.tmp 4) (.tmp 29) rfl rfl rfl (ys := [.int .i64 a, .int .i64 (b : Int)]) rfl (HF.out.fo.below HB2.out) rfl rfl (by simp [Value.oneCell']) ?_; intro W7 hb7 ho7; have K7 := Lib.hid hb7; have K8 := Lib.hid ((HF.out.bel.trans (HB2.out.mono HF.out.bel.size)).trans (ho7.below (by omega))); clear hb7 ho7))
        refine ⟨⟨6, by omega, rfl, fun i hi => ?_, HB2.out⟩, by simp [intOf]⟩
        by_cases hi2 : i = 5
        · rw [hi2, HV.out]
        · exact HN.out i (by omega)
      | true =>
        as_aux_lemma =>
        go_wp2_with (first
          | (go_at_call 68; refine HJ.out.mono ?_; rintro e W1 ⟨rfl, hb1⟩; have HB1 := Lib.hid (HI.out.trans (hb1.mono HI.out.size)); clear hb1 HJ)
          | (refine wp_storeRow rFound (.tmp 8) (.tmp 26) rfl rfl rfl (ys := [.int .i64 a, .int .i64 (b : Int)]) rfl (BoxB.new W1 [.int .i64 0, .int .i64 0] 118) rfl rfl (by simp [Value.oneCell']) ?_; intro W2 hb2 ho2; have HK2 := Lib.hid hb2; have HB2 := Lib.hid (HB1.out.trans (((below_alloc W1 _).trans (ho2.below (Nat.le_refl _))).mono HB1.out.size)); clear hb2 ho2)
          | (refine wp_loadRow rFound (.tmp 8) rfl rfl rfl HK2.out rfl ?_)
          | (refine wp_storeRow rFound (.tmp 4) (.tmp 29) rfl rfl rfl (ys := [.int .i64 a, .int .i64 (b : Int)]) rfl (HF.out.fo.below HB2.out) rfl rfl (by simp [Value.oneCell']) ?_; intro W7 hb7 ho7; have K7 := Lib.hid hb7; have K8 := Lib.hid ((HF.out.bel.trans (HB2.out.mono HF.out.bel.size)).trans (ho7.below (by omega))); clear hb7 ho7))
        exact bodyPost_ret (results_row rFound rfl rfl K7.out rfl) rfl ⟨by rw [applyP_at rows s (j := 5) (by omega) HN.out (by rw [HV.out]), HV.out], K8.out⟩
    · subst h0
      as_aux_lemma =>
      go_wp2_with (refine wp_storeRow rFound (.tmp 4) (.tmp 31) rfl rfl rfl (ys := [.int .i64 14, .int .i64 0]) rfl (HF.out.fo.below HI.out) rfl rfl (by simp [Value.oneCell']) ?_; intro W7 hb7 ho7; have K7 := Lib.hid hb7; have K8 := Lib.hid ((HF.out.bel.trans (HI.out.mono HF.out.bel.size)).trans (ho7.below (by omega))); clear hb7 ho7)
      exact bodyPost_ret (results_row rFound rfl rfl K7.out rfl) rfl ⟨by rw [applyP_at rows s (j := 6) (by omega) HN.out rfl]; rfl, K8.out⟩
end Go.Dk
end

section
namespace Go.Dk
open Go.RowKit Go.Maps Go.MapKept
open Go.Proofs hiding intOf
set_option maxRecDepth 100000 in
set_option maxHeartbeats 1000000 in
theorem rApply_ok (k : Nat) (ow : Own) (w : World) (t : Value) (rows : List ND) (h : Tab k ow w t rows) (hT : TabG w) (s : SQ) (hs : Wf rows s) :
    Calls Tryd.prog 44 #[t, .agg (seqL s.left s.goal).toArray] w fun e w' => e = .returned (.tuple #[.int .i64 (applyP rows s).1, .int .i64 ((applyP rows s).2 : Int), .int .i64 0]) ∧ Below w.heap.size w w' := by
  have HB0 := Lib.hid (below_alloc w (.cells (seqL s.left s.goal).toArray 81))
  have HQ := Lib.hid (BoxB.new w (seqL s.left s.goal) 81)
  have HL := Lib.hid (look_ok k ow _ t rows (h.below HB0.out) (hT.below HB0.out) s hs)
  have HA : Hid (∀ W, Below w.heap.size w W → Calls Tryd.prog 52 #[t, .agg (seqL s.left s.goal).toArray] W fun e w' => e = .returned (.agg #[.int .i64 (applyP rows s).1, .int .i64 ((applyP rows s).2 : Int)]) ∧ Below W.heap.size W w') := fun W hb => apply_any k ow W t rows (h.below hb) (hT.below hb) s hs
  clear h hT hs
  obtain ⟨x, hx⟩ : ∃ x, x = applyP rows s := ⟨_, rfl⟩
  rw [← hx] at HA ⊢
  clear hx
  obtain ⟨a, b⟩ := x
  simp only at HA ⊢
  go_enter Tryd.func44, Tryd.ntmps44
  go_wp2_with (first
    | (refine wp_loadSeq (.tmp 3) rfl rfl rfl HQ.out ?_)
    | (go_at_call 51; refine HL.out.mono ?_; rintro e W1 ⟨rfl, hb1⟩; have HB1 := Lib.hid (below_trans HB0.out hb1); have HQ1 := Lib.hid (HQ.out.below hb1); clear hb1 HL HQ)
    | (refine wp_loadSeq (.tmp 3) rfl rfl rfl HQ1.out ?_)
    | (go_at_call 52; refine (HA.out _ HB1.out).mono ?_; rintro e W2 ⟨rfl, hb2⟩; have HB2 := Lib.hid (below_trans HB1.out hb2); clear hb2)
    | (refine wp_storeRow rFound (.tmp 8) (.tmp 17) rfl rfl rfl (ys := [.int .i64 a, .int .i64 (b : Int)]) rfl (BoxB.new W2 [.int .i64 0, .int .i64 0] 118) rfl rfl (by simp [Value.oneCell']) ?_; intro W3 hb3 ho3; have c0 := hb3.cell (i := 0) rfl; have c1 := hb3.cell (i := 1) rfl; have HB3 := Lib.hid (HB2.out.trans (((below_alloc W2 _).trans (ho3.below (Nat.le_refl _))).mono HB2.out.size)); clear hb3 ho3))
  go_quiet (fail)
  go_wp2_with fail
  exact bodyPost_ret (v := .tuple #[.int .i64 a, .int .i64 (b : Int), .int .i64 0]) (by simp [results, Tryd.results44, go_sem]) rfl ⟨rfl, below_trans HB3.out (below_drewN W3 nq)⟩
/-- An implication that hangs on none ahead. -/
theorem pair_any (w : World) (a b : Int) : Calls Tryd.prog 74 #[.int .i64 a, .int .i64 b] w fun e w' => e = .returned (.func (.func 90) #[] #[.pointer (some ⟨w.heap.size, 0, none⟩), .pointer (some ⟨w.heap.size + 1, 0, none⟩)]) ∧ w' = (w.alloc (.cells #[.int .i64 a] 3)).alloc (.cells #[.int .i64 b] 3) := by
  go_enter Tryd.func74, Tryd.ntmps74
  go_wp2
  go_ret
  exact ⟨rfl, rfl⟩
theorem pair1_any (w : World) (v : Value) (a b : Int) (p q : Nat) (c1 : w.cell? ⟨p, 0, none⟩ = some (.int .i64 a)) (c2 : w.cell? ⟨q, 0, none⟩ = some (.int .i64 b)) :
    Calls Tryd.prog 90 #[v, .pointer (some ⟨p, 0, none⟩), .pointer (some ⟨q, 0, none⟩)] w fun e w' => e = .returned (.tuple #[.int .i64 a, .int .i64 b]) ∧ Below w.heap.size w w' := by
  go_enter Tryd.func90, Tryd.ntmps90
  go_wp2_with fail
  go_quiet (fail)
  go_wp2_with fail
  exact bodyPost_ret (v := .tuple #[.int .i64 a, .int .i64 b]) (by simp [results, Tryd.results90, go_sem]) rfl ⟨rfl, below_drewN w nq⟩
end Go.Dk
end
