/- Parts of the proof: Ko, Kp, Kq, Ks. -/
import Derived.Deep.RegionHeld3
import Derived.Test.YthhokkfcdbcllaaDoorN01
import Derived.Test.YthhokkfcdbcllaaDoorN02
import Derived.Test.YthhokkfcdbcllaaDoorN03
import Derived.Test.YthhokkfcdbcllaaDoorN04
import Derived.Test.YthhokkfcdbcllaaDoorN05
section
namespace Go.Dk
open Go.RowKit Go.Maps Go.MapKept Go.Shelf
open Go.Proofs hiding intOf
attribute [local go_sem] Oper.semAt_some
theorem upto_sorted (m k : Nat) : (upto m k).Pairwise (· < ·) := List.Pairwise.filter _ List.pairwise_lt_range
theorem mem_upto {m k j : Nat} : j ∈ upto m k ↔ j < k ∧ m.testBit j = true := by simp [upto]
theorem before_in {m x j : Nat} {l : List Nat} (h : l ++ [x] <+: upto m 1024) (hj : j < x) (hb : m.testBit j = true) : j ∈ l := by
  obtain ⟨r, hr⟩ := h
  have hx : x ∈ upto m 1024 := by rw [← hr]; simp
  have hju : j ∈ upto m 1024 := mem_upto.2 ⟨Nat.lt_trans hj (mem_upto.1 hx).1, hb⟩
  have hs := upto_sorted m 1024
  rw [← hr] at hju hs
  rw [List.mem_append, List.mem_append] at hju
  rcases hju with (h1 | h1) | h1
  · exact h1
  · rw [List.mem_singleton] at h1; omega
  · have := (List.pairwise_append.1 hs).2.2 x (by simp) j h1
    omega
theorem leastP_none {rows : List ND} {s : SQ} {p : Int → Bool} (hle : rows.length ≤ 1024) {ys : List Nat} (hy : ys = upto s.left 1024) (hn : ∀ y ∈ ys, p (onP rows s y) = false) : leastP rows s p = none := by
  unfold leastP
  rw [Option.map_eq_none_iff, List.find?_eq_none]
  intro x hx
  have hx := List.mem_range.1 hx
  by_cases hb : s.left.testBit x = true
  · have := hn x (by rw [hy]; exact mem_upto.2 ⟨by omega, hb⟩)
    simp [this]
  · simp [hb]
theorem leastP_some {rows : List ND} {s : SQ} {p : Int → Bool} {l : List Nat} {x : Nat} (hx : x < rows.length) (hb : s.left.testBit x = true) (h : l ++ [x] <+: upto s.left 1024) (hn : ∀ y ∈ l, p (onP rows s y) = false) (hp : p (onP rows s x) = true) :
    leastP rows s p = some (onP rows s x, x) := by
  unfold leastP
  rw [find_range hx (by simp [hb, hp]) (fun j hj => ?_)]
  · rfl
  · by_cases hbj : s.left.testBit j = true
    · simp [hn j (before_in h hj hbj)]
    · simp [hbj]
def foundV : Option (Int × Nat) → Value
  | some x => .tuple #[.agg #[.int .i64 x.1, .int .i64 (x.2 : Int)], .bool true]
  | none => .tuple #[.agg #[.int .i64 0, .int .i64 0], .bool false]
structure LeastF (w W5 : World) (pb m : Nat) (g : Int) (fv : Value) : Prop where
  bel : Below w.heap.size w W5
  tb : ∀ {W}, Below W5.heap.size W5 W → W.cell? ⟨w.heap.size, 0, none⟩ = some (.pointer (some ⟨pb, 0, none⟩))
  sq : ∀ {W}, Below W5.heap.size W5 W → BoxB W (w.heap.size + 1) (seqL m g) 81
  fn : ∀ {W}, Below W5.heap.size W5 W → W.cell? ⟨w.heap.size + 1 + 1, 0, none⟩ = some fv
  fo : ∀ {W}, Below W5.heap.size W5 W → BoxB W (w.heap.size + 1 + 1 + 1) [.int .i64 0, .int .i64 0] 118
  ok : ∀ {W}, Below W5.heap.size W5 W → BoxB W (w.heap.size + 1 + 1 + 1 + 1) [.bool false] 4
  bits : BoxB W5 (w.heap.size + 1 + 1 + 1 + 1 + 1) (bitsV m) 72
  sz : W5.heap.size = w.heap.size + 6
theorem least_frame (w : World) (pb m : Nat) (g : Int) (fv : Value) : LeastF w ((((((w.alloc (.cells #[.pointer (some ⟨pb, 0, none⟩)] 24)).alloc (.cells (seqL m g).toArray 81)).alloc (.cells #[fv] 130)).alloc (.cells #[.int .i64 0, .int .i64 0] 118)).alloc (.cells #[.bool false] 4)).alloc (.cells (bitsV m).toArray 72)) pb m g fv := by
  have b2 := below_trans (below_alloc w (.cells #[.pointer (some ⟨pb, 0, none⟩)] 24)) (below_alloc _ (.cells (seqL m g).toArray 81))
  refine ⟨below_trans (below_trans (below_trans (below_trans b2 (below_alloc _ _)) (below_alloc _ _)) (below_alloc _ _)) (below_alloc _ _), fun hb => ?_, fun hb => ?_, fun hb => ?_, fun hb => ?_, fun hb => ?_, ?_, by simp⟩
  · have h1 := ((((((BoxB.new w [.pointer (some ⟨pb, 0, none⟩)] 24).below (below_alloc _ (.cells (seqL m g).toArray 81))).below (below_alloc _ (.cells #[fv] 130))).below (below_alloc _ (.cells #[.int .i64 0, .int .i64 0] 118))).below (below_alloc _ (.cells #[.bool false] 4))).below (below_alloc _ (.cells (bitsV m).toArray 72))).below hb
    exact h1.cell (i := 0) rfl
  · have h1 := (((((BoxB.new (w.alloc (.cells #[.pointer (some ⟨pb, 0, none⟩)] 24)) (seqL m g) 81).below (below_alloc _ (.cells #[fv] 130))).below (below_alloc _ (.cells #[.int .i64 0, .int .i64 0] 118))).below (below_alloc _ (.cells #[.bool false] 4))).below (below_alloc _ (.cells (bitsV m).toArray 72))).below hb
    simpa using h1
  · have h1 := ((((BoxB.new ((w.alloc (.cells #[.pointer (some ⟨pb, 0, none⟩)] 24)).alloc (.cells (seqL m g).toArray 81)) [fv] 130).below (below_alloc _ (.cells #[.int .i64 0, .int .i64 0] 118))).below (below_alloc _ (.cells #[.bool false] 4))).below (below_alloc _ (.cells (bitsV m).toArray 72))).below hb
    have h2 := h1.cell (i := 0) rfl
    simpa using h2
  · have h1 := (((BoxB.new (((w.alloc (.cells #[.pointer (some ⟨pb, 0, none⟩)] 24)).alloc (.cells (seqL m g).toArray 81)).alloc (.cells #[fv] 130)) [.int .i64 0, .int .i64 0] 118).below (below_alloc _ (.cells #[.bool false] 4))).below (below_alloc _ (.cells (bitsV m).toArray 72))).below hb
    simpa using h1
  · have h1 := ((BoxB.new ((((w.alloc (.cells #[.pointer (some ⟨pb, 0, none⟩)] 24)).alloc (.cells (seqL m g).toArray 81)).alloc (.cells #[fv] 130)).alloc (.cells #[.int .i64 0, .int .i64 0] 118)) [.bool false] 4).below (below_alloc _ (.cells (bitsV m).toArray 72))).below hb
    simpa using h1
  · have h1 := BoxB.new (((((w.alloc (.cells #[.pointer (some ⟨pb, 0, none⟩)] 24)).alloc (.cells (seqL m g).toArray 81)).alloc (.cells #[fv] 130)).alloc (.cells #[.int .i64 0, .int .i64 0] 118)).alloc (.cells #[.bool false] 4)) (bitsV m) 72
    simpa using h1
theorem BoxB.grown {W W' : World} {b : Nat} {xs : List Value} {T : TypeId} {row : Option Nat} (h : BoxB W b xs T) (hg : W.grownBy W' row) (hr : ∀ r, row = some r → ∃ o : Obj, W.heap[r]? = some o ∧ o.isCells = false) : BoxB W' b xs T :=
  (hg.block b h.lt (fun e => by
    obtain ⟨o, ho, hc⟩ := hr b e.symm
    unfold BoxB at h
    rw [h] at ho
    cases ho
    cases hc)).trans h
/-- How the loop is left where one is found. -/
def LeastX (w W5 : World) (rows : List ND) (s : SQ) (p : Int → Bool) (c : Code) (pre : List (Mem s.left)) (W : World) : Prop :=
  c = .ret ∧ ∃ (pre' : List (Mem s.left)) (x : Mem s.left), pre = pre' ++ [x] ∧ (∀ y ∈ pre', p (onP rows s y.1) = false) ∧ p (onP rows s x.1) = true ∧
    BoxB W (w.heap.size + 1 + 1 + 1) [.int .i64 (onP rows s x.1), .int .i64 (x.1 : Int)] 118 ∧ BoxB W (w.heap.size + 1 + 1 + 1 + 1) [.bool true] 4 ∧ Below w.heap.size w W ∧ W5.heap.size ≤ W.heap.size
theorem leastX_own {w W5 : World} {rows : List ND} {s : SQ} {p : Int → Bool} (hz : w.heap.size ≤ W5.heap.size) (c : Code) : OwnFrom W5.heap.size (LeastX w W5 rows s p c) := fun q A B row hs hg hr => by
  obtain ⟨hc, pre', x, e, h1, h2, h3, h4, h5, h6⟩ := hs
  refine ⟨hc, pre', x, e, h1, h2, h3.grown hg (fun r e => (hr r e).2), h4.grown hg (fun r e => (hr r e).2), ?_, Nat.le_trans h6 hg.size⟩
  exact (ownFrom_below (β := Unit) (n₀ := w.heap.size) (w₀ := w) (Nat.le_refl _) hz) () A B row h5 hg hr
set_option maxRecDepth 100000 in
set_option maxHeartbeats 2000000 in
theorem least_any (k : Nat) (ow : Own) (w : World) (t : Value) (rows : List ND) (h : Tab k ow w t rows) (hT : TabG w) (s : SQ) (hs : Wf rows s) (p : Int → Bool) (fid : Nat) (caps : Array Value)
    (he : ∀ args w, (callFunc fid args).run Tryd.prog w = .ok (.enter fid args) w) (hp : ∀ (x : Int) (W : World), Calls Tryd.prog fid (#[.int .i64 x] ++ caps) W fun e W' => e = .returned (.bool (p x)) ∧ W' = W) :
    Calls Tryd.prog 59 #[t, .agg (seqL s.left s.goal).toArray, .func (.func fid) #[] caps] w fun e w' => e = .returned (foundV (leastP rows s p)) ∧ Below w.heap.size w w' := by
  obtain ⟨pb, rfl⟩ : ∃ pb, t = .pointer (some ⟨pb, 0, none⟩) := by obtain ⟨pb, _, _, e, _⟩ := h; exact ⟨pb, e⟩
  have H := Lib.hid h; have HT := Lib.hid hT; have HW := Lib.hid hs; have HP := Lib.hid hp; have HE := Lib.hid he
  clear h hT hs hp he
  refine (callsIn_wide (n := 8)).1 ?_
  refine callsIn_of_wp_marks Tryd.func59 rfl trivial ?_ rfl
  simp only [Tryd.ntmps59, List.size_toArray, List.length_cons, List.length_nil, Nat.reduceAdd, Nat.reduceSub, Array.replicate_succ, Array.replicate_zero, List.push_toArray, List.append_toArray, List.nil_append, List.cons_append]
  have HQ : Hid (∀ o1 o2 o3, BoxB (((((w.alloc (.cells #[.pointer (some ⟨pb, 0, none⟩)] 24)).alloc (.cells (seqL s.left s.goal).toArray 81)).alloc o1).alloc o2).alloc o3) (w.heap.size + 1) (seqL s.left s.goal) 81) := fun o1 o2 o3 => by
    have := (((BoxB.new (w.alloc (.cells #[.pointer (some ⟨pb, 0, none⟩)] 24)) (seqL s.left s.goal) 81).below (below_alloc _ o1)).below (below_alloc _ o2)).below (below_alloc _ o3)
    simpa using this
  gi_wp2_with (first
    | (refine wpIn_loadLeft (.tmp 10) rfl rfl rfl (HQ.out _ _ _) ?_)
    | (refine ⟨trivial, ?_⟩; gi_at_call 38; refine (all_wide _ _).mono ?_; rintro e w5 ⟨rfl, rfl⟩))
  have HF := Lib.hid (least_frame w pb s.left s.goal (.func (.func fid) #[] caps))
  generalize ((((((w.alloc (.cells #[.pointer (some ⟨pb, 0, none⟩)] 24)).alloc (.cells (seqL s.left s.goal).toArray 81)).alloc (.cells #[.func (.func fid) #[] caps] 130)).alloc (.cells #[.int .i64 0, .int .i64 0] 118)).alloc (.cells #[.bool false] 4)).alloc (.cells (bitsV s.left).toArray 72)) = W5 at *
  have HS : Hid (∀ g, (g = 0 ∨ g = w.heap.size + 1 + 1 + 1 + 1 + 1) → g < W5.heap.size) := fun g hg => by
    have h1 := HF.out.sz
    rcases hg with rfl | rfl <;> omega
  have HZ : Hid (w.heap.size ≤ W5.heap.size) := HF.out.bel.size
  clear HQ
  refine wpIn_rangeFunc_ownG (I := fun pre W => Below W5.heap.size W5 W ∧ ∀ y ∈ pre, p (onP rows s y.1) = false) (Ix := LeastX w W5 rows s p) (Kp := HoldS fun g => g = 0 ∨ g = w.heap.size + 1 + 1 + 1 + 1 + 1)
    rfl (by omega) (gf := 42) (lb := #[.pointer (some ⟨w.heap.size + 1 + 1 + 1 + 1 + 1, 0, none⟩)]) rfl trivial (enters_of Tryd.func42 (by kernel_rfl) rfl)
    (all_stops _ (by omega) (w.heap.size + 1 + 1 + 1 + 1 + 1) s.left _ (.inl rfl) (.inr rfl) W5 HS.out (HT.out.below HF.out.bel) HF.out.bits) holdS_t (holdS_b HS.out) (Below.refl _ _) (fun _ => rfl) ((ownFrom_below (Nat.le_refl _) (Nat.le_refl _)).and (fun _ _ _ _ hs _ _ => hs)) (leastX_own HZ.out) ⟨Below.refl _ _, fun y hy => by cases hy⟩
    (fun x => { tmps := #[.pointer (some ⟨pb, 0, none⟩), .agg (seqL s.left s.goal).toArray, .func (.func fid) #[] caps, .pointer (some ⟨w.heap.size, 0, none⟩), .pointer (some ⟨w.heap.size + 1, 0, none⟩), .pointer (some ⟨w.heap.size + 1 + 1, 0, none⟩), .pointer (some ⟨w.heap.size + 1 + 1 + 1, 0, none⟩), .pointer (some ⟨w.heap.size + 1 + 1 + 1 + 1, 0, none⟩), .int .i64 (x.1 : Int), undef, .pointer (some ⟨w.heap.size + 1, 0, none⟩), .agg (bitsV s.left).toArray, .func (.func 42) #[] #[.pointer (some ⟨w.heap.size + 1 + 1 + 1 + 1 + 1, 0, none⟩)], .int .i64 (x.1 : Int), undef, undef, undef, undef, undef, undef, undef, undef, undef, undef, undef], defers := [] }) ?assign ?body ?done ?stop
  case assign =>
    intro l x W K hK
    unfold memV
    gi_wp2
    exact hK
  case body =>
    rintro l pre x W ⟨hI, hno⟩ hlt
    have HI := Lib.hid hI
    have HN := Lib.hid hno
    have hlt : x.1 < rows.length := HW.out.left _ x.2.2
    have HL := Lib.hid hlt
    have c1 : W.cell? ⟨w.heap.size, 0, none⟩ = some (.pointer (some ⟨pb, 0, none⟩)) := HF.out.tb hI
    have HO := Lib.hid (on_any k ow W _ rows (H.out.below (below_trans HF.out.bel hI)) s s.goal x.1 hlt)
    obtain ⟨kd, hkd⟩ : ∃ kd, kd = onP rows s x.1 := ⟨_, rfl⟩
    rw [← hkd] at HO
    have HK := Lib.hid hkd
    have HP1 := Lib.hid (HP.out kd)
    obtain ⟨bb, hbb⟩ : ∃ bb, bb = p kd := ⟨_, rfl⟩
    rw [← hbb] at HP1
    have HBB := Lib.hid hbb
    clear hI hno hlt hkd hbb
    cases bb with
    | false =>
      have hent := HE.out
      gi_wp2_with (first
        | (refine wpIn_loadSeq (.tmp 4) rfl rfl rfl (HF.out.sq HI.out) ?_)
        | (refine ⟨trivial, ?_⟩; gi_at_call 70; refine (CallsIn.inRound l (callsIn_wide.2 HO.out)).mono ?_; rintro e W6 ⟨rfl, hb6⟩; have HB6 := Lib.hid hb6; have c2 := HF.out.fn (HI.out.trans (hb6.mono HI.out.size)); clear hb6)
        | (refine ⟨trivial, ?_⟩; refine (CallsIn.inRound l (callsIn_wide.2 (HP1.out _))).mono ?_; rintro e W7 ⟨rfl, rfl⟩))
      exact ⟨KeepsFrom.of_grownBy (row := none) (grown_of_below HB6.out) (fun j e => by cases e), holdS_below (fun g hg => Nat.lt_of_lt_of_le (HS.out g hg) HI.out.size) HB6.out, HI.out.trans (HB6.out.mono HI.out.size), fun y hy => by
        rcases List.mem_append.1 hy with h1 | h1
        · exact HN.out y h1
        · rw [List.mem_singleton.1 h1, ← HK.out]; exact HBB.out.symm⟩
    | true =>
      have hent := HE.out
      gi_wp2_with (first
        | (refine wpIn_loadSeq (.tmp 4) rfl rfl rfl (HF.out.sq HI.out) ?_)
        | (refine ⟨trivial, ?_⟩; gi_at_call 70; refine (CallsIn.inRound l (callsIn_wide.2 HO.out)).mono ?_; rintro e W6 ⟨rfl, hb6⟩; have HB6 := Lib.hid hb6; have hI6 := HI.out.trans (hb6.mono HI.out.size); have HI6 := Lib.hid hI6; have c2 := HF.out.fn hI6; have c60 := (HF.out.fo hI6).cell (i := 0) rfl; have c61 := (HF.out.fo hI6).cell (i := 1) rfl; have f60 := (HF.out.fo hI6).fr 0; have f61 := (HF.out.fo hI6).fr 1; have c70 := (HF.out.ok hI6).cell (i := 0) rfl; have f70 := (HF.out.ok hI6).fr 0; clear hb6 hI6)
        | (refine ⟨trivial, ?_⟩; refine (CallsIn.inRound l (callsIn_wide.2 (HP1.out _))).mono ?_; rintro e W7 ⟨rfl, rfl⟩))
      have K6 := (((HF.out.fo HI6.out).set 0 (.int .i64 kd)).set 1 (.int .i64 (x.1 : Int))).other (c := w.heap.size + 1 + 1 + 1 + 1) (by omega) 0 (.bool true)
      have K7 := (((HF.out.ok HI6.out).other (c := w.heap.size + 1 + 1 + 1) (by omega) 0 (.int .i64 kd)).other (c := w.heap.size + 1 + 1 + 1) (by omega) 1 (.int .i64 (x.1 : Int))).set 0 (.bool true)
      refine ⟨((KeepsFrom.of_grownBy (row := none) (grown_of_below HB6.out) (fun j e => by cases e)).trans ((((KeepsOthers.setCell _ _ _).trans (KeepsOthers.setCell _ _ _)).trans (KeepsOthers.setCell _ _ _)).from _)), rfl, pre, x, rfl, HN.out, by rw [← HK.out]; exact HBB.out.symm, by rw [← HK.out]; exact K6, K7, ?_, by simp; exact HI6.out.size⟩
      exact (((HF.out.bel.trans (HI6.out.mono HZ.out)).setCell (p := ⟨w.heap.size + 1 + 1 + 1, 0, none⟩) (by show w.heap.size ≤ w.heap.size + 1 + 1 + 1; omega) _).setCell (p := ⟨w.heap.size + 1 + 1 + 1, 1, none⟩) (by show w.heap.size ≤ w.heap.size + 1 + 1 + 1; omega) _).setCell (p := ⟨w.heap.size + 1 + 1 + 1 + 1, 0, none⟩) (by show w.heap.size ≤ w.heap.size + 1 + 1 + 1 + 1; omega) _
  case done =>
    rintro D ys W hD hys ⟨hI, hno⟩ hK
    have HI := Lib.hid hI
    have HN := Lib.hid hno
    have c60 := (HF.out.fo hI).cell (i := 0) rfl; have c61 := (HF.out.fo hI).cell (i := 1) rfl; have f60 := (HF.out.fo hI).fr 0; have f61 := (HF.out.fo hI).fr 1; have c70 := (HF.out.ok hI).cell (i := 0) rfl; have f70 := (HF.out.ok hI).fr 0
    clear hI hno
    gi_wp2
    have K6 := (((HF.out.fo HI.out).set 0 (.int .i64 0)).set 1 (.int .i64 0)).other (c := w.heap.size + 1 + 1 + 1 + 1) (by omega) 0 (.bool false)
    have K7 := (((HF.out.ok HI.out).other (c := w.heap.size + 1 + 1 + 1) (by omega) 0 (.int .i64 0)).other (c := w.heap.size + 1 + 1 + 1) (by omega) 1 (.int .i64 0)).set 0 (.bool false)
    have HB : Hid (Below w.heap.size w (((W.setCell ⟨w.heap.size + 1 + 1 + 1, 0, none⟩ (.int .i64 0)).setCell ⟨w.heap.size + 1 + 1 + 1, 1, none⟩ (.int .i64 0)).setCell ⟨w.heap.size + 1 + 1 + 1 + 1, 0, none⟩ (.bool false))) :=
      (((HF.out.bel.trans (HI.out.mono HZ.out)).setCell (p := ⟨w.heap.size + 1 + 1 + 1, 0, none⟩) (by show w.heap.size ≤ w.heap.size + 1 + 1 + 1; omega) _).setCell (p := ⟨w.heap.size + 1 + 1 + 1, 1, none⟩) (by show w.heap.size ≤ w.heap.size + 1 + 1 + 1; omega) _).setCell (p := ⟨w.heap.size + 1 + 1 + 1 + 1, 0, none⟩) (by show w.heap.size ≤ w.heap.size + 1 + 1 + 1 + 1; omega) _
    have hK8 : (((W.setCell ⟨w.heap.size + 1 + 1 + 1, 0, none⟩ (.int .i64 0)).setCell ⟨w.heap.size + 1 + 1 + 1, 1, none⟩ (.int .i64 0)).setCell ⟨w.heap.size + 1 + 1 + 1 + 1, 0, none⟩ (.bool false)).heap[D]? = some (.deferred (some [])) :=
      (((KeepsOthers.setCell _ _ _).trans (KeepsOthers.setCell _ _ _)).trans (KeepsOthers.setCell _ _ _)).same D _ hK rfl
    have hlp : leastP rows s p = none := leastP_none H.out.ok.le hys (fun y hy => by
      obtain ⟨z, hz, rfl⟩ := List.mem_map.1 hy
      exact HN.out z hz)
    clear c60 c61 f60 f61 c70 f70 hK
    generalize (((W.setCell ⟨w.heap.size + 1 + 1 + 1, 0, none⟩ (.int .i64 0)).setCell ⟨w.heap.size + 1 + 1 + 1, 1, none⟩ (.int .i64 0)).setCell ⟨w.heap.size + 1 + 1 + 1 + 1, 0, none⟩ (.bool false)) = W8 at *
    have g6 := K6.grown (grownBy_putObj' W8 D (.deferred none)) (fun r e => by cases e; exact ⟨_, hK8, rfl⟩)
    have g7 := K7.grown (grownBy_putObj' W8 D (.deferred none)) (fun r e => by cases e; exact ⟨_, hK8, rfl⟩)
    have d0 := g6.cell (i := 0) rfl; have d1 := g6.cell (i := 1) rfl; have d2 := g7.cell (i := 0) rfl
    have HDD : w.heap.size ≤ D := Nat.le_trans HZ.out hD
    refine ⟨by simp, .inl ⟨_, _, rfl, run_takeDeferred hK8, ?_⟩⟩
    exact ⟨.tuple #[.agg #[.int .i64 0, .int .i64 0], .bool false], by simp [results, Tryd.results59, go_sem, d0, d1, d2], by rw [hlp]; rfl, HB.out.trans (belowK_b (w := w) (Nat.le_refl _) W8 D _ _ HDD hK8 rfl rfl)⟩
  case stop =>
    rintro D c pre W hD hpre ⟨rfl, pre', x, rfl, hno, hpx, hb6, hb7, hbw, hsz⟩ hK
    gi_wp2
    have hK8 := hK
    have K6 := hb6; have K7 := hb7
    have HB := Lib.hid hbw
    have hlp : leastP rows s p = some (onP rows s x.1, x.1) := leastP_some (HW.out.left _ x.2.2) x.2.2 (by simpa using hpre) (fun y hy => by
      obtain ⟨z, hz, rfl⟩ := List.mem_map.1 hy
      exact hno z hz) hpx
    clear hK hb6 hb7 hbw
    obtain ⟨W8, rfl⟩ : ∃ W8, W8 = W := ⟨_, rfl⟩
    have g6 := K6.grown (grownBy_putObj' W8 D (.deferred none)) (fun r e => by cases e; exact ⟨_, hK8, rfl⟩)
    have g7 := K7.grown (grownBy_putObj' W8 D (.deferred none)) (fun r e => by cases e; exact ⟨_, hK8, rfl⟩)
    have d0 := g6.cell (i := 0) rfl; have d1 := g6.cell (i := 1) rfl; have d2 := g7.cell (i := 0) rfl
    have HDD : w.heap.size ≤ D := Nat.le_trans HZ.out hD
    refine ⟨by simp, .inl ⟨_, _, rfl, run_takeDeferred hK8, ?_⟩⟩
    exact ⟨.tuple #[.agg #[.int .i64 (onP rows s x.1), .int .i64 (x.1 : Int)], .bool true], by simp [results, Tryd.results59, go_sem, d0, d1, d2], by rw [hlp]; rfl, HB.out.trans (belowK_b (w := w) (Nat.le_refl _) W8 D _ _ HDD hK8 rfl rfl)⟩
end Go.Dk
end

section
namespace Go.Dk
open Go.RowKit Go.Maps Go.MapKept
open Go.Proofs hiding intOf
theorem rFound : RowTy Tryd.prog 118 2 := ⟨row_of (by kernel_rfl), by kernel_rfl⟩
def isBot (x : Int) : Bool := x == 1
def isSure (x : Int) : Bool := decide (3 ≤ x) && decide (x ≤ 7)
def isOr (x : Int) : Bool := x == 10
theorem isBot_any (x : Int) (W : World) : Calls Tryd.prog 60 (#[.int .i64 x] ++ #[]) W fun e W' => e = .returned (.bool (isBot x)) ∧ W' = W := by
  show Calls Tryd.prog 60 #[.int .i64 x] W fun e W' => e = .returned (.bool (isBot x)) ∧ W' = W
  go_enter Tryd.func60, Tryd.ntmps60
  go_wp2
  go_ret
  exact ⟨rfl, rfl⟩
theorem isOr_any (x : Int) (W : World) : Calls Tryd.prog 69 (#[.int .i64 x] ++ #[]) W fun e W' => e = .returned (.bool (isOr x)) ∧ W' = W := by
  show Calls Tryd.prog 69 #[.int .i64 x] W fun e W' => e = .returned (.bool (isOr x)) ∧ W' = W
  go_enter Tryd.func69, Tryd.ntmps69
  go_wp2
  go_ret
  exact ⟨rfl, rfl⟩
theorem isSure_any (x : Int) (W : World) : Calls Tryd.prog 64 (#[.int .i64 x] ++ #[]) W fun e W' => e = .returned (.bool (isSure x)) ∧ W' = W := by
  show Calls Tryd.prog 64 #[.int .i64 x] W fun e W' => e = .returned (.bool (isSure x)) ∧ W' = W
  by_cases h3 : 3 ≤ x
  · have hd : decide (3 ≤ x) = true := decide_eq_true h3
    go_enter Tryd.func64, Tryd.ntmps64
    go_wp2
    go_ret
    exact ⟨by simp [isSure, h3], rfl⟩
  · have hd : decide (3 ≤ x) = false := decide_eq_false h3
    go_enter Tryd.func64, Tryd.ntmps64
    go_wp2
    go_ret
    exact ⟨by simp [isSure]; omega, rfl⟩
/-- What a try stands on. -/
structure TryW (k : Nat) (ow : Own) (W : World) (pb bt bs : Nat) (rows : List ND) (s : SQ) : Prop where
  tab : Tab k ow W (.pointer (some ⟨pb, 0, none⟩)) rows
  g : TabG W
  wf : Wf rows s
  t : W.cell? ⟨bt, 0, none⟩ = some (.pointer (some ⟨pb, 0, none⟩))
  q : BoxB W bs (seqL s.left s.goal) 81
theorem TryW.below {k : Nat} {ow : Own} {W W' : World} {pb bt bs : Nat} {rows : List ND} {s : SQ} (h : TryW k ow W pb bt bs rows s) (hb : Below W.heap.size W W') : TryW k ow W' pb bt bs rows s :=
  ⟨h.tab.below hb, h.g.below hb, h.wf, (hb.cell (World.block_lt_of_cell? _ _ h.t)).trans h.t, h.q.below hb⟩
set_option maxRecDepth 100000 in
set_option maxHeartbeats 1000000 in
theorem try1_any (k : Nat) (ow : Own) (W : World) (pb bt bs : Nat) (rows : List ND) (s : SQ) (h : TryW k ow W pb bt bs rows s) :
    Calls Tryd.prog 58 #[.pointer (some ⟨bt, 0, none⟩), .pointer (some ⟨bs, 0, none⟩)] W fun e W' => e = .returned (foundV (leastP rows s isBot)) ∧ Below W.heap.size W W' := by
  obtain ⟨a, b, c, hv⟩ : ∃ a b c, foundV (leastP rows s isBot) = .tuple #[.agg #[.int .i64 a, .int .i64 b], .bool c] := by
    cases leastP rows s isBot with
    | none => exact ⟨_, _, _, rfl⟩
    | some x => exact ⟨_, _, _, rfl⟩
  rw [hv]
  have ct := (h.below (below_alloc W (.cells #[.int .i64 0, .int .i64 0] 118))).t
  have HQ := Lib.hid (h.below (below_alloc W (.cells #[.int .i64 0, .int .i64 0] 118))).q
  have HL := Lib.hid (least_any k ow _ _ rows (h.below (below_alloc W (.cells #[.int .i64 0, .int .i64 0] 118))).tab (h.below (below_alloc W (.cells #[.int .i64 0, .int .i64 0] 118))).g s h.wf isBot 60 #[] (enters_of Tryd.func60 (by kernel_rfl) rfl) isBot_any)
  unfold Hid at HL
  rw [hv] at HL
  have HL := Lib.hid HL
  clear h hv
  go_enter Tryd.func58, Tryd.ntmps58
  go_wp2_with (first
    | (refine wp_loadSeq (.tmp 1) rfl rfl rfl HQ.out ?_)
    | (go_at_call 59; refine HL.out.mono ?_; rintro e W1 ⟨rfl, hb1⟩; have HB1 := Lib.hid (below_trans (below_alloc W _) hb1); have HX := Lib.hid ((BoxB.new W [.int .i64 0, .int .i64 0] 118).below hb1); clear hb1)
    | (refine wp_storeRow rFound (.tmp 2) (.tmp 7) rfl rfl rfl (ys := [.int .i64 a, .int .i64 b]) rfl HX.out rfl rfl (by simp [Value.oneCell']) ?_; intro W7 hb7 ho7; have d0 := hb7.cell (i := 0) rfl; have d1 := hb7.cell (i := 1) rfl; have K8 := Lib.hid (HB1.out.trans (ho7.below (Nat.le_refl _))); clear hb7 ho7))
  exact bodyPost_ret (v := .tuple #[.agg #[.int .i64 a, .int .i64 b], .bool c]) (by simp [results, Tryd.results58, go_sem, d0, d1]) rfl ⟨rfl, K8.out⟩
set_option maxRecDepth 100000 in
set_option maxHeartbeats 1000000 in
theorem try3_any (k : Nat) (ow : Own) (W : World) (pb bt bs : Nat) (rows : List ND) (s : SQ) (h : TryW k ow W pb bt bs rows s) :
    Calls Tryd.prog 63 #[.pointer (some ⟨bt, 0, none⟩), .pointer (some ⟨bs, 0, none⟩)] W fun e W' => e = .returned (foundV (leastP rows s isSure)) ∧ Below W.heap.size W W' := by
  obtain ⟨a, b, c, hv⟩ : ∃ a b c, foundV (leastP rows s isSure) = .tuple #[.agg #[.int .i64 a, .int .i64 b], .bool c] := by
    cases leastP rows s isSure with
    | none => exact ⟨_, _, _, rfl⟩
    | some x => exact ⟨_, _, _, rfl⟩
  rw [hv]
  have ct := (h.below (below_alloc W (.cells #[.int .i64 0, .int .i64 0] 118))).t
  have HQ := Lib.hid (h.below (below_alloc W (.cells #[.int .i64 0, .int .i64 0] 118))).q
  have HL := Lib.hid (least_any k ow _ _ rows (h.below (below_alloc W (.cells #[.int .i64 0, .int .i64 0] 118))).tab (h.below (below_alloc W (.cells #[.int .i64 0, .int .i64 0] 118))).g s h.wf isSure 64 #[] (enters_of Tryd.func64 (by kernel_rfl) rfl) isSure_any)
  unfold Hid at HL
  rw [hv] at HL
  have HL := Lib.hid HL
  clear h hv
  go_enter Tryd.func63, Tryd.ntmps63
  go_wp2_with (first
    | (refine wp_loadSeq (.tmp 1) rfl rfl rfl HQ.out ?_)
    | (go_at_call 59; refine HL.out.mono ?_; rintro e W1 ⟨rfl, hb1⟩; have HB1 := Lib.hid (below_trans (below_alloc W _) hb1); have HX := Lib.hid ((BoxB.new W [.int .i64 0, .int .i64 0] 118).below hb1); clear hb1)
    | (refine wp_storeRow rFound (.tmp 2) (.tmp 7) rfl rfl rfl (ys := [.int .i64 a, .int .i64 b]) rfl HX.out rfl rfl (by simp [Value.oneCell']) ?_; intro W7 hb7 ho7; have d0 := hb7.cell (i := 0) rfl; have d1 := hb7.cell (i := 1) rfl; have K8 := Lib.hid (HB1.out.trans (ho7.below (Nat.le_refl _))); clear hb7 ho7))
  exact bodyPost_ret (v := .tuple #[.agg #[.int .i64 a, .int .i64 b], .bool c]) (by simp [results, Tryd.results63, go_sem, d0, d1]) rfl ⟨rfl, K8.out⟩
set_option maxRecDepth 100000 in
set_option maxHeartbeats 1000000 in
theorem try6_any (k : Nat) (ow : Own) (W : World) (pb bt bs : Nat) (rows : List ND) (s : SQ) (h : TryW k ow W pb bt bs rows s) :
    Calls Tryd.prog 68 #[.pointer (some ⟨bt, 0, none⟩), .pointer (some ⟨bs, 0, none⟩)] W fun e W' => e = .returned (foundV (leastP rows s isOr)) ∧ Below W.heap.size W W' := by
  obtain ⟨a, b, c, hv⟩ : ∃ a b c, foundV (leastP rows s isOr) = .tuple #[.agg #[.int .i64 a, .int .i64 b], .bool c] := by
    cases leastP rows s isOr with
    | none => exact ⟨_, _, _, rfl⟩
    | some x => exact ⟨_, _, _, rfl⟩
  rw [hv]
  have ct := (h.below (below_alloc W (.cells #[.int .i64 0, .int .i64 0] 118))).t
  have HQ := Lib.hid (h.below (below_alloc W (.cells #[.int .i64 0, .int .i64 0] 118))).q
  have HL := Lib.hid (least_any k ow _ _ rows (h.below (below_alloc W (.cells #[.int .i64 0, .int .i64 0] 118))).tab (h.below (below_alloc W (.cells #[.int .i64 0, .int .i64 0] 118))).g s h.wf isOr 69 #[] (enters_of Tryd.func69 (by kernel_rfl) rfl) isOr_any)
  unfold Hid at HL
  rw [hv] at HL
  have HL := Lib.hid HL
  clear h hv
  go_enter Tryd.func68, Tryd.ntmps68
  go_wp2_with (first
    | (refine wp_loadSeq (.tmp 1) rfl rfl rfl HQ.out ?_)
    | (go_at_call 59; refine HL.out.mono ?_; rintro e W1 ⟨rfl, hb1⟩; have HB1 := Lib.hid (below_trans (below_alloc W _) hb1); have HX := Lib.hid ((BoxB.new W [.int .i64 0, .int .i64 0] 118).below hb1); clear hb1)
    | (refine wp_storeRow rFound (.tmp 2) (.tmp 7) rfl rfl rfl (ys := [.int .i64 a, .int .i64 b]) rfl HX.out rfl rfl (by simp [Value.oneCell']) ?_; intro W7 hb7 ho7; have d0 := hb7.cell (i := 0) rfl; have d1 := hb7.cell (i := 1) rfl; have K8 := Lib.hid (HB1.out.trans (ho7.below (Nat.le_refl _))); clear hb7 ho7))
  exact bodyPost_ret (v := .tuple #[.agg #[.int .i64 a, .int .i64 b], .bool c]) (by simp [results, Tryd.results68, go_sem, d0, d1]) rfl ⟨rfl, K8.out⟩
end Go.Dk
end

section
namespace Go.Dk
open Go.RowKit Go.Maps Go.MapKept
open Go.Proofs hiding intOf
set_option maxRecDepth 100000 in
set_option maxHeartbeats 2000000 in
theorem try4_any (k : Nat) (ow : Own) (W : World) (pb bt bs : Nat) (rows : List ND) (s : SQ) (h : TryW k ow W pb bt bs rows s) :
    Calls Tryd.prog 65 #[.pointer (some ⟨bs, 0, none⟩), .pointer (some ⟨bt, 0, none⟩)] W fun e W' => e = .returned (.tuple #[.agg #[.int .i64 8, .int .i64 (s.goal : Int)], .bool ((rowAt rows s.goal).kind == 5)]) ∧ Below W.heap.size W W' := by
  have HNE : Hid (bs ≠ W.heap.size ∧ bt ≠ W.heap.size) := ⟨Nat.ne_of_lt h.q.lt, Nat.ne_of_lt (World.block_lt_of_cell? W _ h.t)⟩
  have hW0 := h.below (below_alloc W (.cells #[.int .i64 0, .int .i64 0] 118))
  have HX := Lib.hid (BoxB.new W [.int .i64 0, .int .i64 0] 118)
  have HT := Lib.hid hW0
  have HB0 := Lib.hid (below_alloc W (.cells #[.int .i64 0, .int .i64 0] 118))
  obtain ⟨n, hn⟩ : ∃ n, rowAt rows s.goal = n := ⟨_, rfl⟩
  have HN := Lib.hid (rnode_is k ow _ _ rows hW0.tab s.goal h.wf.goal n hn)
  rw [hn]
  clear h hW0 hn
  obtain ⟨kd, nm, l, r⟩ := n
  simp only at HN
  go_enter Tryd.func65, Tryd.ntmps65
  go_wp2_with fail
  have e0 : (.cells #[.int .i64 0, .int .i64 0] 118 : Obj) = .cells [.int .i64 0, .int .i64 0].toArray 118 := rfl
  rw [e0] at *
  clear e0
  generalize (W.alloc (.cells [.int .i64 0, .int .i64 0].toArray 118)) = W0 at *
  have hfk := fun W => fieldKind (.int .i64 kd) (.string nm) (.int .i64 l) (.int .i64 r) W
  have HC : Hid (∀ W', Below W0.heap.size W0 W' → W'.cell? ⟨bs, 16, none⟩ = some (.int .i64 (s.goal : Int)) ∧ W'.cell? ⟨bt, 0, none⟩ = some (.pointer (some ⟨pb, 0, none⟩))) := fun W' hb => ⟨(HT.out.q.below hb).cell (seqL_goal s.left s.goal), (HT.out.below hb).t⟩
  go_region_held3 (fun W' => W'.cell? ⟨bs, 16, none⟩ = some (.int .i64 (s.goal : Int)) ∧ W'.cell? ⟨bt, 0, none⟩ = some (.pointer (some ⟨pb, 0, none⟩))) (first | exact HC.out _ (below_drewN W0 1) | assumption | exact ⟨(World.cell?_of_block (((only_setCell W1 W.heap.size 0 _).trans (only_setCell _ W.heap.size 1 _)).block _ HNE.out.1)).trans hs1.1, (World.cell?_of_block (((only_setCell W1 W.heap.size 0 _).trans (only_setCell _ W.heap.size 1 _)).block _ HNE.out.2)).trans hs1.2⟩)
    ((go_at_call 66; refine (HN.out _ (below_drewN W0 1)).mono ?_; rintro e W1 ⟨rfl, hb1⟩; have HB1 := Lib.hid (below_trans (below_drewN W0 1) hb1); have hs1 := HC.out _ HB1.out; have hx1 := HX.out.below HB1.out; have x0 := hx1.cell (i := 0) rfl; have x1 := hx1.cell (i := 1) rfl; have y0 := hx1.fr 0; have y1 := hx1.fr 1; have HX1 := Lib.hid hx1; clear hb1 hx1))
  have K := (HX1.out.set 0 (.int .i64 8)).set 1 (.int .i64 (s.goal : Int))
  have d0 := K.cell (i := 0) rfl; have d1 := K.cell (i := 1) rfl
  have K8 := Lib.hid (((below_trans HB0.out HB1.out).setCell (p := ⟨W.heap.size, 0, none⟩) (Nat.le_refl _) (.int .i64 8)).setCell (p := ⟨W.heap.size, 1, none⟩) (Nat.le_refl _) (.int .i64 (s.goal : Int)))
  clear K x0 x1 y0 y1
  generalize ((W1.setCell ⟨W.heap.size, 0, none⟩ (.int .i64 8)).setCell ⟨W.heap.size, 1, none⟩ (.int .i64 (s.goal : Int))) = W7 at *
  go_wp2_with fail
  exact bodyPost_ret (v := .tuple #[.agg #[.int .i64 8, .int .i64 (s.goal : Int)], .bool (kd == 5)]) (by simp [results, Tryd.results65, go_sem, d0, d1]) rfl ⟨rfl, K8.out⟩
set_option maxRecDepth 100000 in
set_option maxHeartbeats 2000000 in
theorem try5_any (k : Nat) (ow : Own) (W : World) (pb bt bs : Nat) (rows : List ND) (s : SQ) (h : TryW k ow W pb bt bs rows s) :
    Calls Tryd.prog 67 #[.pointer (some ⟨bs, 0, none⟩), .pointer (some ⟨bt, 0, none⟩)] W fun e W' => e = .returned (.tuple #[.agg #[.int .i64 9, .int .i64 (s.goal : Int)], .bool ((rowAt rows s.goal).kind == 3)]) ∧ Below W.heap.size W W' := by
  have HNE : Hid (bs ≠ W.heap.size ∧ bt ≠ W.heap.size) := ⟨Nat.ne_of_lt h.q.lt, Nat.ne_of_lt (World.block_lt_of_cell? W _ h.t)⟩
  have hW0 := h.below (below_alloc W (.cells #[.int .i64 0, .int .i64 0] 118))
  have HX := Lib.hid (BoxB.new W [.int .i64 0, .int .i64 0] 118)
  have HT := Lib.hid hW0
  have HB0 := Lib.hid (below_alloc W (.cells #[.int .i64 0, .int .i64 0] 118))
  obtain ⟨n, hn⟩ : ∃ n, rowAt rows s.goal = n := ⟨_, rfl⟩
  have HN := Lib.hid (rnode_is k ow _ _ rows hW0.tab s.goal h.wf.goal n hn)
  rw [hn]
  clear h hW0 hn
  obtain ⟨kd, nm, l, r⟩ := n
  simp only at HN
  go_enter Tryd.func67, Tryd.ntmps67
  go_wp2_with fail
  have e0 : (.cells #[.int .i64 0, .int .i64 0] 118 : Obj) = .cells [.int .i64 0, .int .i64 0].toArray 118 := rfl
  rw [e0] at *
  clear e0
  generalize (W.alloc (.cells [.int .i64 0, .int .i64 0].toArray 118)) = W0 at *
  have hfk := fun W => fieldKind (.int .i64 kd) (.string nm) (.int .i64 l) (.int .i64 r) W
  have HC : Hid (∀ W', Below W0.heap.size W0 W' → W'.cell? ⟨bs, 16, none⟩ = some (.int .i64 (s.goal : Int)) ∧ W'.cell? ⟨bt, 0, none⟩ = some (.pointer (some ⟨pb, 0, none⟩))) := fun W' hb => ⟨(HT.out.q.below hb).cell (seqL_goal s.left s.goal), (HT.out.below hb).t⟩
  go_region_held3 (fun W' => W'.cell? ⟨bs, 16, none⟩ = some (.int .i64 (s.goal : Int)) ∧ W'.cell? ⟨bt, 0, none⟩ = some (.pointer (some ⟨pb, 0, none⟩))) (first | exact HC.out _ (below_drewN W0 1) | assumption | exact ⟨(World.cell?_of_block (((only_setCell W1 W.heap.size 0 _).trans (only_setCell _ W.heap.size 1 _)).block _ HNE.out.1)).trans hs1.1, (World.cell?_of_block (((only_setCell W1 W.heap.size 0 _).trans (only_setCell _ W.heap.size 1 _)).block _ HNE.out.2)).trans hs1.2⟩)
    ((go_at_call 66; refine (HN.out _ (below_drewN W0 1)).mono ?_; rintro e W1 ⟨rfl, hb1⟩; have HB1 := Lib.hid (below_trans (below_drewN W0 1) hb1); have hs1 := HC.out _ HB1.out; have hx1 := HX.out.below HB1.out; have x0 := hx1.cell (i := 0) rfl; have x1 := hx1.cell (i := 1) rfl; have y0 := hx1.fr 0; have y1 := hx1.fr 1; have HX1 := Lib.hid hx1; clear hb1 hx1))
  have K := (HX1.out.set 0 (.int .i64 9)).set 1 (.int .i64 (s.goal : Int))
  have d0 := K.cell (i := 0) rfl; have d1 := K.cell (i := 1) rfl
  have K8 := Lib.hid (((below_trans HB0.out HB1.out).setCell (p := ⟨W.heap.size, 0, none⟩) (Nat.le_refl _) (.int .i64 9)).setCell (p := ⟨W.heap.size, 1, none⟩) (Nat.le_refl _) (.int .i64 (s.goal : Int)))
  clear K x0 x1 y0 y1
  generalize ((W1.setCell ⟨W.heap.size, 0, none⟩ (.int .i64 9)).setCell ⟨W.heap.size, 1, none⟩ (.int .i64 (s.goal : Int))) = W7 at *
  go_wp2_with fail
  exact bodyPost_ret (v := .tuple #[.agg #[.int .i64 9, .int .i64 (s.goal : Int)], .bool (kd == 3)]) (by simp [results, Tryd.results67, go_sem, d0, d1]) rfl ⟨rfl, K8.out⟩
end Go.Dk
end

section
namespace Go.Dk
open Go.RowKit Go.Maps Go.MapKept
open Go.Proofs hiding intOf
set_option maxRecDepth 100000 in
set_option maxHeartbeats 2000000 in
theorem try2_any (k : Nat) (ow : Own) (W : World) (pb bt bs : Nat) (rows : List ND) (s : SQ) (h : TryW k ow W pb bt bs rows s) :
    Calls Tryd.prog 61 #[.pointer (some ⟨bs, 0, none⟩)] W fun e W' => e = .returned (.tuple #[.agg #[.int .i64 2, .int .i64 (s.goal : Int)], .bool (s.left.testBit s.goal)]) ∧ Below W.heap.size W W' := by
  have HNE : Hid (bs ≠ W.heap.size) := Nat.ne_of_lt h.q.lt
  have hW0 := h.below (below_alloc W (.cells #[.int .i64 0, .int .i64 0] 118))
  have HX := Lib.hid (BoxB.new W [.int .i64 0, .int .i64 0] 118)
  have HT := Lib.hid hW0
  have HB0 := Lib.hid (below_alloc W (.cells #[.int .i64 0, .int .i64 0] 118))
  have HH := Lib.hid (fun W' => has_in W' s.left s.goal (Nat.lt_of_lt_of_le h.wf.goal h.tab.ok.le))
  obtain ⟨bb, hbb⟩ : ∃ bb, bb = s.left.testBit s.goal := ⟨_, rfl⟩
  rw [← hbb] at HH ⊢
  clear h hW0 hbb
  go_enter Tryd.func61, Tryd.ntmps61
  go_wp2_with fail
  have e0 : (.cells #[.int .i64 0, .int .i64 0] 118 : Obj) = .cells [.int .i64 0, .int .i64 0].toArray 118 := rfl
  rw [e0] at *
  clear e0
  generalize (W.alloc (.cells [.int .i64 0, .int .i64 0].toArray 118)) = W0 at *
  have hu : Tryd.prog.underlying 72 = some (.array 16 70) := by kernel_rfl
  have hi : (Tryd.prog.info? 72).map (·.size) = some (bitsV s.left).length := by rw [bitsV_len]; exact iBits
  have HC : Hid (∀ W', BoxB W' bs (seqL s.left s.goal) 81 → W'.cell? ⟨bs, 16, none⟩ = some (.int .i64 (s.goal : Int)) ∧ W'.rangeAt bs 0 (bitsV s.left)) := fun W' hb => ⟨hb.cell (seqL_goal s.left s.goal), hb.range (seqL_left s.left s.goal)⟩
  go_region_held3 (fun W' => W'.cell? ⟨bs, 16, none⟩ = some (.int .i64 (s.goal : Int)) ∧ W'.rangeAt bs 0 (bitsV s.left)) (first | exact HC.out _ (HT.out.q.below (below_drewN W0 1)) | assumption | exact HC.out _ ((HQ1.out.other (Ne.symm (Ne.symm HNE.out)) 0 _).other (Ne.symm (Ne.symm HNE.out)) 1 _))
    ((go_at_call 62; refine (HH.out _).mono ?_; rintro e W1 ⟨rfl, hb1⟩; have HB1 := Lib.hid (below_trans (below_drewN W0 1) hb1); have HQ1 := Lib.hid (HT.out.q.below HB1.out); have hs1 := HC.out _ HQ1.out; have hx1 := HX.out.below HB1.out; have x0 := hx1.cell (i := 0) rfl; have x1 := hx1.cell (i := 1) rfl; have y0 := hx1.fr 0; have y1 := hx1.fr 1; have HX1 := Lib.hid hx1; clear hb1 hx1))
  have K := (HX1.out.set 0 (.int .i64 2)).set 1 (.int .i64 (s.goal : Int))
  have d0 := K.cell (i := 0) rfl; have d1 := K.cell (i := 1) rfl
  have K8 := Lib.hid (((below_trans HB0.out HB1.out).setCell (p := ⟨W.heap.size, 0, none⟩) (Nat.le_refl _) (.int .i64 2)).setCell (p := ⟨W.heap.size, 1, none⟩) (Nat.le_refl _) (.int .i64 (s.goal : Int)))
  clear K x0 x1 y0 y1
  generalize ((W1.setCell ⟨W.heap.size, 0, none⟩ (.int .i64 2)).setCell ⟨W.heap.size, 1, none⟩ (.int .i64 (s.goal : Int))) = W7 at *
  go_wp2_with fail
  exact bodyPost_ret (v := .tuple #[.agg #[.int .i64 2, .int .i64 (s.goal : Int)], .bool bb]) (by simp [results, Tryd.results61, go_sem, d0, d1]) rfl ⟨rfl, K8.out⟩
end Go.Dk
end
