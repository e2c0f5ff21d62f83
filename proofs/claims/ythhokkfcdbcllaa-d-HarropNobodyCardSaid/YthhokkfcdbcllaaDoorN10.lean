/- Parts of the proof: Qb. -/
import Derived.Test.YthhokkfcdbcllaaDoorN01
import Derived.Test.YthhokkfcdbcllaaDoorN02
import Derived.Test.YthhokkfcdbcllaaDoorN03
import Derived.Test.YthhokkfcdbcllaaDoorN04
import Derived.Test.YthhokkfcdbcllaaDoorN05
import Derived.Test.YthhokkfcdbcllaaDoorN06
import Derived.Test.YthhokkfcdbcllaaDoorN07
import Derived.Test.YthhokkfcdbcllaaDoorN08
import Derived.Test.YthhokkfcdbcllaaDoorN09
section
namespace Go.Dk
open Go.RowKit Go.Maps Go.MapKept
open Go.Proofs hiding intOf
theorem fold_size (l : List (Value × Nat)) : ∀ (cs : Array Value), (List.foldl (fun (cs : Array Value) (x : Value × Nat) => cs.setIfInBounds x.2 x.1) cs l).size = cs.size := by
  induction l with
  | nil => intro cs; rfl
  | cons x l ih => intro cs; rw [List.foldl_cons, ih]; simp
theorem fold_at (o : Nat) (vs : List Value) : ∀ (k : Nat) (cs : Array Value), o + k + vs.length ≤ cs.size → List.foldl (fun (cs : Array Value) (x : Value × Nat) => cs.setIfInBounds (o + x.2) x.1) cs (vs.zipIdx k) = (cs.toList.take (o + k) ++ vs ++ cs.toList.drop (o + k + vs.length)).toArray := by
  induction vs with
  | nil => intro k cs h; simp
  | cons v vs ih =>
    intro k cs h
    rw [List.zipIdx_cons, List.foldl_cons, ih (k + 1) _ (by simp at h ⊢; omega)]
    rw [Array.toList_setIfInBounds, show o + (k + 1) = o + k + 1 by omega, take_set _ _ _ (by simp at h ⊢; omega)]
    rw [List.drop_set_of_lt (by omega)]
    congr 1
    simp only [List.append_assoc, List.singleton_append, List.length_cons]
    rw [show o + k + 1 + vs.length = o + k + (vs.length + 1) by omega]
theorem fold_seq2 (m m2 : Nat) (g g2 : Int) (z : Array Value) (hz : z.size = 34) : List.foldl (fun (cs : Array Value) (x : Value × Nat) => cs.setIfInBounds (17 + x.2) x.1) (List.foldl (fun (cs : Array Value) (x : Value × Nat) => cs.setIfInBounds x.2 x.1) z (seqL m g).zipIdx) (seqL m2 g2).zipIdx = (seqL m g ++ seqL m2 g2).toArray := by
  have h1 := fold_at 0 (seqL m g) 0 z (by rw [seqL_len]; omega)
  simp only [Nat.zero_add] at h1
  rw [h1, fold_at 17 (seqL m2 g2) 0 _ (by simp [seqL_len, hz])]
  simp only [Nat.add_zero, List.take_zero, List.nil_append, seqL_len]
  rw [List.take_append_of_le_length (by rw [seqL_len]; omega), List.take_of_length_le (by rw [seqL_len]; omega)]
  rw [List.drop_of_length_le (by simp [seqL_len, hz]), List.append_nil]
theorem cell_j {W : World} {g r : Nat} (h : W.cell? ⟨g, 0, none⟩ = some (.int .i64 (r : Int))) : ∀ j (h : j < [r].length), W.cell? ⟨g, 0 + j, none⟩ = some (.int .i64 (([r][j] : Nat) : Int)) := fun j hj => by
  obtain rfl : j = 0 := by simpa using hj
  exact h
theorem cell_past {W W' : World} (hb : Below W.heap.size W W') {a : Addr} {v : Value} (h : W.cell? a = some v) : W'.cell? a = some v := (hb.cell (World.block_lt_of_cell? _ _ h)).trans h
theorem below_dr (w : World) : Below w.heap.size w w.drew := ⟨rfl, rfl, rfl, Nat.le_refl _, fun _ _ => rfl⟩
theorem cell_dr {W : World} {a : Addr} {v : Value} (h : W.cell? a = some v) : W.drew.cell? a = some v := cell_past (below_dr W) h
theorem cell_new1 {W : World} {v : Value} {T : TypeId} {n : Nat} (h : n = W.heap.size) : (W.alloc (.cells #[v] T)).cell? ⟨n, 0, none⟩ = some v := h ▸ World.cell?_alloc_at _ _ _ _ rfl
/-- A later world, in one word. -/
def Aft (W W' : World) : Prop := Below W.heap.size W W'
/-- A value that can be loaded, as a function of the world: for loads of structs in drawn regions. -/
def LoadsV (T : TypeId) (W : World) (p v : Value) : Prop := (Instr.loadAt T p).run Tryd.prog W = .ok v W
def Loadable (T : TypeId) (W : World) (p : Value) : Prop := ∃ v, LoadsV T W p v
open Classical in
noncomputable def loadV (T : TypeId) (W : World) (p : Value) : Value := if h : Loadable T W p then Classical.choose h else undef
/-- The load of a sequent, under a name that the walk does not open. -/
def seqLoad (p : Value) : _root_.Go.Sem Value := Instr.loadAt 81 p
theorem load_fold (p : Value) : Instr.loadAt 81 p = seqLoad p := rfl
theorem load_seqV {W : World} {p : Value} (h : Loadable 81 W p) : (seqLoad p).run Tryd.prog W = .ok (loadV 81 W p) W := by
  unfold loadV
  rw [dif_pos h]
  exact Classical.choose_spec h
theorem loadV_is {T : TypeId} {W : World} {p v : Value} (h : LoadsV T W p v) : Loadable T W p ∧ loadV T W p = v := by
  have h1 : Loadable T W p := ⟨v, h⟩
  refine ⟨h1, ?_⟩
  unfold loadV
  rw [dif_pos h1]
  have h2 := Classical.choose_spec h1
  have h3 := Eq.trans (Eq.symm h2) h
  injection h3
theorem BoxB.loads {W : World} {b m : Nat} {g : Int} {T : TypeId} (h : BoxB W b (seqL m g) T) : LoadsV 81 W (.pointer (some ⟨b, 0, none⟩)) (.agg (seqL m g).toArray) := by
  obtain ⟨d, hu, hd⟩ := uSeq
  exact run_loadAt_mid (P := Tryd.prog) W b 0 81 (seqL m g) d (h.range (by simp)) hu hd (by rw [seqL_len]; exact iSeq)
attribute [local go_sem ↓] load_fold
attribute [local go_sem] load_seqV
set_option maxRecDepth 100000 in
set_option maxHeartbeats 2000000 in
theorem prem9_any (k : Nat) (ow : Own) (w : World) (t : Value) (rows : List ND) (h : Tab k ow w t rows) (s : SQ) (main : Nat) (hm : main < rows.length) (kd : Int) (nm : ByteArray) (l r : Nat) (hx : rowAt rows main = ⟨kd, nm, (l : Int), (r : Int)⟩) (hl : l < 1024) (hr : r < 1024) :
    Calls Tryd.prog 55 #[t, .agg (seqL s.left s.goal).toArray, .int .i64 9, .int .i64 (main : Int)] w fun e w' => ∃ b, e = .returned (.tuple #[.slice (some ⟨b, 0, none⟩) 2 2, .int .i64 0]) ∧ w.heap.size ≤ b ∧ BoxB w' b (seqL s.left (l : Int) ++ seqL s.left (r : Int)) 81 ∧ Below w.heap.size w w' := by
  have HB0 := Lib.hid (below_alloc w (.cells (seqL s.left s.goal).toArray 81))
  have HQ0 := Lib.hid (BoxB.new w (seqL s.left s.goal) 81)
  have HN1 := Lib.hid (rnode_is k ow w t rows h main hm _ hx)
  have HL := Lib.hid hl
  have HR := Lib.hid hr
  clear hr hl
  obtain ⟨y, hy⟩ : ∃ n, nodeAt rows (l : Int) = n := ⟨_, rfl⟩
  have HN2 : Hid (∀ W, Below w.heap.size w W → Calls Tryd.prog 66 #[t, .int .i64 (l : Int)] W fun e w' => e = .returned (.agg y.cells.toArray) ∧ Below W.heap.size W w') := fun W hb => hy ▸ rnode_any k ow W t rows (h.below hb) (l : Int)
  obtain ⟨kd2, nm2, l2, r2⟩ := y
  have hmx : main < 1024 := Nat.lt_of_lt_of_le hm h.ok.le
  have HM := Lib.hid hmx
  simp only at HN1
  clear h hx hy hmx hm
  go_enter Tryd.func55, Tryd.ntmps55
  go_wp2_with (first
    | (go_at_call 66; refine (HN1.out _ HB0.out).mono ?_; rintro e W1 ⟨rfl, hb1⟩; have HB1 := Lib.hid (below_trans HB0.out hb1); have HQ1 := Lib.hid (HQ0.out.below hb1); clear hb1 HN1)
    | (refine wp_storeRow rNode (.tmp 10) (.tmp 21) rfl rfl rfl (ys := (ND.mk kd nm (l : Int) (r : Int)).cells) rfl (BoxB.new W1 zeroN.cells 45) rfl rfl (cells_one _) ?_; intro W2 hb2 ho2; have c2 := hb2.cell (i := 2) rfl; have HX2 := Lib.hid hb2; have HB12 := Lib.hid ((below_alloc W1 _).trans (ho2.below (Nat.le_refl _))); have HB2 := Lib.hid (HB1.out.trans (HB12.out.mono HB1.out.size)); have HQ2 := Lib.hid (HQ1.out.below HB12.out); clear hb2 ho2; simp only at c2)
    | (go_at_call 66; refine (HN2.out _ HB2.out).mono ?_; rintro e W3 ⟨rfl, hb3⟩; have HB3 := Lib.hid (below_trans HB2.out hb3); have HQ3 := Lib.hid (HQ2.out.below hb3); have HX3 := Lib.hid (HX2.out.below hb3); clear hb3 c2)
    | (refine wp_storeRow rNode (.tmp 11) (.tmp 25) rfl rfl rfl (ys := (ND.mk kd2 nm2 l2 r2).cells) rfl (BoxB.new W3 zeroN.cells 45) rfl rfl (cells_one _) ?_; intro W4 hb4 ho4; have HY4 := Lib.hid hb4; have HB34 := Lib.hid ((below_alloc W3 _).trans (ho4.below (Nat.le_refl _))); have HB4 := Lib.hid (HB3.out.trans (HB34.out.mono HB3.out.size)); have HQ4 := Lib.hid (HQ3.out.below HB34.out); have HX4 := Lib.hid (HX3.out.below HB34.out); clear hb4 ho4)
    | (refine wp_loadSeq (.tmp 5) rfl rfl rfl HQ4.out ?_)
    | (refine wp_storeSeq (.tmp 12) (.tmp 26) rfl rfl rfl rfl (BoxB.new W4 (seqL 0 0) 81) (seqL_len _ _) ?_; intro W5 hb5 ho5; have HR5 := Lib.hid hb5; have HB45 := Lib.hid ((below_alloc W4 _).trans (ho5.below (Nat.le_refl _))); have HB5 := Lib.hid (HB4.out.trans (HB45.out.mono HB4.out.size)); have HQ5 := Lib.hid (HQ4.out.below HB45.out); have HX5 := Lib.hid (HX4.out.below HB45.out); have HY5 := Lib.hid (HY4.out.below HB45.out); have HZ4 := Lib.hid HB4.out.size; have HZ5 := Lib.hid HB45.out.size; clear hb5 ho5)
    | (refine wp_loadLeft (.tmp 27) rfl rfl rfl HQ5.out ?_)
    | (go_at_call 71; refine (drop_any W5 s.left main HM.out).mono ?_; rintro e W6 ⟨rfl, hb6⟩; have HB6 := Lib.hid (HB5.out.trans (hb6.mono HB5.out.size)); have HR6 := Lib.hid (HR5.out.below hb6); have HQ6 := Lib.hid (HQ5.out.below hb6); have HX6 := Lib.hid (HX5.out.below hb6); have HY6 := Lib.hid (HY5.out.below hb6); clear hb6)
    | (refine wp_storeLeft (.tmp 31) (.tmp 30) rfl rfl rfl rfl HR6.out ?_; intro W7 hb7 ho7; have HR7 := Lib.hid hb7; have HX7 := Lib.hid (HX6.out.only ho7 (Nat.ne_of_lt HX4.out.lt)); have HQ7 := Lib.hid (HQ6.out.only ho7 (Nat.ne_of_lt HQ4.out.lt)); have c7 := HX7.out.cell (i := 3) rfl; have c6 := HX7.out.cell (i := 2) rfl; have HB7 := Lib.hid (HB6.out.trans (ho7.below HZ4.out)); clear hb7 ho7; simp only at c7 c6))
  have HK : Hid (∀ W', Below W7.heap.size W7 W' → Aft W7 W') := fun W' hb => hb
  have hld : ∀ W', Aft W7 W' → Loadable 81 W' (.pointer (some ⟨w.heap.size, 0, none⟩)) := fun W' hb => (loadV_is (HQ7.out.below hb).loads).1
  have hlv : ∀ W', Aft W7 W' → loadV 81 W' (.pointer (some ⟨w.heap.size, 0, none⟩)) = _ := fun W' hb => (loadV_is (HQ7.out.below hb).loads).2
  have hcl0 : ∀ W', Aft W7 W' → W'.cell? ⟨W1.heap.size, 2, none⟩ = some (.int .i64 (l : Int)) := fun W' hb => (HX7.out.below hb).cell (i := 2) rfl
  have hcl1 : ∀ W', Aft W7 W' → W'.cell? ⟨W1.heap.size, 3, none⟩ = some (.int .i64 (r : Int)) := fun W' hb => (HX7.out.below hb).cell (i := 3) rfl
  have HD := Lib.hid (below_drewN W7 1)
  have hfs : ∀ (l : List (Value × Nat)) (cs : Array Value), (List.foldl (fun (cs : Array Value) (x : Value × Nat) => cs.setIfInBounds x.2 x.1) cs l).size = cs.size := fold_size
  clear c6 c7
  as_aux_lemma =>
    go_region_held3 (fun W' => Aft W7 W')
      (((refine HK.out _ ?_; repeat (with_reducible first | exact Below.refl _ _ | exact HD.out | exact HB9.out | exact HB8.out | refine below_trans ?_ (below_alloc _ _) | refine below_trans ?_ (below_dr _)))))
      (first
        | (go_at_call 76; refine (to_any _ s.left s.goal (l : Int)).mono ?_; rintro e W8 ⟨rfl, hb8⟩; have HB8 : Hid (Below W7.heap.size W7 W8) := below_trans (by repeat (with_reducible first | exact Below.refl _ _ | exact HD.out | refine below_trans ?_ (below_alloc _ _) | refine below_trans ?_ (below_dr _))) hb8; have hsl := seqL_len s.left (l : Int); clear hb8)
        | (go_at_call 76; refine (to_any _ s.left s.goal (r : Int)).mono ?_; rintro e W9 ⟨rfl, hb9⟩; have HB9 : Hid (Below W7.heap.size W7 W9) := below_trans (by repeat (with_reducible first | exact Below.refl _ _ | exact HD.out | exact HB8.out | refine below_trans ?_ (below_alloc _ _) | refine below_trans ?_ (below_dr _))) hb9; have hsl2 := seqL_len s.left (r : Int); clear hb9))
    all_goals
      as_aux_lemma =>
      go_wp2_with fail
      rw [fold_seq2 _ _ _ _ _ rfl]
      exact bodyPost_ret (v := .tuple #[.slice (some ⟨W9.heap.size, 0, none⟩) 2 2, .int .i64 0]) (by simp [results, Tryd.results55, go_sem]) rfl ⟨W9.heap.size, rfl, (below_trans HB7.out HB9.out).size, BoxB.new W9 _ _, below_trans (below_trans HB7.out HB9.out) (below_alloc _ _)⟩
end Go.Dk
end
