/- Parts of the proof: Hd, He, Hf, Hg. -/
import Derived.Deep.DeepCutAuto
import Derived.Deep.CutBlock
import Derived.Deep.RegionLaw
import Derived.Deep.RegionHeld3
import Derived.ArgAppend
import Derived.Outline
import Derived.IntWalk
import Derived.BigQuiet
import Derived.Deep.QuietTactic
import Derived.Test.YthhokkfcdbcllaaDoorN01
import Derived.Test.YthhokkfcdbcllaaDoorN02
import Derived.Test.YthhokkfcdbcllaaDoorN03
import Derived.Test.YthhokkfcdbcllaaDoorN04
import Derived.Test.YthhokkfcdbcllaaDoorN05
import Derived.Test.YthhokkfcdbcllaaDoorN06
import Derived.Test.YthhokkfcdbcllaaDoorN07
import Derived.Test.YthhokkfcdbcllaaDoorN08
import Derived.Test.YthhokkfcdbcllaaDoorN09
import Derived.Test.YthhokkfcdbcllaaDoorN10
import Derived.Test.YthhokkfcdbcllaaDoorN11
import Derived.Test.YthhokkfcdbcllaaDoorN12
import Derived.Test.YthhokkfcdbcllaaDoorN13
import Derived.Test.YthhokkfcdbcllaaDoorN14
import Derived.Test.YthhokkfcdbcllaaDoorN15
section
namespace Go.Dk
open Go.RowKit Go.Maps Go.MapKept Go.Shelf
open Go.Proofs hiding intOf
/-- A sequent's building, under a name that the walk does not open. -/
def seqBuild (parts : Array (Nat × Value)) : _root_.Go.Sem Value := Instr.build 81 parts
theorem buildSeq_fold (parts : Array (Nat × Value)) : Instr.build 81 parts = seqBuild parts := rfl
set_option maxRecDepth 100000 in
theorem build_seq (W : World) (m : Nat) (g : Int) : (seqBuild #[(0, .agg (bitsV m).toArray), (1, .int .i64 g)]).run Tryd.prog W = .ok (.agg (seqL m g).toArray) W := by
  have hsl := bitsV_len m
  have hfs : ∀ (l : List (Value × Nat)) (cs : Array Value), (List.foldl (fun (cs : Array Value) (x : Value × Nat) => cs.setIfInBounds x.2 x.1) cs l).size = cs.size := fold_size
  have hpre : ∀ z : Array Value, 16 ≤ z.size → List.foldl (fun (cs : Array Value) (x : Value × Nat) => cs.setIfInBounds x.2 x.1) z (bitsV m).zipIdx = (bitsV m ++ z.toList.drop 16).toArray := fun z hz => by
    have h := fold_at 0 (bitsV m) 0 z (by rw [bitsV_len]; omega)
    simp only [Nat.zero_add, List.take_zero, List.nil_append, bitsV_len] at h
    exact h
  unfold seqBuild
  simp [go_sem, Instr.build, Instr.fill, hsl, hfs]
  rw [hpre _ (by decide)]
  simp [seqL, bitsV_len]
set_option maxRecDepth 100000 in
set_option maxHeartbeats 1000000 in
theorem of_none (w : World) (a : Option Addr) (c : Nat) : Calls Tryd.prog 27 #[.slice a 0 c] w fun e w' => e = .returned (.tuple #[.agg (bitsV 0).toArray, .int .i64 0]) ∧ Below w.heap.size w w' := by
  have HZ : Hid (BoxB ((w.alloc (.cells zeroV.toArray 72)).alloc (.cells zeroV.toArray 72)) w.heap.size zeroV 72 ∧ BoxB ((w.alloc (.cells zeroV.toArray 72)).alloc (.cells zeroV.toArray 72)) (w.heap.size + 1) (bitsV 0) 72 ∧ Below w.heap.size w ((w.alloc (.cells zeroV.toArray 72)).alloc (.cells zeroV.toArray 72))) := by
    refine ⟨(BoxB.new w zeroV _).below (below_alloc _ _), ?_, below_trans (below_alloc _ _) (below_alloc _ _)⟩
    have := BoxB.new (w.alloc (.cells zeroV.toArray 72)) zeroV 72
    simpa [zeroV] using this
  go_enter Tryd.func27, Tryd.ntmps27
  go_wp2_with fail
  rw [show (#[.int .u64 0, .int .u64 0, .int .u64 0, .int .u64 0, .int .u64 0, .int .u64 0, .int .u64 0, .int .u64 0, .int .u64 0, .int .u64 0, .int .u64 0, .int .u64 0, .int .u64 0, .int .u64 0, .int .u64 0, .int .u64 0] : Array Value) = zeroV.toArray from rfl]
  generalize ((w.alloc (.cells zeroV.toArray 72)).alloc (.cells zeroV.toArray 72)) = W0 at *
  go_loopw [9] (fun i W => i = .int .i64 0 ∧ W = W0) (fun _ _ => 0)
  case atStart => exact ⟨rfl, rfl⟩
  case round =>
    obtain ⟨rfl, rfl⟩ := hrel
    go_wp2_with (first
      | (refine wp_loadBits (.tmp 4) rfl rfl rfl HZ.out.2.1 ?_)
      | (refine wp_storeBits (.tmp 2) (.tmp 27) rfl rfl rfl rfl HZ.out.1 (by simp [zeroV, bitsV]) ?_; intro W7 hb7 ho7; have K7 := Lib.hid hb7; have K8 := Lib.hid (HZ.out.2.2.trans (ho7.below (Nat.le_refl _))); clear hb7 ho7))
    exact bodyPost_ret (results_bits2 rfl rfl rfl K7.out) rfl ⟨rfl, K8.out⟩
theorem natsOf_get {zs : List Int} {j : Nat} (h : j < (natsOf zs).length) (hz : ∀ z ∈ zs, 0 ≤ z) : ∃ z, zs[j]? = some z ∧ z = (((natsOf zs)[j] : Nat) : Int) := by
  have hj : j < zs.length := by simpa [natsOf] using h
  refine ⟨zs[j], List.getElem?_eq_getElem hj, ?_⟩
  have := hz _ (List.getElem_mem hj)
  simp only [natsOf, List.getElem_map]
  omega
/-- Of, of a row of numbers that can be read. -/
theorem of_all (w : World) (v : Value) (zs : List Int) (hr : Rd w v zs.length 1 (ints zs)) (hl : zs.length < 2 ^ 62) (hz : ∀ z ∈ zs, 0 ≤ z ∧ z < 1024) :
    Calls Tryd.prog 27 #[v] w fun e w' => e = .returned (.tuple #[.agg (bitsV (maskOf (natsOf zs))).toArray, .int .i64 0]) ∧ Below w.heap.size w w' := by
  by_cases h0 : zs = []
  · subst h0
    obtain ⟨a, c, rfl⟩ := hr.slice
    exact of_none w a c
  · have hp : 0 < zs.length := List.length_pos_iff.2 h0
    obtain ⟨b, o, c, rfl, hc⟩ := hr.some hp
    have hn : (natsOf zs).length = zs.length := by simp [natsOf]
    have := of_any w b o c (natsOf zs) (by omega) (fun n hn => by obtain ⟨z, hz', rfl⟩ := List.mem_map.1 hn; have := hz z hz'; omega) (fun j hj => by
      obtain ⟨z, h1, h2⟩ := natsOf_get hj (fun z h => (hz z h).1)
      rw [← h2]
      exact hc j _ (by simp [ints, h1]))
    rwa [hn] at this
/-- What asker hands out, at its box. -/
def askV (cb : Nat) : Value := .func (.func 26) #[] #[.pointer (some ⟨cb, 0, none⟩)]
structure Asks (F : FP) (W : World) (cb : Nat) (c : Value) (rows : List ND) : Prop where
  cell : W.cell? ⟨cb, 0, none⟩ = some c
  tab : TabF F W c rows
  out : ¬ F cb
theorem Asks.below {F : FP} {W W' : World} {cb : Nat} {c : Value} {rows : List ND} (h : Asks F W cb c rows) (hb : Below W.heap.size W W') : Asks F W' cb c rows :=
  ⟨(hb.cell (World.block_lt_of_cell? _ _ h.cell)).trans h.cell, h.tab.below hb, h.out⟩
theorem Asks.put {F F' : FP} {W W' : World} {cb : Nat} {c : Value} {rows rows' : List ND} (h : Asks F W cb c rows) (hk : KeptF F W F' W') (ht : TabF F' W' c rows') : Asks F' W' cb c rows' :=
  ⟨hk.cell h.cell h.out, ht, fun hf => h.out (hk.sub _ (World.block_lt_of_cell? _ _ h.cell) hf)⟩
def AskerPost (w : World) (rows : List ND) (e : Ending) (w' : World) : Prop :=
  ∃ c cb F, e = .returned (.tuple #[c, askV cb]) ∧ Asks F w' cb c rows ∧ (∀ b, F b → w.heap.size ≤ b) ∧ w.heap.size ≤ cb ∧ Below w.heap.size w w'
set_option maxRecDepth 100000 in
set_option maxHeartbeats 1000000 in
theorem asker_any (F : FP) (w : World) (t : Value) (rows : List ND) (h : TabF F w t rows) : Calls Tryd.prog 15 #[t] w (AskerPost w rows) := by
  have H := Lib.hid h
  clear h
  go_enter Tryd.func15, Tryd.ntmps15
  go_wp2_with (go_at_call 25; refine (copy_F H.out).mono ?_; rintro e w2 ⟨c, F2, rfl, ht2, hn2, hb2⟩; obtain ⟨pc, rfl⟩ : ∃ pc, c = .pointer (some ⟨pc, 0, none⟩) := (by obtain ⟨pc, _, _, e, _⟩ := ht2.col 0; exact ⟨pc, e⟩); have HT2 := Lib.hid ht2; have HN2 := Lib.hid hn2; have HB2 := Lib.hid hb2; clear ht2 hn2 hb2)
  go_ret2
  exact ⟨_, w2.heap.size, F2, rfl, ⟨World.cell?_alloc_at _ _ _ _ rfl, HT2.out.below (below_alloc _ _), fun hf => by have := HT2.out.in_ _ hf; omega⟩, HN2.out, HB2.out.size, below_trans HB2.out (below_alloc _ _)⟩
attribute [local go_sem ↓] buildSeq_fold
/-- What the asked search answers. -/
theorem askV_err {rows : List ND} {ns : List Nat} {g : Nat} {r : SA} (hr : askR rows ns g = r) (h : r.err = 0) : askB rows ns g = provedAt r.st r.at_ ∧ askE rows ns g = 0 := by
  unfold askB askE; rw [hr, h]; simp
theorem askV_bad {rows : List ND} {ns : List Nat} {g : Nat} {r : SA} (hr : askR rows ns g = r) (h : r.err ≠ 0) : askB rows ns g = false ∧ askE rows ns g = 110 := by
  unfold askB askE; rw [hr, if_neg h]; simp [h]
theorem ask_below {W3 W W5 : World} {F F5 : FP} (h : Aft W3 W) (hk : KeptF F W F5 W5) (hn : ∀ b, F b → W3.heap.size ≤ b) : Below W3.heap.size W3 W5 :=
  h.trans (hk.below h.size fun b hb hf => by have := hn b hf; omega)
set_option maxRecDepth 100000 in
set_option maxHeartbeats 4000000 in
theorem ask_any (F : FP) (w : World) (cb : Nat) (c : Value) (rows : List ND) (h : Asks F w cb c rows) (hT : TabG w) (v : Value) (zs : List Int) (hv : Rd w v zs.length 1 (ints zs)) (hl : zs.length < 2 ^ 62) (hz : ∀ z ∈ zs, hasB rows.length z = true) (g : Nat) (hg : g < rows.length) :
    Calls Tryd.prog 26 #[v, .int .i64 (g : Int), .pointer (some ⟨cb, 0, none⟩)] w fun e w' => e = .returned (.tuple #[.bool (askB rows (natsOf zs) g), .int .i64 (askE rows (natsOf zs) g)]) ∧ Below w.heap.size w w' := by
  have hok := h.tab.ok
  have hle := hok.le
  have H := Lib.hid h
  have HT := Lib.hid hT
  have HOF := Lib.hid (of_all w v zs hv hl (fun z hz' => by obtain ⟨n, rfl, hn⟩ := nat_of_has (hz z hz'); omega))
  have HW : Hid (Wf rows ⟨maskOf (natsOf zs), g⟩) := wf_mask (fun n hn => by obtain ⟨z, hz', rfl⟩ := List.mem_map.1 hn; obtain ⟨k, rfl, hk⟩ := nat_of_has (hz z hz'); simpa using hk) hg
  have H0 : Hid (0 < w.heap.size) := World.block_lt_of_cell? _ _ (hT 0 (by omega))
  obtain ⟨r, hr⟩ : ∃ r, r = askR rows (natsOf zs) g := ⟨_, rfl⟩
  have HR := Lib.hid hr.symm
  have HBS := Lib.hid (fun W => build_seq W (maskOf (natsOf zs)) (g : Int))
  generalize hm : maskOf (natsOf zs) = m at *
  have HM := Lib.hid hm
  clear h hT hv hz hr hok hm hle
  go_enter Tryd.func26, Tryd.ntmps26
  have HZ : Hid (∀ W : World, BoxB (W.alloc (.cells #[.int .u64 0, .int .u64 0, .int .u64 0, .int .u64 0, .int .u64 0, .int .u64 0, .int .u64 0, .int .u64 0, .int .u64 0, .int .u64 0, .int .u64 0, .int .u64 0, .int .u64 0, .int .u64 0, .int .u64 0, .int .u64 0] 72)) W.heap.size zeroV 72) := fun W => BoxB.new W zeroV 72
  go_wp2_with (first
    | (go_at_call 27; refine HOF.out.mono ?_; rintro e w2 ⟨rfl, hb2⟩; have HB2 := Lib.hid hb2; clear hb2)
    | (refine wp_storeBits (.tmp 7) (.tmp 14) rfl rfl rfl rfl (HZ.out w2) (by simp [zeroV, bitsV]) ?_; intro W3 hb3 ho3; have HX3 := Lib.hid hb3; have HB3 := Lib.hid (below_trans HB2.out ((below_alloc _ _).trans (ho3.below (Nat.le_refl _)))); have HS3 : Hid (W3.heap.size = w2.heap.size + 1) := (by unfold Hid; rw [ho3.size]; simp); clear hb3 ho3))
  have HA3 := Lib.hid (H.out.below HB3.out)
  have HTG := Lib.hid (HT.out.below HB3.out)
  clear HB2 HOF HZ HS3
  generalize w2.heap.size = xb at *
  have hu : Tryd.prog.underlying 72 = some (.array 16 70) := by kernel_rfl
  have hi : (Tryd.prog.info? 72).map (·.size) = some (bitsV m).length := by rw [bitsV_len]; exact iBits
  have HC : Hid (∀ W', Below W3.heap.size W3 W' → Aft W3 W' ∧ W'.cell? ⟨cb, 0, none⟩ = some c ∧ W'.rangeAt xb 0 (bitsV m)) := fun W' hb => ⟨hb, (HA3.out.below hb).cell, (HX3.out.below hb).range (by simp)⟩
  have HD : Hid (Below W3.heap.size W3 (W3.drewN 1)) := below_drewN W3 1
  have hbs := HBS.out
  have HCP : Hid (∀ W', Below W3.heap.size W3 W' → Calls Tryd.prog 25 #[c] W' fun e w' => ∃ c' F', e = .returned c' ∧ TabF F' w' c' rows ∧ (∀ b, F' b → W'.heap.size ≤ b) ∧ Below W'.heap.size W' w') := fun W' hb => copy_F (HA3.out.tab.below hb)
  have HRUN : Hid (∀ (W' : World) (F' : FP) (c' : Value), Below W3.heap.size W3 W' → TabF F' W' c' rows → (∀ b, F' b → W3.heap.size ≤ b) → Calls Tryd.prog 28 #[c', .agg (seqL m (g : Int)).toArray, .int .i64 4096] W' (RunPost F' W' c' rows 4096 r)) := fun W' F' c' hb ht hn => by
    have h0 : 0 < W3.heap.size := by have := H0.out; have := HB3.out.size; omega
    exact run_any F' W' c' rows ht (HTG.out.below hb) (fun hf => by have := hn 0 hf; omega) ⟨m, g⟩ HW.out 4096 (by omega) (by omega) r (by have := HR.out; unfold askR at this; rw [HM.out] at this; exact this)
  have HZE : Hid (∀ W : World, BoxB (W.alloc (.cells #[.bool false, .slice none 0 0, .int .i64 0] 77)) W.heap.size [.bool false, .slice none 0 0, .int .i64 0] 77) := fun W => BoxB.new W [.bool false, .slice none 0 0, .int .i64 0] 77
  by_cases hz : r.err = 0
  · have HZR := Lib.hid hz
    have HAE := Lib.hid (askV_err HR.out hz)
    clear hz
    go_region_held3 (fun W' => Aft W3 W' ∧ W'.cell? ⟨cb, 0, none⟩ = some c ∧ W'.rangeAt xb 0 (bitsV m))
      ((refine HC.out _ ?_; first | exact HD.out | exact HB4.out | exact HB5.out | exact below_trans (And.left (by assumption)) (below_alloc _ _) | exact below_trans HB5.out (below_alloc _ _) | exact ((HB5.out.setCell (p := ⟨W3.heap.size, 0, none⟩) (Nat.le_refl _) _).setCell (p := ⟨W3.heap.size, 1, none⟩) (Nat.le_refl _) _).setCell (p := ⟨W3.heap.size, 2, none⟩) (Nat.le_refl _) _ | exact ((HB5.out.setCell (p := ⟨W4.heap.size, 0, none⟩) HB4.out.size _).setCell (p := ⟨W4.heap.size, 1, none⟩) HB4.out.size _).setCell (p := ⟨W4.heap.size, 2, none⟩) HB4.out.size _ | assumption))
      ((first
        | (go_at_call 25; refine (HCP.out ((W3.drew).alloc _) (And.left (by assumption))).mono ?_; rintro e W4 ⟨c', F4, rfl, ht4, hn4, hb4⟩; have HT4 := Lib.hid ht4; have HN4 : Hid (∀ b, F4 b → W3.heap.size ≤ b) := (fun b hb => (by have := hn4 b hb; simp at this; omega)); have HX4 : Hid (BoxB W4 W3.heap.size [.bool false, .slice none 0 0, .int .i64 0] 77 ∧ ¬ F4 W3.heap.size) := ⟨(HZE.out W3.drew).below hb4, fun hf => Nat.not_succ_le_self _ (by simpa using hn4 _ hf)⟩; have HB4 := Lib.hid (below_trans (below_trans HD.out (below_alloc _ _)) hb4); clear ht4 hn4 hb4)
        | (go_at_call 25; refine (HCP.out W3.drew (And.left (by assumption))).mono ?_; rintro e W4 ⟨c', F4, rfl, ht4, hn4, hb4⟩; have HT4 := Lib.hid ht4; have HN4 : Hid (∀ b, F4 b → W3.heap.size ≤ b) := (fun b hb => (by have := hn4 b hb; simp at this; omega)); have HB4 := Lib.hid (below_trans HD.out hb4); clear ht4 hn4 hb4)
        | (go_at_call 28; refine (HRUN.out W4 F4 _ (And.left (by assumption)) HT4.out HN4.out).mono ?_; rintro e W5 ⟨F5, hk5, hg5, _⟩; obtain ⟨sv, rfl, _, kvs, K5, _, hown5, _⟩ := hg5 HZR.out; obtain ⟨sa, sc, rfl⟩ := own_slice hown5; clear hown5 hg5; have HB5 := Lib.hid (ask_below (And.left (by assumption)) hk5 HN4.out); have x5 : BoxB W5 W3.heap.size [.bool false, .slice none 0 0, .int .i64 0] 77 := hk5.box HX4.out.1 HX4.out.2; have c50 := x5.cell (i := 0) rfl; have c51 := x5.cell (i := 1) rfl; have c52 := x5.cell (i := 2) rfl; have f50 := x5.fr 0; have f51 := x5.fr 1; have f52 := x5.fr 2; clear hk5)
        | (go_at_call 28; refine (HRUN.out W4 F4 _ (And.left (by assumption)) HT4.out HN4.out).mono ?_; rintro e W5 ⟨F5, hk5, hg5, _⟩; obtain ⟨sv, rfl, _, kvs, K5, _, hown5, _⟩ := hg5 HZR.out; obtain ⟨sa, sc, rfl⟩ := own_slice hown5; clear hown5 hg5; have HB5 := Lib.hid (ask_below (And.left (by assumption)) hk5 HN4.out); clear hk5)
        | (go_at_call 28; refine (HRUN.out (W4.alloc _) F4 _ (And.left (by assumption)) (HT4.out.below (below_alloc _ _)) HN4.out).mono ?_; rintro e W5 ⟨F5, hk5, hg5, _⟩; obtain ⟨sv, rfl, _, kvs, K5, _, hown5, _⟩ := hg5 HZR.out; obtain ⟨sa, sc, rfl⟩ := own_slice hown5; clear hown5 hg5; have HB5 := Lib.hid (ask_below (And.left (by assumption)) hk5 HN4.out); have x5 : BoxB W5 W4.heap.size [.bool false, .slice none 0 0, .int .i64 0] 77 := hk5.box (HZE.out W4) (fun hf => absurd (HT4.out.in_ _ hf) (Nat.lt_irrefl _)); have c50 := x5.cell (i := 0) rfl; have c51 := x5.cell (i := 1) rfl; have c52 := x5.cell (i := 2) rfl; have f50 := x5.fr 0; have f51 := x5.fr 1; have f52 := x5.fr 2; clear hk5)
        | fail))
    all_goals go_wp2_with fail
    all_goals go_ret2
    all_goals refine ⟨by rw [HAE.out.1, HAE.out.2]; rfl, ?_⟩
    all_goals first
      | exact below_trans HB3.out HB5.out
      | exact below_trans HB3.out (below_trans HB5.out (below_alloc _ _))
      | exact below_trans HB3.out (((HB5.out.setCell (p := ⟨W3.heap.size, 0, none⟩) (Nat.le_refl _) _).setCell (p := ⟨W3.heap.size, 1, none⟩) (Nat.le_refl _) _).setCell (p := ⟨W3.heap.size, 2, none⟩) (Nat.le_refl _) _)
      | exact below_trans HB3.out (((HB5.out.setCell (p := ⟨W4.heap.size, 0, none⟩) HB4.out.size _).setCell (p := ⟨W4.heap.size, 1, none⟩) HB4.out.size _).setCell (p := ⟨W4.heap.size, 2, none⟩) HB4.out.size _)
  · have HZR := Lib.hid hz
    have HAE := Lib.hid (askV_bad HR.out hz)
    have hz2 : (r.err != 0) = true := by simpa using hz
    clear hz
    go_region_held3 (fun W' => Aft W3 W' ∧ W'.cell? ⟨cb, 0, none⟩ = some c ∧ W'.rangeAt xb 0 (bitsV m))
      ((refine HC.out _ ?_; first | exact HD.out | exact HB4.out | exact HB5.out | exact below_trans (And.left (by assumption)) (below_alloc _ _) | exact below_trans HB5.out (below_alloc _ _) | exact ((HB5.out.setCell (p := ⟨W3.heap.size, 0, none⟩) (Nat.le_refl _) _).setCell (p := ⟨W3.heap.size, 1, none⟩) (Nat.le_refl _) _).setCell (p := ⟨W3.heap.size, 2, none⟩) (Nat.le_refl _) _ | exact ((HB5.out.setCell (p := ⟨W4.heap.size, 0, none⟩) HB4.out.size _).setCell (p := ⟨W4.heap.size, 1, none⟩) HB4.out.size _).setCell (p := ⟨W4.heap.size, 2, none⟩) HB4.out.size _ | assumption))
      ((first
        | (go_at_call 25; refine (HCP.out ((W3.drew).alloc _) (And.left (by assumption))).mono ?_; rintro e W4 ⟨c', F4, rfl, ht4, hn4, hb4⟩; have HT4 := Lib.hid ht4; have HN4 : Hid (∀ b, F4 b → W3.heap.size ≤ b) := (fun b hb => (by have := hn4 b hb; simp at this; omega)); have HX4 : Hid (BoxB W4 W3.heap.size [.bool false, .slice none 0 0, .int .i64 0] 77 ∧ ¬ F4 W3.heap.size) := ⟨(HZE.out W3.drew).below hb4, fun hf => Nat.not_succ_le_self _ (by simpa using hn4 _ hf)⟩; have HB4 := Lib.hid (below_trans (below_trans HD.out (below_alloc _ _)) hb4); clear ht4 hn4 hb4)
        | (go_at_call 25; refine (HCP.out W3.drew (And.left (by assumption))).mono ?_; rintro e W4 ⟨c', F4, rfl, ht4, hn4, hb4⟩; have HT4 := Lib.hid ht4; have HN4 : Hid (∀ b, F4 b → W3.heap.size ≤ b) := (fun b hb => (by have := hn4 b hb; simp at this; omega)); have HB4 := Lib.hid (below_trans HD.out hb4); clear ht4 hn4 hb4)
        | (go_at_call 28; refine (HRUN.out W4 F4 _ (And.left (by assumption)) HT4.out HN4.out).mono ?_; rintro e W5 ⟨F5, hk5, _, hb5'⟩; obtain ⟨rfl, _⟩ := hb5' HZR.out; have HB5 := Lib.hid (ask_below (And.left (by assumption)) hk5 HN4.out); have x5 : BoxB W5 W3.heap.size [.bool false, .slice none 0 0, .int .i64 0] 77 := hk5.box HX4.out.1 HX4.out.2; have c50 := x5.cell (i := 0) rfl; have c51 := x5.cell (i := 1) rfl; have c52 := x5.cell (i := 2) rfl; have f50 := x5.fr 0; have f51 := x5.fr 1; have f52 := x5.fr 2; clear hk5)
        | (go_at_call 28; refine (HRUN.out W4 F4 _ (And.left (by assumption)) HT4.out HN4.out).mono ?_; rintro e W5 ⟨F5, hk5, _, hb5'⟩; obtain ⟨rfl, _⟩ := hb5' HZR.out; have HB5 := Lib.hid (ask_below (And.left (by assumption)) hk5 HN4.out); clear hk5)
        | (go_at_call 28; refine (HRUN.out (W4.alloc _) F4 _ (And.left (by assumption)) (HT4.out.below (below_alloc _ _)) HN4.out).mono ?_; rintro e W5 ⟨F5, hk5, _, hb5'⟩; obtain ⟨rfl, _⟩ := hb5' HZR.out; have HB5 := Lib.hid (ask_below (And.left (by assumption)) hk5 HN4.out); have x5 : BoxB W5 W4.heap.size [.bool false, .slice none 0 0, .int .i64 0] 77 := hk5.box (HZE.out W4) (fun hf => absurd (HT4.out.in_ _ hf) (Nat.lt_irrefl _)); have c50 := x5.cell (i := 0) rfl; have c51 := x5.cell (i := 1) rfl; have c52 := x5.cell (i := 2) rfl; have f50 := x5.fr 0; have f51 := x5.fr 1; have f52 := x5.fr 2; clear hk5)
        | fail))
    all_goals go_wp2_with fail
    all_goals go_ret2
    all_goals refine ⟨by rw [HAE.out.1, HAE.out.2]; rfl, ?_⟩
    all_goals first
      | exact below_trans HB3.out HB5.out
      | exact below_trans HB3.out (below_trans HB5.out (below_alloc _ _))
      | exact below_trans HB3.out (((HB5.out.setCell (p := ⟨W3.heap.size, 0, none⟩) (Nat.le_refl _) _).setCell (p := ⟨W3.heap.size, 1, none⟩) (Nat.le_refl _) _).setCell (p := ⟨W3.heap.size, 2, none⟩) (Nat.le_refl _) _)
      | exact below_trans HB3.out (((HB5.out.setCell (p := ⟨W4.heap.size, 0, none⟩) HB4.out.size _).setCell (p := ⟨W4.heap.size, 1, none⟩) HB4.out.size _).setCell (p := ⟨W4.heap.size, 2, none⟩) HB4.out.size _)
end Go.Dk
end

section
namespace Go.Dk
open Go.RowKit Go.Maps Go.MapKept Go.Shelf
open Go.Proofs hiding intOf
/-- The blocks ahead of look, with one list of the caller's and one of one number. -/
structure DjF (w w3 : World) (v : Value) (zs : List Int) (goal : Int) : Prop where
  bel : Below w.heap.size w w3
  ls : ListsR w3 (.slice (some ⟨w.heap.size + 1, 0, none⟩) 2 2) [zs, [goal]]
theorem dj_frame (w : World) (v : Value) (zs : List Int) (goal : Int) (hv : Rd w v zs.length 1 (ints zs)) (hl : zs.length < 2 ^ 62) :
    DjF w ((w.alloc (.cells #[.int .i64 goal] 3)).alloc (.cells #[v, .slice (some ⟨w.heap.size, 0, none⟩) 1 1] 22)) v zs goal :=
  ⟨below_trans (below_alloc _ _) (below_alloc _ _),
   lists2 (rdH _ (by simp) _ _ rfl rfl) ((hv.below (below_alloc _ _)).below (below_alloc _ _)) (by omega) ((rdH (n := 1) (size := 1) w (b := w.heap.size) rfl #[.int .i64 goal] 3 rfl rfl).below (below_alloc _ _)) (by simp)⟩
theorem lookE_bad {rows : List ND} {zs : List Int} (h : ¬ lookE rows zs = 0) : lookE rows zs = 31 := by
  unfold lookE at h ⊢
  split
  · rename_i h1; rw [if_pos h1] at h; exact absurd rfl h
  · rfl
theorem flat2 (zs : List Int) (g : Int) : [zs, [g]].flatten = zs ++ [g] := by simp
theorem isP_yes {rows : List ND} {x : Nat} (h : x < rows.length) : isP rows (x : Int) = (harB rows x, 0) := by
  unfold isP; rw [if_pos (by simp [hasB, h])]; simp
def DjPost (w : World) (p : Int × Int) (e : Ending) (w' : World) : Prop := e = .returned (.tuple #[.int .i64 p.1, .int .i64 p.2]) ∧ Below w.heap.size w w'
theorem djPost_mk {w w' : World} {p : Int × Int} {a b : Int} (hp : p = (a, b)) (hb : Below w.heap.size w w') : DjPost w p (.returned (.tuple #[.int .i64 a, .int .i64 b])) w' := by
  subst hp; exact ⟨rfl, hb⟩
set_option maxRecDepth 100000 in
set_option maxHeartbeats 4000000 in
theorem disj_any (F : FP) (w : World) (t v : Value) (rows : List ND) (h : TabF F w t rows) (hT : TabG w) (zs : List Int) (hv : Rd w v zs.length 1 (ints zs)) (hl : zs.length < 2 ^ 62) (goal : Int) :
    Calls Tryd.prog 7 #[t, v, .int .i64 goal] w (DjPost w (disjP rows zs goal)) := by
  have H := Lib.hid h
  have HT := Lib.hid hT
  have HFR := Lib.hid (dj_frame w v zs goal hv hl)
  have HV := Lib.hid hv
  have HOK := Lib.hid h.ok
  have HLL := Lib.hid hl
  obtain ⟨va, vc, rfl⟩ := hv.slice
  clear h hT hv
  by_cases hE : lookE rows (zs ++ [goal]) = 0
  case neg =>
    have HE := Lib.hid (lookE_bad hE)
    have HP : Hid (disjP rows zs goal = (0, 31)) := by unfold Hid disjP; rw [if_pos hE]
    clear hE
    go_enter Tryd.func7, Tryd.ntmps7
    go_wp2_with fail
    generalize ((w.alloc (.cells #[.int .i64 goal] 3)).alloc (.cells #[.slice va zs.length vc, .slice (some ⟨w.heap.size, 0, none⟩) 1 1] 22)) = w3 at *
    refine (lookH_any 0 _ _ _ _ rows [zs, [goal]] ((H.out.col 0).below HFR.out.bel) HFR.out.ls (by simp)).mono ?_
    rintro e w4 ⟨rfl, hb4⟩
    rw [flat2, HE.out]
    have HB4 := Lib.hid (below_trans HFR.out.bel hb4)
    clear hb4
    go_wp2_with fail
    go_ret2
    exact djPost_mk HP.out HB4.out
  case pos =>
    have HE := Lib.hid hE
    have hall := look_all hE
    have hgz := hall goal (by simp)
    obtain ⟨g, rfl, hg⟩ := nat_of_has hgz
    have HZ : Hid (∀ z ∈ zs, hasB rows.length z = true) := fun z hz => hall z (by simp [hz])
    have HG := Lib.hid hg
    have HR := Lib.hid (rowAt_get hg)
    clear hall hgz hg
    obtain ⟨n, hn⟩ : ∃ n, n = rowAt rows g := ⟨_, rfl⟩
    have HN := Lib.hid hn.symm
    rw [← hn] at HR
    clear hn
    go_enter Tryd.func7, Tryd.ntmps7
    go_wp2_with fail
    generalize ((w.alloc (.cells #[.int .i64 (g : Int)] 3)).alloc (.cells #[.slice va zs.length vc, .slice (some ⟨w.heap.size, 0, none⟩) 1 1] 22)) = w3 at *
    refine (lookH_any 0 _ _ _ _ rows [zs, [(g : Int)]] ((H.out.col 0).below HFR.out.bel) HFR.out.ls (by simp)).mono ?_
    rintro e w4 ⟨rfl, hb4⟩
    rw [flat2, HE.out]
    have HB4 := Lib.hid (below_trans HFR.out.bel hb4)
    clear hb4
    have HBX : Hid (∀ W : World, Boxed (W.alloc (.cells #[.int .i64 n.kind, .string n.name, .int .i64 n.l, .int .i64 n.r] 45)) W.heap.size n) := fun W => boxed_new W n _
    obtain ⟨nk, nn, nl, nr⟩ := n
    simp only at HBX
    by_cases h4 : nk = 4
    case neg =>
      have g4 : (nk != 4) = true := by simpa using h4
      have HP : Hid (disjP rows zs (g : Int) = (0, 270)) := by
        unfold Hid disjP
        rw [if_neg (by simpa using HE.out), if_pos]
        simpa [HN.out] using h4
      clear h4
      go_wp2_with (go_at_call 14; refine (node_yes 0 _ _ _ _ ((H.out.col 0).below HB4.out) _ _ HR.out).mono ?_; rintro e w5 ⟨rfl, hb5⟩; have HB5 := Lib.hid (below_trans HB4.out hb5); clear hb5)
      go_ret2
      exact djPost_mk HP.out (below_trans HB5.out (below_alloc _ _))
    case pos =>
      subst h4
      have HK4 : Hid ((rowAt rows (g : Int).toNat).kind = 4) := by unfold Hid; simp [HN.out]
      go_wp2_with (go_at_call 14; refine (node_yes 0 _ _ _ _ ((H.out.col 0).below HB4.out) _ _ HR.out).mono ?_; rintro e w5 ⟨rfl, hb5⟩; have HB5 := Lib.hid (below_trans HB4.out hb5); clear hb5)
      have HX6 := Lib.hid (HBX.out w5)
      have HB6 := Lib.hid (below_trans HB5.out (below_alloc w5 (.cells #[.int .i64 4, .string nn, .int .i64 nl, .int .i64 nr] 45)))
      generalize hw6 : w5.alloc (.cells #[.int .i64 4, .string nn, .int .i64 nl, .int .i64 nr] 45) = w6 at *
      clear hw6 HB5
      generalize w5.heap.size = nb at *
      go_loopw [41] (fun u W => ∃ j : Nat, j ≤ zs.length ∧ u = .int .i64 (j : Int) ∧ ((zs.take j).all fun z => harB rows z.toNat) = true ∧ Below w6.heap.size w6 W) (fun u _ => zs.length - (intOf u).toNat)
      case atStart => exact ⟨0, Nat.zero_le _, rfl, by simp, Below.refl _ _⟩
      case round =>
        obtain ⟨j, hj, rfl, hall, hb⟩ := hrel
        have HA := Lib.hid hall; have HB := Lib.hid hb
        clear hall hb
        by_cases hlt : j < zs.length
        · as_aux_lemma =>
          obtain ⟨b, o, c1, z, he, hc1, hzk⟩ := ints_at ((HV.out.below HB6.out).below HB.out) hlt
          cases he
          have hji : (j : Int) < (zs.length : Int) := by omega
          have HS := Lib.hid (all_take (p := fun z => harB rows z.toNat) hzk)
          obtain ⟨x, rfl, hx⟩ := nat_of_has (HZ.out z (List.mem_of_getElem? hzk))
          have HI := Lib.hid (is_any F wr t rows (H.out.below (below_trans HB6.out HB.out)) (x : Int))
          rw [isP_yes hx] at HI
          cases hh : harB rows x with
          | true =>
            rw [hh] at HI
            have HAA : Hid (((zs.take (j + 1)).all fun z => harB rows z.toNat) = true) := by unfold Hid; rw [HS.out, HA.out]; simpa using hh
            clear hh hzk hx
            have HL2 := HLL.out
            go_wp2_with (go_at_call 6; refine HI.out.mono ?_; rintro e w7 ⟨rfl, hb7⟩; have HB7 := Lib.hid (below_trans HB.out hb7); clear hb7)
            exact ⟨⟨j + 1, by omega, by go_num, HAA.out, HB7.out⟩, by simp [intOf]; omega⟩
          | false =>
            rw [hh] at HI
            have HP : Hid (disjP rows zs (g : Int) = (0, 270)) := by
              unfold Hid disjP
              rw [if_neg (by simpa using HE.out), if_neg (by simpa using HK4.out), if_pos]
              rw [List.all_eq_false]
              exact ⟨_, List.mem_of_getElem? hzk, by simpa using hh⟩
            clear hh hzk hx
            go_wp2_with (go_at_call 6; refine HI.out.mono ?_; rintro e w7 ⟨rfl, hb7⟩; have HB7 := Lib.hid (below_trans HB.out hb7); clear hb7)
            go_ret2
            exact djPost_mk HP.out (below_trans HB6.out HB7.out)
        · obtain rfl : j = zs.length := by omega
          have hA := HA.out
          rw [List.take_length] at hA
          have HAL := Lib.hid hA
          clear hA
          have hle := HOK.out.le
          have pp := HOK.out.parts HR.out (by simp)
          simp only at pp
          obtain ⟨l, rfl⟩ := Int.eq_ofNat_of_zero_le pp.1.1
          obtain ⟨r, rfl⟩ := Int.eq_ofNat_of_zero_le pp.2.1
          have HLR : Hid (l < rows.length ∧ r < rows.length) := by have := HG.out; unfold Hid; omega
          have HBW := Lib.hid (below_trans HB6.out HB.out)
          have HDJ : Hid (disjP rows zs (g : Int) = if askE rows (natsOf zs) g ≠ 0 then (0, 110) else if askB rows (natsOf zs) g = false then (0, 2) else if askE rows (natsOf zs) l ≠ 0 then (0, 110) else if askB rows (natsOf zs) l = true then ((l : Int), 0) else if askE rows (natsOf zs) r ≠ 0 then (0, 110) else ((r : Int), 0)) := by
            unfold Hid disjP
            rw [if_neg (by simpa using HE.out), if_neg (by simpa using HK4.out), if_neg (by simpa using HAL.out)]
            simp [HN.out]
          clear pp hle
          have hnn : ¬ (zs.length : Int) < (zs.length : Int) := Int.lt_irrefl _
          go_wp2_with (go_at_call 15; refine (asker_any F _ t rows (H.out.below HBW.out)).mono ?_; rintro e w8 ⟨c, cb, Fc, rfl, hA8, hF8, hc8, hb8⟩; unfold askV; have HA8 := Lib.hid hA8; have HB8 := Lib.hid (below_trans HBW.out hb8); have HX8 := Lib.hid ((HX6.out.below HB.out).below hb8); clear hA8 hF8 hc8 hb8)
          have HASK : Hid (∀ (W : World) (x : Nat), Below w8.heap.size w8 W → x < rows.length → Calls Tryd.prog 26 #[.slice va zs.length vc, .int .i64 (x : Int), .pointer (some ⟨cb, 0, none⟩)] W fun e w' => e = .returned (.tuple #[.bool (askB rows (natsOf zs) x), .int .i64 (askE rows (natsOf zs) x)]) ∧ Below W.heap.size W w') :=
            fun W x hb hx => ask_any Fc W cb c rows (HA8.out.below hb) ((HT.out.below HB8.out).below hb) _ zs ((HV.out.below HB8.out).below hb) HLL.out HZ.out x hx
          refine (HASK.out _ g (Below.refl _ _) HG.out).mono ?_
          rintro e w9 ⟨rfl, hb9⟩
          have HB9 := Lib.hid hb9
          have HB9w := Lib.hid (below_trans HB8.out hb9)
          obtain ⟨x0, x1, x2, x3⟩ := HX8.out.below hb9
          clear hb9
          rcases askE_cases rows (natsOf zs) g with hg0 | hg0
          · rw [hg0]
            cases hbg : askB rows (natsOf zs) g with
            | false =>
              have hp := HDJ.out
              rw [hg0, hbg, if_neg (by simp), if_pos rfl] at hp
              have HP := Lib.hid hp
              clear hp
              clear hg0 hbg
              go_wp2_with fail
              go_ret2
              exact djPost_mk HP.out HB9w.out
            | true =>
              have hp := HDJ.out
              rw [hg0, hbg, if_neg (by simp), if_neg (by simp)] at hp
              have HP := Lib.hid hp
              clear hp
              clear hg0 hbg
              go_wp2_with fail
              refine (HASK.out _ l HB9.out HLR.out.1).mono ?_
              rintro e w10 ⟨rfl, hb10⟩
              have HB10 := Lib.hid (below_trans HB9.out hb10)
              have HB10w := Lib.hid (below_trans HB9w.out hb10)
              have HX10 := Lib.hid ((HX8.out.below HB9.out).below hb10)
              obtain ⟨y0, y1, y2, y3⟩ := HX10.out
              clear hb10 x0 x1 x2 x3
              rcases askE_cases rows (natsOf zs) l with hl0 | hl0
              · rw [hl0]
                cases hbl : askB rows (natsOf zs) l with
                | true =>
                  have hp := HP.out
                  rw [hl0, hbl, if_neg (by simp), if_pos rfl] at hp
                  have HP2 := Lib.hid hp
                  clear hp
                  clear hl0 hbl
                  go_wp2_with fail
                  go_ret2
                  exact djPost_mk HP2.out HB10w.out
                | false =>
                  have hp := HP.out
                  rw [hl0, hbl, if_neg (by simp), if_neg (by simp)] at hp
                  have HP2 := Lib.hid hp
                  clear hp
                  clear hl0 hbl
                  go_wp2_with fail
                  refine (HASK.out _ r HB10.out HLR.out.2).mono ?_
                  rintro e w11 ⟨rfl, hb11⟩
                  have HB11w := Lib.hid (below_trans HB10w.out hb11)
                  obtain ⟨z0, z1, z2, z3⟩ := HX10.out.below hb11
                  clear hb11 y0 y1 y2 y3
                  rcases askE_cases rows (natsOf zs) r with hr0 | hr0
                  · rw [hr0]
                    have hp := HP2.out
                    rw [hr0, if_neg (by simp)] at hp
                    have HP3 := Lib.hid hp
                    clear hp
                    clear hr0
                    go_wp2_with fail
                    go_ret2
                    exact djPost_mk HP3.out HB11w.out
                  · rw [hr0]
                    have hp := HP2.out
                    rw [hr0, if_pos (by simp)] at hp
                    have HP3 := Lib.hid hp
                    clear hp
                    clear hr0
                    go_wp2_with fail
                    go_ret2
                    exact djPost_mk HP3.out HB11w.out
              · rw [hl0]
                have hp := HP.out
                rw [hl0, if_pos (by simp)] at hp
                have HP2 := Lib.hid hp
                clear hp
                clear hl0
                go_wp2_with fail
                go_ret2
                exact djPost_mk HP2.out HB10w.out
          · rw [hg0]
            have hp := HDJ.out
            rw [hg0, if_pos (by simp)] at hp
            have HP := Lib.hid hp
            clear hp
            clear hg0
            go_wp2_with fail
            go_ret2
            exact djPost_mk HP.out HB9w.out
end Go.Dk
end

section
namespace Go.Dk
open Go.RowKit Go.Maps Go.MapKept Go.Shelf
open Go.Proofs hiding intOf
/-- A maker at its block, its table. -/
structure MkA (F : FP) (W : World) (mb : Nat) (t : Value) (m : MK) : Prop where
  box : BoxB W mb [t, .int .i64 m.e] 62
  tab : TabF F W t m.rows
  out : ¬ F mb
def FP.one (b : Nat) : FP := fun c => c = b
theorem MkA.in_ {F : FP} {W : World} {mb : Nat} {t : Value} {m : MK} (h : MkA F W mb t m) : (F.or (FP.one mb)).in_ W := fun b hb => hb.elim (h.tab.in_ b) (fun e => by rw [e]; exact lt_of_block h.box)
theorem MkA.below {F : FP} {W W' : World} {mb : Nat} {t : Value} {m : MK} (h : MkA F W mb t m) (hb : Below W.heap.size W W') : MkA F W' mb t m := ⟨h.box.below hb, h.tab.below hb, h.out⟩
/-- The table has been written. -/
theorem MkA.put {F F' : FP} {W W' : World} {mb : Nat} {t : Value} {m : MK} (h : MkA F W mb t m) (hk : KeptF F W F' W') {rows : List ND} (ht : TabF F' W' t rows) : MkA F' W' mb t ⟨rows, m.e⟩ :=
  ⟨hk.box h.box h.out, ht, fun hf => h.out (hk.sub mb (lt_of_block h.box) hf)⟩
/-- The error has been set. -/
theorem MkA.err {F : FP} {W : World} {mb : Nat} {t : Value} {m : MK} (h : MkA F W mb t m) (e : Int) : MkA F (W.setCell ⟨mb, 1, none⟩ (.int .i64 e)) mb t ⟨m.rows, e⟩ ∧ KeptF (F.or (FP.one mb)) W (F.or (FP.one mb)) (W.setCell ⟨mb, 1, none⟩ (.int .i64 e)) := by
  have hk := KeptF.of_only (G := F.or (FP.one mb)) (only_setCell W mb 1 (.int .i64 e)) (.inr rfl) h.in_
  have ho := only_setCell W mb 1 (.int .i64 e)
  refine ⟨⟨h.box.set 1 (.int .i64 e), ?_, h.out⟩, hk⟩
  exact h.tab.kept (KeptF.of_only (G := FP.one mb) ho rfl (fun b e => by rw [e]; exact lt_of_block h.box)) (fun b hf e => h.out (e ▸ hf))
def MkPost (F : FP) (W : World) (mb : Nat) (t : Value) (m : MK) (n : ND) (e : Ending) (w' : World) : Prop :=
  e = .returned (.int .i64 (mkId m n)) ∧ ∃ F', MkA F' w' mb t (mkPut m n) ∧ KeptF (F.or (FP.one mb)) W (F'.or (FP.one mb)) w'
set_option maxRecDepth 100000 in
set_option maxHeartbeats 2000000 in
theorem mput_any (F : FP) (w : World) (mb : Nat) (t : Value) (m : MK) (h : MkA F w mb t m) (k a b : Int) :
    Calls Tryd.prog 17 #[.pointer (some ⟨mb, 0, none⟩), .int .i64 k, .int .i64 a, .int .i64 b] w (MkPost F w mb t m (nd2 k a b)) := by
  obtain ⟨pb, rfl⟩ : ∃ pb, t = .pointer (some ⟨pb, 0, none⟩) := by obtain ⟨pb, _, _, e, _⟩ := h.tab.col 0; exact ⟨pb, e⟩
  have H := Lib.hid h
  have c1 : w.cell? ⟨mb, 1, none⟩ = some (.int .i64 m.e) := h.box.cell (i := 1) rfl
  clear h
  by_cases he : m.e = 0
  case neg =>
    have g1 : (m.e != 0) = true := by simpa using he
    have HP : Hid (mkPut m (nd2 k a b) = m ∧ mkId m (nd2 k a b) = 0) := by unfold Hid mkPut mkId; rw [if_pos he, if_pos he]; exact ⟨rfl, rfl⟩
    clear he
    go_enter Tryd.func17, Tryd.ntmps17
    go_wp2_with fail
    go_ret
    refine ⟨by rw [HP.out.2]; rfl, F, ?_, KeptF.refl H.out.in_⟩
    rw [HP.out.1]; exact H.out
  case pos =>
    have HP : Hid (mkPut m (nd2 k a b) = ⟨(put m.rows (nd2 k a b)).rows, (put m.rows (nd2 k a b)).err⟩ ∧ mkId m (nd2 k a b) = (put m.rows (nd2 k a b)).id) := by unfold Hid mkPut mkId; rw [if_neg (by simpa using he), if_neg (by simpa using he)]; exact ⟨rfl, rfl⟩
    rw [he] at c1
    clear he
    go_enter Tryd.func17, Tryd.ntmps17
    go_wp2_with fail
    have HB1 := Lib.hid (below_alloc w (.cells #[.int .i64 k, .string ⟨#[]⟩, .int .i64 a, .int .i64 b] 45))
    have HX1 := Lib.hid (BoxB.new w [.int .i64 k, .string ⟨#[]⟩, .int .i64 a, .int .i64 b] 45)
    have HNF : Hid (¬ F w.heap.size) := fun hf => Nat.lt_irrefl _ (H.out.tab.in_ _ hf)
    have e0 : (.cells #[.int .i64 k, .string ⟨#[]⟩, .int .i64 a, .int .i64 b] 45 : Obj) = .cells [.int .i64 k, .string ⟨#[]⟩, .int .i64 a, .int .i64 b].toArray 45 := rfl
    rw [e0] at *
    clear e0 c1
    generalize (w.alloc (.cells [.int .i64 k, .string ⟨#[]⟩, .int .i64 a, .int .i64 b].toArray 45)) = w1 at *
    have H1 := Lib.hid (H.out.below HB1.out)
    have HC : Hid (∀ W', BoxB W' mb [.pointer (some ⟨pb, 0, none⟩), .int .i64 m.e] 62 → BoxB W' w.heap.size [.int .i64 k, .string ⟨#[]⟩, .int .i64 a, .int .i64 b] 45 → W'.cell? ⟨mb, 0, none⟩ = some (.pointer (some ⟨pb, 0, none⟩)) ∧ W'.cell? ⟨w.heap.size, 0, none⟩ = some (.int .i64 k) ∧ W'.cell? ⟨w.heap.size, 1, none⟩ = some (.string ⟨#[]⟩) ∧ W'.cell? ⟨w.heap.size, 2, none⟩ = some (.int .i64 a) ∧ W'.cell? ⟨w.heap.size, 3, none⟩ = some (.int .i64 b)) :=
      fun W' h1 h2 => ⟨h1.cell (i := 0) rfl, h2.cell (i := 0) rfl, h2.cell (i := 1) rfl, h2.cell (i := 2) rfl, h2.cell (i := 3) rfl⟩
    have HD := Lib.hid (below_drewN w1 1)
    go_region_held3 (fun W' => W'.cell? ⟨mb, 0, none⟩ = some (.pointer (some ⟨pb, 0, none⟩)) ∧ W'.cell? ⟨w.heap.size, 0, none⟩ = some (.int .i64 k) ∧ W'.cell? ⟨w.heap.size, 1, none⟩ = some (.string ⟨#[]⟩) ∧ W'.cell? ⟨w.heap.size, 2, none⟩ = some (.int .i64 a) ∧ W'.cell? ⟨w.heap.size, 3, none⟩ = some (.int .i64 b))
      ((first | exact HC.out _ (H1.out.box.below HD.out) (HX1.out.below HD.out) | exact HC.out _ H3.out.box HX3.out | assumption))
      ((first
        | (go_at_call 21; refine (put_F (H1.out.tab.below HD.out) k a b ⟨#[]⟩ (Nat.zero_le _)).mono ?_; rintro e w3 ⟨rfl, F3, hk3, ht3⟩; have H3 := Lib.hid ((H1.out.below HD.out).put hk3 ht3); have HX3 := Lib.hid (hk3.box (HX1.out.below HD.out) HNF.out); have HK3 := Lib.hid ((KeptF.of_below H.out.in_ (below_trans HB1.out HD.out)).trans (hk3.beside (G := FP.one mb) (fun b e => by rw [e]; exact lt_of_block (H1.out.below HD.out).box))); clear hk3 ht3)
        | fail))
    have d1 := H3.out.box.cell (i := 1) rfl
    have f1 := H3.out.box.fr 1
    have HE4 := Lib.hid (H3.out.err (put m.rows (nd2 k a b)).err)
    go_wp2_with fail
    go_ret
    exact ⟨by rw [HP.out.2]; rfl, F3, by rw [HP.out.1]; exact HE4.out.1, HK3.out.trans HE4.out.2⟩
end Go.Dk
end

section
namespace Go.Dk
open Go.RowKit Go.Maps Go.MapKept Go.Shelf
open Go.Proofs hiding intOf
theorem TabF.mono {F G : FP} {w : World} {t : Value} {rows : List ND} (h : TabF F w t rows) (hs : ∀ b, F b → G b) (hi : G.in_ w) : TabF G w t rows := by
  obtain ⟨_, k, ow, ht, hc⟩ := h
  exact ⟨hi, k, ow, ht, fun b hb e => hs b (hc b hb e)⟩
/-- In Visser's loops: the maker, an own row of numbers. -/
structure VS (F0 F : FP) (w W : World) (mb : Nat) (t : Value) (m : MK) (v : Value) (ids : List Int) : Prop where
  mka : MkA F W mb t m
  kp : KeptF F0 w (F.or (FP.one mb)) W
  own : OwnI w.heap.size (F.or (FP.one mb)) W v ids
section
variable {F0 F : FP} {w W W' : World} {mb : Nat} {t v : Value} {m : MK} {ids : List Int}
theorem VS.below (h : VS F0 F w W mb t m v ids) (hb : Below W.heap.size W W') : VS F0 F w W' mb t m v ids :=
  ⟨h.mka.below hb, h.kp.trans (KeptF.of_below h.mka.in_ hb), h.own.below hb⟩
theorem VS.put (h : VS F0 F w W mb t m v ids) {n : ND} {e : Ending} (hp : MkPost F W mb t m n e W') : e = .returned (.int .i64 (mkId m n)) ∧ ∃ F', VS F0 F' w W' mb t (mkPut m n) v ids := by
  obtain ⟨he, F', h1, h2⟩ := hp
  exact ⟨he, F', h1, h.kp.trans h2, h.own.kept h2⟩
theorem VS.app {w0 : World} {v' : Value} {x : Int} (h : VS F0 F w W mb t m v ids) (hown : W'.ownsRow w.heap.size 3 1 v' (ids.length + 1) (ints ids ++ [.int .i64 x])) (hg : W.grownBy W' v.ownBlock) (hat : v'.ownBlock = v.ownBlock ∨ v'.ownBlock = some w0.heap.size) (hz : W.heap.size ≤ w0.heap.size) : VS F0 F w W' mb t m v' (ids ++ [x]) := by
  refine ⟨⟨?_, h.mka.tab.grown hg (fun b hb hf => h.own.out b hb (.inl hf)), h.mka.out⟩, h.kp.later hg (fun b hb => (h.own.own.lt b hb).1), h.own.append hown hat h.mka.in_ hz⟩
  exact (hg.block mb (lt_of_block h.mka.box) (fun e => h.own.out mb e.symm (.inr rfl))).trans h.mka.box
end
theorem vs_new {F : FP} {w w1 : World} {t : Value} {rows : List ND} (h : TabF F w t rows) (hb : Below w.heap.size w w1) (o : Obj) (ho : o = .cells [t, .int .i64 0].toArray 62) :
    VS F F w (w1.alloc o) w1.heap.size t ⟨rows, 0⟩ (.slice none 0 0) [] := by
  subst ho
  have hb2 := below_trans hb (below_alloc w1 (.cells [t, .int .i64 0].toArray 62))
  have hk : MkA F (w1.alloc (.cells [t, .int .i64 0].toArray 62)) w1.heap.size t ⟨rows, 0⟩ := ⟨BoxB.new w1 [t, .int .i64 0] _, h.below hb2, fun hf => by have := h.in_ _ hf; have := hb.size; omega⟩
  refine ⟨hk, ⟨hb2.os, hb2.tape, hb2.output, hb2.size, fun b hl hf => hf.elim id (fun e => ?_), hk.in_, fun b hl _ => hb2.block b hl⟩, OwnI.nil _ _ _⟩
  have e : b = w1.heap.size := e
  have := hb.size
  omega
theorem ownB_mono {w : World} {B B' : Nat} {e : TypeId} {size : Nat} {v : Value} {n : Nat} {xs : List Value} (h : w.ownsRow B' e size v n xs) (hb : B ≤ B') : w.ownsRow B e size v n xs := by
  refine ⟨h.1, ?_⟩
  rcases h.2 with hn | ⟨g, cap, cur, rfl, hg, rest⟩
  · exact .inl hn
  · exact .inr ⟨g, cap, cur, rfl, Nat.le_trans hb hg, rest⟩
theorem OwnI.base {B B' : Nat} {F : FP} {w : World} {v : Value} {zs : List Int} (h : OwnI B' F w v zs) (hb : B ≤ B') : OwnI B F w v zs := ⟨ownB_mono h.own hb, h.out⟩
theorem ints_oneC (zs : List Int) : ∀ y ∈ ints zs, y.oneCell' = true := by
  intro y hy
  unfold ints at hy
  obtain ⟨z, _, rfl⟩ := List.mem_map.1 hy
  rfl
theorem VS.again {F0 F : FP} {w W : World} {mb : Nat} {t v : Value} {m : MK} {ids : List Int} (h : VS F0 F w W mb t m v ids) : VS (F.or (FP.one mb)) F W W mb t m (.slice none 0 0) [] :=
  ⟨h.mka, KeptF.refl h.mka.in_, OwnI.nil _ _ _⟩
theorem VS.fresh_out {F0 F : FP} {w W : World} {mb : Nat} {t v : Value} {m : MK} {ids : List Int} (h : VS F0 F w W mb t m v ids) {g : Nat} (hg : W.heap.size ≤ g) : ¬ (F.or (FP.one mb)) g := fun hf => by have := h.mka.in_ g hf; omega
def VisPost (F : FP) (w : World) (t : Value) (r : VR) (e : Ending) (w' : World) : Prop :=
  ∃ pv F', e = .returned (.tuple #[.int .i64 r.prem, pv, .int .i64 r.err]) ∧ KeptF F w F' w' ∧ TabF F' w' t r.rows ∧ OwnI w.heap.size F' w' pv r.parts
/-- Appended to a row of the call's own that is newer than w. -/
theorem vis_app {w W W' : World} {v : Value} {n : Nat} {xs : List Value} (hb : Below w.heap.size w W) (ho : W.ownsRow w.heap.size 3 1 v n xs) (hg : W.grownBy W' v.ownBlock) : Below w.heap.size w W' :=
  hb.grown hg hb.size (fun q hq => (ho.lt q hq).1)
/-- The whole rule, out of its parts. -/
theorem rule_eq {rows : List ND} {ab : List (Int × Int)} {gs : List Int} {c d : Int} {m m3 m6 : MK} {ids ps : List Int} {al : Int} (h1 : impsV ab ⟨rows, 0⟩ [] = (m, ids)) (h2 : conjV ids m = (m3, al))
    (h3 : partsV al gs (mkPut (mkPut m3 (nd2 4 c d)) (nd2 5 al (mkId m3 (nd2 4 c d)))) [] = (m6, ps)) :
    ruleV rows ab gs c d = (m6, mkId (mkPut m3 (nd2 4 c d)) (nd2 5 al (mkId m3 (nd2 4 c d))), ps) ∧ rows <+: m6.rows := by
  constructor
  · unfold ruleV; simp only [h1, h2, h3]
  · have t1 := impsV_to ab ⟨rows, 0⟩ []
    rw [h1] at t1
    have t2 := conjV_to ids m
    rw [h2] at t2
    have t3 := partsV_to al gs (mkPut (mkPut m3 (nd2 4 c d)) (nd2 5 al (mkId m3 (nd2 4 c d)))) []
    rw [h3] at t3
    exact (((t1.trans t2).trans (mkPut_to _ _)).trans (mkPut_to _ _)).trans t3 |>.pre
theorem vis_eq {rows : List ND} {a b : List Int} {c d : Int} {m6 : MK} {p : Int} {ps : List Int} (hE : lookE rows (a ++ b ++ [c, d]) = 0) (hL : a.length = b.length ∧ a.length ≤ 8) (hr : ruleV rows (a.zip b) (a ++ [c, d]) c d = (m6, p, ps)) :
    visserP rows a b c d = if m6.e ≠ 0 then ⟨rows, 0, [], m6.e⟩ else ⟨m6.rows, p, ps, 0⟩ := by
  unfold visserP
  rw [if_neg (by simpa using hE), if_neg (by omega), hr]
/-- The end without an error. -/
theorem vis_good {F F9 F6 : FP} {w w9 w6 : World} {mb : Nat} {t v v9 : Value} {m5 m6 : MK} {ps ids : List Int} {r : VR} {p : Int} (h9 : VS F F9 w w9 mb t m5 v9 ids) (h6 : VS (F9.or (FP.one mb)) F6 w9 w6 mb t m6 v ps) (hr : r = ⟨m6.rows, p, ps, 0⟩) :
    VisPost F w t r (.returned (.tuple #[.int .i64 p, v, .int .i64 0])) w6 := by
  subst hr
  exact ⟨v, F6.or (FP.one mb), rfl, h9.kp.trans h6.kp, h6.mka.tab.mono (fun _ h => .inl h) h6.mka.in_, h6.own.base h9.kp.size⟩
theorem vis_cut {F F9 F6 F7 : FP} {w w9 w6 w7 : World} {mb : Nat} {t v v9 : Value} {m5 m6 : MK} {ps ids : List Int} {r : VR} {rows : List ND} {x : Int} (h9 : VS F F9 w w9 mb t m5 v9 ids) (h6 : VS (F9.or (FP.one mb)) F6 w9 w6 mb t m6 v ps) (hk : KeptF F6 w6 F7 w7) (ht : TabF F7 w7 t rows) (hr : r = ⟨rows, 0, [], x⟩) {w8 : World} (hb : Below w7.heap.size w7 w8) :
    VisPost F w t r (.returned (.tuple #[.int .i64 0, .slice none 0 0, .int .i64 x])) w8 := by
  subst hr
  have k := hk.beside (G := FP.one mb) (fun b e => by rw [e]; exact lt_of_block h6.mka.box)
  exact ⟨_, F7.or (FP.one mb), rfl, (h9.kp.trans h6.kp).trans (k.trans (KeptF.of_below k.lt hb)), (ht.mono (fun _ h => .inl h) k.lt).below hb, OwnI.nil _ _ _⟩
theorem zip_get {a b : List Int} {j : Nat} {x y : Int} (hx : a[j]? = some x) (hy : b[j]? = some y) : (a.zip b)[j]? = some (x, y) := by
  rw [List.getElem?_zip_eq_some]; exact ⟨hx, hy⟩
theorem impsV_snoc : ∀ (ps : List (Int × Int)) (m : MK) (l : List Int) (p : Int × Int), impsV (ps ++ [p]) m l = (mkPut (impsV ps m l).1 (nd2 5 p.1 p.2), (impsV ps m l).2 ++ [mkId (impsV ps m l).1 (nd2 5 p.1 p.2)])
  | [], _, _, _ => rfl
  | _q :: t, _m, _l, p => impsV_snoc t _ _ p
theorem partsV_snoc (all : Int) : ∀ (ps : List Int) (m : MK) (l : List Int) (p : Int), partsV all (ps ++ [p]) m l = (mkPut (partsV all ps m l).1 (nd2 5 all p), (partsV all ps m l).2 ++ [mkId (partsV all ps m l).1 (nd2 5 all p)])
  | [], _, _, _ => rfl
  | _q :: t, _m, _l, p => partsV_snoc all t _ _ p
theorem allV_snoc : ∀ (ys : List Int) (m : MK) (x y : Int), allV (ys ++ [y]) m x = (mkPut (allV ys m x).1 (nd2 3 (allV ys m x).2 y), mkId (allV ys m x).1 (nd2 3 (allV ys m x).2 y))
  | [], _, _, _ => rfl
  | _z :: t, _m, _x, y => allV_snoc t _ _ y
theorem takeV_snoc {α : Type} {l : List α} {j : Nat} {x : α} (h : l[j]? = some x) : l.take (j + 1) = l.take j ++ [x] := by rw [List.take_add_one, h]; rfl
theorem impsV_step {ab : List (Int × Int)} {m m' : MK} {ids : List Int} {j : Nat} {p : Int × Int} (hj : ab[j]? = some p) (h : impsV (ab.take j) m [] = (m', ids)) : impsV (ab.take (j + 1)) m [] = (mkPut m' (nd2 5 p.1 p.2), ids ++ [mkId m' (nd2 5 p.1 p.2)]) := by
  rw [takeV_snoc hj, impsV_snoc, h]
theorem partsV_step {gs : List Int} {all : Int} {m m' : MK} {ids : List Int} {j : Nat} {p : Int} (hj : gs[j]? = some p) (h : partsV all (gs.take j) m [] = (m', ids)) : partsV all (gs.take (j + 1)) m [] = (mkPut m' (nd2 5 all p), ids ++ [mkId m' (nd2 5 all p)]) := by
  rw [takeV_snoc hj, partsV_snoc, h]
/-- The conjunction behind j parts. -/
def ConjJ (ids : List Int) (m : MK) (j : Nat) (m' : MK) (all : Int) : Prop := (j = 0 ∧ m' = m ∧ all = 0) ∨ (∃ x t, ids.take j = x :: t ∧ allV t m x = (m', all))
theorem ConjJ.first {ids : List Int} {m m' : MK} {all x : Int} (h : ConjJ ids m 0 m' all) (hx : ids[0]? = some x) : m' = m ∧ ConjJ ids m 1 m x := by
  rcases h with ⟨_, rfl, _⟩ | ⟨x', t, h1, _⟩
  · refine ⟨rfl, .inr ⟨x, [], ?_, rfl⟩⟩
    rw [takeV_snoc hx]; simp
  · simp at h1
theorem ConjJ.next {ids : List Int} {m m' : MK} {all x : Int} {j : Nat} (h : ConjJ ids m (j + 1) m' all) (hx : ids[j + 1]? = some x) : ConjJ ids m (j + 1 + 1) (mkPut m' (nd2 3 all x)) (mkId m' (nd2 3 all x)) := by
  rcases h with ⟨h0, _⟩ | ⟨y, t, h1, h2⟩
  · cases h0
  · refine .inr ⟨y, t ++ [x], ?_, ?_⟩
    · rw [takeV_snoc hx, h1]; rfl
    · rw [allV_snoc, h2]
theorem ConjJ.last {ids : List Int} {m m' : MK} {all : Int} (h : ConjJ ids m ids.length m' all) (hn : ids ≠ []) : conjV ids m = (m', all) := by
  rcases h with ⟨h0, _⟩ | ⟨x, t, h1, h2⟩
  · exact absurd (List.eq_nil_of_length_eq_zero h0) hn
  · rw [List.take_length] at h1
    rw [h1]; exact h2
theorem visPost_bad {F : FP} {w w' : World} {t : Value} {r : VR} {rows : List ND} {x : Int} (h : TabF F w t rows) (hb : Below w.heap.size w w') (hr : r = ⟨rows, 0, [], x⟩) : VisPost F w t r (.returned (.tuple #[.int .i64 0, .slice none 0 0, .int .i64 x])) w' := by
  subst hr
  exact ⟨_, F, rfl, KeptF.of_below h.in_ hb, h.below hb, OwnI.nil _ _ _⟩
/-- The blocks ahead of look, with two lists of the caller's and one of two numbers. -/
structure ViF (w w3 : World) (va vb : Value) (a b : List Int) (c d : Int) : Prop where
  bel : Below w.heap.size w w3
  ls : ListsR w3 (.slice (some ⟨w.heap.size + 1, 0, none⟩) 3 3) [a, b, [c, d]]
theorem vi_frame (w : World) (va vb : Value) (a b : List Int) (c d : Int) (ha : Rd w va a.length 1 (ints a)) (hb : Rd w vb b.length 1 (ints b)) (hla : a.length < 2 ^ 62) (hlb : b.length < 2 ^ 62) :
    ViF w ((w.alloc (.cells #[.int .i64 c, .int .i64 d] 3)).alloc (.cells #[va, vb, .slice (some ⟨w.heap.size, 0, none⟩) 2 2] 22)) va vb a b c d :=
  ⟨below_trans (below_alloc _ _) (below_alloc _ _),
   lists3 (rdH _ (by simp) _ _ rfl rfl) ((ha.below (below_alloc _ _)).below (below_alloc _ _)) (by omega) ((hb.below (below_alloc _ _)).below (below_alloc _ _)) (by omega) ((rdH (n := 2) (size := 1) w (b := w.heap.size) rfl #[.int .i64 c, .int .i64 d] 3 rfl rfl).below (below_alloc _ _)) (by simp)⟩
theorem flat3 (a b : List Int) (c d : Int) : [a, b, [c, d]].flatten = a ++ b ++ [c, d] := by simp
set_option maxRecDepth 100000 in
set_option maxHeartbeats 4000000 in
theorem visser_any (F : FP) (w : World) (t va vb : Value) (rows : List ND) (h : TabF F w t rows) (a b : List Int) (hva : ∀ (F1 : FP) (W : World), KeptF F w F1 W → Rd W va a.length 1 (ints a)) (hvb : ∀ (F1 : FP) (W : World), KeptF F w F1 W → Rd W vb b.length 1 (ints b)) (hla : a.length < 2 ^ 62) (hlb : b.length < 2 ^ 62) (c d : Int) :
    Calls Tryd.prog 8 #[t, va, vb, .int .i64 c, .int .i64 d] w (VisPost F w t (visserP rows a b c d)) := by
  obtain ⟨pb, rfl⟩ : ∃ pb, t = .pointer (some ⟨pb, 0, none⟩) := by obtain ⟨pb, _, _, e, _⟩ := h.col 0; exact ⟨pb, e⟩
  have H := Lib.hid h
  have ha := hva F w (KeptF.refl h.in_)
  have hb := hvb F w (KeptF.refl h.in_)
  have HFR := Lib.hid (vi_frame w va vb a b c d ha hb hla hlb)
  have HVA := Lib.hid hva
  have HVB := Lib.hid hvb
  have HOK := Lib.hid h.ok
  have HLL : Hid (a.length < 2 ^ 62 ∧ b.length < 2 ^ 62) := ⟨hla, hlb⟩
  obtain ⟨aa, ac, rfl⟩ := ha.slice
  obtain ⟨ba, bc, rfl⟩ := hb.slice
  clear h ha hb hva hvb
  by_cases hE : lookE rows (a ++ b ++ [c, d]) = 0
  case neg =>
    have HE := Lib.hid (lookE_bad hE)
    have HP : Hid (visserP rows a b c d = ⟨rows, 0, [], 31⟩) := by unfold Hid visserP; rw [if_pos hE]
    clear hE
    go_enter Tryd.func8, Tryd.ntmps8
    go_wp2_with fail
    generalize ((w.alloc (.cells #[.int .i64 c, .int .i64 d] 3)).alloc (.cells #[.slice aa a.length ac, .slice ba b.length bc, .slice (some ⟨w.heap.size, 0, none⟩) 2 2] 22)) = w3 at *
    refine (lookH_any 0 _ _ _ _ rows [a, b, [c, d]] ((H.out.col 0).below HFR.out.bel) HFR.out.ls (by simp)).mono ?_
    rintro e w4 ⟨rfl, hb4⟩
    rw [flat3, HE.out]
    have HB4 := Lib.hid (below_trans HFR.out.bel hb4)
    clear hb4
    go_wp2_with fail
    go_ret3
    exact visPost_bad H.out HB4.out HP.out
  case pos =>
    have HE := Lib.hid hE
    by_cases hL : a.length = b.length ∧ a.length ≤ 8
    case neg =>
      have HP : Hid (visserP rows a b c d = ⟨rows, 0, [], 270⟩) := by unfold Hid visserP; rw [if_neg (by simpa using hE), if_pos (by omega)]
      by_cases hab : a.length = b.length
      · have h2 : (8 : Int) < (a.length : Int) := by omega
        rw [← hab] at HVB HFR ⊢
        clear hE hL hab
        go_enter Tryd.func8, Tryd.ntmps8
        go_wp2_with fail
        generalize ((w.alloc (.cells #[.int .i64 c, .int .i64 d] 3)).alloc (.cells #[.slice aa a.length ac, .slice ba a.length bc, .slice (some ⟨w.heap.size, 0, none⟩) 2 2] 22)) = w3 at *
        refine (lookH_any 0 _ _ _ _ rows [a, b, [c, d]] ((H.out.col 0).below HFR.out.bel) HFR.out.ls (by simp)).mono ?_
        rintro e w4 ⟨rfl, hb4⟩
        rw [flat3, HE.out]
        have HB4 := Lib.hid (below_trans HFR.out.bel hb4)
        clear hb4
        go_wp2_with fail
        go_ret3
        exact visPost_bad H.out HB4.out HP.out
      · have h1 : ((a.length : Int) != (b.length : Int)) = true := by simp; omega
        clear hE hL
        go_enter Tryd.func8, Tryd.ntmps8
        go_wp2_with fail
        generalize ((w.alloc (.cells #[.int .i64 c, .int .i64 d] 3)).alloc (.cells #[.slice aa a.length ac, .slice ba b.length bc, .slice (some ⟨w.heap.size, 0, none⟩) 2 2] 22)) = w3 at *
        refine (lookH_any 0 _ _ _ _ rows [a, b, [c, d]] ((H.out.col 0).below HFR.out.bel) HFR.out.ls (by simp)).mono ?_
        rintro e w4 ⟨rfl, hb4⟩
        rw [flat3, HE.out]
        have HB4 := Lib.hid (below_trans HFR.out.bel hb4)
        clear hb4
        go_wp2_with fail
        go_ret3
        exact visPost_bad H.out HB4.out HP.out
    case pos =>
      have HAB := Lib.hid hL
      have h2 : ¬ (8 : Int) < (a.length : Int) := by omega
      rw [← hL.1] at HVB HFR ⊢
      have hle := HOK.out.le
      clear hE hL
      go_enter Tryd.func8, Tryd.ntmps8
      go_wp2_with fail
      generalize ((w.alloc (.cells #[.int .i64 c, .int .i64 d] 3)).alloc (.cells #[.slice aa a.length ac, .slice ba a.length bc, .slice (some ⟨w.heap.size, 0, none⟩) 2 2] 22)) = w3 at *
      refine (lookH_any 0 _ _ _ _ rows [a, b, [c, d]] ((H.out.col 0).below HFR.out.bel) HFR.out.ls (by simp)).mono ?_
      rintro e w4 ⟨rfl, hb4⟩
      rw [flat3, HE.out]
      have HB4 := Lib.hid (below_trans HFR.out.bel hb4)
      clear hb4
      go_wp2_with (go_at_call 16; refine (len_any 0 _ _ _ rows ((H.out.col 0).below HB4.out)).mono ?_; rintro e w' ⟨rfl, rfl⟩)
      have HS0 := Lib.hid (vs_new H.out HB4.out (.cells #[.pointer (some ⟨pb, 0, none⟩), .int .i64 0] 62) rfl)
      have HM0 : Hid (w.heap.size ≤ w4.heap.size) := HB4.out.size
      generalize hW5 : (w4.alloc (.cells #[.pointer (some ⟨pb, 0, none⟩), .int .i64 0] 62)) = W5 at *
      clear hW5 HB4
      generalize w4.heap.size = mb at *
      go_loopw [16, 54] (fun v u W => ∃ (j : Nat) (F1 : FP) (m : MK) (ids : List Int), j ≤ a.length ∧ u = .int .i64 (j : Int) ∧ VS F F1 w W mb (.pointer (some ⟨pb, 0, none⟩)) m v ids ∧ impsV ((a.zip b).take j) ⟨rows, 0⟩ [] = (m, ids) ∧ ids.length = j) (fun _ u _ => a.length - (intOf u).toNat)
      case atStart => exact ⟨0, F, ⟨rows, 0⟩, [], Nat.zero_le _, rfl, HS0.out, rfl, rfl⟩
      case round =>
        obtain ⟨j, F1, m, ids, hj, rfl, hs, hi, hlen⟩ := hrel
        have HS := Lib.hid hs; have HI := Lib.hid hi; have HN := Lib.hid hlen
        obtain ⟨oa, oc, rfl⟩ := own_slice hs.own.own
        clear hs hi hlen
        by_cases hlt : j < a.length
        · as_aux_lemma =>
          have hji : (j : Int) < (a.length : Int) := by omega
          obtain ⟨ab, ao, ac', x, he, hca, hax⟩ := ints_at (HVA.out _ _ HS.out.kp) hlt
          cases he
          obtain ⟨bb, bo, bc', y, he, hcb, hby⟩ := ints_at (HVB.out _ _ HS.out.kp) hlt
          cases he
          have HZ := Lib.hid (impsV_step (zip_get hax hby) HI.out)
          obtain ⟨I, _, Fw, L⟩ := later wr
          have a1 := L.cell hca
          have a2 := L.cell hcb
          have HF := Lib.hid L
          clear L hca hcb
          go_wp2_with fail
          refine wp_tailW1 (W := Fw) 10 (.tmp 16) (by kernel_rfl) (by kernel_rfl) HF.out.drew rfl rfl (fun _ _ _ h => h) ?_
          simp only [Nat.reduceSub, Act.eval, Act.put, List.setIfInBounds_toArray, List.set_cons_succ, List.set_cons_zero, List.take_succ_cons, List.take_zero, List.drop_succ_cons, List.drop_zero]
          repeat (go_big_quiet_step (fail))
          refine wpQuiet_nil ?_
          rintro w6 ⟨i6, rfl⟩
          have HB6 := Lib.hid (HF.out.bel i6)
          clear a1 a2 HF
          generalize Fw i6 = W6 at *
          have HS6 := Lib.hid (HS.out.below HB6.out)
          have HJ8 : Hid (ids.length ≤ 8) := by have := HAB.out.2; have := HN.out; unfold Hid; omega
          go_wp2_with (first
            | (go_at_call 17; refine (mput_any F1 W6 mb _ m HS6.out.mka 5 x y).mono ?_; intro e w7 hp7; obtain ⟨rfl, F7, hs7⟩ := HS6.out.put hp7; have HS7 := Lib.hid hs7; clear hs7 hp7)
            | (at_builtin; refine wp_append rfl (.tmp 57) (.tmp 68) 22 rfl w.heap.size 3 _ 1 8 Tryd.underlying22 infoInt rfl (by decide) (by decide) _ ids.length (ints ids) rfl ((HS7.out.below (below_alloc w7 _)).own.own) _ 1 [.int .i64 (mkId m (nd2 5 x y))] rfl (rd_one w7 _ _) (by simp [Value.oneCell']) (by have := HJ8.out; omega) (by have := HS7.out.kp.size; simp; omega) ?_; intro v8 w8 hown8 hgr8 hat8 hnil8; have HS8 := Lib.hid ((HS7.out.below (below_alloc w7 _)).app hown8 hgr8 hat8 (Nat.le_refl _)); clear hown8 hgr8 hat8 hnil8))
          exact ⟨⟨j + 1, F7, _, _, by omega, by go_num, HS8.out, HZ.out, by rw [List.length_append, HN.out]; rfl⟩, by simp [intOf]; omega⟩
        · as_aux_lemma =>
          obtain rfl : j = a.length := by omega
          have hI := HI.out
          rw [show (a.zip b).take a.length = a.zip b from List.take_of_length_le (by rw [List.length_zip]; omega)] at hI
          have HI1 := Lib.hid hI
          have HJ8 : Hid (ids.length ≤ 8) := by have := HAB.out.2; have := HN.out; unfold Hid; omega
          clear hI
          have hnn : ¬ (a.length : Int) < (a.length : Int) := Int.lt_irrefl _
          go_wp2_with fail
          obtain ⟨wo, rfl⟩ : ∃ wo : World, wo = wr := ⟨_, rfl⟩
          go_loopw [18, 73] (fun al u W => ∃ (j : Nat) (F2 : FP) (m2 : MK) (all : Int), j ≤ ids.length ∧ u = .int .i64 (j : Int) ∧ al = .int .i64 all ∧ VS F F2 w W mb (.pointer (some ⟨pb, 0, none⟩)) m2 (.slice oa ids.length oc) ids ∧ ConjJ ids m j m2 all) (fun _ u _ => ids.length - (intOf u).toNat)
          case atStart => exact ⟨0, F1, m, 0, Nat.zero_le _, rfl, rfl, HS.out, .inl ⟨rfl, rfl, rfl⟩⟩
          case round =>
            obtain ⟨j, F2, m2, all, hj, rfl, rfl, hs, hc⟩ := hrel
            have HS2 := Lib.hid hs; have HC2 := Lib.hid hc
            clear hs hc
            by_cases hlt : j < ids.length
            · as_aux_lemma =>
              have hji : (j : Int) < (ids.length : Int) := by omega
              obtain ⟨ib, io, ic, x, he, hcx, hidx⟩ := ints_at HS2.out.own.rd hlt
              cases he
              have HX := Lib.hid hidx
              have HJ9 := HJ8.out
              clear hidx
              match j, hj, hlt, hji, hcx, HC2, HX with
              | 0, hj, hlt, hji, hcx, HC2, HX =>
                obtain ⟨rfl, hc1⟩ := HC2.out.first HX.out
                have HC1 := Lib.hid hc1
                rw [Nat.add_zero] at hcx
                clear hc1
                go_wp2_with fail
                exact ⟨⟨1, F2, _, _, by omega, by go_num, rfl, HS2.out, HC1.out⟩, by simp [intOf]; omega⟩
              | j + 1, hj, hlt, hji, hcx, HC2, HX =>
                have HC1 := Lib.hid (HC2.out.next HX.out)
                have hj0 : (((j + 1 : Nat) : Int) == 0) = false := by simp; omega
                go_wp2_with (go_at_call 17; refine (mput_any F2 _ mb _ m2 HS2.out.mka 3 all x).mono ?_; intro e w7 hp7; obtain ⟨rfl, F7, hs7⟩ := HS2.out.put hp7; have HS7 := Lib.hid hs7; clear hs7 hp7)
                exact ⟨⟨j + 1 + 1, F7, _, _, by omega, by go_num, rfl, HS7.out, HC1.out⟩, by simp [intOf]; omega⟩
            · as_aux_lemma =>
              obtain rfl : j = ids.length := by omega
              have hnn : ¬ (ids.length : Int) < (ids.length : Int) := Int.lt_irrefl _
              by_cases h0 : ids = []
              · as_aux_lemma =>
                have hmt : m2 = m ∧ all = 0 := by
                  rcases HC2.out with ⟨_, e1, e2⟩ | ⟨x, t, e1, _⟩
                  · exact ⟨e1, e2⟩
                  · rw [h0] at e1; simp at e1
                have HMT := Lib.hid hmt.1
                have HID := Lib.hid h0
                have hne : ((ids.length : Int) == 0) = true := by simp [h0]
                clear h0 hmt
                have HMB := Lib.hid (mput_any F2 wr mb _ m2 HS2.out.mka 2 0 0)
                go_wp2_with fail
                refine HMB.out.mono ?_
                intro e w3b hp3
                obtain ⟨rfl, F3, hs3⟩ := HS2.out.put hp3
                have HS3 := Lib.hid hs3
                clear hs3 hp3 HMB
                go_wp2_with fail
                refine (mput_any F3 _ mb _ _ HS3.out.mka 5 (mkId m2 (nd2 2 0 0)) (mkId m2 (nd2 2 0 0))).mono ?_
                intro e w4b hp4
                obtain ⟨rfl, F4, hs4⟩ := HS3.out.put hp4
                have HS4 := Lib.hid hs4
                clear hs4 hp4
                have HCJ : Hid (conjV ids m = (mkPut (mkPut m2 (nd2 2 0 0)) (nd2 5 (mkId m2 (nd2 2 0 0)) (mkId m2 (nd2 2 0 0))), mkId (mkPut m2 (nd2 2 0 0)) (nd2 5 (mkId m2 (nd2 2 0 0)) (mkId m2 (nd2 2 0 0))))) := by
                  unfold Hid; rw [HID.out, HMT.out]; rfl
                generalize mkPut (mkPut m2 (nd2 2 0 0)) (nd2 5 (mkId m2 (nd2 2 0 0)) (mkId m2 (nd2 2 0 0))) = m4 at *
                generalize mkId (mkPut m2 (nd2 2 0 0)) (nd2 5 (mkId m2 (nd2 2 0 0)) (mkId m2 (nd2 2 0 0))) = al at *
                have HM1 := Lib.hid (mput_any F4 _ mb _ m4 HS4.out.mka 4 c d)
                go_wp2_with fail
                refine HM1.out.mono ?_
                intro e w5 hp5
                obtain ⟨rfl, F5, hs5⟩ := HS4.out.put hp5
                have HS5 := Lib.hid hs5
                clear hs5 hp5 HM1
                go_wp2_with fail
                refine (mput_any F5 _ mb _ _ HS5.out.mka 5 al (mkId m4 (nd2 4 c d))).mono ?_
                intro e w6 hp6
                obtain ⟨rfl, F6, hs6⟩ := HS5.out.put hp6
                have HS6 := Lib.hid hs6
                clear hs6 hp6
                have HL8 := Lib.hid HAB.out.2
                obtain ⟨gs, hgs⟩ : ∃ gs, gs = a ++ [c, d] := ⟨_, rfl⟩
                have HGS : Hid (a.length + 2 = gs.length ∧ ints a ++ [.int .i64 c, .int .i64 d] = ints gs) := by rw [hgs]; exact ⟨by simp, by simp [ints]⟩
                have HGE := Lib.hid hgs
                clear hgs
                go_wp2_with (first
                  | (at_builtin; refine wp_append rfl (.tmp 102) (.tmp 103) 22 rfl w6.heap.size 3 _ 1 8 Tryd.underlying22 infoInt rfl (by decide) (by decide) _ 0 [] rfl (World.ownsRow_made w6 _ 0 (Nat.le_refl _) (by decide) (by simp)) _ a.length (ints a) rfl ((HVA.out _ _ HS6.out.kp).below (below_alloc _ _)) (ints_oneC a) (by have := HL8.out; omega) (by simp) ?_; intro v7 w7 hown7 hgr7 hat7 hnil7; simp only [Nat.zero_add, List.nil_append] at hown7; have HO7 := Lib.hid hown7; have HB7 := Lib.hid (vis_app (below_alloc w6 _) (World.ownsRow_made (e := 3) (size := 1) w6 #[] 0 (Nat.le_refl _) (by decide) (by simp)) hgr7); clear hown7 hgr7 hat7 hnil7)
                  | (at_builtin; refine wp_append rfl (.tmp 104) (.tmp 107) 22 rfl w6.heap.size 3 _ 1 8 Tryd.underlying22 infoInt rfl (by decide) (by decide) _ a.length (ints a) rfl (own_belowC HO7.out (below_alloc _ _)) _ 2 [.int .i64 c, .int .i64 d] rfl (rd_lit w7 _ _ rfl rfl) (by simp [Value.oneCell']) (by have := HL8.out; omega) (by have := HB7.out.size; simp; omega) ?_; intro v8 w8 hown8 hgr8 hat8 hnil8; rw [HGS.out.1, HGS.out.2] at hown8; have HB8 := Lib.hid (vis_app (below_trans HB7.out (below_alloc w7 _)) (own_belowC HO7.out (below_alloc _ _)) hgr8); obtain ⟨qa, qc, rfl⟩ := own_slice hown8; have HO8 := Lib.hid hown8; clear hown8 hgr8 hat8 hnil8))
                have HS8 := Lib.hid (HS6.out.below HB8.out)
                have HG8 : Hid (∀ (F9 : FP) (W : World), KeptF (F6.or (FP.one mb)) w8 F9 W → Rd W (.slice qa gs.length qc) gs.length 1 (ints gs)) := fun F9 W hk => hk.rd (rd_own HO8.out) (fun ad k c he hf => by
                  have := (HO8.out.lt ad.block (by cases he; rfl)).1
                  exact HS6.out.fresh_out this hf)
                obtain ⟨m6, hm6⟩ : ∃ m6, m6 = mkPut (mkPut m4 (nd2 4 c d)) (nd2 5 al (mkId m4 (nd2 4 c d))) := ⟨_, rfl⟩
                have HM6 := Lib.hid hm6
                rw [← hm6] at HS8 HS6
                clear hm6
                obtain ⟨wi, rfl⟩ : ∃ wi : World, wi = wr := ⟨_, rfl⟩
                have HL9 : Hid (gs.length ≤ 10) := by have := HGS.out.1; have := HL8.out; unfold Hid; omega
                go_loopw [23, 110] (fun pv u W => ∃ (j : Nat) (F9 : FP) (m9 : MK) (ps : List Int), j ≤ gs.length ∧ u = .int .i64 (j : Int) ∧ VS (F6.or (FP.one mb)) F9 w8 W mb (.pointer (some ⟨pb, 0, none⟩)) m9 pv ps ∧ partsV al (gs.take j) m6 [] = (m9, ps) ∧ ps.length = j) (fun _ u _ => gs.length - (intOf u).toNat)
                case atStart => exact ⟨0, F6, m6, [], Nat.zero_le _, rfl, HS8.out.again, rfl, rfl⟩
                case round =>
                  obtain ⟨j, F9, m9, ps, hj, rfl, hs, hi, hlen⟩ := hrel
                  have HS9 := Lib.hid hs; have HI9 := Lib.hid hi; have HN9 := Lib.hid hlen
                  obtain ⟨pa, pc, rfl⟩ := own_slice hs.own.own
                  clear hs hi hlen
                  by_cases hlt : j < gs.length
                  · as_aux_lemma =>
                    have hji : (j : Int) < (gs.length : Int) := by omega
                    obtain ⟨ib, io, ic, x, he, hcx, hidx⟩ := ints_at (HG8.out _ _ HS9.out.kp) hlt
                    cases he
                    have HST := Lib.hid (partsV_step hidx HI9.out)
                    have HL10 := HL9.out
                    have HP8 : Hid (ps.length ≤ 10) := by have := HN9.out; unfold Hid; omega
                    clear hidx
                    go_wp2_with (first
                      | (go_at_call 17; refine (mput_any F9 _ mb _ m9 HS9.out.mka 5 al x).mono ?_; intro e w10 hp10; obtain ⟨rfl, F10, hs10⟩ := HS9.out.put hp10; have HS10 := Lib.hid hs10; clear hs10 hp10)
                      | (at_builtin; refine wp_append rfl (.tmp 114) (.tmp 119) 22 rfl w8.heap.size 3 _ 1 8 Tryd.underlying22 infoInt rfl (by decide) (by decide) _ ps.length (ints ps) rfl ((HS10.out.below (below_alloc w10 _)).own.own) _ 1 [.int .i64 (mkId m9 (nd2 5 al x))] rfl (rd_one w10 _ _) (by simp [Value.oneCell']) (by have := HP8.out; omega) (by have := HS10.out.kp.size; simp; omega) ?_; intro v11 w11 hown11 hgr11 hat11 hnil11; have HS11 := Lib.hid ((HS10.out.below (below_alloc w10 _)).app hown11 hgr11 hat11 (Nat.le_refl _)); clear hown11 hgr11 hat11 hnil11))
                    exact ⟨⟨j + 1, F10, _, _, by omega, by go_num, HS11.out, HST.out, by rw [List.length_append, HN9.out]; rfl⟩, by simp [intOf]; omega⟩
                  · as_aux_lemma =>
                    obtain rfl : j = gs.length := by omega
                    have hI := HI9.out
                    rw [List.take_length] at hI
                    rw [HM6.out] at hI
                    rw [HGE.out] at hI
                    have HRE := Lib.hid (rule_eq HI1.out HCJ.out hI)
                    have HVE := Lib.hid (vis_eq HE.out HAB.out HRE.out.1)
                    have hnn : ¬ (gs.length : Int) < (gs.length : Int) := Int.lt_irrefl _
                    have cm := HS9.out.mka.box.cell (i := 1) rfl
                    clear hI
                    by_cases hz : m9.e = 0
                    · rw [hz] at cm
                      have hve := HVE.out
                      rw [if_neg (by simpa using hz)] at hve
                      have HVG := Lib.hid hve
                      clear hve hz
                      go_wp2_with fail
                      go_ret3
                      exact vis_good HS8.out HS9.out HVG.out
                    · have hz2 : (m9.e != 0) = true := by simpa using hz
                      have hve := HVE.out
                      rw [if_pos hz] at hve
                      have HVG := Lib.hid hve
                      clear hve hz
                      go_wp2_with (go_at_call 18; refine (cut_F HS9.out.mka.tab (rows.length : Int)).mono ?_; rintro e w12 ⟨rfl, F12, hk12, ht12⟩; rw [cut_back HRE.out.2] at ht12; have HK12 := Lib.hid hk12; have HT12 := Lib.hid ht12; have cm12 := hk12.cell cm HS9.out.mka.out; clear hk12 ht12)
                      go_quiet (fail)
                      go_wp2_with fail
                      go_ret3
                      exact vis_cut HS8.out HS9.out HK12.out HT12.out HVG.out (below_drewN _ _)
              · as_aux_lemma =>
                have HCJ := Lib.hid (HC2.out.last h0)
                have hne : ((ids.length : Int) == 0) = false := by
                  have := List.length_pos_iff.2 h0
                  simp; omega
                clear h0
                have HM1 := Lib.hid (mput_any F2 _ mb _ m2 HS2.out.mka 4 c d)
                go_wp2_with fail
                refine HM1.out.mono ?_
                intro e w5 hp5
                obtain ⟨rfl, F5, hs5⟩ := HS2.out.put hp5
                have HS5 := Lib.hid hs5
                clear hs5 hp5 HM1
                go_wp2_with fail
                refine (mput_any F5 _ mb _ _ HS5.out.mka 5 all (mkId m2 (nd2 4 c d))).mono ?_
                intro e w6 hp6
                obtain ⟨rfl, F6, hs6⟩ := HS5.out.put hp6
                have HS6 := Lib.hid hs6
                clear hs6 hp6
                have HL8 := Lib.hid HAB.out.2
                obtain ⟨gs, hgs⟩ : ∃ gs, gs = a ++ [c, d] := ⟨_, rfl⟩
                have HGS : Hid (a.length + 2 = gs.length ∧ ints a ++ [.int .i64 c, .int .i64 d] = ints gs) := by rw [hgs]; exact ⟨by simp, by simp [ints]⟩
                have HGE := Lib.hid hgs
                clear hgs
                go_wp2_with (first
                  | (at_builtin; refine wp_append rfl (.tmp 102) (.tmp 103) 22 rfl w6.heap.size 3 _ 1 8 Tryd.underlying22 infoInt rfl (by decide) (by decide) _ 0 [] rfl (World.ownsRow_made w6 _ 0 (Nat.le_refl _) (by decide) (by simp)) _ a.length (ints a) rfl ((HVA.out _ _ HS6.out.kp).below (below_alloc _ _)) (ints_oneC a) (by have := HL8.out; omega) (by simp) ?_; intro v7 w7 hown7 hgr7 hat7 hnil7; simp only [Nat.zero_add, List.nil_append] at hown7; have HO7 := Lib.hid hown7; have HB7 := Lib.hid (vis_app (below_alloc w6 _) (World.ownsRow_made (e := 3) (size := 1) w6 #[] 0 (Nat.le_refl _) (by decide) (by simp)) hgr7); clear hown7 hgr7 hat7 hnil7)
                  | (at_builtin; refine wp_append rfl (.tmp 104) (.tmp 107) 22 rfl w6.heap.size 3 _ 1 8 Tryd.underlying22 infoInt rfl (by decide) (by decide) _ a.length (ints a) rfl (own_belowC HO7.out (below_alloc _ _)) _ 2 [.int .i64 c, .int .i64 d] rfl (rd_lit w7 _ _ rfl rfl) (by simp [Value.oneCell']) (by have := HL8.out; omega) (by have := HB7.out.size; simp; omega) ?_; intro v8 w8 hown8 hgr8 hat8 hnil8; rw [HGS.out.1, HGS.out.2] at hown8; have HB8 := Lib.hid (vis_app (below_trans HB7.out (below_alloc w7 _)) (own_belowC HO7.out (below_alloc _ _)) hgr8); obtain ⟨qa, qc, rfl⟩ := own_slice hown8; have HO8 := Lib.hid hown8; clear hown8 hgr8 hat8 hnil8))
                have HS8 := Lib.hid (HS6.out.below HB8.out)
                have HG8 : Hid (∀ (F9 : FP) (W : World), KeptF (F6.or (FP.one mb)) w8 F9 W → Rd W (.slice qa gs.length qc) gs.length 1 (ints gs)) := fun F9 W hk => hk.rd (rd_own HO8.out) (fun ad k c he hf => by
                  have := (HO8.out.lt ad.block (by cases he; rfl)).1
                  exact HS6.out.fresh_out this hf)
                obtain ⟨m6, hm6⟩ : ∃ m6, m6 = mkPut (mkPut m2 (nd2 4 c d)) (nd2 5 all (mkId m2 (nd2 4 c d))) := ⟨_, rfl⟩
                have HM6 := Lib.hid hm6
                rw [← hm6] at HS8 HS6
                clear hm6
                obtain ⟨wi, rfl⟩ : ∃ wi : World, wi = wr := ⟨_, rfl⟩
                have HL9 : Hid (gs.length ≤ 10) := by have := HGS.out.1; have := HL8.out; unfold Hid; omega
                go_loopw [23, 110] (fun pv u W => ∃ (j : Nat) (F9 : FP) (m9 : MK) (ps : List Int), j ≤ gs.length ∧ u = .int .i64 (j : Int) ∧ VS (F6.or (FP.one mb)) F9 w8 W mb (.pointer (some ⟨pb, 0, none⟩)) m9 pv ps ∧ partsV all (gs.take j) m6 [] = (m9, ps) ∧ ps.length = j) (fun _ u _ => gs.length - (intOf u).toNat)
                case atStart => exact ⟨0, F6, m6, [], Nat.zero_le _, rfl, HS8.out.again, rfl, rfl⟩
                case round =>
                  obtain ⟨j, F9, m9, ps, hj, rfl, hs, hi, hlen⟩ := hrel
                  have HS9 := Lib.hid hs; have HI9 := Lib.hid hi; have HN9 := Lib.hid hlen
                  obtain ⟨pa, pc, rfl⟩ := own_slice hs.own.own
                  clear hs hi hlen
                  by_cases hlt : j < gs.length
                  · as_aux_lemma =>
                    have hji : (j : Int) < (gs.length : Int) := by omega
                    obtain ⟨ib, io, ic, x, he, hcx, hidx⟩ := ints_at (HG8.out _ _ HS9.out.kp) hlt
                    cases he
                    have HST := Lib.hid (partsV_step hidx HI9.out)
                    have HL10 := HL9.out
                    have HP8 : Hid (ps.length ≤ 10) := by have := HN9.out; unfold Hid; omega
                    clear hidx
                    go_wp2_with (first
                      | (go_at_call 17; refine (mput_any F9 _ mb _ m9 HS9.out.mka 5 all x).mono ?_; intro e w10 hp10; obtain ⟨rfl, F10, hs10⟩ := HS9.out.put hp10; have HS10 := Lib.hid hs10; clear hs10 hp10)
                      | (at_builtin; refine wp_append rfl (.tmp 114) (.tmp 119) 22 rfl w8.heap.size 3 _ 1 8 Tryd.underlying22 infoInt rfl (by decide) (by decide) _ ps.length (ints ps) rfl ((HS10.out.below (below_alloc w10 _)).own.own) _ 1 [.int .i64 (mkId m9 (nd2 5 all x))] rfl (rd_one w10 _ _) (by simp [Value.oneCell']) (by have := HP8.out; omega) (by have := HS10.out.kp.size; simp; omega) ?_; intro v11 w11 hown11 hgr11 hat11 hnil11; have HS11 := Lib.hid ((HS10.out.below (below_alloc w10 _)).app hown11 hgr11 hat11 (Nat.le_refl _)); clear hown11 hgr11 hat11 hnil11))
                    exact ⟨⟨j + 1, F10, _, _, by omega, by go_num, HS11.out, HST.out, by rw [List.length_append, HN9.out]; rfl⟩, by simp [intOf]; omega⟩
                  · as_aux_lemma =>
                    obtain rfl : j = gs.length := by omega
                    have hI := HI9.out
                    rw [List.take_length] at hI
                    rw [HM6.out] at hI
                    rw [HGE.out] at hI
                    have HRE := Lib.hid (rule_eq HI1.out HCJ.out hI)
                    have HVE := Lib.hid (vis_eq HE.out HAB.out HRE.out.1)
                    have hnn : ¬ (gs.length : Int) < (gs.length : Int) := Int.lt_irrefl _
                    have cm := HS9.out.mka.box.cell (i := 1) rfl
                    clear hI
                    by_cases hz : m9.e = 0
                    · rw [hz] at cm
                      have hve := HVE.out
                      rw [if_neg (by simpa using hz)] at hve
                      have HVG := Lib.hid hve
                      clear hve hz
                      go_wp2_with fail
                      go_ret3
                      exact vis_good HS8.out HS9.out HVG.out
                    · have hz2 : (m9.e != 0) = true := by simpa using hz
                      have hve := HVE.out
                      rw [if_pos hz] at hve
                      have HVG := Lib.hid hve
                      clear hve hz
                      go_wp2_with (go_at_call 18; refine (cut_F HS9.out.mka.tab (rows.length : Int)).mono ?_; rintro e w12 ⟨rfl, F12, hk12, ht12⟩; rw [cut_back HRE.out.2] at ht12; have HK12 := Lib.hid hk12; have HT12 := Lib.hid ht12; have cm12 := hk12.cell cm HS9.out.mka.out; clear hk12 ht12)
                      go_quiet (fail)
                      go_wp2_with fail
                      go_ret3
                      exact vis_cut HS8.out HS9.out HK12.out HT12.out HVG.out (below_drewN _ _)
end Go.Dk
end
