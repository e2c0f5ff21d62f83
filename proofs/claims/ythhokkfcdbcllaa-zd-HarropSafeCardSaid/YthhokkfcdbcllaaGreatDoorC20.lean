/- Parts of the proof: Hm, Hn, Ho, Hp, Hq, Hr. -/
import Derived.Deep.RegionHeld3
import Derived.Outline
import Derived.IntWalk
import Derived.BigQuiet
import Derived.Deep.QuietTactic
import Derived.Lib.LaidTab
import Derived.Test.YthhokkfcdbcllaaGreatDoorC01
import Derived.Test.YthhokkfcdbcllaaGreatDoorC02
import Derived.Test.YthhokkfcdbcllaaGreatDoorC03
import Derived.Test.YthhokkfcdbcllaaGreatDoorC04
import Derived.Test.YthhokkfcdbcllaaGreatDoorC05
import Derived.Test.YthhokkfcdbcllaaGreatDoorC06
import Derived.Test.YthhokkfcdbcllaaGreatDoorC07
import Derived.Test.YthhokkfcdbcllaaGreatDoorC08
import Derived.Test.YthhokkfcdbcllaaGreatDoorC09
import Derived.Test.YthhokkfcdbcllaaGreatDoorC10
import Derived.Test.YthhokkfcdbcllaaGreatDoorC11
import Derived.Test.YthhokkfcdbcllaaGreatDoorC12
import Derived.Test.YthhokkfcdbcllaaGreatDoorC13
import Derived.Test.YthhokkfcdbcllaaGreatDoorC14
import Derived.Test.YthhokkfcdbcllaaGreatDoorC15
import Derived.Test.YthhokkfcdbcllaaGreatDoorC16
import Derived.Test.YthhokkfcdbcllaaGreatDoorC17
import Derived.Test.YthhokkfcdbcllaaGreatDoorC18
import Derived.Test.YthhokkfcdbcllaaGreatDoorC19
section
namespace Go.Dk
open Go.RowKit Go.Maps Go.MapKept Go.Shelf
open Go.Proofs hiding intOf
theorem TabG.pos {w : World} (h : TabG w) : 0 < w.heap.size := World.block_lt_of_cell? _ _ (h 0 (by omega))
theorem TabG.keptF {w w' : World} {F F' : FP} (h : TabG w) (hk : KeptF F w F' w') (hn : ¬ F 0) : TabG w' := h.of_block (hk.block 0 h.pos hn)
/-- A table of rows that fit, of new blocks. -/
theorem from_F (w : World) (v : Value) (rows : List ND) (hn : ∀ n ∈ rows, n.name.size ≤ maxLen) (hr : Rd w v rows.length 4 (nodeCells rows)) (hm : rows.length ≤ maxLen) (h0 : fromE [] rows = 0) :
    Calls Tryz.prog 24 #[v] w fun e w' => ∃ t F, e = .returned (.tuple #[t, .int .i64 0]) ∧ TabF F w' t rows ∧ (∀ b, F b → w.heap.size ≤ b) ∧ Below w.heap.size w w' := by
  refine (from_any 1 (fun _ => 0) w v rows hn hr hm).mono ?_
  rintro e w' ⟨t, he, hb, ht, _⟩
  rw [h0] at he
  subst he
  obtain ⟨ow, hk, ht⟩ := ht h0
  refine ⟨t, _, rfl, TabF.of_tab ht, fun b hb => ?_, hb⟩
  apply Classical.byContradiction
  intro hn
  have := hk.own b (by omega)
  rw [hb.2] at this
  cases this
theorem slice_block {b o n m n' m' : Nat} {ad : Addr} (h : (Value.slice (some ⟨b, o, none⟩) n m) = .slice (some ad) n' m') : ad.block = b := by cases h; rfl
set_option maxRecDepth 100000 in
set_option maxHeartbeats 4000000 in
theorem heads27_any (w : World) (hT : TabG w) : Calls Tryz.prog 10 #[] w fun e w' => e = .returned (.bool true) ∧ Below w.heap.size w w' := by
  have HT := Lib.hid hT
  have HF : Hid (∀ W : World, Below w.heap.size w W → ∀ v, Rd W v h27.length 4 (nodeCells h27) → Calls Tryz.prog 24 #[v] W fun e w' => ∃ t F, e = .returned (.tuple #[t, .int .i64 0]) ∧ TabF F w' t h27 ∧ (∀ b, F b → w.heap.size ≤ b) ∧ Below W.heap.size W w') := fun W hb v hr =>
    (from_F W v h27 (by decide) hr (by decide) (by kernel_rfl)).mono fun e w' ⟨t, F, a, b, c, d⟩ => ⟨t, F, a, b, fun x hx => Nat.le_trans hb.size (c x hx), d⟩
  clear hT
  go_enter Tryz.func10, Tryz.ntmps10
  go_wp2_with fail
  refine (HF.out _ (below_alloc _ _) _ (rd_lit (n := 7) (size := 4) w _ _ rfl rfl)).mono ?_
  rintro e w2 ⟨t, F, rfl, ht2, hf2, hb2⟩
  have HT2 := Lib.hid ht2
  have HN2 := Lib.hid hf2
  have HB2 := Lib.hid (below_trans (below_alloc w _) hb2)
  have HG2 := Lib.hid (HT.out.below HB2.out)
  clear ht2 hf2 hb2 HF
  have HIS : Hid (∀ (W : World) (id : Int) (b : Bool), Below w2.heap.size w2 W → isP h27 id = (b, 0) → Calls Tryz.prog 11 #[t, .int .i64 id] W fun e w' => e = .returned (.tuple #[.bool b, .int .i64 0]) ∧ Below W.heap.size W w') := fun W id b hb he => by
    have := is_any F W t h27 (HT2.out.below hb) id
    rwa [he] at this
  have HDJ : Hid (∀ (W : World) (v : Value) (zs : List Int) (g x y : Int), Below w2.heap.size w2 W → Rd W v zs.length 1 (ints zs) → zs.length ≤ 1 → disjP h27 zs g = (x, y) → Calls Tryz.prog 12 #[t, v, .int .i64 g] W fun e w' => e = .returned (.tuple #[.int .i64 x, .int .i64 y]) ∧ Below W.heap.size W w') := fun W v zs g x y hb hr hl he => by
    have := disj_any F W t v h27 (HT2.out.below hb) (HG2.out.below hb) zs hr (by omega) g
    rw [he] at this
    exact this
  have e1 : (.int .i64 5 : Value) = .int .i64 5 := rfl
  go_wp2_with fail
  refine (HIS.out w2 5 true (Below.refl _ _) h27_is5).mono ?_
  rintro e w3 ⟨rfl, hb3⟩
  have HB3 := Lib.hid hb3
  clear hb3
  go_wp2_with fail
  refine (HIS.out w3 4 false HB3.out h27_is4).mono ?_
  rintro e w4 ⟨rfl, hb4⟩
  have HB4 := Lib.hid (below_trans HB3.out hb4)
  clear hb4 HB3
  go_wp2_with fail
  refine (HDJ.out (w4.alloc _) _ [0] 3 _ _ (below_trans HB4.out (below_alloc _ _)) (rd_lit (n := 1) (size := 1) w4 _ _ rfl rfl) (by simp) h27_d1).mono ?_
  rintro e w5 ⟨rfl, hb5⟩
  have HB5 := Lib.hid (below_trans (below_trans HB4.out (below_alloc _ _)) hb5)
  clear hb5 HB4
  go_wp2_with fail
  refine (HDJ.out (w5.alloc _) _ [3] 3 _ _ (below_trans HB5.out (below_alloc _ _)) (rd_lit (n := 1) (size := 1) w5 _ _ rfl rfl) (by simp) h27_d2).mono ?_
  rintro e w6 ⟨rfl, hb6⟩
  have HB6 := Lib.hid (below_trans (below_trans HB5.out (below_alloc _ _)) hb6)
  clear hb6 HB5
  go_wp2_with fail
  refine (HDJ.out w6 _ [] 6 _ _ HB6.out (rd_nil w6) (by simp) h27_d3).mono ?_
  rintro e w7 ⟨rfl, hb7⟩
  have HB7 := Lib.hid (below_trans HB6.out hb7)
  clear hb7 HB6
  go_wp2_with fail
  have HB8 := Lib.hid (below_trans HB7.out (below_trans (below_alloc w7 (.cells #[.int .i64 0] 3)) (below_alloc _ (.cells #[.int .i64 2] 3))))
  have HR8 : Hid (Rd ((w7.alloc (.cells #[.int .i64 0] 3)).alloc (.cells #[.int .i64 2] 3)) (.slice (some ⟨w7.heap.size, 0, none⟩) 1 1) [(0 : Int)].length 1 (ints [0]) ∧ Rd ((w7.alloc (.cells #[.int .i64 0] 3)).alloc (.cells #[.int .i64 2] 3)) (.slice (some ⟨w7.heap.size + 1, 0, none⟩) 1 1) [(2 : Int)].length 1 (ints [2])) :=
    ⟨(rd_lit (n := 1) (size := 1) w7 _ _ rfl rfl).below (below_alloc _ _), rdH (n := 1) (size := 1) _ (by simp) _ _ rfl rfl⟩
  have HS8 : Hid (((w7.alloc (.cells #[.int .i64 0] 3)).alloc (.cells #[.int .i64 2] 3)).heap.size = w7.heap.size + 2) := by unfold Hid; simp
  generalize (w7.alloc (.cells #[.int .i64 0] 3)).alloc (.cells #[.int .i64 2] 3) = w8 at *
  have HAD := Lib.hid (admits_any F w8 t _ _ h27 (HT2.out.below HB8.out) (HG2.out.below HB8.out) [0] [2] HR8.out.1 HR8.out.2 (by decide) (by decide) 1 5)
  rw [h27_ad] at HAD
  refine HAD.out.mono ?_
  rintro e w9 ⟨rfl, hb9⟩
  have HB9 := Lib.hid (below_trans HB8.out hb9)
  clear hb9 HB8 HAD HR8 HS8
  go_wp2_with fail
  have HB10 := Lib.hid (below_trans HB9.out (below_trans (below_alloc w9 (.cells #[.int .i64 0] 3)) (below_alloc _ (.cells #[.int .i64 2] 3))))
  have HR10 : Hid (Rd ((w9.alloc (.cells #[.int .i64 0] 3)).alloc (.cells #[.int .i64 2] 3)) (.slice (some ⟨w9.heap.size, 0, none⟩) 1 1) [(0 : Int)].length 1 (ints [0]) ∧ Rd ((w9.alloc (.cells #[.int .i64 0] 3)).alloc (.cells #[.int .i64 2] 3)) (.slice (some ⟨w9.heap.size + 1, 0, none⟩) 1 1) [(2 : Int)].length 1 (ints [2])) :=
    ⟨(rd_lit (n := 1) (size := 1) w9 _ _ rfl rfl).below (below_alloc _ _), rdH (n := 1) (size := 1) _ (by simp) _ _ rfl rfl⟩
  have HS9 : Hid (w2.heap.size ≤ w9.heap.size) := HB9.out.size
  generalize (w9.alloc (.cells #[.int .i64 0] 3)).alloc (.cells #[.int .i64 2] 3) = w10 at *
  have HVI := Lib.hid (visser_any F w10 t _ _ h27 (HT2.out.below HB10.out) [0] [2] (fun F1 W hk => hk.rd HR10.out.1 (fun ad m c e hf => by have := slice_block e; have := HT2.out.in_ _ hf; have := HS9.out; omega)) (fun F1 W hk => hk.rd HR10.out.2 (fun ad m c e hf => by have := slice_block e; have := HT2.out.in_ _ hf; have := HS9.out; omega)) (by decide) (by decide) 1 0)
  rw [h27_vi] at HVI
  refine HVI.out.mono ?_
  rintro e w11 ⟨pv, F11, rfl, hk11, ht11, ho11⟩
  obtain ⟨qa, qc, rfl⟩ := own_slice ho11.own
  have HK11 := Lib.hid ((KeptF.of_below HT2.out.in_ HB10.out).trans hk11)
  have HT11 := Lib.hid ht11
  have HB11 : Hid (Below w.heap.size w w11) := HB2.out.trans (HK11.out.below HB2.out.size (fun b hb hf => by have := HN2.out b hf; omega))
  clear hk11 ht11 ho11 HVI HR10 HS9 HB9 HB10
  go_wp2_with fail
  have HX12 := Lib.hid (kills_any F11 (w11.alloc (.cells #[.string ⟨#[113]⟩, .int .i64 5] 64)) t _ v27 (HT11.out.below (below_alloc _ _)) ((HT.out.below HB11.out).below (below_alloc _ _)) 1 0 by27 (by decide) (rd_lit (n := 1) (size := 2) w11 _ _ rfl rfl) (by decide))
  rw [v27_k] at HX12
  refine HX12.out.mono ?_
  rintro e w13 ⟨rfl, hb13⟩
  have HB13 := Lib.hid (below_trans (below_trans HB11.out (below_alloc _ _)) hb13)
  clear hb13 HX12
  go_wp2_with fail
  go_ret
  exact ⟨rfl, HB13.out⟩
end Go.Dk
end

section
namespace Go.Dk
open Go.RowKit Go.Maps Go.MapKept Go.Shelf
open Go.Proofs hiding intOf
/-- The two tables of the same rows. -/
def BothF (w : World) (rows : List ND) (e : Ending) (w' : World) : Prop :=
  ∃ t r F ow, e = .returned (.tuple #[t, r, .bool true]) ∧ TabF F w' t rows ∧ RTab 2 ow w' r rows ∧ (∀ b, F b → w.heap.size ≤ b) ∧ Below w.heap.size w w'
section
variable (w : World) (v : Value) (rows : List ND) (hn : ∀ n ∈ rows, n.name.size ≤ maxLen) (hr : Rd w v rows.length 4 (nodeCells rows)) (hm : rows.length ≤ maxLen) (hl : rows.length * 40 ≤ 140737488355328)
include hn hr hm hl
theorem both_yes (h0 : fromE [] rows = 0) : Calls Tryz.prog 8 #[v] w (BothF w rows) := by
  refine (both_any w v rows hn hr hm hl).mono ?_
  rintro e w' ⟨hb, _, h⟩
  obtain ⟨t, r, ow, rfl, hp, ho⟩ := h h0
  refine ⟨t, r, _, ow, rfl, TabF.of_tab hp.t, hp.r, fun b hf => ?_, hb⟩
  apply Classical.byContradiction
  intro hn
  have := ho b (by omega)
  rw [hf.2] at this
  cases this
theorem both_no (h0 : fromE [] rows ≠ 0) : Calls Tryz.prog 8 #[v] w fun e w' => e = .returned (.tuple #[.pointer none, .pointer none, .bool false]) ∧ Below w.heap.size w w' := by
  refine (both_any w v rows hn hr hm hl).mono ?_
  rintro e w' ⟨hb, h, _⟩
  exact ⟨h h0, hb⟩
end
theorem toldP_of {rows : List ND} {ns : List Nat} {g : Nat} (he : askE rows ns g = 0) : toldP rows ns g = if askB rows ns g = true then 1 else 0 := by
  have h0 : (askR rows ns g).err = 0 := by
    unfold askE at he
    split at he
    · assumption
    · cases he
  unfold toldP askB
  rw [if_neg (by simpa using h0), h0]
  simp
theorem ctx_prefix {rows rows' : List ND} (h : rows <+: rows') {ns : List Nat} (hn : ∀ n ∈ ns, n < rows.length) : ctx rows' ns = ctx rows ns := by
  funext f
  unfold ctx
  apply propext
  constructor
  · rintro ⟨n, h1, h2⟩; exact ⟨n, h1, by rw [← tree_prefix h (hn n h1)]; exact h2⟩
  · rintro ⟨n, h1, h2⟩; exact ⟨n, h1, by rw [tree_prefix h (hn n h1)]; exact h2⟩
/-- What is proved is not told as refuted by a longer table. -/
theorem told_stays {rows rows' : List ND} (ok' : Ok rows') (h : rows <+: rows') {ns : List Nat} (hn : ∀ n ∈ ns, n < rows.length) {g : Nat} (hg : g < rows.length) (hv : Valid (ctx rows ns) (tree rows g)) : toldP rows' ns g ≠ 0 := by
  intro h0
  have hl := h.length_le
  have := told_zero ok' (fun n hn' => Nat.lt_of_lt_of_le (hn n hn') hl) (Nat.lt_of_lt_of_le hg hl) h0
  rw [ctx_prefix h hn, tree_prefix h hg] at this
  exact not_both hv this
/-- How the part of an or comes out. -/
theorem disj_cases {rows : List ND} (ok : Ok rows) {zs : List Int} (hz : ∀ z ∈ zs, hasB rows.length z = true) {g : Nat} (hg : g < rows.length) (h4 : (rowAt rows g).kind = 4) (hh : (zs.all fun z => harB rows z.toNat) = true) :
    ∃ l r : Nat, (rowAt rows g).l = (l : Int) ∧ (rowAt rows g).r = (r : Int) ∧ l < rows.length ∧ r < rows.length ∧
      (disjP rows zs (g : Int) = (0, 110) ∨ (disjP rows zs (g : Int) = (0, 2) ∧ toldP rows (natsOf zs) g ≠ 1) ∨
        ∃ k : Nat, disjP rows zs (g : Int) = ((k : Int), 0) ∧ (k = l ∨ k = r) ∧ toldP rows (natsOf zs) k ≠ 0 ∧ ∀ rows', rows <+: rows' → Ok rows' → toldP rows' (natsOf zs) g ≠ 0) := by
  obtain ⟨pl, pr⟩ := ok.parts (rowAt_get hg) (by rw [h4]; decide)
  obtain ⟨l, hl⟩ := Int.eq_ofNat_of_zero_le pl.1
  obtain ⟨r, hr⟩ := Int.eq_ofNat_of_zero_le pr.1
  have hll : l < rows.length := by omega
  have hrl : r < rows.length := by omega
  refine ⟨l, r, hl, hr, hll, hrl, ?_⟩
  have hns : ∀ n ∈ natsOf zs, n < rows.length := fun n hn => by
    obtain ⟨z, hz', rfl⟩ := List.mem_map.1 hn
    obtain ⟨k, rfl, hk⟩ := nat_of_has (hz z hz')
    simpa using hk
  have hE : lookE rows (zs ++ [(g : Int)]) = 0 := by
    unfold lookE
    rw [if_pos]
    rw [List.all_append, List.all_eq_true.2 hz]
    simp [hasB, hg]
  have hd : disjP rows zs (g : Int) = if askE rows (natsOf zs) g ≠ 0 then (0, 110) else if askB rows (natsOf zs) g = false then (0, 2) else if askE rows (natsOf zs) l ≠ 0 then (0, 110) else if askB rows (natsOf zs) l = true then ((l : Int), 0) else if askE rows (natsOf zs) r ≠ 0 then (0, 110) else ((r : Int), 0) := by
    unfold disjP
    rw [if_neg (by simpa using hE), if_neg (by simpa using h4), if_neg (by simpa using hh)]
    simp [hl, hr]
  rw [hd]
  rcases askE_cases rows (natsOf zs) g with e0 | e0
  · rw [if_neg (by simp [e0])]
    cases b0 : askB rows (natsOf zs) g with
    | false =>
      refine .inr (.inl ⟨rfl, ?_⟩)
      rw [toldP_of e0, b0]; decide
    | true =>
      rw [if_neg (by simp)]
      have hv := ask_yes ok hns hg b0
      have htree : tree rows g = .or (tree rows l) (tree rows r) := by
        rw [tree_two ok (rowAt_get hg) (by rw [h4]; decide)]
        simp [treeOf, h4, hl, hr]
      have hst : ∀ rows', rows <+: rows' → Ok rows' → toldP rows' (natsOf zs) g ≠ 0 := fun rows' hp ok' => told_stays ok' hp hns hg hv
      rcases askE_cases rows (natsOf zs) l with e1 | e1
      · rw [if_neg (by simp [e1])]
        cases b1 : askB rows (natsOf zs) l with
        | true =>
          rw [if_pos rfl]
          exact .inr (.inr ⟨l, rfl, .inl rfl, by rw [toldP_of e1, b1]; decide, hst⟩)
        | false =>
          rw [if_neg (by simp)]
          rcases askE_cases rows (natsOf zs) r with e2 | e2
          · rw [if_neg (by simp [e2])]
            refine .inr (.inr ⟨r, rfl, .inr rfl, fun h0 => ?_, hst⟩)
            have ra := ask_no ok hns hll e1 b1
            have rb := told_zero ok hns hrl h0
            rw [htree] at hv
            refine splits (fun f hf => ?_) hv ra rb
            obtain ⟨n, hn, rfl⟩ := hf
            obtain ⟨z, hz', rfl⟩ := List.mem_map.1 hn
            exact harF_sound _ (List.all_eq_true.1 hh z hz')
          · rw [if_pos (by simp [e2])]; exact .inl rfl
      · rw [if_pos (by simp [e1])]; exact .inl rfl
  · rw [if_pos (by simp [e0])]; exact .inl rfl
set_option maxRecDepth 100000 in
set_option maxHeartbeats 4000000 in
theorem splits_any (w : World) (hT : TabG w) (v0 : Value) (rows : List ND) (hn : ∀ n ∈ rows, n.name.size ≤ maxLen) (hr : Rd w v0 rows.length 4 (nodeCells rows)) (hm : rows.length ≤ maxLen) (hl : rows.length * 40 ≤ 140737488355328)
    (v1 : Value) (zs : List Int) (hv : Rd w v1 zs.length 1 (ints zs)) (hzl : zs.length < 2 ^ 62) (goal : Int) :
    Calls Tryz.prog 3 #[v0, v1, .int .i64 goal] w fun e w' => e = .returned (.bool true) ∧ Below w.heap.size w w' := by
  have HT := Lib.hid hT
  have HV := Lib.hid hv
  have HZL := Lib.hid hzl
  have HH : Hid (∀ W : World, Below w.heap.size w W → Calls Tryz.prog 10 #[] W fun e w' => e = .returned (.bool true) ∧ Below W.heap.size W w') := fun W hb => heads27_any W (hT.below hb)
  by_cases h0 : fromE [] rows = 0
  case neg =>
    have HB := Lib.hid (both_no w v0 rows hn hr hm hl h0)
    clear h0 hn hr hm hl hT hv hzl
    go_enter Tryz.func3, Tryz.ntmps3
    go_wp2_with (first
      | (go_at_call 8; refine HB.out.mono ?_; rintro e w2 ⟨rfl, hb2⟩; have HB2 := Lib.hid hb2; clear hb2)
      | (go_at_call 10; refine (HH.out _ HB2.out).mono ?_; rintro e w3 ⟨rfl, hb3⟩; have HB3 := Lib.hid (below_trans HB2.out hb3); clear hb3))
    go_ret
    exact ⟨rfl, HB3.out⟩
  case pos =>
    have HB := Lib.hid (both_yes w v0 rows hn hr hm hl h0)
    obtain ⟨va, vc, rfl⟩ := hv.slice
    clear h0 hn hr hm hl hT hv hzl
    by_cases hg : hasB rows.length goal = true
    case neg =>
      have hg' : hasB rows.length goal = false := by simpa using hg
      clear hg
      go_enter Tryz.func3, Tryz.ntmps3
      go_wp2_with (first
        | (go_at_call 8; refine HB.out.mono ?_; rintro e w2 ⟨t, r, F, ow, rfl, ht2, hr2, hf2, hb2⟩; have HR2 := Lib.hid hr2; have HB2 := Lib.hid hb2; clear ht2 hr2 hf2 hb2)
        | (go_at_call 9; refine (refHas_any 2 ow w2 r rows HR2.out goal).mono ?_; rintro e w' ⟨rfl, rfl⟩; rw [hg'])
        | (go_at_call 10; refine (HH.out _ HB2.out).mono ?_; rintro e w3 ⟨rfl, hb3⟩; have HB3 := Lib.hid (below_trans HB2.out hb3); clear hb3))
      go_ret
      exact ⟨rfl, HB3.out⟩
    case pos =>
      obtain ⟨g, rfl, hgl⟩ := nat_of_has hg
      have HGL := Lib.hid hgl
      have HRA := Lib.hid (rowAt_get hgl)
      clear hgl
      by_cases h4 : (rowAt rows g).kind = 4
      case neg =>
        have g4 : ((rowAt rows g).kind != 4) = true := by simpa using h4
        clear h4
        go_enter Tryz.func3, Tryz.ntmps3
        go_wp2_with (first
          | (go_at_call 8; refine HB.out.mono ?_; rintro e w2 ⟨t, r, F, ow, rfl, ht2, hr2, hf2, hb2⟩; have HR2 := Lib.hid hr2; obtain ⟨rb, rv, rfl, hra⟩ := hr2; obtain ⟨rg, rc, _, hrow⟩ := hra.row HRA.out; obtain ⟨cp, d0, _, _, _⟩ := hrow; have HB2 := Lib.hid hb2; clear ht2 hf2 hb2 hra)
          | (go_at_call 9; refine (refHas_any 2 ow w2 _ rows HR2.out _).mono ?_; rintro e w' ⟨rfl, rfl⟩; rw [hg])
          | (go_at_call 10; refine (HH.out _ HB2.out).mono ?_; rintro e w3 ⟨rfl, hb3⟩; have HB3 := Lib.hid (below_trans HB2.out hb3); clear hb3))
        go_ret
        exact ⟨rfl, HB3.out⟩
      case pos =>
        have H4 := Lib.hid h4
        have g4 : ((rowAt rows g).kind != 4) = false := by simpa using h4
        clear h4
        go_enter Tryz.func3, Tryz.ntmps3
        go_wp2_with (first
          | (go_at_call 8; refine HB.out.mono ?_; rintro e w2 ⟨t, r, F, ow, rfl, ht2, hr2, hf2, hb2⟩; have HR2 := Lib.hid hr2; obtain ⟨rb, rv, rfl, hra⟩ := hr2; obtain ⟨rg, rc, _, hrow⟩ := hra.row HRA.out; have HRW := Lib.hid hrow; have cp := hrow.cp; have d0 := hrow.d0; clear hrow; have HT2 := Lib.hid ht2; have HF2 := Lib.hid hf2; have HB2 := Lib.hid hb2; clear ht2 hf2 hb2 hra)
          | (go_at_call 9; refine (refHas_any 2 ow w2 _ rows HR2.out _).mono ?_; rintro e w' ⟨rfl, rfl⟩; rw [hg]))
        clear cp d0
        have HG2 := Lib.hid (HT.out.below HB2.out)
        have HF0 : Hid (¬ F 0) := fun hf => by have := HF2.out 0 hf; have := HT.out.pos; omega
        go_loopw [10] (fun u W => ∃ j : Nat, j ≤ zs.length ∧ u = .int .i64 (j : Int) ∧ ((zs.take j).all fun z => hasB rows.length z && harB rows z.toNat) = true ∧ Below w2.heap.size w2 W) (fun u _ => zs.length - (intOf u).toNat)
        case atStart => exact ⟨0, Nat.zero_le _, rfl, by simp, Below.refl _ _⟩
        case round =>
          obtain ⟨j, hj, rfl, hall, hb⟩ := hrel
          have HA := Lib.hid hall; have HBB := Lib.hid hb
          clear hall hb
          by_cases hlt : j < zs.length
          · as_aux_lemma =>
            obtain ⟨b, o, c1, z, he, hc1, hzk⟩ := ints_at ((HV.out.below HB2.out).below HBB.out) hlt
            cases he
            have hji : (j : Int) < (zs.length : Int) := by omega
            have HS := Lib.hid (all_take (p := fun z => hasB rows.length z && harB rows z.toNat) hzk)
            have HI := Lib.hid (is_any F wr t rows (HT2.out.below HBB.out) z)
            have HL2 := HZL.out
            clear hzk
            by_cases hh : hasB rows.length z = true ∧ harB rows z.toNat = true
            · have HAA : Hid (((zs.take (j + 1)).all fun z => hasB rows.length z && harB rows z.toNat) = true) := by unfold Hid; rw [HS.out, HA.out]; simp [hh.1, hh.2]
              have e1 : isP rows z = (true, 0) := by unfold isP; rw [if_pos hh.1, hh.2]
              rw [e1] at HI
              clear hh e1
              go_wp2_with (go_at_call 11; refine HI.out.mono ?_; rintro e w7 ⟨rfl, hb7⟩; have HB7 := Lib.hid (below_trans HBB.out hb7); clear hb7)
              exact ⟨⟨j + 1, by omega, by go_num, HAA.out, HB7.out⟩, by simp [intOf]; omega⟩
            · by_cases hz : hasB rows.length z = true
              · have e1 : isP rows z = (false, 0) := by
                  unfold isP
                  rw [if_pos hz]
                  have : harB rows z.toNat = false := by simpa using fun h => hh ⟨hz, h⟩
                  rw [this]
                rw [e1] at HI
                clear hh e1 hz
                go_wp2_with (first
                  | (go_at_call 11; refine HI.out.mono ?_; rintro e w7 ⟨rfl, hb7⟩; have HB7 := Lib.hid (below_trans HB2.out (below_trans HBB.out hb7)); clear hb7)
                  | (go_at_call 10; refine (HH.out _ HB7.out).mono ?_; rintro e w8 ⟨rfl, hb8⟩; have HB8 := Lib.hid (below_trans HB7.out hb8); clear hb8))
                go_ret
                exact ⟨rfl, HB8.out⟩
              · have e1 : isP rows z = (false, 31) := by unfold isP; rw [if_neg hz]
                rw [e1] at HI
                clear hh e1 hz
                go_wp2_with (first
                  | (go_at_call 11; refine HI.out.mono ?_; rintro e w7 ⟨rfl, hb7⟩; have HB7 := Lib.hid (below_trans HB2.out (below_trans HBB.out hb7)); clear hb7)
                  | (go_at_call 10; refine (HH.out _ HB7.out).mono ?_; rintro e w8 ⟨rfl, hb8⟩; have HB8 := Lib.hid (below_trans HB7.out hb8); clear hb8))
                go_ret
                exact ⟨rfl, HB8.out⟩
          · as_aux_lemma =>
            obtain rfl : j = zs.length := by omega
            have hA := HA.out
            rw [List.take_length] at hA
            have HZ : Hid (∀ z ∈ zs, hasB rows.length z = true) := fun z hz => by
              have := List.all_eq_true.1 hA z hz
              simp only [Bool.and_eq_true] at this
              exact this.1
            have HH2 : (zs.all fun z => harB rows z.toNat) = true := List.all_eq_true.2 fun z hz => by
              have := List.all_eq_true.1 hA z hz
              simp only [Bool.and_eq_true] at this
              exact this.2
            obtain ⟨l, r', hl, hr, hll, hrl, hcase⟩ := disj_cases HT2.out.ok HZ.out HGL.out H4.out HH2
            have HDJ := Lib.hid (disj_any F wr t _ rows (HT2.out.below HBB.out) (HG2.out.below HBB.out) zs ((HV.out.below HB2.out).below HBB.out) HZL.out (g : Int))
            have HTD : Hid (∀ (W : World) (F1 : FP) (rows1 : List ND) (n : Nat), KeptF F w2 F1 W → TabF F1 W t rows1 → rows <+: rows1 → n < rows.length → Calls Tryz.prog 13 #[t, .slice va zs.length vc, .int .i64 (n : Int)] W (ToldPost F1 W t rows1 (toldP rows1 (natsOf zs) n))) := fun W F1 rows1 n hk ht hp hn => by
              have h0 : ¬ F1 0 := fun hf => HF0.out (hk.sub 0 (HG2.out.pos) hf)
              have hbw := hk.below (B := w.heap.size) HB2.out.size (fun b hb hf => by have := HF2.out b hf; omega)
              have hpl := hp.length_le
              exact told_any F1 W t rows1 ht (HG2.out.keptF hk HF0.out) h0 _ zs (HV.out.below (HB2.out.trans hbw)) HZL.out (fun z hz => by obtain ⟨m, rfl, hm⟩ := nat_of_has (HZ.out z hz); simp [hasB]; omega) n (by omega)
            have HHW : Hid (∀ (W : World) (F1 : FP), KeptF F w2 F1 W → Calls Tryz.prog 10 #[] W fun e w' => e = .returned (.bool true) ∧ Below w.heap.size w w') := fun W F1 hk => by
              have hbw := HB2.out.trans (hk.below (B := w.heap.size) HB2.out.size (fun b hb hf => by have := HF2.out b hf; omega))
              exact (HH.out W hbw).mono fun e w' ⟨h1, h2⟩ => ⟨h1, below_trans hbw h2⟩
            have HKW : Hid (KeptF F w2 F wr) := KeptF.of_below HT2.out.in_ HBB.out
            have hnn : ¬ (zs.length : Int) < (zs.length : Int) := Int.lt_irrefl _
            clear hA HH2
            rcases hcase with hc | ⟨hc, ht1⟩ | ⟨k, hc, hk, ht0, hts⟩
            · rw [hc] at HDJ
              clear hc
              go_wp2_with (first
                | (go_at_call 12; refine HDJ.out.mono ?_; rintro e w7 ⟨rfl, hb7⟩; have HK7 := Lib.hid (HKW.out.trans (KeptF.of_below HKW.out.lt hb7)); clear hb7)
                | (go_at_call 10; refine (HHW.out _ _ HK7.out).mono ?_; rintro e w8 ⟨rfl, hb8⟩; have HB8 := Lib.hid hb8; clear hb8))
              go_ret
              exact ⟨rfl, HB8.out⟩
            · rw [hc] at HDJ
              have g1 : (toldP rows (natsOf zs) g != 1) = true := by simpa using ht1
              clear hc ht1
              go_wp2_with (first
                | (go_at_call 12; refine HDJ.out.mono ?_; rintro e w7 ⟨rfl, hb7⟩; have HT7 := Lib.hid ((HT2.out.below HBB.out).below hb7); have HK7 := Lib.hid (HKW.out.trans (KeptF.of_below HKW.out.lt hb7)); clear hb7)
                | (go_at_call 13; refine (HTD.out _ F rows g HK7.out HT7.out (List.prefix_refl _) HGL.out).mono ?_; rintro e w8 ⟨rfl, F8, rows8, hk8, _, _⟩; have HK8 := Lib.hid (HK7.out.trans hk8); clear hk8)
                | (go_at_call 10; refine (HHW.out _ _ HK8.out).mono ?_; rintro e w9 ⟨rfl, hb9⟩; have HB9 := Lib.hid hb9; clear hb9))
              go_ret
              exact ⟨rfl, HB9.out⟩
            · rw [hc] at HDJ
              have g1 : (toldP rows (natsOf zs) k != 0) = true := by simpa using ht0
              have HKL : Hid (k < rows.length) := by unfold Hid; rcases hk with rfl | rfl <;> assumption
              have HTS := Lib.hid hts
              clear hc ht0 hts
              have HLR : Hid ((rowAt rows g).l = (l : Int) ∧ (rowAt rows g).r = (r' : Int)) := ⟨hl, hr⟩
              have tok1 : True := trivial
              clear hl hr
              by_cases hkl : k = l
              · subst hkl
                clear hk
                go_wp2_with (first
                  | (go_at_call 12; refine HDJ.out.mono ?_; rintro e w7 ⟨rfl, hb7⟩; have HT7 := Lib.hid ((HT2.out.below HBB.out).below hb7); have HK7 := Lib.hid (HKW.out.trans (KeptF.of_below HKW.out.lt hb7)); obtain ⟨cp, d0, d1, d2, d3⟩ := (HRW.out.below HBB.out).below hb7; rw [HLR.out.1] at d2; rw [HLR.out.2] at d3; clear hb7)
                  | (go_at_call 13; have _t := tok1; refine (HTD.out _ F rows k (HK7.out.trans (KeptF.of_below HK7.out.lt (below_alloc _ _))) (HT7.out.below (below_alloc _ _)) (List.prefix_refl _) HKL.out).mono ?_; rintro e w8 ⟨rfl, F8, rows8, hk8, ht8, hp8⟩; have HK8 := Lib.hid ((HK7.out.trans (KeptF.of_below HK7.out.lt (below_alloc _ _))).trans hk8); have HT8 := Lib.hid ht8; have HP8 := Lib.hid hp8; have g2 : (toldP rows8 (natsOf zs) g != 0) = true := (by simpa using HTS.out rows8 hp8 ht8.ok); clear tok1 hk8 ht8 hp8)
                  | (go_at_call 13; refine (HTD.out _ F8 rows8 g HK8.out HT8.out HP8.out HGL.out).mono ?_; rintro e w9 ⟨rfl, F9, rows9, hk9, _, _⟩; have HK9 := Lib.hid (HK8.out.trans hk9); clear hk9)
                  | (go_at_call 10; refine (HHW.out _ _ HK9.out).mono ?_; rintro e w10 ⟨rfl, hb10⟩; have HB10 := Lib.hid hb10; clear hb10))
                go_ret
                exact ⟨rfl, HB10.out⟩
              · have hne : ((k : Int) == (l : Int)) = false := by simp; omega
                obtain rfl : k = r' := hk.resolve_left hkl
                clear hk hkl
                go_wp2_with (first
                  | (go_at_call 12; refine HDJ.out.mono ?_; rintro e w7 ⟨rfl, hb7⟩; have HT7 := Lib.hid ((HT2.out.below HBB.out).below hb7); have HK7 := Lib.hid (HKW.out.trans (KeptF.of_below HKW.out.lt hb7)); obtain ⟨cp, d0, d1, d2, d3⟩ := (HRW.out.below HBB.out).below hb7; rw [HLR.out.1] at d2; rw [HLR.out.2] at d3; clear hb7)
                  | (go_at_call 13; have _t := tok1; refine (HTD.out _ F rows k (HK7.out.trans (KeptF.of_below HK7.out.lt (below_alloc _ _))) (HT7.out.below (below_alloc _ _)) (List.prefix_refl _) HKL.out).mono ?_; rintro e w8 ⟨rfl, F8, rows8, hk8, ht8, hp8⟩; have HK8 := Lib.hid ((HK7.out.trans (KeptF.of_below HK7.out.lt (below_alloc _ _))).trans hk8); have HT8 := Lib.hid ht8; have HP8 := Lib.hid hp8; have g2 : (toldP rows8 (natsOf zs) g != 0) = true := (by simpa using HTS.out rows8 hp8 ht8.ok); clear tok1 hk8 ht8 hp8)
                  | (go_at_call 13; refine (HTD.out _ F8 rows8 g HK8.out HT8.out HP8.out HGL.out).mono ?_; rintro e w9 ⟨rfl, F9, rows9, hk9, _, _⟩; have HK9 := Lib.hid (HK8.out.trans hk9); clear hk9)
                  | (go_at_call 10; refine (HHW.out _ _ HK9.out).mono ?_; rintro e w10 ⟨rfl, hb10⟩; have HB10 := Lib.hid hb10; clear hb10))
                go_ret
                exact ⟨rfl, HB10.out⟩
end Go.Dk
end

section
namespace Go.Dk
open Go.RowKit
theorem tab_of {P : Program} {W : World} {name : String} (t : Lib.TabIs P W name .u8 (Lib.deBruijn64tab.map fun n : Nat => (n : Int))) (g : P.globalNamed name = some 0) : TabG W := fun j hj => by
  have hl : Lib.deBruijn64tab.length = 64 := by decide
  have h := t.cell g j (by rw [List.length_map, hl]; exact hj)
  rw [h]
  congr 2
  rw [List.getD_eq_getElem?_getD, List.getD_eq_getElem?_getD, List.getElem?_map, List.getElem?_eq_getElem (by rw [hl]; exact hj)]
  rfl
end Go.Dk
end

section
namespace Go.Dk
open Go.RowKit Go.Maps Go.MapKept Go.Shelf
open Go.Proofs hiding intOf
theorem admGo_cases (rows : List ND) : ∀ (ps : List Int) (k : Nat), admGo rows ps k = (0, 110) ∨ (∃ (j : Nat) (z : Int), ps[j]? = some z ∧ askE rows [] z.toNat = 0 ∧ askB rows [] z.toNat = true ∧ admGo rows ps k = (((k + j : Nat) : Int), 0)) ∨
    (∀ z ∈ ps, askE rows [] z.toNat = 0 ∧ askB rows [] z.toNat = false)
  | [], k => .inr (.inr fun z hz => by cases hz)
  | z :: t, k => by
    unfold admGo
    rcases askE_cases rows [] z.toNat with e | e
    · rw [if_neg (by simp [e])]
      cases hb : askB rows [] z.toNat with
      | true => exact .inr (.inl ⟨0, z, rfl, e, hb, by rw [if_pos rfl]; rfl⟩)
      | false =>
        rw [if_neg (by simp)]
        rcases admGo_cases rows t (k + 1) with h | ⟨j, x, h1, h2, h3, h4⟩ | h
        · exact .inl h
        · exact .inr (.inl ⟨j + 1, x, h1, h2, h3, by rw [h4]; congr 2; omega⟩)
        · exact .inr (.inr fun x hx => by
            rcases List.mem_cons.1 hx with rfl | hx
            · exact ⟨e, hb⟩
            · exact h x hx)
    · rw [if_pos (by simp [e])]; exact .inl rfl
theorem ctx_nil (rows : List ND) : ctx rows [] = fun _ => False := by
  funext f
  unfold ctx
  simp
theorem All2.right {α β : Type} {R : α → β → Prop} {l : List α} {m : List β} (h : All2 R l m) : ∀ y ∈ m, ∃ x ∈ l, R x y := by
  induction h with
  | nil => intro y hy; cases hy
  | cons a _ ih =>
    intro y hy
    rcases List.mem_cons.1 hy with rfl | hy
    · exact ⟨_, List.mem_cons_self, a⟩
    · obtain ⟨x, hx, hr⟩ := ih y hy
      exact ⟨x, List.mem_cons_of_mem _ hx, hr⟩
/-- How the admitted part comes out. -/
theorem adm_cases {rows : List ND} (ok : Ok rows) {a b : List Int} {c d : Int} (he : (visserP rows a b c d).err = 0) :
    ∃ p : Nat, (visserP rows a b c d).prem = (p : Int) ∧ p < (visserP rows a b c d).rows.length ∧
      (admP rows a b c d = (0, 110) ∨ (admP rows a b c d = (0, 2) ∧ toldP (visserP rows a b c d).rows [] p ≠ 1) ∨
        ∃ i k : Nat, admP rows a b c d = ((i : Int), 0) ∧ (visserP rows a b c d).parts[i]? = some (k : Int) ∧ k < (visserP rows a b c d).rows.length ∧ toldP (visserP rows a b c d).rows [] k ≠ 0 ∧
          ∀ rows', (visserP rows a b c d).rows <+: rows' → Ok rows' → toldP rows' [] p ≠ 0) := by
  obtain ⟨hv, _, _, _⟩ := visser_ok ok he
  have ha : admP rows a b c d = if askE (visserP rows a b c d).rows [] (visserP rows a b c d).prem.toNat ≠ 0 then (0, 110) else if askB (visserP rows a b c d).rows [] (visserP rows a b c d).prem.toNat = false then (0, 2) else admGo (visserP rows a b c d).rows (visserP rows a b c d).parts 0 := by
    unfold admP; rw [if_neg (by simpa using he)]
  generalize visserP rows a b c d = r at *
  obtain ⟨p, hp, hpl, hpt⟩ := hv.prem
  refine ⟨p, hp, hpl, ?_⟩
  rw [hp, Int.toNat_natCast] at ha
  rw [ha]
  have nn : ∀ n ∈ ([] : List Nat), n < r.rows.length := fun n hn => by cases hn
  rcases askE_cases r.rows [] p with e0 | e0
  · rw [if_neg (by simp [e0])]
    cases b0 : askB r.rows [] p with
    | false =>
      refine .inr (.inl ⟨rfl, ?_⟩)
      rw [toldP_of e0, b0]; decide
    | true =>
      rw [if_neg (by simp)]
      have hval := ask_yes hv.ok nn hpl b0
      have hst : ∀ rows', r.rows <+: rows' → Ok rows' → toldP rows' [] p ≠ 0 := fun rows' hpp ok' => told_stays ok' hpp nn hpl hval
      rcases admGo_cases r.rows r.parts 0 with h | ⟨j, z, h1, h2, h3, h4⟩ | h
      · exact .inl h
      · obtain ⟨k, rfl, hk⟩ := nat_of_has (hv.parts.has z (List.mem_of_getElem? h1))
        rw [Int.toNat_natCast] at h2 h3
        refine .inr (.inr ⟨j, k, by rw [h4]; simp, h1, hk, ?_, hst⟩)
        rw [toldP_of h2, h3]; decide
      · exfalso
        rw [ctx_nil, hpt] at hval
        refine visser_sub (fun _ => none) _ _ _ (by rw [sub_none]; exact hval) (fun T hT => ?_)
        obtain ⟨z, hz, n, rfl, hn, ht⟩ := hv.parts.right T hT
        obtain ⟨e1, e2⟩ := h _ hz
        rw [Int.toNat_natCast] at e1 e2
        have := ask_no hv.ok nn hn e1 e2
        rw [ctx_nil, ht] at this
        rw [sub_none]; exact this
  · rw [if_pos (by simp [e0])]; exact .inl rfl
theorem adm_bad {rows : List ND} {a b : List Int} {c d : Int} (he : (visserP rows a b c d).err ≠ 0) : ∃ x : Int, admP rows a b c d = (0, x) ∧ x ≠ 0 := by
  unfold admP
  rw [if_pos he]
  refine ⟨_, rfl, ?_⟩
  split
  · decide
  · exact he
/-- A told sequent without a left side. -/
theorem told_nil (F : FP) (w : World) (t : Value) (rows : List ND) (h : TabF F w t rows) (hT : TabG w) (hF0 : ¬ F 0) (g : Nat) (hg : g < rows.length) :
    Calls Tryz.prog 13 #[t, .slice none 0 0, .int .i64 (g : Int)] w (ToldPost F w t rows (toldP rows [] g)) :=
  told_any F w t rows h hT hF0 (.slice none 0 0) [] (rd_nil w) (by simp) (fun z hz => by cases hz) g hg
set_option maxRecDepth 100000 in
set_option maxHeartbeats 4000000 in
theorem visserLaw_any (w : World) (hT : TabG w) (v0 : Value) (rows : List ND) (hn : ∀ n ∈ rows, n.name.size ≤ maxLen) (hr : Rd w v0 rows.length 4 (nodeCells rows)) (hm : rows.length ≤ maxLen) (hl : rows.length * 40 ≤ 140737488355328)
    (va vb : Value) (a b : List Int) (ha : Rd w va a.length 1 (ints a)) (hb : Rd w vb b.length 1 (ints b)) (hal : a.length < 2 ^ 62) (hbl : b.length < 2 ^ 62) (c d : Int) :
    Calls Tryz.prog 4 #[v0, va, vb, .int .i64 c, .int .i64 d] w fun e w' => e = .returned (.bool true) ∧ Below w.heap.size w w' := by
  have HT := Lib.hid hT
  have HH : Hid (∀ W : World, Below w.heap.size w W → Calls Tryz.prog 10 #[] W fun e w' => e = .returned (.bool true) ∧ Below W.heap.size W w') := fun W hb => heads27_any W (hT.below hb)
  by_cases h0 : fromE [] rows = 0
  case neg =>
    have HB := Lib.hid (both_no w v0 rows hn hr hm hl h0)
    clear h0 hn hr hm hl hT ha hb hal hbl 
    go_enter Tryz.func4, Tryz.ntmps4
    go_wp2_with (first
      | (go_at_call 8; refine HB.out.mono ?_; rintro e w2 ⟨rfl, hb2⟩; have HB2 := Lib.hid hb2; clear hb2)
      | (go_at_call 10; refine (HH.out _ HB2.out).mono ?_; rintro e w3 ⟨rfl, hb3⟩; have HB3 := Lib.hid (below_trans HB2.out hb3); clear hb3))
    go_ret
    exact ⟨rfl, HB3.out⟩
  case pos =>
    have HB := Lib.hid (both_yes w v0 rows hn hr hm hl h0)
    have HAD : Hid (∀ (W : World) (F : FP) (t : Value), Below w.heap.size w W → TabF F W t rows → Calls Tryz.prog 14 #[t, va, vb, .int .i64 c, .int .i64 d] W (DjPost W (admP rows a b c d))) := fun W F t hbw ht =>
      admits_any F W t va vb rows ht (hT.below hbw) a b (ha.below hbw) (hb.below hbw) hal hbl c d
    have HVI : Hid (∀ (W : World) (F : FP) (t : Value), Below w.heap.size w W → TabF F W t rows → (∀ b, F b → w.heap.size ≤ b) → Calls Tryz.prog 15 #[t, va, vb, .int .i64 c, .int .i64 d] W (VisPost F W t (visserP rows a b c d))) := fun W F t hbw ht hn =>
      visser_any F W t va vb rows ht a b (fun F2 W2 hk => ha.below (hk.from_ hbw hn)) (fun F2 W2 hk => hb.below (hk.from_ hbw hn)) hal hbl c d
    have HHW : Hid (∀ (W W1 : World) (F F1 : FP), Below w.heap.size w W → (∀ b, F b → w.heap.size ≤ b) → KeptF F W F1 W1 → Below w.heap.size w W1 ∧ Calls Tryz.prog 10 #[] W1 fun e w' => e = .returned (.bool true) ∧ Below w.heap.size w w') := fun W W1 F F1 hbw hn hk => by
      have hbw1 := hbw.trans (hk.below (B := w.heap.size) hbw.size (fun b hb hf => by have := hn b hf; omega))
      exact ⟨hbw1, (HH.out W1 hbw1).mono fun e w' ⟨h1, h2⟩ => ⟨h1, below_trans hbw1 h2⟩⟩
    by_cases hre : (visserP rows a b c d).err = 0
    case neg =>
      obtain ⟨x, hx, hx0⟩ := adm_bad hre
      have g1 : ((visserP rows a b c d).err != 0) = true := by simpa using hre
      have g2 : (x != 0) = true := by simpa using hx0
      rw [hx] at HAD
      generalize visserP rows a b c d = r at *
      clear h0 hn hr hm hl hT ha hb hal hbl hre hx hx0
      go_enter Tryz.func4, Tryz.ntmps4
      go_wp2_with (first
        | (go_at_call 8; refine HB.out.mono ?_; rintro e w2 ⟨t, r2, F, ow, rfl, ht2, hr2, hf2, hb2⟩; have HT2 := Lib.hid ht2; have HF2 := Lib.hid hf2; have HB2 := Lib.hid hb2; clear ht2 hr2 hf2 hb2)
        | (go_at_call 14; refine (HAD.out w2 F t HB2.out HT2.out).mono ?_; rintro e w3 ⟨rfl, hb3⟩; have HB3 := Lib.hid (below_trans HB2.out hb3); have HT3 := Lib.hid (HT2.out.below hb3); clear hb3)
        | (go_at_call 15; refine (HVI.out w3 F t HB3.out HT3.out HF2.out).mono ?_; rintro e w4 ⟨pv, F4, rfl, hk4, _, ho4⟩; obtain ⟨qa, qc, rfl⟩ := own_slice ho4.own; have HK4 := Lib.hid hk4; clear hk4 ho4)
        | (go_at_call 10; refine (HHW.out w3 _ F F4 HB3.out HF2.out HK4.out).2.mono ?_; rintro e w5 ⟨rfl, hb5⟩; have HB5 := Lib.hid hb5; clear hb5))
      go_ret
      exact ⟨rfl, HB5.out⟩
    case pos =>
      have HC := Lib.hid (fun ok => adm_cases (rows := rows) ok hre)
      have HRE := Lib.hid hre
      clear h0 hn hr hm hl hT ha hb hal hbl hre
      go_enter Tryz.func4, Tryz.ntmps4
      go_wp2_with (go_at_call 8; refine HB.out.mono ?_; rintro e w2 ⟨t, r2, F, ow, rfl, ht2, hr2, hf2, hb2⟩; have HT2 := Lib.hid ht2; have HF2 := Lib.hid hf2; have HB2 := Lib.hid hb2; clear ht2 hr2 hf2 hb2)
      obtain ⟨p, hp, hpl, hcase⟩ := HC.out HT2.out.ok
      generalize hra : admP rows a b c d = ad at *
      generalize visserP rows a b c d = r at *
      obtain ⟨rrows, rprem, rparts, rerr⟩ := r
      have hre := HRE.out
      simp only at hre hp hpl hcase HVI
      subst hre
      subst hp
      have HPL := Lib.hid hpl
      have HG2 := Lib.hid (HT.out.below HB2.out)
      have HF0 : Hid (¬ F 0) := fun hf => by have := HF2.out 0 hf; have := HT.out.pos; omega
      have HTN : Hid (∀ (W W1 : World) (F1 : FP) (rows1 : List ND) (n : Nat), Below w.heap.size w W → KeptF F W F1 W1 → TabF F1 W1 t rows1 → n < rows1.length → Calls Tryz.prog 13 #[t, .slice none 0 0, .int .i64 (n : Int)] W1 (ToldPost F1 W1 t rows1 (toldP rows1 [] n))) := fun W W1 F1 rows1 n hbw hk ht hn => by
        have hG := (HT.out.below hbw)
        exact told_nil F1 W1 t rows1 ht (hG.keptF hk HF0.out) (fun hf => HF0.out (hk.sub 0 hG.pos hf)) n hn
      clear hpl HC hra
      rcases hcase with hc | ⟨hc, ht1⟩ | ⟨i, k, hc, hik, hkl, ht0, hts⟩
      · subst hc
        go_wp2_with (first
          | (go_at_call 14; refine (HAD.out w2 F t HB2.out HT2.out).mono ?_; rintro e w3 ⟨rfl, hb3⟩; have HB3 := Lib.hid (below_trans HB2.out hb3); have HT3 := Lib.hid (HT2.out.below hb3); clear hb3)
          | (go_at_call 15; refine (HVI.out w3 F t HB3.out HT3.out HF2.out).mono ?_; rintro e w4 ⟨pv, F4, rfl, hk4, _, ho4⟩; obtain ⟨qa, qc, rfl⟩ := own_slice ho4.own; have HK4 := Lib.hid hk4; clear hk4 ho4)
          | (go_at_call 10; refine (HHW.out w3 _ F F4 HB3.out HF2.out HK4.out).2.mono ?_; rintro e w5 ⟨rfl, hb5⟩; have HB5 := Lib.hid hb5; clear hb5))
        go_ret
        exact ⟨rfl, HB5.out⟩
      · subst hc
        have g1 : (toldP rrows [] p != 1) = true := by simpa using ht1
        clear ht1
        go_wp2_with (first
          | (go_at_call 14; refine (HAD.out w2 F t HB2.out HT2.out).mono ?_; rintro e w3 ⟨rfl, hb3⟩; have HB3 := Lib.hid (below_trans HB2.out hb3); have HT3 := Lib.hid (HT2.out.below hb3); clear hb3)
          | (go_at_call 15; refine (HVI.out w3 F t HB3.out HT3.out HF2.out).mono ?_; rintro e w4 ⟨pv, F4, rfl, hk4, ht4, ho4⟩; obtain ⟨qa, qc, rfl⟩ := own_slice ho4.own; have HK4 := Lib.hid hk4; have HT4 := Lib.hid ht4; clear hk4 ho4 ht4)
          | (go_at_call 13; refine (HTN.out w3 w4 F4 rrows p HB3.out HK4.out HT4.out HPL.out).mono ?_; rintro e w5 ⟨rfl, F5, rows5, hk5, _, _⟩; have HK5 := Lib.hid (HK4.out.trans hk5); clear hk5)
          | (go_at_call 10; refine (HHW.out w3 _ F F5 HB3.out HF2.out HK5.out).2.mono ?_; rintro e w6 ⟨rfl, hb6⟩; have HB6 := Lib.hid hb6; clear hb6))
        go_ret
        exact ⟨rfl, HB6.out⟩
      · subst hc
        have g1 : (toldP rrows [] k != 0) = true := by simpa using ht0
        have hil := (List.getElem?_eq_some_iff.1 hik).1
        have hi1 : (i : Int) < (rparts.length : Int) := by omega
        have HIK := Lib.hid hik
        have HKL := Lib.hid hkl
        have HTS := Lib.hid hts
        have tok1 : True := trivial
        clear ht0 hts hik hkl
        go_wp2_with (first
          | (go_at_call 14; refine (HAD.out w2 F t HB2.out HT2.out).mono ?_; rintro e w3 ⟨rfl, hb3⟩; have HB3 := Lib.hid (below_trans HB2.out hb3); have HT3 := Lib.hid (HT2.out.below hb3); clear hb3)
          | (go_at_call 15; refine (HVI.out w3 F t HB3.out HT3.out HF2.out).mono ?_; rintro e w4 ⟨pv, F4, rfl, hk4, ht4, ho4⟩; obtain ⟨pb, po, pc, z, hpv, hcz, hz⟩ := ints_at (k := i) ho4.rd hil; subst hpv; rw [HIK.out] at hz; cases hz; have HK4 := Lib.hid hk4; have HT4 := Lib.hid ht4; clear hk4 ho4 ht4)
          | (go_at_call 13; have _t := tok1; refine (HTN.out w3 w4 F4 rrows k HB3.out HK4.out HT4.out HKL.out).mono ?_; rintro e w5 ⟨rfl, F5, rows5, hk5, ht5, hp5⟩; have HK5 := Lib.hid (HK4.out.trans hk5); have HT5 := Lib.hid ht5; have HP5 : Hid (p < rows5.length) := Nat.lt_of_lt_of_le HPL.out hp5.length_le; have g2 : (toldP rows5 [] p != 0) = true := (by simpa using HTS.out rows5 hp5 ht5.ok); clear tok1 hk5 ht5 hp5)
          | (go_at_call 13; refine (HTN.out w3 w5 F5 rows5 p HB3.out HK5.out HT5.out HP5.out).mono ?_; rintro e w6 ⟨rfl, F6, rows6, hk6, _, _⟩; have HK6 := Lib.hid (HK5.out.trans hk6); clear hk6)
          | (go_at_call 10; refine (HHW.out w3 _ F F6 HB3.out HF2.out HK6.out).2.mono ?_; rintro e w7 ⟨rfl, hb7⟩; have HB7 := Lib.hid hb7; clear hb7))
        go_ret
        exact ⟨rfl, HB7.out⟩
end Go.Dk
end

section
namespace Go.Dk
open Go.RowKit Go.Maps Go.MapKept Go.Shelf
open Go.Proofs hiding intOf
theorem sig_prefix {rows rows' : List ND} (h : rows <+: rows') {l : List HY} (hy : hyB rows l = true) : sig (namedF l) rows' = sig (namedF l) rows := by
  funext s
  unfold sig
  cases hn : namedF l s with
  | none => rfl
  | some f =>
    obtain ⟨x, hx, _, rfl⟩ := namedF_some hn
    obtain ⟨k, hk, hkl⟩ := nat_of_has (List.all_eq_true.1 hy x hx)
    simp only [Option.map_some]
    rw [hk, Int.toNat_natCast, tree_prefix h hkl]
/-- What a killing shows. -/
theorem kill_dead {rows : List ND} (ok : Ok rows) {a b x : Int} {l : List HY} (h : killP rows a b l = (true, x)) :
    Valid (fun _ => False) (sub (sig (namedF l) rows) (tree rows a.toNat)) ∧ Refut (fun _ => False) (sub (sig (namedF l) rows) (tree rows b.toNat)) := by
  unfold killP at h
  split at h
  · cases h
  rename_i h0
  split at h
  · cases h
  rename_i h1
  split at h
  · cases h
  rename_i h2
  have h1 : (putP rows a l).err = 0 := by simpa using h1
  have h2 : (putP (putP rows a l).rows b l).err = 0 := by simpa using h2
  obtain ⟨ok1, hp1, n, hn, hnl, hnt⟩ := putP_img ok h1
  obtain ⟨ok2, hp2, k, hk, hkl, hkt⟩ := putP_img ok1 h2
  rw [sig_prefix hp1 (putP_err0 h1).forms] at hkt
  have nn : ∀ m ∈ ([] : List Nat), m < (putP (putP rows a l).rows b l).rows.length := fun m hm => by cases hm
  split at h
  · cases h
  split at h
  · cases h
  rename_i h3
  split at h
  · cases h
  rename_i h4
  simp only [Prod.mk.injEq, Bool.not_eq_true'] at h
  rw [hn, Int.toNat_natCast] at h3
  rw [hk, Int.toNat_natCast] at h4 h
  have hv := ask_yes ok2 nn (Nat.lt_of_lt_of_le hnl (prefix_length hp2)) (by simpa using h3)
  have hr := ask_no ok2 nn hkl (by simpa using h4) h.1
  rw [ctx_nil] at hv hr
  rw [tree_prefix hp2 hnl, hnt] at hv
  rw [hkt] at hr
  refine ⟨hv, ?_⟩
  have : tree (putP rows a l).rows b.toNat = tree rows b.toNat := by
    have hlook : hasB rows.length b = true := look_all (by simpa using h0) b (by simp)
    obtain ⟨m, rfl, hm⟩ := nat_of_has hlook
    exact tree_prefix hp1 hm
  rw [this] at hr
  exact hr
theorem allD_take {p : Int → Bool} {l : List Int} {k : Nat} {y : Int} (h : l[k]? = some y) : (l.take (k + 1)).all p = ((l.take k).all p && p y) := by
  rw [List.take_add_one, h]; simp
/-- Is a part dead? -/
noncomputable def deadB (rows : List ND) (p : Int) (l : List HY) (z : Int) : Bool := (killP rows p z l).1 && decide ((killP rows p z l).2 = 0)
/-- Nothing kills a rule of Visser's. -/
theorem visser_safe {rows : List ND} (ok : Ok rows) {a b : List Int} {c d : Int} (he : (visserP rows a b c d).err = 0) (l : List HY) : ((visserP rows a b c d).parts.all fun z => deadB (visserP rows a b c d).rows (visserP rows a b c d).prem l z) = false := by
  obtain ⟨hv, _, _, _⟩ := visser_ok ok he
  generalize visserP rows a b c d = r at *
  cases hall : (r.parts.all fun z => deadB r.rows r.prem l z) with
  | false => rfl
  | true =>
    exfalso
    have hd : ∀ z ∈ r.parts, killP r.rows r.prem z l = (true, 0) := fun z hz => by
      have := List.all_eq_true.1 hall z hz
      unfold deadB at this
      simp only [Bool.and_eq_true, decide_eq_true_eq] at this
      exact Prod.ext this.1 this.2
    obtain ⟨p, hp, hpl, hpt⟩ := hv.prem
    have hne : ∃ z, z ∈ r.parts := by
      obtain ⟨z, hz, _⟩ := hv.parts.right _ (List.mem_map.2 ⟨tree rows c.toNat, by simp, rfl⟩)
      exact ⟨z, hz⟩
    obtain ⟨z0, hz0⟩ := hne
    have hval := (kill_dead hv.ok (hd z0 hz0)).1
    rw [hp, Int.toNat_natCast, hpt] at hval
    refine visser_sub (sig (namedF l) r.rows) _ _ _ hval (fun T hT => ?_)
    obtain ⟨z, hz, n, rfl, hn, ht⟩ := hv.parts.right T hT
    have := (kill_dead hv.ok (hd _ hz)).2
    rw [Int.toNat_natCast, ht] at this
    exact this
set_option maxRecDepth 100000 in
set_option maxHeartbeats 4000000 in
theorem safe_any (w : World) (hT : TabG w) (v0 : Value) (rows : List ND) (hn : ∀ n ∈ rows, n.name.size ≤ maxLen) (hr : Rd w v0 rows.length 4 (nodeCells rows)) (hm : rows.length ≤ maxLen) (hl : rows.length * 40 ≤ 140737488355328)
    (va vb : Value) (a b : List Int) (ha : Rd w va a.length 1 (ints a)) (hb : Rd w vb b.length 1 (ints b)) (hal : a.length < 2 ^ 62) (hbl : b.length < 2 ^ 62) (c d : Int)
    (vy : Value) (hys : List HY) (hyn : ∀ x ∈ hys, x.name.size ≤ maxLen) (hy : Rd w vy hys.length 2 (hyCells hys)) (hyl : hys.length * 16 ≤ 140737488355328) :
    Calls Tryz.prog 5 #[v0, va, vb, .int .i64 c, .int .i64 d, vy] w fun e w' => e = .returned (.bool true) ∧ Below w.heap.size w w' := by
  have HT := Lib.hid hT
  have HH : Hid (∀ W : World, Below w.heap.size w W → Calls Tryz.prog 10 #[] W fun e w' => e = .returned (.bool true) ∧ Below W.heap.size W w') := fun W hb => heads27_any W (hT.below hb)
  by_cases h0 : fromE [] rows = 0
  case neg =>
    have HB := Lib.hid (both_no w v0 rows hn hr hm hl h0)
    clear h0 hn hr hm hl hT ha hb hal hbl hyn hy hyl 
    go_enter Tryz.func5, Tryz.ntmps5
    go_wp2_with (first
      | (go_at_call 8; refine HB.out.mono ?_; rintro e w2 ⟨rfl, hb2⟩; have HB2 := Lib.hid hb2; clear hb2)
      | (go_at_call 10; refine (HH.out _ HB2.out).mono ?_; rintro e w3 ⟨rfl, hb3⟩; have HB3 := Lib.hid (below_trans HB2.out hb3); clear hb3))
    go_ret
    exact ⟨rfl, HB3.out⟩
  case pos =>
    have HB := Lib.hid (both_yes w v0 rows hn hr hm hl h0)
    have HVI : Hid (∀ (W : World) (F : FP) (t : Value), Below w.heap.size w W → TabF F W t rows → (∀ b, F b → w.heap.size ≤ b) → Calls Tryz.prog 15 #[t, va, vb, .int .i64 c, .int .i64 d] W (VisPost F W t (visserP rows a b c d))) := fun W F t hbw ht hn =>
      visser_any F W t va vb rows ht a b (fun F2 W2 hk => ha.below (hk.from_ hbw hn)) (fun F2 W2 hk => hb.below (hk.from_ hbw hn)) hal hbl c d
    have HKI : Hid (∀ (W : World) (F : FP) (t : Value) (rows1 : List ND) (p z : Int), Below w.heap.size w W → TabF F W t rows1 → Calls Tryz.prog 16 #[t, .int .i64 p, .int .i64 z, vy] W (KiPost W (killP rows1 p z hys))) := fun W F t rows1 p z hbw ht =>
      kills_any F W t vy rows1 ht (hT.below hbw) p z hys hyn (hy.below hbw) hyl
    by_cases hre : (visserP rows a b c d).err = 0
    case neg =>
      have g1 : ((visserP rows a b c d).err != 0) = true := by simpa using hre
      generalize visserP rows a b c d = r at *
      clear h0 hn hr hm hl hT ha hb hal hbl hyn hy hyl  hre
      go_enter Tryz.func5, Tryz.ntmps5
      go_wp2_with (first
        | (go_at_call 8; refine HB.out.mono ?_; rintro e w2 ⟨t, r2, F, ow, rfl, ht2, hr2, hf2, hb2⟩; have HT2 := Lib.hid ht2; have HF2 := Lib.hid hf2; have HB2 := Lib.hid hb2; clear ht2 hr2 hf2 hb2)
        | (go_at_call 15; refine (HVI.out w2 F t HB2.out HT2.out HF2.out).mono ?_; rintro e w4 ⟨pv, F4, rfl, hk4, _, ho4⟩; obtain ⟨qa, qc, rfl⟩ := own_slice ho4.own; have HB4 := Lib.hid (HB2.out.trans (hk4.below (B := w.heap.size) HB2.out.size (fun b hb hf => by have := HF2.out b hf; omega))); clear hk4 ho4)
        | (go_at_call 10; refine (HH.out _ HB4.out).mono ?_; rintro e w5 ⟨rfl, hb5⟩; have HB5 := Lib.hid (below_trans HB4.out hb5); clear hb5))
      go_ret
      exact ⟨rfl, HB5.out⟩
    case pos =>
      have HSF := Lib.hid (fun ok => visser_safe (rows := rows) ok hre hys)
      have HVO := Lib.hid (fun ok => (visser_ok (rows := rows) ok hre).1)
      have HA8 := Lib.hid (fun ok => (visser_ok (rows := rows) ok hre).2.2.1)
      have HRE := Lib.hid hre
      clear h0 hn hr hm hl hT ha hb hal hbl hyn hy hyl  hre
      go_enter Tryz.func5, Tryz.ntmps5
      go_wp2_with (go_at_call 8; refine HB.out.mono ?_; rintro e w2 ⟨t, r2, F, ow, rfl, ht2, hr2, hf2, hb2⟩; have HT2 := Lib.hid ht2; have HF2 := Lib.hid hf2; have HB2 := Lib.hid hb2; clear ht2 hr2 hf2 hb2)
      have hsf := HSF.out HT2.out.ok
      have hvo := HVO.out HT2.out.ok
      generalize visserP rows a b c d = r at *
      obtain ⟨rrows, rprem, rparts, rerr⟩ := r
      have hre := HRE.out
      simp only at hre hsf hvo HVI
      subst hre
      have HSA := Lib.hid hsf
      have hpl : 0 < rparts.length := by
        obtain ⟨z, hz, _⟩ := hvo.parts.right _ (List.mem_map.2 ⟨tree rows c.toNat, by simp, rfl⟩)
        exact List.length_pos_of_mem hz
      have hpb : rparts.length < 2 ^ 62 := by
        have h1 := hvo.parts.len
        simp at h1
        have h2 := List.length_zip (l₁ := a) (l₂ := b)
        have h3 := HA8.out HT2.out.ok
        omega
      have g0 : ((rparts.length : Int) == 0) = false := by
        have h1 : (rparts.length : Int) ≠ 0 := by omega
        simpa using h1
      have HPB := Lib.hid hpb
      clear hsf hvo HSF HVO hpl hpb
      go_wp2_with (go_at_call 15; refine (HVI.out w2 F t HB2.out HT2.out HF2.out).mono ?_; rintro e w4 ⟨pv, F4, rfl, hk4, ht4, ho4⟩; obtain ⟨qa, qc, rfl⟩ := own_slice ho4.own; have HB4 := Lib.hid (HB2.out.trans (hk4.below (B := w.heap.size) HB2.out.size (fun b hb hf => by have := HF2.out b hf; omega))); have HT4 := Lib.hid ht4; have HO4 := Lib.hid ho4; clear hk4 ho4 ht4)
      go_loopw [19, 20] (fun al u W => ∃ j : Nat, j ≤ rparts.length ∧ u = .int .i64 (j : Int) ∧ al = .bool ((rparts.take j).all fun z => deadB rrows rprem hys z) ∧ Below w4.heap.size w4 W) (fun _ u _ => rparts.length - (intOf u).toNat)
      case atStart => exact ⟨0, Nat.zero_le _, rfl, rfl, Below.refl _ _⟩
      case round =>
        obtain ⟨j, hj, rfl, rfl, hb⟩ := hrel
        have HBB := Lib.hid hb
        clear hb
        by_cases hlt : j < rparts.length
        · as_aux_lemma =>
          obtain ⟨ib, io, ic, z, he, hc1, hzk⟩ := ints_at ((HO4.out.below HBB.out).rd) hlt
          cases he
          have hji : (j : Int) < (rparts.length : Int) := by omega
          have HL2 := HPB.out
          have HS := Lib.hid (allD_take (p := fun z => deadB rrows rprem hys z) hzk)
          have HK := Lib.hid (HKI.out wr F4 t rrows rprem z (below_trans HB4.out HBB.out) (HT4.out.below HBB.out))
          generalize hal : ((rparts.take j).all fun z => deadB rrows rprem hys z) = al at *
          have HD : Hid (deadB rrows rprem hys z = ((killP rrows rprem z hys).1 && decide ((killP rrows rprem z hys).2 = 0))) := rfl
          clear hzk hal
          generalize killP rrows rprem z hys = kp at *
          obtain ⟨kb, ke⟩ := kp
          simp only at HD
          by_cases hke : ke = 0
          · subst hke
            cases al with
            | false =>
              go_wp2_with (go_at_call 16; refine HK.out.mono ?_; rintro e w7 ⟨rfl, hb7⟩; have HB7 := Lib.hid (below_trans HBB.out hb7); clear hb7)
              exact ⟨⟨j + 1, by omega, by go_num, by rw [HS.out]; rfl, HB7.out⟩, by simp [intOf]; omega⟩
            | true =>
              cases kb with
              | false =>
                go_wp2_with (go_at_call 16; refine HK.out.mono ?_; rintro e w7 ⟨rfl, hb7⟩; have HB7 := Lib.hid (below_trans HBB.out hb7); clear hb7)
                exact ⟨⟨j + 1, by omega, by go_num, by rw [HS.out, HD.out]; rfl, HB7.out⟩, by simp [intOf]; omega⟩
              | true =>
                go_wp2_with (go_at_call 16; refine HK.out.mono ?_; rintro e w7 ⟨rfl, hb7⟩; have HB7 := Lib.hid (below_trans HBB.out hb7); clear hb7)
                exact ⟨⟨j + 1, by omega, by go_num, by rw [HS.out, HD.out]; rfl, HB7.out⟩, by simp [intOf]; omega⟩
          · have gk : (ke == 0) = false := by simpa using hke
            have HD0 : Hid (deadB rrows rprem hys z = false) := by unfold Hid; rw [HD.out]; simp [hke]
            clear hke
            cases al with
            | false =>
              go_wp2_with (go_at_call 16; refine HK.out.mono ?_; rintro e w7 ⟨rfl, hb7⟩; have HB7 := Lib.hid (below_trans HBB.out hb7); clear hb7)
              exact ⟨⟨j + 1, by omega, by go_num, by rw [HS.out]; rfl, HB7.out⟩, by simp [intOf]; omega⟩
            | true =>
              cases kb with
              | false =>
                go_wp2_with (go_at_call 16; refine HK.out.mono ?_; rintro e w7 ⟨rfl, hb7⟩; have HB7 := Lib.hid (below_trans HBB.out hb7); clear hb7)
                exact ⟨⟨j + 1, by omega, by go_num, by rw [HS.out, HD0.out]; rfl, HB7.out⟩, by simp [intOf]; omega⟩
              | true =>
                go_wp2_with (go_at_call 16; refine HK.out.mono ?_; rintro e w7 ⟨rfl, hb7⟩; have HB7 := Lib.hid (below_trans HBB.out hb7); clear hb7)
                exact ⟨⟨j + 1, by omega, by go_num, by rw [HS.out, HD0.out]; rfl, HB7.out⟩, by simp [intOf]; omega⟩
        · as_aux_lemma =>
          obtain rfl : j = rparts.length := by omega
          have hsa := HSA.out
          have hnn : ¬ (rparts.length : Int) < (rparts.length : Int) := Int.lt_irrefl _
          rw [List.take_length, hsa]
          clear hsa
          go_wp2_with (go_at_call 10; refine (HH.out _ (below_trans HB4.out HBB.out)).mono ?_; rintro e w5 ⟨rfl, hb5⟩; have HB5 := Lib.hid (below_trans (below_trans HB4.out HBB.out) hb5); clear hb5)
          go_ret
          exact ⟨rfl, HB5.out⟩
end Go.Dk
end

section
namespace Go.Dk
open Go.RowKit Go.Maps Go.MapKept Go.ChangeShapes Go.WideShapes Go.Deep
open Go.Proofs hiding intOf
instance : Inhabited HY := ⟨⟨ByteArray.empty, 0⟩⟩
structure HYin (h : HY) : Prop where
  nm : h.name.size ≤ maxLen
  f : (Lit.int .i64 h.form).wf = true
section
variable {H : Type} {enc : TypeId × Value → H} {w : World} {base : Nat} {spare : Nat → Bool} {held : Bool}
set_option maxRecDepth 100000 in
theorem trod_hyp {fuel : Nat} {cs : List Value} {x : DataW H × List MemPlace} (h : DataW.trod enc Tryz.prog w base spare held fuel 64 cs = some x) : ∃ n : HY, cs = n.cells ∧ HYin n := by
  obtain ⟨y0, y1, m, rfl, hl, h0, h1⟩ := Go.ChangeShapes.trod_struct2 Tryz.underlying64 h
  have hc : Tryz.prog.cellsOf 64 = 2 := by kernel_rfl
  rw [hc] at hl
  match cs, hl with
  | [c0, c1], _ =>
    obtain ⟨s, e0, rfl, w0⟩ := DataW.trod_string (Tryz.underlying9) h0
    obtain ⟨k, e1, rfl, w1⟩ := DataW.trod_int (Tryz.underlying3) h1
    have k1 : Tryz.prog.cellsOf 3 = 1 := by kernel_rfl
    have k2 : Tryz.prog.cellsOf 9 = 1 := by kernel_rfl
    simp only [k1, k2] at e0 e1
    refine ⟨⟨s, k⟩, ?_, ⟨w0, w1⟩⟩
    simp at e0 e1
    subst e0 e1
    rfl
set_option maxRecDepth 100000 in
theorem open_hyps {v : Value} {r : Go.Reach} {b0 : Nat} {d : DataW H} {p : List MemPlace} (hv : Value.okWide Tryz.prog w r b0 46 v) (h : DataW.Trod enc Tryz.prog w base spare held 46 v d p) :
    ∃ l : List HY, Rd w v l.length 2 (hyCells l) ∧ l.length ≤ maxLen ∧ (∀ n ∈ l, HYin n) ∧ ∀ B, (∀ m ∈ d.weights Tryz.prog 46, m ≤ B) → l.length * 24 ≤ B := by
  have hby : Tryz.prog.bytesOf 64 = 24 := by kernel_rfl
  have := open_rows (te := 64) HY.cells HYin 2 (by decide) (fun _ => rfl) (by kernel_rfl) Tryz.underlying46 (fun _ _ _ h => trod_hyp h) hv h
  rw [hby] at this
  exact this
end
end Go.Dk
end
