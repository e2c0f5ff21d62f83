/- Parts of the proof: Su, Hi, Hj, Hk, Hl, U. -/
import Derived.Deep.RegionHeld3
import Derived.Outline
import Derived.IntWalk
import Derived.BigQuiet
import Derived.Deep.QuietTactic
import Derived.Test.YthhokkfcdbcllaaGreatDoorC01
import Derived.Test.YthhokkfcdbcllaaGreatDoorC02
import Derived.Test.YthhokkfcdbcllaaGreatDoorC03
import Derived.Test.YthhokkfcdbcllaaGreatDoorC04
import Derived.Test.YthhokkfcdbcllaaGreatDoorC05
import Derived.Test.YthhokkfcdbcllaaGreatDoorC06
import Derived.Test.YthhokkfcdbcllaaGreatDoorC07
import Derived.Test.YthhokkfcdbcllaaGreatDoorC08
import Derived.Test.YthhokkfcdbcllaaGreatDoorC09
import Derived.Test.YthhokkfcdbcllaaGreatDoorC10
import Derived.Test.YthhokkfcdbcllaaGreatDoorC11
import Derived.Test.YthhokkfcdbcllaaGreatDoorC12
import Derived.Test.YthhokkfcdbcllaaGreatDoorC13
import Derived.Test.YthhokkfcdbcllaaGreatDoorC14
import Derived.Test.YthhokkfcdbcllaaGreatDoorC15
import Derived.Test.YthhokkfcdbcllaaGreatDoorC16
import Derived.Test.YthhokkfcdbcllaaGreatDoorC17
import Derived.Test.YthhokkfcdbcllaaGreatDoorC18
section
namespace Go.Dk
open Go.RowKit Go.Maps Go.MapKept
open Go.Proofs hiding intOf
def HY.cells (h : HY) : List Value := [.string h.name, .int .i64 h.form]
def hyCells (l : List HY) : List Value := l.flatMap HY.cells
theorem hyCells_at (l : List HY) (i : Nat) (h : HY) (hi : l[i]? = some h) (j : Nat) (hj : j < 2) : (hyCells l)[i * 2 + j]? = h.cells[j]? := by
  induction l generalizing i with
  | nil => simp at hi
  | cons a t ih =>
    cases i with
    | zero =>
      simp at hi
      subst hi
      unfold hyCells
      rw [List.flatMap_cons, List.getElem?_append_left (by simp [HY.cells]; omega)]
      simp
    | succ i =>
      simp only [List.getElem?_cons_succ] at hi
      unfold hyCells
      rw [List.flatMap_cons, List.getElem?_append_right (by simp [HY.cells]; omega)]
      have := ih i hi
      unfold hyCells at this
      rw [← this]
      congr 1
      simp [HY.cells]; omega
theorem hy_at {w : World} {v : Value} {l : List HY} (h : Rd w v l.length 2 (hyCells l)) {k : Nat} (hk : k < l.length) : ∃ b o c x, v = .slice (some ⟨b, o, none⟩) l.length c ∧ w.cell? ⟨b, o + k * 2, none⟩ = some (.string x.name) ∧ w.cell? ⟨b, o + k * 2 + 1, none⟩ = some (.int .i64 x.form) ∧ l[k]? = some (x : HY) := by
  obtain ⟨b, o, c, rfl, hc⟩ := h.some (by omega)
  obtain ⟨x, hx⟩ : ∃ x, l[k]? = some x := ⟨_, List.getElem?_eq_getElem hk⟩
  refine ⟨b, o, c, x, rfl, ?_, ?_, hx⟩
  · exact hc (k * 2) _ (by have := hyCells_at l k x hx 0 (by omega); simpa [HY.cells] using this)
  · have := hc (k * 2 + 1) _ (by have := hyCells_at l k x hx 1 (by omega); simpa [HY.cells] using this)
    rwa [show o + (k * 2 + 1) = o + k * 2 + 1 by omega] at this
def formsOf (l : List HY) : List Int := l.map (·.form)
theorem formsOf_snoc {l : List HY} {k : Nat} {x : HY} (h : l[k]? = some x) : formsOf (l.take (k + 1)) = formsOf (l.take k) ++ [x.form] := by
  unfold formsOf; rw [List.take_add_one, h]; simp
theorem lookE_put (rows : List ND) (id : Int) (l : List HY) : lookE rows (id :: formsOf l) = if hasB rows.length id = true ∧ hyB rows l = true then 0 else 31 := by
  unfold lookE hyB formsOf
  simp only [List.all_cons, List.all_map, Bool.and_eq_true]
  rfl
/-- The boxes of Put: the table's, the map's. -/
def EnvP (ow : Own) (w : World) (b b12 nb : Nat) (t : Value) (f : ByteArray → Option Int) : Prop :=
  w.cell? ⟨b, 0, none⟩ = some t ∧ w.cell? ⟨b12, 0, none⟩ = some (.map (some nb)) ∧ TM Tryz.prog 9 strV intV w nb f ∧ ow b = 2 ∧ ow b12 = 2 ∧ ow nb = 2
theorem envP_ok (b b12 nb : Nat) (t : Value) (f : ByteArray → Option Int) : EnvOk (fun ow w => EnvP ow w b b12 nb t f) := by
  rintro c hc ow w ow' w' ⟨h1, h2, h3, o1, o2, o3⟩ hk
  have n2 : (2 : Nat) ≠ c := by omega
  exact ⟨cell_kept h1 hk (by rw [show (⟨b, 0, none⟩ : Addr).block = b from rfl, o1]; exact n2), cell_kept h2 hk (by rw [show (⟨b12, 0, none⟩ : Addr).block = b12 from rfl, o2]; exact n2), h3.kept hk (by rw [o3]; exact n2),
    (hk.own _ (World.block_lt_of_cell? w _ h1)).trans o1, (hk.own _ (World.block_lt_of_cell? w _ h2)).trans o2, (hk.own _ h3.lt).trans o3⟩
/-- In Put's loops: the boxes, the map. -/
structure PuI (w W : World) (b12 nb : Nat) (t : Value) (f : ByteArray → Option Int) : Prop where
  c0 : W.cell? ⟨w.heap.size, 0, none⟩ = some t
  c12 : W.cell? ⟨b12, 0, none⟩ = some (.map (some nb))
  mp : TM Tryz.prog 9 strV intV W nb f
  bl : Below w.heap.size w W
  lb : w.heap.size ≤ b12
  ln : w.heap.size ≤ nb
theorem PuI.below {w W W' : World} {b12 nb : Nat} {t : Value} {f : ByteArray → Option Int} (h : PuI w W b12 nb t f) (hb : Below W.heap.size W W') : PuI w W' b12 nb t f :=
  ⟨(hb.cell (World.block_lt_of_cell? _ _ h.c0)).trans h.c0, (hb.cell (World.block_lt_of_cell? _ _ h.c12)).trans h.c12, h.mp.below hb, below_trans h.bl hb, h.lb, h.ln⟩
theorem PuI.put {w W W' : World} {b12 nb : Nat} {t : Value} {f f' : ByteArray → Option Int} (h : PuI w W b12 nb t f) (hm : TM Tryz.prog 9 strV intV W' nb f') (ho : Only nb W W') : PuI w W' b12 nb t f' := by
  obtain ⟨_, ⟨es, clock, hes, _⟩, _⟩ := h.mp
  have e1 : ∀ {b : Nat} {v : Value}, W.cell? ⟨b, 0, none⟩ = some v → b ≠ nb := fun hc e => by
    subst e; simp [World.cell?, hes] at hc
  exact ⟨(World.cell?_of_block (ho.block _ (e1 h.c0))).trans h.c0, (World.cell?_of_block (ho.block _ (e1 h.c12))).trans h.c12, hm, h.bl.trans (ho.below h.ln), h.lb, h.ln⟩
theorem PuI.env {ow : Own} {w W : World} {b12 nb : Nat} {t : Value} {f : ByteArray → Option Int} (h : PuI w W b12 nb t f) : EnvP (fun b => if b < w.heap.size then ow b else 2) W w.heap.size b12 nb t f :=
  ⟨h.c0, h.c12, h.mp, by simp, if_neg (by have := h.lb; omega), if_neg (by have := h.ln; omega)⟩
theorem hyB_nat {rows : List ND} {l : List HY} (h : hyB rows l = true) : ∀ s f, namedF l s = some f → 0 ≤ f := fun s f hf => by
  obtain ⟨x, hx, _, rfl⟩ := namedF_some hf
  obtain ⟨y, hy, _⟩ := nat_of_has (List.all_eq_true.1 h x hx)
  omega
theorem twice_at {l : List HY} {k : Nat} {x : HY} (hx : l[k]? = some x) {f : Int} (hf : namedF (l.take k) x.name = some f) : twiceB l = true := by
  unfold twiceB
  simp only [Bool.not_eq_true', decide_eq_false_iff_not]
  intro hd
  have h1 := nodup_take (k + 1) hd
  rw [List.take_add_one, hx] at h1
  simp only [Option.toList_some] at h1
  rw [nodup_snoc (nodup_take k hd), hf] at h1
  cases h1
theorem words_at {l : List HY} {k : Nat} {x : HY} (hx : l[k]? = some x) (hw : word x.name = false) : wordsB l = false := by
  unfold wordsB
  rw [List.all_eq_false]
  exact ⟨x, List.mem_of_getElem? hx, by rw [hw]; simp⟩
theorem namedF_upd {l : List HY} {k : Nat} {x : HY} (hx : l[k]? = some x) (hn : namedF (l.take k) x.name = none) : upd (namedF (l.take k)) x.name (some x.form) = namedF (l.take (k + 1)) := by
  funext s
  rw [List.take_add_one, hx]
  simp only [Option.toList_some]
  rw [namedF_snoc hn]
  by_cases e : s = x.name
  · subst e; rw [upd_same, if_pos rfl]
  · rw [upd_other _ _ e, if_neg e]
set_option maxRecDepth 100000 in
set_option maxHeartbeats 4000000 in
theorem put07_any (ow : Own) (w : World) (t v : Value) (rows : List ND) (h : Tab 1 ow w t rows) (id : Int) (l : List HY) (hn : ∀ x ∈ l, x.name.size ≤ maxLen) (hv : Rd w v l.length 2 (hyCells l)) (hl : l.length * 16 ≤ 140737488355328) :
    Calls Tryz.prog 34 #[t, .int .i64 id, v] w (PutPost 1 ow w t (putP rows id l)) := by
  obtain ⟨pb, rfl⟩ := h.ptr
  have HT : Hid (∀ W, Below w.heap.size w W → Tab 1 (fun b => if b < w.heap.size then ow b else 2) W (.pointer (some ⟨pb, 0, none⟩)) rows) := fun W hb => tab_re h hb
  have HV := Lib.hid hv
  have HN := Lib.hid hn
  obtain ⟨va, vc, rfl⟩ := hv.slice
  have HL := Lib.hid (lookE_put rows id l)
  have hmm := @run_makeMap Tryz.prog
  clear h hv hn
  go_enter Tryz.func34, Tryz.ntmps34
  go_wp2_with fail
  have HI0 : Hid (Below w.heap.size w ((w.alloc (.cells #[.pointer (some ⟨pb, 0, none⟩)] 24)).alloc (.cells #[.int .i64 id] 3))) := below_trans (below_alloc _ _) (below_alloc _ _)
  have HC0 : Hid (((w.alloc (.cells #[.pointer (some ⟨pb, 0, none⟩)] 24)).alloc (.cells #[.int .i64 id] 3)).cell? ⟨w.heap.size, 0, none⟩ = some (.pointer (some ⟨pb, 0, none⟩))) := (World.cell?_alloc_lt _ _ _ (by simp)).trans (World.cell?_alloc_at _ _ _ _ rfl)
  have HO0 : Hid (((w.alloc (.cells #[.pointer (some ⟨pb, 0, none⟩)] 24)).alloc (.cells #[.int .i64 id] 3)).ownsRow (w.heap.size + 1) 3 1 (.slice (some ⟨w.heap.size + 1, 0, none⟩) 1 1) (0 + 1) (ints (id :: formsOf (l.take 0)))) := by
    refine ⟨by simp [ints, formsOf], .inr ⟨w.heap.size + 1, 1, _, rfl, Nat.le_refl _, heap_alloc_new' _ _ (by simp), Nat.le_refl _, by decide, by simp, by simp [ints, formsOf]⟩⟩
  generalize (w.alloc (.cells #[.pointer (some ⟨pb, 0, none⟩)] 24)).alloc (.cells #[.int .i64 id] 3) = w1 at *
  go_loopw [8, 23] (fun u i W => ∃ j : Nat, j ≤ l.length ∧ i = .int .i64 (j : Int) ∧ W.ownsRow (w.heap.size + 1) 3 1 u (j + 1) (ints (id :: formsOf (l.take j))) ∧ Below w.heap.size w W ∧ W.cell? ⟨w.heap.size, 0, none⟩ = some (.pointer (some ⟨pb, 0, none⟩))) (fun _ i _ => l.length - (intOf i).toNat)
  case atStart => exact ⟨0, Nat.zero_le _, rfl, HO0.out, HI0.out, HC0.out⟩
  case round =>
    obtain ⟨j, hj, rfl, hown, hb, hc0⟩ := hrel
    have HO := Lib.hid hown; have HB := Lib.hid hb; have HC := Lib.hid hc0
    obtain ⟨oa, oc, hoo⟩ := own_slice hown
    subst hoo
    clear hown hb
    by_cases hlt : j < l.length
    · as_aux_lemma =>
      obtain ⟨b, o, c1, x, he, hc1, hc2, hxk⟩ := hy_at (HV.out.below HB.out) hlt
      cases he
      have HX := Lib.hid hxk
      have hji : (j : Int) < (l.length : Int) := by omega
      have HFS := Lib.hid (formsOf_snoc hxk)
      obtain ⟨xn, xf⟩ := x
      simp only at hc1 hc2
      clear hxk
      go_wp2_with (at_builtin; refine wp_append rfl (.tmp 27) (.tmp 30) 23 rfl (w.heap.size + 1) 3 _ 1 8 Tryz.underlying23 infoInt rfl (by decide) (by decide) _ (j + 1) (ints (id :: formsOf (l.take j))) rfl (own_belowC HO.out (below_trans (below_alloc _ _) (below_alloc _ _))) _ 1 [.int .i64 xf] rfl (rd_one' _ _ _ (by simp)) (by simp [Value.oneCell']) (by omega) (by have := World.block_lt_of_cell? _ _ HC.out; simp at this; simp; omega) ?_; intro v5 w5 hown5 hgr5 hat5 hnil5; have HF5 : Hid (w5.ownsRow (w.heap.size + 1) 3 1 v5 (j + 1 + 1) (ints (id :: formsOf (l.take j)) ++ [.int .i64 xf]) ∧ Below w.heap.size w w5 ∧ w5.cell? ⟨w.heap.size, 0, none⟩ = some (.pointer (some ⟨pb, 0, none⟩))) := ⟨hown5, (below_trans HB.out (below_trans (below_alloc _ _) (below_alloc _ _))).grown hgr5 (by have := HB.out.size; simp; omega) (fun q hq => by have := (HO.out.lt q hq).1; omega), hgr5.cell ((World.cell?_alloc_lt _ _ _ (by have := World.block_lt_of_cell? _ _ HC.out; simp at this; simp; omega)).trans ((World.cell?_alloc_lt _ _ _ (World.block_lt_of_cell? _ _ HC.out)).trans HC.out)) (fun e => by have h9 := (HO.out.lt _ e.symm).1; simp at h9; omega)⟩; clear hown5 hgr5 hat5 hnil5)
      refine ⟨⟨j + 1, by omega, by go_num, ?_, HF5.out.2.1, HF5.out.2.2⟩, by simp [intOf]; omega⟩
      have := HF5.out.1
      rw [show ints (id :: formsOf (l.take j)) ++ [Value.int .i64 xf] = ints (id :: formsOf (l.take (j + 1))) by rw [HFS.out]; simp [ints]] at this
      exact this
    · as_aux_lemma =>
      obtain rfl : j = l.length := by omega
      have hO := HO.out
      rw [List.take_length] at hO
      have HR := Lib.hid (rd_own hO)
      have HLN : Hid ((id :: formsOf l).length = l.length + 1) := by simp [Hid, formsOf]
      clear hO hj hlt
      go_wp2_with fail
      refine (looked_any 1 _ _ _ _ rows (id :: formsOf l) (HT.out _ HB.out) (by rw [HLN.out]; exact HR.out) (by rw [HLN.out]; omega)).mono ?_
      rintro e w2 ⟨rfl, hb2⟩
      have HB2 := Lib.hid (below_trans HB.out hb2)
      have hc2 := (hb2.cell (World.block_lt_of_cell? _ _ hc0)).trans hc0
      have HC2 := Lib.hid hc2
      clear hb2 hc0
      by_cases hlook : hasB rows.length id = true ∧ hyB rows l = true
      · as_aux_lemma =>
        have HV0 : Hid (lookE rows (id :: formsOf l) = 0) := by rw [Hid, HL.out, if_pos hlook]
        rw [HV0.out]
        obtain ⟨xid, hxid, hxl⟩ := nat_of_has hlook.1
        have HYB := Lib.hid hlook.2
        have HHB := Lib.hid hlook.1
        subst hxid
        have HPT : Hid (putP rows (xid : Int) l = if twiceB l = true then ⟨rows, 0, 70⟩ else if wordsB l = false then ⟨rows, 0, 32⟩ else anewP (putOf (namedF l)) rows xid) := by
          unfold Hid putP
          rw [if_neg (by simp [hlook])]; rfl
        clear hlook HL HV0 HC hc2
        go_wp2_with fail
        have HM0 : Hid (PuI w ((w2.alloc (.map #[] 0)).alloc (.cells #[.map (some w2.heap.size)] 124)) (w2.heap.size + 1) w2.heap.size (.pointer (some ⟨pb, 0, none⟩)) (namedF (l.take 0))) := by
          have hz : namedF (l.take 0) = fun _ => none := by funext s; rfl
          rw [Hid, hz]
          refine PuI.mk ?_ (World.cell?_alloc_at _ _ _ _ (by simp)) ((TM.made _ _ _ _ _).below (below_alloc _ _)) (below_trans HB2.out (below_trans (below_alloc _ _) (below_alloc _ _))) (by have := HB2.out.size; omega) HB2.out.size
          rw [World.cell?_alloc_lt _ _ _ (by have := World.block_lt_of_cell? _ _ HC2.out; simp at this; simp; omega), World.cell?_alloc_lt _ _ _ (World.block_lt_of_cell? _ _ HC2.out)]
          exact HC2.out
        generalize (w2.alloc (.map #[] 0)).alloc (.cells #[.map (some w2.heap.size)] 124) = w3 at *
        generalize hb12 : w2.heap.size + 1 = b12 at *
        generalize w2.heap.size = nb at *
        clear hmm
        go_loopw [42] (fun i W => ∃ j : Nat, j ≤ l.length ∧ i = .int .i64 (j : Int) ∧ ((l.take j).map (·.name)).Nodup ∧ PuI w W b12 nb (.pointer (some ⟨pb, 0, none⟩)) (namedF (l.take j))) (fun i _ => l.length - (intOf i).toNat)
        case atStart => exact ⟨0, Nat.zero_le _, rfl, by simp, HM0.out⟩
        case round =>
          obtain ⟨j, hj, rfl, hnd, hI⟩ := hrel
          have HJ := Lib.hid hI; have HND := Lib.hid hnd
          clear hI hnd
          by_cases hlt : j < l.length
          · as_aux_lemma =>
            obtain ⟨b, o, c1, x, he, hc1, hc2, hxk⟩ := hy_at (HV.out.below HJ.out.bl) hlt
            cases he
            have HX := Lib.hid hxk
            have hji : (j : Int) < (l.length : Int) := by omega
            have hnm : x.name.size ≤ maxLen := HN.out x (List.mem_of_getElem? hxk)
            have HNM := Lib.hid hnm
            have HJ2 := Lib.hid (HJ.out.below (below_alloc wr (.cells #[.string x.name, .int .i64 x.form] 64)))
            have hlk := look_str HJ2.out.mp x.name hnm
            have q12 := HJ2.out.c12
            have q0 : (wr.alloc (.cells #[.string x.name, .int .i64 x.form] 64)).cell? ⟨wr.heap.size, 0, none⟩ = some (.string x.name) := World.cell?_alloc_at _ _ _ _ rfl
            have q1 : (wr.alloc (.cells #[.string x.name, .int .i64 x.form] 64)).cell? ⟨wr.heap.size, 1, none⟩ = some (.int .i64 x.form) := World.cell?_alloc_at _ _ _ _ rfl
            clear hxk hnm
            cases hf : namedF (l.take j) x.name with
            | some f =>
              have HTW := Lib.hid (twice_at HX.out hf)
              rw [hf] at hlk
              simp only [Option.getD_some, Option.isSome_some] at hlk
              clear hf
              obtain ⟨xn, xf⟩ := x
              simp only at *
              go_wp2_with fail
              go_ret2
              rw [HPT.out, if_pos HTW.out]
              exact PutPost.re HJ2.out.bl ⟨rfl, _, Kept.refl _ _ _, HT.out _ HJ2.out.bl⟩
            | none =>
              have HNF := Lib.hid hf
              have HND2 : Hid (((l.take (j + 1)).map (·.name)).Nodup) := by
                unfold Hid
                rw [List.take_add_one, HX.out]
                exact (nodup_snoc HND.out).2 hf
              have HU := Lib.hid (namedF_upd HX.out hf)
              rw [hf] at hlk
              simp only [Option.getD_none, Option.isSome_none] at hlk
              clear hf
              obtain ⟨xn, xf⟩ := x
              simp only at *
              go_wp2_with (at_mapUpdate; refine wp_put HJ2.out.mp lawStr strV_inj rfl (.tmp 54) (.tmp 56) (.tmp 58) 124 3 rfl Tryz.underlying124 rfl xn rfl xf rfl (keyStr xn HNM.out) ?_; intro w8 hm8 ho8; rw [HU.out] at hm8; have HJ8 := Lib.hid (HJ2.out.put hm8 ho8); clear hm8 ho8)
              exact ⟨⟨j + 1, by omega, by go_num, HND2.out, HJ8.out⟩, by simp [intOf]; omega⟩
          · as_aux_lemma =>
            obtain rfl : j = l.length := by omega
            have hJ := HJ.out
            have hND := HND.out
            rw [List.take_length] at hJ hND
            have HJJ := Lib.hid hJ
            have HTW : Hid (¬ twiceB l = true) := by unfold Hid twiceB; simpa using hND
            clear hJ hND hj hlt HJ HND
            go_wp2_with fail
            go_loopw [62] (fun i W => ∃ j : Nat, j ≤ l.length ∧ i = .int .i64 (j : Int) ∧ wordsB (l.take j) = true ∧ PuI w W b12 nb (.pointer (some ⟨pb, 0, none⟩)) (namedF l)) (fun i _ => l.length - (intOf i).toNat)
            case atStart => exact ⟨0, Nat.zero_le _, rfl, by simp [wordsB], HJJ.out⟩
            case round =>
              obtain ⟨j, hj, rfl, hwd, hI⟩ := hrel
              have HJ := Lib.hid hI; have HWD := Lib.hid hwd
              clear hI hwd
              by_cases hlt : j < l.length
              · as_aux_lemma =>
                obtain ⟨b, o, c1, x, he, hc1, hc2, hxk⟩ := hy_at (HV.out.below HJ.out.bl) hlt
                cases he
                have HX := Lib.hid hxk
                have hji : (j : Int) < (l.length : Int) := by omega
                have hnm : x.name.size ≤ maxLen := HN.out x (List.mem_of_getElem? hxk)
                have HNM := Lib.hid hnm
                have HJ2 := Lib.hid (HJ.out.below (below_alloc wr (.cells #[.string x.name, .int .i64 x.form] 64)))
                have q0 : (wr.alloc (.cells #[.string x.name, .int .i64 x.form] 64)).cell? ⟨wr.heap.size, 0, none⟩ = some (.string x.name) := World.cell?_alloc_at _ _ _ _ rfl
                have HWO := Lib.hid (fun W => word_any x.name W hnm)
                clear hxk hnm
                cases hwx : word x.name with
                | true =>
                  have HS : Hid (wordsB (l.take (j + 1)) = true) := by
                    have h1 := HWD.out
                    show wordsB _ = true
                    unfold wordsB at h1 ⊢
                    rw [List.take_add_one, HX.out]
                    simp only [Option.toList_some, List.all_append, h1, List.all_cons, hwx, List.all_nil, Bool.and_self]
                  rw [hwx] at HWO
                  clear hwx
                  obtain ⟨xn, xf⟩ := x
                  simp only at *
                  go_wp2_with fail
                  refine (HWO.out _).mono ?_
                  rintro e w5 ⟨rfl, rfl⟩
                  have HJ5 := HJ2
                  go_wp2_with fail
                  exact ⟨⟨j + 1, by omega, by go_num, HS.out, HJ5.out⟩, by simp [intOf]; omega⟩
                | false =>
                  have HNW := Lib.hid (words_at HX.out hwx)
                  rw [hwx] at HWO
                  clear hwx
                  obtain ⟨xn, xf⟩ := x
                  simp only at *
                  go_wp2_with fail
                  refine (HWO.out _).mono ?_
                  rintro e w5 ⟨rfl, rfl⟩
                  have HJ5 := HJ2
                  go_wp2_with fail
                  go_ret2
                  rw [HPT.out, if_neg HTW.out, if_pos HNW.out]
                  exact PutPost.re HJ5.out.bl ⟨rfl, _, Kept.refl _ _ _, HT.out _ HJ5.out.bl⟩
              · as_aux_lemma =>
                obtain rfl : j = l.length := by omega
                have hW := HWD.out
                rw [List.take_length] at hW
                have HWW : Hid (¬ wordsB l = false) := by simp [Hid, hW]
                have hmf : ∀ (fn : Fn) (first cap : Array Value) (w : World), (Instr.makeFunc fn first cap).run Tryz.prog w = .ok (.func fn first cap) w := fun _ _ _ _ => rfl
                have q0 := HJ.out.c0
                clear hW hj hlt
                go_wp2_with fail
                refine (anewPut_yes (fun ow W => EnvP ow W w.heap.size b12 nb (.pointer (some ⟨pb, 0, none⟩)) (namedF l)) (envP_ok _ _ _ _ _) (putOf (namedF l)) (putOf_grows _) (putOf_nn (hyB_nat HYB.out)) _ _ _ rows (HT.out _ HJ.out.bl) _ _ (fun ow w rows k n l' r ht he hnn _ hl hr => imgPut_any ow w _ rows ht _ _ nb (namedF l) he.2.1 he.1 he.2.2.1 k n.kind n.l n.r l' r n.name hnn) HJ.out.env xid hxl).mono ?_
                rintro e w9 hp
                have HP := Lib.hid (PutPost.re HJ.out.bl hp)
                obtain ⟨rfl, _⟩ := hp
                clear hmf
                go_wp2_with fail
                go_ret2
                rw [HPT.out, if_neg HTW.out, if_neg HWW.out]
                exact HP.out
      · as_aux_lemma =>
        have HV0 : Hid (lookE rows (id :: formsOf l) = 31) := by rw [Hid, HL.out, if_neg hlook]
        have HPE : Hid (putP rows id l = ⟨rows, 0, 31⟩) := by
          unfold Hid putP
          rw [if_pos]
          revert hlook
          cases hasB rows.length id <;> cases hyB rows l <;> simp
        rw [HV0.out]
        clear hlook HL HV0 hmm
        go_wp2_with fail
        go_ret2
        rw [HPE.out]
        exact PutPost.re HB2.out ⟨rfl, _, Kept.refl _ _ _, HT.out _ HB2.out⟩
end Go.Dk
end

section
namespace Go.Dk
open Go.RowKit Go.Maps Go.MapKept Go.Shelf
open Go.Proofs hiding intOf
noncomputable def killP (rows : List ND) (a b : Int) (l : List HY) : Bool × Int :=
  if lookE rows [a, b] ≠ 0 then (false, 31)
  else if (putP rows a l).err ≠ 0 then (false, if (putP rows a l).err = 30 then 110 else (putP rows a l).err)
  else if (putP (putP rows a l).rows b l).err ≠ 0 then (false, if (putP (putP rows a l).rows b l).err = 30 then 110 else (putP (putP rows a l).rows b l).err)
  else if askE (putP (putP rows a l).rows b l).rows [] (putP rows a l).id.toNat ≠ 0 then (false, 110)
  else if askB (putP (putP rows a l).rows b l).rows [] (putP rows a l).id.toNat = false then (false, 0)
  else if askE (putP (putP rows a l).rows b l).rows [] (putP (putP rows a l).rows b l).id.toNat ≠ 0 then (false, 110)
  else (!askB (putP (putP rows a l).rows b l).rows [] (putP (putP rows a l).rows b l).id.toNat, 0)
/-- Put of formulas for names, in footprints. -/
theorem sput_F {F : FP} {w : World} {t : Value} {rows : List ND} (h : TabF F w t rows) (id : Int) (v : Value) (l : List HY) (hn : ∀ x ∈ l, x.name.size ≤ maxLen) (hv : Rd w v l.length 2 (hyCells l)) (hl : l.length * 16 ≤ 140737488355328) :
    Calls Tryz.prog 34 #[t, .int .i64 id, v] w (PutF F w t (putP rows id l)) := by
  refine (put07_any (colF F 1) w t v rows (h.col 1) id l hn hv hl).mono ?_
  rintro e w' ⟨he, ow', hk, ht⟩
  exact ⟨he, fun b => b < w'.heap.size ∧ ow' b = 1, ⟨hk.os, hk.tape, hk.output, hk.size, fun b hb hf => colF_iff.1 ((hk.own b hb).symm.trans hf.2), fun b hf => hf.1, fun b hb hn => hk.block b hb fun e => hn (colF_iff.1 e)⟩, fun b hf => hf.1, 1, ow', ht, fun b hb e => ⟨hb, e⟩⟩
/-- In the loop of Kills: the copy, an own row of numbers. -/
structure KS (F0 F : FP) (w W : World) (cb : Nat) (c : Value) (rows : List ND) (v : Value) (ids : List Int) : Prop where
  asks : Asks F W cb c rows
  kp : KeptF F0 w F W
  own : OwnI w.heap.size F W v ids
section
variable {F0 F : FP} {w W W' : World} {cb : Nat} {c v : Value} {rows : List ND} {ids : List Int}
theorem KS.below (h : KS F0 F w W cb c rows v ids) (hb : Below W.heap.size W W') : KS F0 F w W' cb c rows v ids :=
  ⟨h.asks.below hb, h.kp.trans (KeptF.of_below h.asks.tab.in_ hb), h.own.below hb⟩
theorem KS.put (h : KS F0 F w W cb c rows v ids) {p : Put} {e : Ending} (hp : PutF F W c p e W') : e = .returned (.tuple #[.int .i64 p.id, .int .i64 p.err]) ∧ ∃ F', KS F0 F' w W' cb c p.rows v ids := by
  obtain ⟨he, F', hk, ht⟩ := hp
  exact ⟨he, F', h.asks.put hk ht, h.kp.trans hk, h.own.kept hk⟩
theorem KS.app {w0 : World} {v' : Value} {x : Int} (h : KS F0 F w W cb c rows v ids) (hcb : cb < w.heap.size) (hown : W'.ownsRow w.heap.size 3 1 v' (ids.length + 1) (ints ids ++ [.int .i64 x])) (hg : W.grownBy W' v.ownBlock) (hat : v'.ownBlock = v.ownBlock ∨ v'.ownBlock = some w0.heap.size) (hz : W.heap.size ≤ w0.heap.size) : KS F0 F w W' cb c rows v' (ids ++ [x]) := by
  refine ⟨⟨?_, h.asks.tab.grown hg (fun b hb hf => h.own.out b hb hf), h.asks.out⟩, h.kp.later hg (fun b hb => (h.own.own.lt b hb).1), h.own.append hown hat h.asks.tab.in_ hz⟩
  exact hg.cell h.asks.cell (fun e => by have := (h.own.own.lt cb e.symm).1; omega)
end
/-- Behind j puts. -/
def KJ (rows : List ND) (a b : Int) (l : List HY) (j : Nat) (rows' : List ND) (ids : List Int) : Prop :=
  (j = 0 ∧ rows' = rows ∧ ids = []) ∨ (j = 1 ∧ (putP rows a l).err = 0 ∧ rows' = (putP rows a l).rows ∧ ids = [(putP rows a l).id]) ∨
    (j = 2 ∧ (putP rows a l).err = 0 ∧ (putP (putP rows a l).rows b l).err = 0 ∧ rows' = (putP (putP rows a l).rows b l).rows ∧ ids = [(putP rows a l).id, (putP (putP rows a l).rows b l).id])
theorem kj_get {rows : List ND} {a b : Int} {l : List HY} {j : Nat} {rows' : List ND} {ids : List Int} (h : KJ rows a b l j rows' ids) (hj : j < 2) {x : Int} (hx : [a, b][j]? = some x) (hE : lookE rows [a, b] = 0) :
    ((putP rows' x l).err = 0 → KJ rows a b l (j + 1) (putP rows' x l).rows (ids ++ [(putP rows' x l).id])) ∧ ((putP rows' x l).err ≠ 0 → killP rows a b l = (false, if (putP rows' x l).err = 30 then 110 else (putP rows' x l).err)) := by
  rcases h with ⟨rfl, rfl, rfl⟩ | ⟨rfl, h0, rfl, rfl⟩ | ⟨rfl, _⟩
  · have hxa : a = x := by simpa using hx
    subst hxa
    refine ⟨fun he => .inr (.inl ⟨rfl, he, rfl, rfl⟩), fun he => ?_⟩
    unfold killP; rw [if_neg (by simpa using hE), if_pos he]
  · have hxb : b = x := by simpa using hx
    subst hxb
    refine ⟨fun he => .inr (.inr ⟨rfl, h0, he, rfl, rfl⟩), fun he => ?_⟩
    unfold killP; rw [if_neg (by simpa using hE), if_neg (by simpa using h0), if_pos he]
  · omega
theorem kj_end {rows : List ND} (ok : Ok rows) {a b : Int} {l : List HY} {rows' : List ND} {ids : List Int} (h : KJ rows a b l 2 rows' ids) (hE : lookE rows [a, b] = 0) :
    ∃ x y : Nat, ids = [(x : Int), (y : Int)] ∧ x < rows'.length ∧ y < rows'.length ∧ killP rows a b l = if askE rows' [] x ≠ 0 then (false, 110) else if askB rows' [] x = false then (false, 0) else if askE rows' [] y ≠ 0 then (false, 110) else (!askB rows' [] y, 0) := by
  rcases h with ⟨h, _⟩ | ⟨h, _⟩ | ⟨_, h0, h1, rfl, rfl⟩
  · cases h
  · cases h
  · obtain ⟨ok1, _, x, hx, hxl, _⟩ := putP_img ok h0
    obtain ⟨_, hp2, y, hy, hyl, _⟩ := putP_img ok1 h1
    refine ⟨x, y, by rw [hx, hy], Nat.lt_of_lt_of_le hxl (prefix_length hp2), hyl, ?_⟩
    unfold killP
    rw [if_neg (by simpa using hE), if_neg (by simpa using h0), if_neg (by simpa using h1), hx, hy]
    rfl
def KiPost (w : World) (p : Bool × Int) (e : Ending) (w' : World) : Prop := e = .returned (.tuple #[.bool p.1, .int .i64 p.2]) ∧ Below w.heap.size w w'
theorem kiPost_mk {w w' : World} {p : Bool × Int} {a : Bool} {b : Int} (hp : p = (a, b)) (hb : Below w.heap.size w w') : KiPost w p (.returned (.tuple #[.bool a, .int .i64 b])) w' := by
  subst hp; exact ⟨rfl, hb⟩
/-- The blocks ahead of look. -/
structure KiF (w w3 : World) (a b : Int) : Prop where
  bel : Below w.heap.size w w3
  ls : ListsR w3 (.slice (some ⟨w.heap.size + 1, 0, none⟩) 1 1) [[a, b]]
theorem ki_frame (w : World) (a b : Int) : KiF w ((w.alloc (.cells #[.int .i64 a, .int .i64 b] 3)).alloc (.cells #[.slice (some ⟨w.heap.size, 0, none⟩) 2 2] 23)) a b :=
  ⟨below_trans (below_alloc _ _) (below_alloc _ _),
   lists1 (rdH _ (by simp) _ _ rfl rfl) ((rdH (n := 2) (size := 1) w (b := w.heap.size) rfl #[.int .i64 a, .int .i64 b] 3 rfl rfl).below (below_alloc _ _)) (by simp)⟩
theorem flat1 (a b : Int) : [[a, b]].flatten = [a, b] := by simp
set_option maxRecDepth 100000 in
set_option maxHeartbeats 4000000 in
theorem kills_any (F : FP) (w : World) (t v : Value) (rows : List ND) (h : TabF F w t rows) (hT : TabG w) (a b : Int) (l : List HY) (hn : ∀ x ∈ l, x.name.size ≤ maxLen) (hv : Rd w v l.length 2 (hyCells l)) (hl : l.length * 16 ≤ 140737488355328) :
    Calls Tryz.prog 16 #[t, .int .i64 a, .int .i64 b, v] w (KiPost w (killP rows a b l)) := by
  have H := Lib.hid h
  have HT := Lib.hid hT
  have HOK := Lib.hid h.ok
  have HFR := Lib.hid (ki_frame w a b)
  have HN := Lib.hid hn
  have HL := Lib.hid hl
  have HV := Lib.hid hv
  clear h hT hn hl hv
  by_cases hE : lookE rows [a, b] = 0
  case neg =>
    have HE := Lib.hid (lookE_bad hE)
    have HP : Hid (killP rows a b l = (false, 31)) := by unfold Hid killP; rw [if_pos hE]
    clear hE
    go_enter Tryz.func16, Tryz.ntmps16
    go_wp2_with fail
    generalize ((w.alloc (.cells #[.int .i64 a, .int .i64 b] 3)).alloc (.cells #[.slice (some ⟨w.heap.size, 0, none⟩) 2 2] 23)) = w3 at *
    refine (lookH_any 0 _ _ _ _ rows [[a, b]] ((H.out.col 0).below HFR.out.bel) HFR.out.ls (by simp)).mono ?_
    rintro e w4 ⟨rfl, hb4⟩
    rw [flat1, HE.out]
    have HB4 := Lib.hid (below_trans HFR.out.bel hb4)
    clear hb4
    go_wp2_with fail
    go_ret2
    exact kiPost_mk HP.out HB4.out
  case pos =>
    have HE := Lib.hid hE
    clear hE
    go_enter Tryz.func16, Tryz.ntmps16
    go_wp2_with fail
    generalize ((w.alloc (.cells #[.int .i64 a, .int .i64 b] 3)).alloc (.cells #[.slice (some ⟨w.heap.size, 0, none⟩) 2 2] 23)) = w3 at *
    refine (lookH_any 0 _ _ _ _ rows [[a, b]] ((H.out.col 0).below HFR.out.bel) HFR.out.ls (by simp)).mono ?_
    rintro e w4 ⟨rfl, hb4⟩
    rw [flat1, HE.out]
    have HB4 := Lib.hid (below_trans HFR.out.bel hb4)
    clear hb4
    go_wp2_with (go_at_call 28; refine (asker_any F _ t rows (H.out.below HB4.out)).mono ?_; rintro e w5 ⟨c, cb, Fc, rfl, hA5, hF5, hc5, hb5⟩; unfold askV; have HA5 := Lib.hid hA5; have HF5 : Hid (∀ b, Fc b → w.heap.size ≤ b) := (fun b hb => Nat.le_trans HB4.out.size (hF5 b hb)); have HB5 := Lib.hid (below_trans HB4.out hb5); clear hA5 hF5 hc5 hb5)
    have HS0 : Hid (KS Fc Fc (w5.alloc (.cells #[.int .i64 a, .int .i64 b] 3)) (w5.alloc (.cells #[.int .i64 a, .int .i64 b] 3)) cb c rows (.slice none 0 0) []) :=
      ⟨HA5.out.below (below_alloc _ _), KeptF.refl (HA5.out.tab.below (below_alloc _ _)).in_, OwnI.nil _ _ _⟩
    have HCB : Hid (cb < (w5.alloc (.cells #[.int .i64 a, .int .i64 b] 3)).heap.size) := by have := World.block_lt_of_cell? _ _ HA5.out.cell; simp at this; unfold Hid; simp; omega
    have HSL : Hid (∀ (F1 : FP) (W : World), KeptF Fc (w5.alloc (.cells #[.int .i64 a, .int .i64 b] 3)) F1 W → Rd W (.slice (some ⟨w5.heap.size, 0, none⟩) 2 2) 2 1 (ints [a, b])) := fun F1 W hk =>
      hk.rd (rd_lit w5 _ _ rfl rfl) (fun ad m k e hf => by cases e; exact Nat.lt_irrefl _ (HA5.out.tab.in_ _ hf))
    have HBW : Hid (∀ (F1 : FP) (W : World), KeptF Fc (w5.alloc (.cells #[.int .i64 a, .int .i64 b] 3)) F1 W → Below w.heap.size w W) := fun F1 W hk => by
      have h1 := below_trans HB5.out (below_alloc w5 (.cells #[.int .i64 a, .int .i64 b] 3))
      exact h1.trans (hk.below h1.size (fun b hb hf => by have := HF5.out b hf; omega))
    generalize (w5.alloc (.cells #[.int .i64 a, .int .i64 b] 3)) = w6 at *
    go_loopw [13, 38] (fun iv u W => ∃ (j : Nat) (F1 : FP) (rows1 : List ND) (ids : List Int), j ≤ 2 ∧ u = .int .i64 (j : Int) ∧ KS Fc F1 w6 W cb c rows1 iv ids ∧ KJ rows a b l j rows1 ids ∧ ids.length = j) (fun _ u _ => 2 - (intOf u).toNat)
    case atStart => exact ⟨0, Fc, rows, [], by omega, rfl, HS0.out, .inl ⟨rfl, rfl, rfl⟩, rfl⟩
    case round =>
      obtain ⟨j, F1, rows1, ids, hj, rfl, hs, hk, hlen⟩ := hrel
      have HS := Lib.hid hs; have HK := Lib.hid hk; have HLN := Lib.hid hlen
      obtain ⟨qa, qc, rfl⟩ := own_slice hs.own.own
      clear hs hk hlen
      by_cases hlt : j < 2
      · as_aux_lemma =>
        have hji : (j : Int) < 2 := by omega
        obtain ⟨ib, io, ic, x, he, hcx, hidx⟩ := ints_at (HSL.out _ _ HS.out.kp) hlt
        cases he
        rw [Nat.zero_add] at hcx
        have HJ := Lib.hid (kj_get HK.out hlt hidx HE.out)
        have HBR := Lib.hid (HBW.out _ _ HS.out.kp)
        have HPU := Lib.hid (sput_F HS.out.asks.tab x v l HN.out (HV.out.below HBR.out) HL.out)
        obtain ⟨p, hp⟩ : ∃ p, p = putP rows1 x l := ⟨_, rfl⟩
        rw [← hp] at HPU HJ
        clear hp hidx
        have HI2 : Hid (ids.length ≤ 2) := by have := HLN.out; unfold Hid; omega
        by_cases h30 : p.err = 30
        · have g30 : (p.err == 30) = true := by simpa using h30
          have hp := HJ.out.2 (by omega)
          rw [if_pos h30] at hp
          have HP := Lib.hid hp
          clear hp h30
          go_wp2_with (go_at_call 34; refine HPU.out.mono ?_; intro e w7 hp7; obtain ⟨rfl, F7, hs7⟩ := HS.out.put hp7; have HS7 := Lib.hid hs7; clear hs7 hp7)
          go_ret2
          exact kiPost_mk HP.out (HBW.out _ _ HS7.out.kp)
        · have g30 : (p.err == 30) = false := by simpa using h30
          by_cases h0 : p.err = 0
          · have hp := HJ.out.1 h0
            have HP := Lib.hid hp
            obtain ⟨prows, pid, perr⟩ := p
            simp only at h0 HP HPU g30
            subst h0
            clear hp h30
            go_wp2_with (first
              | (go_at_call 34; refine HPU.out.mono ?_; intro e w7 hp7; obtain ⟨rfl, F7, hs7⟩ := HS.out.put hp7; have HS7 := Lib.hid hs7; clear hs7 hp7)
              | (at_builtin; refine wp_append rfl (.tmp 54) (.tmp 56) 23 rfl w6.heap.size 3 _ 1 8 Tryz.underlying23 infoInt rfl (by decide) (by decide) _ ids.length (ints ids) rfl ((HS7.out.below (below_alloc w7 _)).own.own) _ 1 [.int .i64 pid] rfl (rd_one w7 _ _) (by simp [Value.oneCell']) (by have := HI2.out; omega) (by have := HS7.out.kp.size; simp; omega) ?_; intro v8 w8 hown8 hgr8 hat8 hnil8; have HS8 := Lib.hid ((HS7.out.below (below_alloc w7 _)).app HCB.out hown8 hgr8 hat8 (Nat.le_refl _)); clear hown8 hgr8 hat8 hnil8))
            exact ⟨⟨j + 1, F7, _, _, by omega, by go_num, HS8.out, HP.out, by rw [List.length_append, HLN.out]; rfl⟩, by simp [intOf]; omega⟩
          · have g0 : (p.err != 0) = true := by simpa using h0
            have hp := HJ.out.2 h0
            rw [if_neg h30] at hp
            have HP := Lib.hid hp
            clear hp h30 h0
            go_wp2_with (go_at_call 34; refine HPU.out.mono ?_; intro e w7 hp7; obtain ⟨rfl, F7, hs7⟩ := HS.out.put hp7; have HS7 := Lib.hid hs7; clear hs7 hp7)
            go_ret2
            exact kiPost_mk HP.out (HBW.out _ _ HS7.out.kp)
      · as_aux_lemma =>
        obtain rfl : j = 2 := by omega
        obtain ⟨x, y, hids, hx, hy, hkp⟩ := kj_end HOK.out HK.out HE.out
        subst hids
        have HXY : Hid (x < rows1.length ∧ y < rows1.length) := ⟨hx, hy⟩
        have HP := Lib.hid hkp
        clear hkp hx hy HK HLN
        obtain ⟨ib, io, ic, z, he, hc0, hz⟩ := ints_at (k := 0) HS.out.own.rd (by simp)
        cases he
        obtain ⟨ib, io, ic, z1, he, hc1, hz1⟩ := ints_at (k := 1) HS.out.own.rd (by simp)
        cases he
        simp only [List.getElem?_cons_zero, List.getElem?_cons_succ, Option.some.injEq] at hz hz1
        subst hz
        subst hz1
        have HBR := Lib.hid (HBW.out _ _ HS.out.kp)
        have HASK : Hid (∀ (W : World) (n : Nat), Below wr.heap.size wr W → n < rows1.length → Calls Tryz.prog 49 #[.slice none 0 0, .int .i64 (n : Int), .pointer (some ⟨cb, 0, none⟩)] W fun e w' => e = .returned (.tuple #[.bool (askB rows1 [] n), .int .i64 (askE rows1 [] n)]) ∧ Below W.heap.size W w') :=
          fun W n hb hn => ask_any F1 W cb c rows1 (HS.out.asks.below hb) ((HT.out.below HBR.out).below hb) _ [] (rd_nil W) (by simp) (by simp) n hn
        rw [Nat.add_zero] at hc0
        go_wp2_with fail
        refine (HASK.out _ x (Below.refl _ _) HXY.out.1).mono ?_
        rintro e w7 ⟨rfl, hb7⟩
        have HB7 := Lib.hid hb7
        have hc7 : w7.cell? ⟨ib, io + 1, none⟩ = some (.int .i64 (y : Int)) := (hb7.cell (World.block_lt_of_cell? _ _ hc1)).trans hc1
        clear hb7 hc0 hc1
        rcases askE_cases rows1 [] x with he0 | he0
        · rw [he0]
          cases hbp : askB rows1 [] x with
          | false =>
            have hp := HP.out
            rw [he0, hbp, if_neg (by simp), if_pos rfl] at hp
            have HP2 := Lib.hid hp
            clear hp he0 hbp
            go_wp2_with fail
            go_ret2
            exact kiPost_mk HP2.out (below_trans HBR.out HB7.out)
          | true =>
            have hp := HP.out
            rw [he0, hbp, if_neg (by simp), if_neg (by simp)] at hp
            have HP2 := Lib.hid hp
            clear hp he0 hbp
            go_wp2_with fail
            refine (HASK.out _ y HB7.out HXY.out.2).mono ?_
            rintro e w8 ⟨rfl, hb8⟩
            have HB8 := Lib.hid (below_trans (below_trans HBR.out HB7.out) hb8)
            clear hb8
            rcases askE_cases rows1 [] y with hy0 | hy0
            · rw [hy0]
              have hp := HP2.out
              rw [hy0, if_neg (by simp)] at hp
              have HP3 := Lib.hid hp
              clear hp hy0
              generalize askB rows1 [] y = by' at *
              cases by' with
              | false =>
                go_wp2_with fail
                go_ret2
                exact kiPost_mk HP3.out HB8.out
              | true =>
                go_wp2_with fail
                go_ret2
                exact kiPost_mk HP3.out HB8.out
            · rw [hy0]
              have hp := HP2.out
              rw [hy0, if_pos (by simp)] at hp
              have HP3 := Lib.hid hp
              clear hp hy0
              go_wp2_with fail
              go_ret2
              exact kiPost_mk HP3.out HB8.out
        · rw [he0]
          have hp := HP.out
          rw [he0, if_pos (by simp)] at hp
          have HP2 := Lib.hid hp
          clear hp he0
          go_wp2_with fail
          go_ret2
          exact kiPost_mk HP2.out (below_trans HBR.out HB7.out)
end Go.Dk
end

section
namespace Go.Dk
open Go.RowKit Go.Maps Go.MapKept Go.Shelf
open Go.Proofs hiding intOf
set_option maxRecDepth 100000 in
set_option maxHeartbeats 1000000 in
theorem refWith_any (w : World) (m n : Nat) (hn : n < 1024) : Calls Tryz.prog 51 #[.agg (bitsV m).toArray, .int .i64 (n : Int)] w fun e w' => e = .returned (.agg (bitsV (m ||| 1 <<< n)).toArray) ∧ Below w.heap.size w w' := by
  have HS : Hid (BoxB ((w.alloc (.cells (bitsV m).toArray 77)).alloc (.cells zeroV.toArray 77)) w.heap.size (bitsV m) 77 ∧ BoxB ((w.alloc (.cells (bitsV m).toArray 77)).alloc (.cells zeroV.toArray 77)) (w.heap.size + 1) zeroV 77 ∧ Below w.heap.size w ((w.alloc (.cells (bitsV m).toArray 77)).alloc (.cells zeroV.toArray 77))) := by
    refine ⟨(BoxB.new w (bitsV m) _).below (below_alloc _ _), ?_, below_trans (below_alloc _ _) (below_alloc _ _)⟩
    have := BoxB.new (w.alloc (.cells (bitsV m).toArray 77)) zeroV 77
    simpa using this
  have hN := Lib.hid hn
  have HK : Hid (∀ W0 : World, BoxB W0 w.heap.size (bitsV m) 77 → BoxB (W0.setCell ⟨w.heap.size, n / 64, none⟩ (.int .u64 (bits .or .u64 (wd m (n / 64) : Int) (IntKind.u64.wrap (2 ^ (n % 64)))))) w.heap.size (bitsV (m ||| 1 <<< n)) 77) := fun W0 h => by
    rw [word_one, ← bitsV_or_one m hn]
    exact h.set _ _
  have HR : Hid (∀ W0 : World, BoxB W0 (w.heap.size + 1) zeroV 77 → BoxB (W0.setCell ⟨w.heap.size, n / 64, none⟩ (.int .u64 (bits .or .u64 (wd m (n / 64) : Int) (IntKind.u64.wrap (2 ^ (n % 64)))))) (w.heap.size + 1) zeroV 77) := fun W0 h => h.other (by omega) _ _
  go_enter Tryz.func51, Tryz.ntmps51
  go_wp2_with (first
    | (rw [show (#[.int .u64 0, .int .u64 0, .int .u64 0, .int .u64 0, .int .u64 0, .int .u64 0, .int .u64 0, .int .u64 0, .int .u64 0, .int .u64 0, .int .u64 0, .int .u64 0, .int .u64 0, .int .u64 0, .int .u64 0, .int .u64 0] : Array Value) = zeroV.toArray from rfl]; generalize ((w.alloc (.cells (bitsV m).toArray 77)).alloc (.cells zeroV.toArray 77)) = W0 at *; have d2 := HS.out.1.cell (bitsV_at m (i := n / 64) (by have := hN.out; omega)); have f2 := HS.out.1.fr (n / 64))
    | (refine wp_loadBits (.tmp 2) rfl rfl rfl (HK.out W0 HS.out.1) ?_)
    | (refine wp_storeBits (.tmp 4) (.tmp 17) rfl rfl rfl rfl (HR.out W0 HS.out.2.1) (by simp [zeroV, bitsV]) ?_; intro W7 hb7 ho7; have K7 := Lib.hid hb7; have K8 := Lib.hid ((HS.out.2.2.setCell (p := ⟨w.heap.size, n / 64, none⟩) (Nat.le_refl _) _).trans (ho7.below (Nat.le_succ _))); clear hb7 ho7))
  exact bodyPost_ret (results_bits rfl rfl K7.out) rfl ⟨rfl, K8.out⟩
/-- A load of a set, under a name that the walk does not open. -/
def bitsLoad (p : Value) : _root_.Go.Sem Value := Instr.loadAt 77 p
theorem bitsLoad_fold (p : Value) : Instr.loadAt 77 p = bitsLoad p := rfl
theorem run_bitsLoad {W : World} {b m : Nat} {T : TypeId} (h : BoxB W b (bitsV m) T) : (bitsLoad (.pointer (some ⟨b, 0, none⟩))).run Tryz.prog W = .ok (.agg (bitsV m).toArray) W := by
  obtain ⟨d, hu, hd⟩ := uBits
  exact run_loadAt_mid (P := Tryz.prog) W b 0 77 (bitsV m) d (h.range (by simp)) hu hd (by rw [bitsV_len]; exact iBits)
section
attribute [local go_sem ↓] bitsLoad_fold
set_option maxRecDepth 100000 in
set_option maxHeartbeats 2000000 in
theorem refOf_any (w : World) (v : Value) (zs : List Int) (hr : Rd w v zs.length 1 (ints zs)) (hl : zs.length < 2 ^ 62) (hz : ∀ z ∈ zs, 0 ≤ z ∧ z < 1024) :
    Calls Tryz.prog 29 #[v] w fun e w' => e = .returned (.tuple #[.agg (bitsV (maskOf (natsOf zs))).toArray, .int .i64 0]) ∧ Below w.heap.size w w' := by
  have HZ : Hid (BoxB ((w.alloc (.cells zeroV.toArray 77)).alloc (.cells zeroV.toArray 77)) w.heap.size zeroV 77 ∧ BoxB ((w.alloc (.cells zeroV.toArray 77)).alloc (.cells zeroV.toArray 77)) (w.heap.size + 1) (bitsV (maskOf ((natsOf zs).take 0))) 77 ∧ Below w.heap.size w ((w.alloc (.cells zeroV.toArray 77)).alloc (.cells zeroV.toArray 77))) := by
    refine ⟨(BoxB.new w zeroV _).below (below_alloc _ _), ?_, below_trans (below_alloc _ _) (below_alloc _ _)⟩
    have := BoxB.new (w.alloc (.cells zeroV.toArray 77)) zeroV 77
    simpa [maskOf, zeroV] using this
  have HV := Lib.hid hr
  have HL := Lib.hid hl
  have HN := Lib.hid hz
  obtain ⟨va, vc, rfl⟩ := hr.slice
  clear hr hl hz
  go_enter Tryz.func29, Tryz.ntmps29
  go_wp2_with fail
  rw [show (#[.int .u64 0, .int .u64 0, .int .u64 0, .int .u64 0, .int .u64 0, .int .u64 0, .int .u64 0, .int .u64 0, .int .u64 0, .int .u64 0, .int .u64 0, .int .u64 0, .int .u64 0, .int .u64 0, .int .u64 0, .int .u64 0] : Array Value) = zeroV.toArray from rfl]
  generalize ((w.alloc (.cells zeroV.toArray 77)).alloc (.cells zeroV.toArray 77)) = W0 at *
  go_loopw [5] (fun i W => ∃ j : Nat, j ≤ zs.length ∧ i = .int .i64 (j : Int) ∧ BoxB W w.heap.size zeroV 77 ∧ BoxB W (w.heap.size + 1) (bitsV (maskOf ((natsOf zs).take j))) 77 ∧ Below w.heap.size w W) (fun i _ => zs.length - (intOf i).toNat)
  case atStart => exact ⟨0, by omega, rfl, HZ.out.1, HZ.out.2.1, HZ.out.2.2⟩
  case round =>
    obtain ⟨j, hj, rfl, h1, h2, h3⟩ := hrel
    have H1 := Lib.hid h1; have H2 := Lib.hid h2; have H3 := Lib.hid h3
    clear h1 h2 h3
    by_cases hlt : j < zs.length
    · as_aux_lemma =>
      have hji : (j : Int) < (zs.length : Int) := by omega
      obtain ⟨b, o, c1, z, he, hcell, hzk⟩ := ints_at (HV.out.below H3.out) hlt
      cases he
      have hz1 := HN.out z (List.mem_of_getElem? hzk)
      obtain ⟨n, rfl⟩ := Int.eq_ofNat_of_zero_le hz1.1
      have hn : n < 1024 := by omega
      have hg0 : ¬ (n : Int) < 0 := by omega
      have hg1 : ¬ (1024 : Int) ≤ (n : Int) := by omega
      have hlj : j < (natsOf zs).length := by simpa [natsOf] using hlt
      have HM : Hid (maskOf ((natsOf zs).take (j + 1)) = maskOf ((natsOf zs).take j) ||| 1 <<< n) := by
        have e : (natsOf zs)[j] = n := by
          have : zs[j] = (n : Int) := (List.getElem?_eq_some_iff.1 hzk).2
          simp [natsOf, this]
        rw [← e]; exact maskOf_take _ hlj
      have HW := Lib.hid (fun W => refWith_any W (maskOf ((natsOf zs).take j)) n hn)
      have HLL := HL.out
      clear hzk hz1
      go_wp2_with fail
      obtain ⟨I, _, Fw, L⟩ := later wr
      have a1 := L.cell hcell
      have hld : ∀ i, (bitsLoad (.pointer (some ⟨w.heap.size + 1, 0, none⟩))).run Tryz.prog (Fw i) = .ok (.agg (bitsV (maskOf ((natsOf zs).take j))).toArray) (Fw i) := fun i => run_bitsLoad (H2.out.below (L.bel i))
      have HF := Lib.hid L
      clear L hcell
      refine wp_tailW (W := Fw) 6 (by kernel_rfl) (by kernel_rfl) HF.out.drew ?_
      simp only [List.take_succ_cons, List.take_zero, List.drop_succ_cons, List.drop_zero]
      repeat (go_big_quiet_step ((go_at_call 51; refine HF.out.call (HW.out _))))
      refine wpQuiet_nil ?_
      rintro w6 ⟨i6, rfl⟩
      have HB6 := Lib.hid (HF.out.bel i6)
      clear a1 hld HF
      generalize Fw i6 = W6 at *
      have K1 := Lib.hid (H1.out.below HB6.out)
      have K2 := Lib.hid (H2.out.below HB6.out)
      have K3 := Lib.hid (below_trans H3.out HB6.out)
      go_wp2_with (refine wp_storeBits (.tmp 4) (.tmp 31) rfl rfl rfl rfl K2.out (by simp [bitsV]) ?_; intro W7 hb7 ho7; have K7 := Lib.hid hb7; have K8 := Lib.hid (K3.out.trans (ho7.below (Nat.le_succ _))); have K9 := Lib.hid (K1.out.only ho7 (by omega)); clear hb7 ho7)
      exact ⟨⟨j + 1, by omega, by go_num, K9.out, by rw [HM.out]; exact K7.out, K8.out⟩, by simp [intOf]; omega⟩
    · as_aux_lemma =>
      obtain rfl : j = zs.length := by omega
      have h2 := H2.out
      rw [List.take_of_length_le (by simp [natsOf])] at h2
      have K2 := Lib.hid h2
      have hnn : ¬ (zs.length : Int) < (zs.length : Int) := Int.lt_irrefl _
      clear h2
      go_wp2_with (first
        | (refine wp_loadBits (.tmp 4) rfl rfl rfl K2.out ?_)
        | (refine wp_storeBits (.tmp 2) (.tmp 32) rfl rfl rfl rfl H1.out (by simp [zeroV, bitsV]) ?_; intro W7 hb7 ho7; have K7 := Lib.hid hb7; have K8 := Lib.hid (H3.out.trans (ho7.below (Nat.le_refl _))); clear hb7 ho7))
      exact bodyPost_ret (results_bits2 rfl rfl rfl K7.out) rfl ⟨rfl, K8.out⟩
end
end Go.Dk
end

section
namespace Go.Dk
open Go.RowKit Go.Maps Go.MapKept Go.Shelf
open Go.Proofs hiding intOf
def toldP (rows : List ND) (ns : List Nat) (g : Nat) : Int := if (askR rows ns g).err ≠ 0 then -1 else if provedAt (askR rows ns g).st (askR rows ns g).at_ = true then 1 else 0
theorem told_zero {rows : List ND} (ok : Ok rows) {ns : List Nat} {g : Nat} (hn : ∀ n ∈ ns, n < rows.length) (hg : g < rows.length) (h : toldP rows ns g = 0) : Refut (ctx rows ns) (tree rows g) := by
  unfold toldP at h
  split at h
  · cases h
  · rename_i he
    have he : (askR rows ns g).err = 0 := by simpa using he
    split at h
    · cases h
    · rename_i hp
      have hp : provedAt (askR rows ns g).st (askR rows ns g).at_ = false := by simpa using hp
      exact (run_sem ok hn hg rfl he).2 hp
def ToldPost (F : FP) (w : World) (t : Value) (rows : List ND) (x : Int) (e : Ending) (w' : World) : Prop :=
  e = .returned (.int .i64 x) ∧ ∃ F' rows', KeptF F w F' w' ∧ TabF F' w' t rows' ∧ rows <+: rows'
section
attribute [local go_sem ↓] buildSeq_fold
set_option maxRecDepth 100000 in
set_option maxHeartbeats 4000000 in
theorem told_any (F : FP) (w : World) (t : Value) (rows : List ND) (h : TabF F w t rows) (hT : TabG w) (hF0 : ¬ F 0) (v : Value) (zs : List Int) (hv : Rd w v zs.length 1 (ints zs)) (hl : zs.length < 2 ^ 62) (hz : ∀ z ∈ zs, hasB rows.length z = true) (g : Nat) (hg : g < rows.length) :
    Calls Tryz.prog 13 #[t, v, .int .i64 (g : Int)] w (ToldPost F w t rows (toldP rows (natsOf zs) g)) := by
  have hok := h.ok
  have hle := hok.le
  have H := Lib.hid h
  have HT := Lib.hid hT
  have HOF := Lib.hid (refOf_any w v zs hv hl (fun z hz' => by obtain ⟨n, rfl, hn⟩ := nat_of_has (hz z hz'); omega))
  have HW : Hid (Wf rows ⟨maskOf (natsOf zs), g⟩) := wf_mask (fun n hn => by obtain ⟨z, hz', rfl⟩ := List.mem_map.1 hn; obtain ⟨k, rfl, hk⟩ := nat_of_has (hz z hz'); simpa using hk) hg
  obtain ⟨r, hr⟩ : ∃ r, r = askR rows (natsOf zs) g := ⟨_, rfl⟩
  have HBS := Lib.hid (fun W => build_seq W (maskOf (natsOf zs)) (g : Int))
  have HTP : Hid (toldP rows (natsOf zs) g = if r.err ≠ 0 then -1 else if provedAt r.st r.at_ = true then 1 else 0) := by unfold Hid toldP; rw [hr]
  have HPRE : Hid (rows <+: r.st.rows) := by have := decideL_pre 4096 ⟨rows, [], 4096⟩ ⟨maskOf (natsOf zs), g⟩; rw [hr]; exact this
  have HRUN : Hid (∀ W : World, Below w.heap.size w W → Calls Tryz.prog 30 #[t, .agg (seqL (maskOf (natsOf zs)) (g : Int)).toArray, .int .i64 4096] W (RunPost F W t rows 4096 r)) := fun W hb =>
    run_any F W t rows (h.below hb) (hT.below hb) hF0 ⟨maskOf (natsOf zs), g⟩ HW.out 4096 (by omega) (by omega) r hr.symm
  generalize maskOf (natsOf zs) = m at *
  have hbs := HBS.out
  clear h hT hv hz hr hok hle hF0
  have HZ : Hid (∀ W : World, BoxB (W.alloc (.cells #[.int .u64 0, .int .u64 0, .int .u64 0, .int .u64 0, .int .u64 0, .int .u64 0, .int .u64 0, .int .u64 0, .int .u64 0, .int .u64 0, .int .u64 0, .int .u64 0, .int .u64 0, .int .u64 0, .int .u64 0, .int .u64 0] 77)) W.heap.size zeroV 77) := fun W => BoxB.new W zeroV 77
  by_cases hz : r.err = 0
  · have HZR := Lib.hid hz
    obtain ⟨pb, hpb⟩ : ∃ pb, pb = provedAt r.st r.at_ := ⟨_, rfl⟩
    have htp := HTP.out
    rw [if_neg (by simpa using hz), ← hpb] at htp
    have HTP := Lib.hid htp
    have HPB := Lib.hid hpb
    clear htp hz hpb
    cases pb with
    | true =>
      go_enter Tryz.func13, Tryz.ntmps13
      go_wp2_with (first
        | (go_at_call 29; refine HOF.out.mono ?_; rintro e w2 ⟨rfl, hb2⟩; have HB2 := Lib.hid hb2; clear hb2)
        | (refine wp_storeBits (.tmp 7) (.tmp 14) rfl rfl rfl rfl (HZ.out w2) (by simp [zeroV, bitsV]) ?_; intro W3 hb3 ho3; have HX3 := Lib.hid hb3; have HB3 := Lib.hid (below_trans HB2.out ((below_alloc _ _).trans (ho3.below (Nat.le_refl _)))); clear hb3 ho3)
        | (refine wp_loadBits (.tmp 7) rfl rfl rfl HX3.out ?_)
        | (go_at_call 30; refine (HRUN.out _ HB3.out).mono ?_; rintro e w5 ⟨F5, hk5, hg5, _⟩; obtain ⟨sv, rfl, ht5, kvs, K5, _, hown5, _⟩ := hg5 HZR.out; obtain ⟨sa, sc, rfl⟩ := own_slice hown5; rw [← HPB.out]; have HK5 := Lib.hid ((KeptF.of_below H.out.in_ HB3.out).trans hk5); have HT5 := Lib.hid ht5; clear hown5 hg5 hk5 ht5))
      go_ret
      exact ⟨by rw [HTP.out]; rfl, F5, _, HK5.out.trans (KeptF.of_below HT5.out.in_ (below_alloc _ _)), HT5.out.below (below_alloc _ _), HPRE.out⟩
    | false =>
      go_enter Tryz.func13, Tryz.ntmps13
      go_wp2_with (first
        | (go_at_call 29; refine HOF.out.mono ?_; rintro e w2 ⟨rfl, hb2⟩; have HB2 := Lib.hid hb2; clear hb2)
        | (refine wp_storeBits (.tmp 7) (.tmp 14) rfl rfl rfl rfl (HZ.out w2) (by simp [zeroV, bitsV]) ?_; intro W3 hb3 ho3; have HX3 := Lib.hid hb3; have HB3 := Lib.hid (below_trans HB2.out ((below_alloc _ _).trans (ho3.below (Nat.le_refl _)))); clear hb3 ho3)
        | (refine wp_loadBits (.tmp 7) rfl rfl rfl HX3.out ?_)
        | (go_at_call 30; refine (HRUN.out _ HB3.out).mono ?_; rintro e w5 ⟨F5, hk5, hg5, _⟩; obtain ⟨sv, rfl, ht5, kvs, K5, _, hown5, _⟩ := hg5 HZR.out; obtain ⟨sa, sc, rfl⟩ := own_slice hown5; rw [← HPB.out]; have HK5 := Lib.hid ((KeptF.of_below H.out.in_ HB3.out).trans hk5); have HT5 := Lib.hid ht5; clear hown5 hg5 hk5 ht5))
      go_ret
      exact ⟨by rw [HTP.out]; rfl, F5, _, HK5.out.trans (KeptF.of_below HT5.out.in_ (below_alloc _ _)), HT5.out.below (below_alloc _ _), HPRE.out⟩
  · have HZR := Lib.hid hz
    have htp := HTP.out
    rw [if_pos hz] at htp
    have HTP := Lib.hid htp
    have hz2 : (r.err != 0) = true := by simpa using hz
    clear htp hz
    go_enter Tryz.func13, Tryz.ntmps13
    go_wp2_with (first
      | (go_at_call 29; refine HOF.out.mono ?_; rintro e w2 ⟨rfl, hb2⟩; have HB2 := Lib.hid hb2; clear hb2)
      | (refine wp_storeBits (.tmp 7) (.tmp 14) rfl rfl rfl rfl (HZ.out w2) (by simp [zeroV, bitsV]) ?_; intro W3 hb3 ho3; have HX3 := Lib.hid hb3; have HB3 := Lib.hid (below_trans HB2.out ((below_alloc _ _).trans (ho3.below (Nat.le_refl _)))); clear hb3 ho3)
      | (refine wp_loadBits (.tmp 7) rfl rfl rfl HX3.out ?_)
      | (go_at_call 30; refine (HRUN.out _ HB3.out).mono ?_; rintro e w5 ⟨F5, hk5, _, hg5⟩; obtain ⟨rfl, ht5⟩ := hg5 HZR.out; have HK5 := Lib.hid ((KeptF.of_below H.out.in_ HB3.out).trans hk5); have HT5 := Lib.hid ht5; clear hg5 hk5 ht5))
    go_ret
    exact ⟨by rw [HTP.out]; rfl, F5, _, HK5.out.trans (KeptF.of_below HT5.out.in_ (below_alloc _ _)), HT5.out.below (below_alloc _ _), List.prefix_refl _⟩
end
end Go.Dk
end

section
namespace Go.Dk
def h27 : List ND := [⟨1, ⟨#[112]⟩, 0, 0⟩, ⟨1, ⟨#[113]⟩, 0, 0⟩, ⟨2, ⟨#[]⟩, 0, 0⟩, ⟨4, ⟨#[]⟩, 0, 1⟩, ⟨5, ⟨#[]⟩, 0, 3⟩, ⟨5, ⟨#[]⟩, 0, 2⟩, ⟨4, ⟨#[]⟩, 0, 5⟩]
def v27 : List ND := h27 ++ [⟨4, ⟨#[]⟩, 1, 0⟩, ⟨5, ⟨#[]⟩, 5, 7⟩, ⟨5, ⟨#[]⟩, 5, 0⟩, ⟨5, ⟨#[]⟩, 5, 1⟩]
set_option maxRecDepth 100000
theorem h27_is5 : isP h27 5 = (true, 0) := by kernel_rfl
theorem h27_is4 : isP h27 4 = (false, 0) := by kernel_rfl
theorem h27_d1 : disjP h27 [0] 3 = (0, 0) := by kernel_rfl
theorem h27_d2 : disjP h27 [3] 3 = (0, 270) := by kernel_rfl
theorem h27_d3 : disjP h27 [] 6 = (0, 2) := by kernel_rfl
theorem h27_ad : admP h27 [0] [2] 1 5 = (2, 0) := by kernel_rfl
theorem h27_vi : visserP h27 [0] [2] 1 0 = ⟨v27, 8, [9, 10, 9], 0⟩ := by kernel_rfl
theorem below_h {rows : List ND} {i : Nat} {l : List Nat} (hs : l = (List.range (i + 1)).filter (fun j => decide (j ∈ l))) (h : ∀ j, Reach rows i j ↔ j ∈ l) : below rows i = l := by
  have : below rows i = (List.range (i + 1)).filter (fun j => decide (j ∈ l)) := by
    unfold below
    congr 1
    funext j
    simp [h]
  rw [this, ← hs]
theorem reach_leafH {rows : List ND} {i : Nat} {n : ND} (hn : rows[i]? = some n) (hk : n.kind < 3) (j : Nat) : Reach rows i j ↔ j = i := by
  constructor
  · intro h
    cases h with
    | refl => rfl
    | left hi hk2 _ => rw [hn] at hi; cases hi; omega
    | right hi hk2 _ => rw [hn] at hi; cases hi; omega
  · rintro rfl; exact .refl _
def by27 : List HY := [⟨⟨#[113]⟩, 5⟩]
theorem v27_b1 : below v27 1 = [1] := by
  refine below_h (by decide) fun j => ?_
  rw [reach_leafH (n := ⟨1, ⟨#[113]⟩, 0, 0⟩) rfl (by decide)]
  simp
theorem v27_b0 : below v27 0 = [0] := by
  refine below_h (by decide) fun j => ?_
  rw [reach_leafH (n := ⟨1, ⟨#[112]⟩, 0, 0⟩) rfl (by decide)]
  simp
theorem v27_p1 : putP v27 1 by27 = ⟨v27, 5, 0⟩ := by
  unfold putP
  rw [if_neg (by decide), if_neg (by decide), if_neg (by decide)]
  unfold anewP
  rw [show Int.toNat 1 = 1 from rfl, v27_b1]
  kernel_rfl
theorem v27_p0 : putP v27 0 by27 = ⟨v27, 0, 0⟩ := by
  unfold putP
  rw [if_neg (by decide), if_neg (by decide), if_neg (by decide)]
  unfold anewP
  rw [show Int.toNat 0 = 0 from rfl, v27_b0]
  kernel_rfl
theorem v27_a : askE v27 [] 5 = 0 ∧ askB v27 [] 5 = false := by
  constructor <;> kernel_rfl
theorem v27_k : killP v27 1 0 by27 = (false, 0) := by
  have h := v27_a
  unfold killP
  rw [v27_p1]
  simp only
  rw [v27_p0]
  simp only [show (5 : Int).toNat = 5 from rfl, h.1, h.2]
  rfl
end Go.Dk
end

section
namespace Go.Dk
open Go.RowKit Go.Maps Go.MapKept
open Go.Proofs hiding intOf
/-- The two tables side by side, of colours 1 and 2. -/
structure Pair (ow : Own) (w : World) (t r : Value) (xs ys : List ND) : Prop where
  t : Tab 1 ow w t xs
  r : RTab 2 ow w r ys
def BothPost (w : World) (rows : List ND) (e : Ending) (w' : World) : Prop :=
  Below w.heap.size w w' ∧ (fromE [] rows ≠ 0 → e = .returned (.tuple #[.pointer none, .pointer none, .bool false])) ∧
    (fromE [] rows = 0 → ∃ t r ow', e = .returned (.tuple #[t, r, .bool true]) ∧ Pair ow' w' t r rows rows ∧ ∀ b, b < w.heap.size → ow' b = 0)
set_option maxRecDepth 100000 in
set_option maxHeartbeats 800000 in
theorem both_any (w : World) (v : Value) (rows : List ND) (hn : ∀ n ∈ rows, n.name.size ≤ maxLen) (hr : Rd w v rows.length 4 (nodeCells rows)) (hm : rows.length ≤ maxLen) (hl : rows.length * 40 ≤ 140737488355328) :
    Calls Tryz.prog 8 #[v] w (BothPost w rows) := by
  have HR := Lib.hid hr
  have HN := Lib.hid hn
  obtain ⟨a, c, rfl⟩ := hr.slice
  clear hr hn
  unfold maxLen at hm
  by_cases h0 : fromE [] rows = 0
  · have H0 := Lib.hid h0
    clear h0
    go_enter Tryz.func8, Tryz.ntmps8
    go_wp2_with (first
      | (at_builtin; refine wp_append rfl (.tmp 10) (.tmp 11) 22 rfl w.heap.size 31 _ 4 40 Tryz.underlying22 infoNode rfl (by decide) (by decide) _ 0 [] rfl (World.ownsRow_made w _ 0 (Nat.le_refl _) (by decide) (by simp)) _ rows.length (nodeCells rows) rfl (HR.out.below (below_alloc _ _)) (nodeCells_one rows) (by omega) (by simp) ?_; intro v1 w1 hown hgrow hat hnil; simp only [Nat.zero_add, List.nil_append] at hown; have HB1 : Hid (Below w.heap.size w w1) := ((Below.refl _ _).alloc (Nat.le_refl _) _).grown hgrow (by simp) (by intro k hk; cases hk; exact Nat.le_refl _); have HO1 := Lib.hid hown; clear hown hgrow hat hnil)
      | (go_at_call 23; refine (refFrom_any 2 (fun _ => 0) w1 _ rows HN.out (HR.out.below HB1.out) (by unfold maxLen; omega)).mono ?_; rintro e w2 ⟨r, he, hb2, ht2, _⟩; rw [H0.out] at he; subst he; obtain ⟨ow2, hk2, ht2⟩ := ht2 H0.out; have HT2 := Lib.hid ht2; have HK2 := Lib.hid hk2; have HB12 := Lib.hid hb2; clear ht2 hk2; have HB2 : Hid (Below w.heap.size w w2) := HB1.out.trans (hb2.mono HB1.out.size); clear hb2)
      | (go_at_call 24; refine (from_any 1 ow2 w2 v1 rows HN.out ((rd_own HO1.out).below HB12.out) (by unfold maxLen; omega)).mono ?_; rintro e w3 ⟨t, he, hb3, ht3, _⟩; rw [H0.out] at he; subst he; obtain ⟨ow3, hk3, ht3⟩ := ht3 H0.out; have HT3 := Lib.hid ht3; have HK3 := Lib.hid hk3; clear ht3 hk3; have HB3 : Hid (Below w.heap.size w w3) := HB2.out.trans (hb3.mono HB2.out.size); clear hb3)
      | fail)
    go_ret3
    exact ⟨HB3.out, fun h => absurd H0.out h, fun _ => ⟨_, _, ow3, rfl, ⟨HT3.out, HT2.out.kept HK3.out (by decide)⟩, fun b hb => (HK3.out.own b (Nat.lt_of_lt_of_le hb HB2.out.size)).trans (HK2.out.own b (Nat.lt_of_lt_of_le hb HB1.out.size))⟩⟩
  · have hb0 : (fromE [] rows != 0) = true := by simpa using h0
    have H0 := Lib.hid h0
    clear h0
    go_enter Tryz.func8, Tryz.ntmps8
    go_wp2_with (first
      | (at_builtin; refine wp_append rfl (.tmp 10) (.tmp 11) 22 rfl w.heap.size 31 _ 4 40 Tryz.underlying22 infoNode rfl (by decide) (by decide) _ 0 [] rfl (World.ownsRow_made w _ 0 (Nat.le_refl _) (by decide) (by simp)) _ rows.length (nodeCells rows) rfl (HR.out.below (below_alloc _ _)) (nodeCells_one rows) (by omega) (by simp) ?_; intro v1 w1 hown hgrow hat hnil; have HB1 : Hid (Below w.heap.size w w1) := ((Below.refl _ _).alloc (Nat.le_refl _) _).grown hgrow (by simp) (by intro k hk; cases hk; exact Nat.le_refl _); clear hown hgrow hat hnil)
      | (go_at_call 23; refine (refFrom_any 2 (fun _ => 0) w1 _ rows HN.out (HR.out.below HB1.out) (by unfold maxLen; omega)).mono ?_; rintro e w2 ⟨r, rfl, hb2, _, ht2⟩; have HB2 : Hid (Below w.heap.size w w2) := HB1.out.trans (hb2.mono HB1.out.size); clear hb2)
      | fail)
    go_ret3
    exact ⟨HB2.out, fun _ => rfl, fun h => absurd h H0.out⟩
end Go.Dk
end
