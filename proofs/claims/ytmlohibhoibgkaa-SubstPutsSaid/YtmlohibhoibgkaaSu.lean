/- Layer 7: Put, Frame. -/
import Derived.Test.YtmlohibhoibgkaaSt
import Derived.Test.YtmlohibhoibgkaaSj
namespace Go.Dk
open Go.RowKit Go.Maps Go.MapKept
open Go.Proofs hiding intOf

def HY.cells (h : HY) : List Value := [.string h.name, .int .i64 h.form]
def hyCells (l : List HY) : List Value := l.flatMap HY.cells
theorem hyCells_at (l : List HY) (i : Nat) (h : HY) (hi : l[i]? = some h) (j : Nat) (hj : j < 2) : (hyCells l)[i * 2 + j]? = h.cells[j]? := by
  induction l generalizing i with
  | nil => simp at hi
  | cons a t ih =>
    cases i with
    | zero =>
      simp at hi
      subst hi
      unfold hyCells
      rw [List.flatMap_cons, List.getElem?_append_left (by simp [HY.cells]; omega)]
      simp
    | succ i =>
      simp only [List.getElem?_cons_succ] at hi
      unfold hyCells
      rw [List.flatMap_cons, List.getElem?_append_right (by simp [HY.cells]; omega)]
      have := ih i hi
      unfold hyCells at this
      rw [← this]
      congr 1
      simp [HY.cells]; omega
theorem hyCells_len (l : List HY) : (hyCells l).length = l.length * 2 := by
  induction l with
  | nil => rfl
  | cons a t ih => unfold hyCells at *; rw [List.flatMap_cons, List.length_append, ih]; simp [HY.cells]; omega
theorem hy_at {w : World} {v : Value} {l : List HY} (h : Rd w v l.length 2 (hyCells l)) {k : Nat} (hk : k < l.length) : ∃ b o c x, v = .slice (some ⟨b, o, none⟩) l.length c ∧ w.cell? ⟨b, o + k * 2, none⟩ = some (.string x.name) ∧ w.cell? ⟨b, o + k * 2 + 1, none⟩ = some (.int .i64 x.form) ∧ l[k]? = some (x : HY) := by
  obtain ⟨b, o, c, rfl, hc⟩ := h.some (by omega)
  obtain ⟨x, hx⟩ : ∃ x, l[k]? = some x := ⟨_, List.getElem?_eq_getElem hk⟩
  refine ⟨b, o, c, x, rfl, ?_, ?_, hx⟩
  · exact hc (k * 2) _ (by have := hyCells_at l k x hx 0 (by omega); simpa [HY.cells] using this)
  · have := hc (k * 2 + 1) _ (by have := hyCells_at l k x hx 1 (by omega); simpa [HY.cells] using this)
    rwa [show o + (k * 2 + 1) = o + k * 2 + 1 by omega] at this

def formsOf (l : List HY) : List Int := l.map (·.form)
theorem formsOf_snoc {l : List HY} {k : Nat} {x : HY} (h : l[k]? = some x) : formsOf (l.take (k + 1)) = formsOf (l.take k) ++ [x.form] := by
  unfold formsOf; rw [List.take_add_one, h]; simp
theorem lookE_put (rows : List ND) (id : Int) (l : List HY) : lookE rows (id :: formsOf l) = if hasB rows.length id = true ∧ hyB rows l = true then 0 else 31 := by
  unfold lookE hyB formsOf
  simp only [List.all_cons, List.all_map, Bool.and_eq_true]
  rfl

/-- The boxes of Put: the table's, the map's. -/
def EnvP (ow : Own) (w : World) (b b12 nb : Nat) (t : Value) (f : ByteArray → Option Int) : Prop :=
  w.cell? ⟨b, 0, none⟩ = some t ∧ w.cell? ⟨b12, 0, none⟩ = some (.map (some nb)) ∧ TM Try.prog 9 strV intV w nb f ∧ ow b = 2 ∧ ow b12 = 2 ∧ ow nb = 2
theorem envP_ok (b b12 nb : Nat) (t : Value) (f : ByteArray → Option Int) : EnvOk (fun ow w => EnvP ow w b b12 nb t f) := by
  rintro c hc ow w ow' w' ⟨h1, h2, h3, o1, o2, o3⟩ hk
  have n2 : (2 : Nat) ≠ c := by omega
  exact ⟨cell_kept h1 hk (by rw [show (⟨b, 0, none⟩ : Addr).block = b from rfl, o1]; exact n2), cell_kept h2 hk (by rw [show (⟨b12, 0, none⟩ : Addr).block = b12 from rfl, o2]; exact n2), h3.kept hk (by rw [o3]; exact n2),
    (hk.own _ (World.block_lt_of_cell? w _ h1)).trans o1, (hk.own _ (World.block_lt_of_cell? w _ h2)).trans o2, (hk.own _ h3.lt).trans o3⟩

/-- In Put's loops: the boxes, the map. -/
structure PuI (w W : World) (b12 nb : Nat) (t : Value) (f : ByteArray → Option Int) : Prop where
  c0 : W.cell? ⟨w.heap.size, 0, none⟩ = some t
  c12 : W.cell? ⟨b12, 0, none⟩ = some (.map (some nb))
  mp : TM Try.prog 9 strV intV W nb f
  bl : Below w.heap.size w W
  lb : w.heap.size ≤ b12
  ln : w.heap.size ≤ nb
theorem PuI.below {w W W' : World} {b12 nb : Nat} {t : Value} {f : ByteArray → Option Int} (h : PuI w W b12 nb t f) (hb : Below W.heap.size W W') : PuI w W' b12 nb t f :=
  ⟨(hb.cell (World.block_lt_of_cell? _ _ h.c0)).trans h.c0, (hb.cell (World.block_lt_of_cell? _ _ h.c12)).trans h.c12, h.mp.below hb, below_trans h.bl hb, h.lb, h.ln⟩
theorem PuI.put {w W W' : World} {b12 nb : Nat} {t : Value} {f f' : ByteArray → Option Int} (h : PuI w W b12 nb t f) (hm : TM Try.prog 9 strV intV W' nb f') (ho : Only nb W W') : PuI w W' b12 nb t f' := by
  obtain ⟨_, ⟨es, clock, hes, _⟩, _⟩ := h.mp
  have e1 : ∀ {b : Nat} {v : Value}, W.cell? ⟨b, 0, none⟩ = some v → b ≠ nb := fun hc e => by
    subst e; simp [World.cell?, hes] at hc
  exact ⟨(World.cell?_of_block (ho.block _ (e1 h.c0))).trans h.c0, (World.cell?_of_block (ho.block _ (e1 h.c12))).trans h.c12, hm, h.bl.trans (ho.below h.ln), h.lb, h.ln⟩
theorem PuI.env {ow : Own} {w W : World} {b12 nb : Nat} {t : Value} {f : ByteArray → Option Int} (h : PuI w W b12 nb t f) : EnvP (fun b => if b < w.heap.size then ow b else 2) W w.heap.size b12 nb t f :=
  ⟨h.c0, h.c12, h.mp, by simp, if_neg (by have := h.lb; omega), if_neg (by have := h.ln; omega)⟩

theorem hyB_nat {rows : List ND} {l : List HY} (h : hyB rows l = true) : ∀ s f, namedF l s = some f → 0 ≤ f := fun s f hf => by
  obtain ⟨x, hx, _, rfl⟩ := namedF_some hf
  obtain ⟨y, hy, _⟩ := nat_of_has (List.all_eq_true.1 h x hx)
  omega
theorem twice_at {l : List HY} {k : Nat} {x : HY} (hx : l[k]? = some x) {f : Int} (hf : namedF (l.take k) x.name = some f) : twiceB l = true := by
  unfold twiceB
  simp only [Bool.not_eq_true', decide_eq_false_iff_not]
  intro hd
  have h1 := nodup_take (k + 1) hd
  rw [List.take_add_one, hx] at h1
  simp only [Option.toList_some] at h1
  rw [nodup_snoc (nodup_take k hd), hf] at h1
  cases h1
theorem words_at {l : List HY} {k : Nat} {x : HY} (hx : l[k]? = some x) (hw : word x.name = false) : wordsB l = false := by
  unfold wordsB
  rw [List.all_eq_false]
  exact ⟨x, List.mem_of_getElem? hx, by rw [hw]; simp⟩
theorem namedF_upd {l : List HY} {k : Nat} {x : HY} (hx : l[k]? = some x) (hn : namedF (l.take k) x.name = none) : upd (namedF (l.take k)) x.name (some x.form) = namedF (l.take (k + 1)) := by
  funext s
  rw [List.take_add_one, hx]
  simp only [Option.toList_some]
  rw [namedF_snoc hn]
  by_cases e : s = x.name
  · subst e; rw [upd_same, if_pos rfl]
  · rw [upd_other _ _ e, if_neg e]

set_option maxRecDepth 100000 in
set_option maxHeartbeats 4000000 in
theorem put07_any (ow : Own) (w : World) (t v : Value) (rows : List ND) (h : Tab 1 ow w t rows) (id : Int) (l : List HY) (hn : ∀ x ∈ l, x.name.size ≤ maxLen) (hv : Rd w v l.length 2 (hyCells l)) (hl : l.length * 16 ≤ 140737488355328) :
    Calls Try.prog 13 #[t, .int .i64 id, v] w (PutPost 1 ow w t (putP rows id l)) := by
  obtain ⟨pb, rfl⟩ := h.ptr
  have HT : Hid (∀ W, Below w.heap.size w W → Tab 1 (fun b => if b < w.heap.size then ow b else 2) W (.pointer (some ⟨pb, 0, none⟩)) rows) := fun W hb => tab_re h hb
  have HV := Lib.hid hv
  have HN := Lib.hid hn
  obtain ⟨va, vc, rfl⟩ := hv.slice
  have HL := Lib.hid (lookE_put rows id l)
  have hmm := @run_makeMap Try.prog
  clear h hv hn
  go_enter Try.func13, Try.ntmps13
  go_wp2_with fail
  have HI0 : Hid (Below w.heap.size w ((w.alloc (.cells #[.pointer (some ⟨pb, 0, none⟩)] 24)).alloc (.cells #[.int .i64 id] 3))) := below_trans (below_alloc _ _) (below_alloc _ _)
  have HC0 : Hid (((w.alloc (.cells #[.pointer (some ⟨pb, 0, none⟩)] 24)).alloc (.cells #[.int .i64 id] 3)).cell? ⟨w.heap.size, 0, none⟩ = some (.pointer (some ⟨pb, 0, none⟩))) := (World.cell?_alloc_lt _ _ _ (by simp)).trans (World.cell?_alloc_at _ _ _ _ rfl)
  have HO0 : Hid (((w.alloc (.cells #[.pointer (some ⟨pb, 0, none⟩)] 24)).alloc (.cells #[.int .i64 id] 3)).ownsRow (w.heap.size + 1) 3 1 (.slice (some ⟨w.heap.size + 1, 0, none⟩) 1 1) (0 + 1) (ints (id :: formsOf (l.take 0)))) := by
    refine ⟨by simp [ints, formsOf], .inr ⟨w.heap.size + 1, 1, _, rfl, Nat.le_refl _, heap_alloc_new' _ _ (by simp), Nat.le_refl _, by decide, by simp, by simp [ints, formsOf]⟩⟩
  generalize (w.alloc (.cells #[.pointer (some ⟨pb, 0, none⟩)] 24)).alloc (.cells #[.int .i64 id] 3) = w1 at *
  go_loopw [8, 23] (fun u i W => ∃ j : Nat, j ≤ l.length ∧ i = .int .i64 (j : Int) ∧ W.ownsRow (w.heap.size + 1) 3 1 u (j + 1) (ints (id :: formsOf (l.take j))) ∧ Below w.heap.size w W ∧ W.cell? ⟨w.heap.size, 0, none⟩ = some (.pointer (some ⟨pb, 0, none⟩))) (fun _ i _ => l.length - (intOf i).toNat)
  case atStart => exact ⟨0, Nat.zero_le _, rfl, HO0.out, HI0.out, HC0.out⟩
  case round =>
    obtain ⟨j, hj, rfl, hown, hb, hc0⟩ := hrel
    have HO := Lib.hid hown; have HB := Lib.hid hb; have HC := Lib.hid hc0
    obtain ⟨oa, oc, hoo⟩ := own_slice hown
    subst hoo
    clear hown hb
    by_cases hlt : j < l.length
    · as_aux_lemma =>
      obtain ⟨b, o, c1, x, he, hc1, hc2, hxk⟩ := hy_at (HV.out.below HB.out) hlt
      cases he
      have HX := Lib.hid hxk
      have hji : (j : Int) < (l.length : Int) := by omega
      have HFS := Lib.hid (formsOf_snoc hxk)
      obtain ⟨xn, xf⟩ := x
      simp only at hc1 hc2
      clear hxk
      go_wp2_with (at_builtin; refine wp_append rfl (.tmp 27) (.tmp 30) 73 rfl (w.heap.size + 1) 3 _ 1 8 Try.underlying73 infoInt rfl (by decide) (by decide) _ (j + 1) (ints (id :: formsOf (l.take j))) rfl (own_belowC HO.out (below_trans (below_alloc _ _) (below_alloc _ _))) _ 1 [.int .i64 xf] rfl (rd_one' _ _ _ (by simp)) (by simp [Value.oneCell']) (by omega) (by have := World.block_lt_of_cell? _ _ HC.out; simp at this; simp; omega) ?_; intro v5 w5 hown5 hgr5 hat5 hnil5; have HF5 : Hid (w5.ownsRow (w.heap.size + 1) 3 1 v5 (j + 1 + 1) (ints (id :: formsOf (l.take j)) ++ [.int .i64 xf]) ∧ Below w.heap.size w w5 ∧ w5.cell? ⟨w.heap.size, 0, none⟩ = some (.pointer (some ⟨pb, 0, none⟩))) := ⟨hown5, (below_trans HB.out (below_trans (below_alloc _ _) (below_alloc _ _))).grown hgr5 (by have := HB.out.size; simp; omega) (fun q hq => by have := (HO.out.lt q hq).1; omega), hgr5.cell ((World.cell?_alloc_lt _ _ _ (by have := World.block_lt_of_cell? _ _ HC.out; simp at this; simp; omega)).trans ((World.cell?_alloc_lt _ _ _ (World.block_lt_of_cell? _ _ HC.out)).trans HC.out)) (fun e => by have h9 := (HO.out.lt _ e.symm).1; simp at h9; omega)⟩; clear hown5 hgr5 hat5 hnil5)
      refine ⟨⟨j + 1, by omega, by go_num, ?_, HF5.out.2.1, HF5.out.2.2⟩, by simp [intOf]; omega⟩
      have := HF5.out.1
      rw [show ints (id :: formsOf (l.take j)) ++ [Value.int .i64 xf] = ints (id :: formsOf (l.take (j + 1))) by rw [HFS.out]; simp [ints]] at this
      exact this
    · as_aux_lemma =>
      obtain rfl : j = l.length := by omega
      have hO := HO.out
      rw [List.take_length] at hO
      have HR := Lib.hid (rd_own hO)
      have HLN : Hid ((id :: formsOf l).length = l.length + 1) := by simp [Hid, formsOf]
      clear hO hj hlt
      go_wp2_with fail
      refine (looked_any 1 _ _ _ _ rows (id :: formsOf l) (HT.out _ HB.out) (by rw [HLN.out]; exact HR.out) (by rw [HLN.out]; omega)).mono ?_
      rintro e w2 ⟨rfl, hb2⟩
      have HB2 := Lib.hid (below_trans HB.out hb2)
      have hc2 := (hb2.cell (World.block_lt_of_cell? _ _ hc0)).trans hc0
      have HC2 := Lib.hid hc2
      clear hb2 hc0
      by_cases hlook : hasB rows.length id = true ∧ hyB rows l = true
      · as_aux_lemma =>
        have HV0 : Hid (lookE rows (id :: formsOf l) = 0) := by rw [Hid, HL.out, if_pos hlook]
        rw [HV0.out]
        obtain ⟨xid, hxid, hxl⟩ := nat_of_has hlook.1
        have HYB := Lib.hid hlook.2
        have HHB := Lib.hid hlook.1
        subst hxid
        have HPT : Hid (putP rows (xid : Int) l = if twiceB l = true then ⟨rows, 0, 70⟩ else if wordsB l = false then ⟨rows, 0, 32⟩ else anewP (putOf (namedF l)) rows xid) := by
          unfold Hid putP
          rw [if_neg (by simp [hlook])]; rfl
        clear hlook HL HV0 HC hc2
        go_wp2_with fail
        have HM0 : Hid (PuI w ((w2.alloc (.map #[] 0)).alloc (.cells #[.map (some w2.heap.size)] 77)) (w2.heap.size + 1) w2.heap.size (.pointer (some ⟨pb, 0, none⟩)) (namedF (l.take 0))) := by
          have hz : namedF (l.take 0) = fun _ => none := by funext s; rfl
          rw [Hid, hz]
          refine PuI.mk ?_ (World.cell?_alloc_at _ _ _ _ (by simp)) ((TM.made _ _ _ _ _).below (below_alloc _ _)) (below_trans HB2.out (below_trans (below_alloc _ _) (below_alloc _ _))) (by have := HB2.out.size; omega) HB2.out.size
          rw [World.cell?_alloc_lt _ _ _ (by have := World.block_lt_of_cell? _ _ HC2.out; simp at this; simp; omega), World.cell?_alloc_lt _ _ _ (World.block_lt_of_cell? _ _ HC2.out)]
          exact HC2.out
        generalize (w2.alloc (.map #[] 0)).alloc (.cells #[.map (some w2.heap.size)] 77) = w3 at *
        generalize hb12 : w2.heap.size + 1 = b12 at *
        generalize w2.heap.size = nb at *
        clear hmm
        go_loopw [42] (fun i W => ∃ j : Nat, j ≤ l.length ∧ i = .int .i64 (j : Int) ∧ ((l.take j).map (·.name)).Nodup ∧ PuI w W b12 nb (.pointer (some ⟨pb, 0, none⟩)) (namedF (l.take j))) (fun i _ => l.length - (intOf i).toNat)
        case atStart => exact ⟨0, Nat.zero_le _, rfl, by simp, HM0.out⟩
        case round =>
          obtain ⟨j, hj, rfl, hnd, hI⟩ := hrel
          have HJ := Lib.hid hI; have HND := Lib.hid hnd
          clear hI hnd
          by_cases hlt : j < l.length
          · as_aux_lemma =>
            obtain ⟨b, o, c1, x, he, hc1, hc2, hxk⟩ := hy_at (HV.out.below HJ.out.bl) hlt
            cases he
            have HX := Lib.hid hxk
            have hji : (j : Int) < (l.length : Int) := by omega
            have hnm : x.name.size ≤ maxLen := HN.out x (List.mem_of_getElem? hxk)
            have HNM := Lib.hid hnm
            have HJ2 := Lib.hid (HJ.out.below (below_alloc wr (.cells #[.string x.name, .int .i64 x.form] 38)))
            have hlk := look_str HJ2.out.mp x.name hnm
            have q12 := HJ2.out.c12
            have q0 : (wr.alloc (.cells #[.string x.name, .int .i64 x.form] 38)).cell? ⟨wr.heap.size, 0, none⟩ = some (.string x.name) := World.cell?_alloc_at _ _ _ _ rfl
            have q1 : (wr.alloc (.cells #[.string x.name, .int .i64 x.form] 38)).cell? ⟨wr.heap.size, 1, none⟩ = some (.int .i64 x.form) := World.cell?_alloc_at _ _ _ _ rfl
            clear hxk hnm
            cases hf : namedF (l.take j) x.name with
            | some f =>
              have HTW := Lib.hid (twice_at HX.out hf)
              rw [hf] at hlk
              simp only [Option.getD_some, Option.isSome_some] at hlk
              clear hf
              obtain ⟨xn, xf⟩ := x
              simp only at *
              go_wp2_with fail
              go_ret2
              rw [HPT.out, if_pos HTW.out]
              exact PutPost.re HJ2.out.bl ⟨rfl, _, Kept.refl _ _ _, HT.out _ HJ2.out.bl⟩
            | none =>
              have HNF := Lib.hid hf
              have HND2 : Hid (((l.take (j + 1)).map (·.name)).Nodup) := by
                unfold Hid
                rw [List.take_add_one, HX.out]
                exact (nodup_snoc HND.out).2 hf
              have HU := Lib.hid (namedF_upd HX.out hf)
              rw [hf] at hlk
              simp only [Option.getD_none, Option.isSome_none] at hlk
              clear hf
              obtain ⟨xn, xf⟩ := x
              simp only at *
              go_wp2_with (at_mapUpdate; refine wp_put HJ2.out.mp lawStr strV_inj rfl (.tmp 54) (.tmp 56) (.tmp 58) 77 3 rfl Try.underlying77 rfl xn rfl xf rfl (keyStr xn HNM.out) ?_; intro w8 hm8 ho8; rw [HU.out] at hm8; have HJ8 := Lib.hid (HJ2.out.put hm8 ho8); clear hm8 ho8)
              exact ⟨⟨j + 1, by omega, by go_num, HND2.out, HJ8.out⟩, by simp [intOf]; omega⟩
          · as_aux_lemma =>
            obtain rfl : j = l.length := by omega
            have hJ := HJ.out
            have hND := HND.out
            rw [List.take_length] at hJ hND
            have HJJ := Lib.hid hJ
            have HTW : Hid (¬ twiceB l = true) := by unfold Hid twiceB; simpa using hND
            clear hJ hND hj hlt HJ HND
            go_wp2_with fail
            go_loopw [62] (fun i W => ∃ j : Nat, j ≤ l.length ∧ i = .int .i64 (j : Int) ∧ wordsB (l.take j) = true ∧ PuI w W b12 nb (.pointer (some ⟨pb, 0, none⟩)) (namedF l)) (fun i _ => l.length - (intOf i).toNat)
            case atStart => exact ⟨0, Nat.zero_le _, rfl, by simp [wordsB], HJJ.out⟩
            case round =>
              obtain ⟨j, hj, rfl, hwd, hI⟩ := hrel
              have HJ := Lib.hid hI; have HWD := Lib.hid hwd
              clear hI hwd
              by_cases hlt : j < l.length
              · as_aux_lemma =>
                obtain ⟨b, o, c1, x, he, hc1, hc2, hxk⟩ := hy_at (HV.out.below HJ.out.bl) hlt
                cases he
                have HX := Lib.hid hxk
                have hji : (j : Int) < (l.length : Int) := by omega
                have hnm : x.name.size ≤ maxLen := HN.out x (List.mem_of_getElem? hxk)
                have HNM := Lib.hid hnm
                have HJ2 := Lib.hid (HJ.out.below (below_alloc wr (.cells #[.string x.name, .int .i64 x.form] 38)))
                have q0 : (wr.alloc (.cells #[.string x.name, .int .i64 x.form] 38)).cell? ⟨wr.heap.size, 0, none⟩ = some (.string x.name) := World.cell?_alloc_at _ _ _ _ rfl
                have HWO := Lib.hid (fun W => word_any x.name W hnm)
                clear hxk hnm
                cases hwx : word x.name with
                | true =>
                  have HS : Hid (wordsB (l.take (j + 1)) = true) := by
                    have h1 := HWD.out
                    show wordsB _ = true
                    unfold wordsB at h1 ⊢
                    rw [List.take_add_one, HX.out]
                    simp only [Option.toList_some, List.all_append, h1, List.all_cons, hwx, List.all_nil, Bool.and_self]
                  rw [hwx] at HWO
                  clear hwx
                  obtain ⟨xn, xf⟩ := x
                  simp only at *
                  go_wp2_with fail
                  refine (HWO.out _).mono ?_
                  rintro e w5 ⟨rfl, rfl⟩
                  have HJ5 := HJ2
                  go_wp2_with fail
                  exact ⟨⟨j + 1, by omega, by go_num, HS.out, HJ5.out⟩, by simp [intOf]; omega⟩
                | false =>
                  have HNW := Lib.hid (words_at HX.out hwx)
                  rw [hwx] at HWO
                  clear hwx
                  obtain ⟨xn, xf⟩ := x
                  simp only at *
                  go_wp2_with fail
                  refine (HWO.out _).mono ?_
                  rintro e w5 ⟨rfl, rfl⟩
                  have HJ5 := HJ2
                  go_wp2_with fail
                  go_ret2
                  rw [HPT.out, if_neg HTW.out, if_pos HNW.out]
                  exact PutPost.re HJ5.out.bl ⟨rfl, _, Kept.refl _ _ _, HT.out _ HJ5.out.bl⟩
              · as_aux_lemma =>
                obtain rfl : j = l.length := by omega
                have hW := HWD.out
                rw [List.take_length] at hW
                have HWW : Hid (¬ wordsB l = false) := by simp [Hid, hW]
                have hmf : ∀ (fn : Fn) (first cap : Array Value) (w : World), (Instr.makeFunc fn first cap).run Try.prog w = .ok (.func fn first cap) w := fun _ _ _ _ => rfl
                have q0 := HJ.out.c0
                clear hW hj hlt
                go_wp2_with fail
                refine (anewPut_yes (fun ow W => EnvP ow W w.heap.size b12 nb (.pointer (some ⟨pb, 0, none⟩)) (namedF l)) (envP_ok _ _ _ _ _) (putOf (namedF l)) (putOf_grows _) (putOf_nn (hyB_nat HYB.out)) _ _ _ rows (HT.out _ HJ.out.bl) _ _ (fun ow w rows k n l' r ht he hnn _ hl hr => imgPut_any ow w _ rows ht _ _ nb (namedF l) he.2.1 he.1 he.2.2.1 k n.kind n.l n.r l' r n.name hnn) HJ.out.env xid hxl).mono ?_
                rintro e w9 hp
                have HP := Lib.hid (PutPost.re HJ.out.bl hp)
                obtain ⟨rfl, _⟩ := hp
                clear hmf
                go_wp2_with fail
                go_ret2
                rw [HPT.out, if_neg HTW.out, if_neg HWW.out]
                exact HP.out
      · as_aux_lemma =>
        have HV0 : Hid (lookE rows (id :: formsOf l) = 31) := by rw [Hid, HL.out, if_neg hlook]
        have HPE : Hid (putP rows id l = ⟨rows, 0, 31⟩) := by
          unfold Hid putP
          rw [if_pos]
          revert hlook
          cases hasB rows.length id <;> cases hyB rows l <;> simp
        rw [HV0.out]
        clear hlook HL HV0 hmm
        go_wp2_with fail
        go_ret2
        rw [HPE.out]
        exact PutPost.re HB2.out ⟨rfl, _, Kept.refl _ _ _, HT.out _ HB2.out⟩

/-! ### Frame -/
noncomputable def frameP (rows : List ND) (id : Int) (hole : ByteArray) (fill : Int) : Put := putP rows id [⟨hole, fill⟩]
set_option maxRecDepth 100000 in
set_option maxHeartbeats 400000 in
theorem frame07_any (ow : Own) (w : World) (t : Value) (rows : List ND) (h : Tab 1 ow w t rows) (id fill : Int) (hole : ByteArray) (hn : hole.size ≤ maxLen) :
    Calls Try.prog 25 #[t, .int .i64 id, .string hole, .int .i64 fill] w (PutPost 1 ow w t (frameP rows id hole fill)) := by
  obtain ⟨pb, rfl⟩ := h.ptr
  have H := Lib.hid h
  clear h
  go_enter Try.func25, Try.ntmps25
  go_wp2_with fail
  refine (put07_any ow _ _ _ rows (H.out.below (below_alloc _ _)) id [⟨hole, fill⟩] (by simpa using hn) (rd_lit _ _ _ rfl rfl) (by simp)).mono ?_
  rintro e w1 hp
  have HP := Lib.hid (PutPost.from (below_alloc _ _) hp)
  obtain ⟨rfl, _⟩ := hp
  go_wp2_with fail
  go_ret2
  exact HP.out

end Go.Dk

