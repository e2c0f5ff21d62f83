/- The document's Match, walked. -/
import Derived.Test.YtmlohibhoibgkaaZp
import Derived.Test.YtmlohibhoibgkaaZt
namespace Go.Dk
open Go.RowKit Go.Maps Go.MapKept
open Go.Proofs hiding intOf

def muI (mu : Nat → Option Nat) (x : Nat) : Int := match mu x with | some g => (g : Int) | none => -1
def muL (mu : Nat → Option Nat) (n : Nat) : List Int := (List.range n).map (muI mu)
theorem muL_len (mu : Nat → Option Nat) (n : Nat) : (muL mu n).length = n := by simp [muL]
theorem muL_at (mu : Nat → Option Nat) {n x : Nat} (h : x < n) : (muL mu n)[x]? = some (muI mu x) := by simp [muL, h]
theorem muL_set (mu : Nat → Option Nat) {n q : Nat} (g : Nat) : (muL mu n).set q (g : Int) = muL (muSet mu q g) n := by
  apply List.ext_getElem?
  intro x
  by_cases hx : x < n
  · rw [muL_at _ hx, List.getElem?_set]
    by_cases e : q = x
    · subst e
      rw [if_pos rfl, if_pos (by rw [muL_len]; exact hx)]
      simp [muI, muSet]
    · rw [if_neg e, muL_at _ hx]
      simp [muI, muSet, Ne.symm e]
  · rw [List.getElem?_eq_none (by simp [muL]; omega), List.getElem?_eq_none (by simp [muL]; omega)]
theorem muL_none {n : Nat} {zs : List Int} (hl : zs.length = n) (h : ∀ x, x < n → zs[x]? = some (-1)) : zs = muL (fun _ => none) n := by
  apply List.ext_getElem?
  intro x
  by_cases hx : x < n
  · rw [h x hx, muL_at _ hx]; rfl
  · rw [List.getElem?_eq_none (by omega), List.getElem?_eq_none (by rw [muL_len]; omega)]
theorem muI_none {mu : Nat → Option Nat} {x : Nat} (h : mu x = none) : muI mu x = -1 := by unfold muI; rw [h]
theorem muI_some {mu : Nat → Option Nat} {x g : Nat} (h : mu x = some g) : muI mu x = (g : Int) := by unfold muI; rw [h]

/-- What Match's walk carries. -/
structure MaI (w : World) (rows : List ND) (p f ib : Nat) (j : Nat) (W : World) (mu : Nat → Option Nat) (v : Value) (out : List HY) : Prop where
  bl : Below w.heap.size w W
  im : W.ownsRow w.heap.size 3 1 (.slice (some ⟨ib, 0, none⟩) rows.length rows.length) rows.length (ints (muL mu rows.length))
  own : W.ownsRow w.heap.size 38 2 v out.length (hyCells out)
  cn : v.ownBlock ≠ some ib
  mi : MI rows p f j mu out
section
variable {w W W' : World} {rows : List ND} {p f ib j : Nat} {mu : Nat → Option Nat} {v : Value} {out : List HY}
theorem MaI.later (h : MaI w rows p f ib j W mu v out) (hb : Below W.heap.size W W') : MaI w rows p f ib j W' mu v out :=
  ⟨below_trans h.bl hb, own_belowC h.im hb, own_belowC h.own hb, h.cn, h.mi⟩
theorem MaI.lt (h : MaI w rows p f ib j W mu v out) : w.heap.size ≤ ib ∧ ib < W.heap.size := h.im.lt ib rfl
theorem MaI.down {i : Nat} (h : MaI w rows p f ib j W mu v out) (hm : MI rows p f i mu out) : MaI w rows p f ib i W mu v out := ⟨h.bl, h.im, h.own, h.cn, hm⟩
theorem MaI.store {q g : Nat} (h : MaI w rows p f ib j W mu v out) (hm : MI rows p f j (muSet mu q g) out) : MaI w rows p f ib j (W.setCell ⟨ib, q, none⟩ (.int .i64 (g : Int))) (muSet mu q g) v out := by
  have hst := h.im.stored q (.int .i64 (g : Int))
  rw [ints_setZ, muL_set] at hst
  refine ⟨h.bl.grown hst.2 h.bl.size (fun k hk => by cases hk; exact h.lt.1), hst.1, ?_, h.cn, hm⟩
  refine ⟨h.own.1, ?_⟩
  rcases h.own.2 with hn | ⟨g', cap, cur, rfl, hb, hg, rest⟩
  · exact .inl hn
  · refine .inr ⟨g', cap, cur, rfl, hb, ?_, rest⟩
    rw [← hg]
    exact Below.heap_setCell _ _ _ _ (fun e => h.cn (by rw [e]; rfl))
theorem MaI.cell (h : MaI w rows p f ib j W mu v out) {x : Nat} (hx : x < rows.length) : W.cell? ⟨ib, x, none⟩ = some (.int .i64 (muI mu x)) := by
  rw [h.im.cellAt x (by omega)]
  simp [ints, muL_at mu hx]
theorem MaI.fr (h : MaI w rows p f ib j W mu v out) (x : Nat) : W.frozen? ⟨ib, x, none⟩ = false := h.im.frozenAt x
/-- A name is bound. -/
theorem MaI.bind {i : Nat} {s : ByteArray} {id : Int} {v' : Value} (h : MaI w rows p f ib j W mu v out) (hb : Below W.heap.size W W')
    (hr : (bindP out s id).1 = out ∧ v' = v ∨ W'.ownsRow W.heap.size 38 2 v' (bindP out s id).1.length (hyCells (bindP out s id).1)) (hm : MI rows p f i mu (bindP out s id).1) : MaI w rows p f ib i W' mu v' (bindP out s id).1 := by
  have hl := h.lt
  rcases hr with ⟨e1, rfl⟩ | hr
  · rw [e1] at hm ⊢
    exact (h.down hm).later hb
  · refine ⟨below_trans h.bl hb, own_belowC h.im hb, ?_, fun e => ?_, hm⟩
    · exact ⟨hr.1, hr.2.imp (fun h => h) (fun ⟨g, cap, cur, h1, h2, h3⟩ => ⟨g, cap, cur, h1, Nat.le_trans h.bl.size h2, h3⟩)⟩
    · have := (hr.lt _ e).1
      omega

end


theorem MI.len {rows : List ND} {p f i : Nat} {mu : Nat → Option Nat} {out : List HY} (h : MI rows p f i mu out) : out.length ≤ rows.length := by
  have hex : ∀ x ∈ out, ∃ q, q < rows.length ∧ (rowAt rows q).name = x.name := fun x hx => by
    obtain ⟨q, g, hm, _, _, hn⟩ := h.only x hx
    exact ⟨q, (h.rng q g hm).1, hn⟩
  have hf : ∃ F : HY → Nat, ∀ x ∈ out, F x < rows.length ∧ (rowAt rows (F x)).name = x.name := by
    classical
    refine ⟨fun x => if h : ∃ q, q < rows.length ∧ (rowAt rows q).name = x.name then Classical.choose h else 0, fun x hx => ?_⟩
    simp only [dif_pos (hex x hx)]
    exact Classical.choose_spec (hex x hx)
  obtain ⟨F, hF⟩ := hf
  have hn2 : (out.map F).Nodup := by
    unfold List.Nodup
    rw [List.pairwise_map]
    exact h.sorted.imp_of_mem fun {a b} ha hb hlt e => by
      have : a.name = b.name := by rw [← (hF a ha).2, ← (hF b hb).2, e]
      rw [this] at hlt
      exact List.lt_irrefl _ hlt
  have := nodup_le hn2 (m := rows.length) (fun x hx => by
    obtain ⟨s, hs, rfl⟩ := List.mem_map.1 hx
    exact (hF s hs).1)
  simpa using this

set_option maxRecDepth 100000 in
theorem refMatch_no (k : Nat) (ow : Own) (w : World) (t : Value) (rows : List ND) (h : RTab k ow w t rows) (p f : Int) (hb : hasB rows.length p = false ∨ hasB rows.length f = false) :
    Calls Try.prog 16 #[t, .int .i64 p, .int .i64 f] w (MatchPost w rows p f) := by
  have HE : Hid (lookE rows [p, f] = 31) := by
    unfold Hid lookE
    rw [if_neg]
    simp only [List.all_cons, List.all_nil, Bool.and_true, Bool.and_eq_true, not_and]
    rcases hb with hb | hb <;> simp [hb]
  have H1 := Lib.hid (refHas_any k ow w t rows h p)
  have H2 := Lib.hid (refHas_any k ow w t rows h f)
  clear h
  cases h1 : hasB rows.length p <;> cases h2 : hasB rows.length f
  all_goals first | (exfalso; simp_all; done) | skip
  all_goals
    rw [h1] at H1; rw [h2] at H2
    clear h1 h2 hb
    as_aux_lemma =>
    go_enter Try.func16, Try.ntmps16
    go_wp2_with (first
      | (go_at_call_of 8 (Value.int IntKind.i64 p); refine H1.out.mono ?_; rintro e w' ⟨rfl, rfl⟩)
      | (go_at_call_of 8 (Value.int IntKind.i64 f); refine H2.out.mono ?_; rintro e w' ⟨rfl, rfl⟩))
    go_ret3
    exact ⟨.slice none 0 0, [], false, by rw [HE.out]; rfl, fun _ => ⟨rfl, rfl⟩, fun h => absurd h (by rw [HE.out]; decide), World.ownsRow_nil _ _ _ _, Below.refl _ _⟩

set_option maxRecDepth 100000 in
set_option maxHeartbeats 4000000 in
theorem refMatch_yes (k : Nat) (ow : Own) (w : World) (t : Value) (rows : List ND) (h : RTab k ow w t rows) (p f : Nat) (hp : p < rows.length) (hf : f < rows.length) :
    Calls Try.prog 16 #[t, .int .i64 (p : Int), .int .i64 (f : Int)] w (MatchPost w rows (p : Int) (f : Int)) := by
  have hok := h.ok
  have hle := hok.le
  have H := Lib.hid h
  have HK := Lib.hid hok
  have H1 := refHas_any k ow w t rows h (p : Int)
  have H2 := refHas_any k ow w t rows h (f : Int)
  rw [show hasB rows.length (p : Int) = true by simp [hasB, hp]] at H1
  rw [show hasB rows.length (f : Int) = true by simp [hasB, hf]] at H2
  have HR1 := Lib.hid H1; have HR2 := Lib.hid H2
  have HE : Hid (lookE rows [(p : Int), (f : Int)] = 0) := by
    unfold Hid
    refine lookE_yes ?_
    simp [hasB, hp, hf]
  obtain ⟨rb, v, rfl, ht⟩ := h
  obtain ⟨g, c, rfl, hg, _⟩ := ht.hr.get (by omega)
  have c0 : w.cell? ⟨rb, 0, none⟩ = some (.slice (some ⟨g, 0, none⟩) rows.length c) := cell_of ht.hp rfl
  have HT := Lib.hid ht
  obtain ⟨w3, hmk, him, hgr⟩ := makeInts w rows.length (by omega) (by omega)
  have HM : Hid (w3.ownsRow w.heap.size 3 1 (.slice (some ⟨w.heap.size, 0, none⟩) rows.length rows.length) rows.length (ints (List.replicate rows.length 0)) ∧ Below w.heap.size w w3) := ⟨him, (Below.refl _ _).grown hgr (Nat.le_refl _) (by intro k hk; cases hk)⟩
  have HPF : Hid (p < rows.length ∧ f < rows.length) := ⟨hp, hf⟩
  clear ht hg H1 H2 hok him hgr
  go_enter Try.func16, Try.ntmps16
  go_wp2_with (first
    | (go_at_call_of 8 (Value.int IntKind.i64 (p : Int)); refine HR1.out.mono ?_; rintro e w' ⟨rfl, rfl⟩)
    | (go_at_call_of 8 (Value.int IntKind.i64 (f : Int)); refine HR2.out.mono ?_; rintro e w' ⟨rfl, rfl⟩))
  go_loopw [10] (fun i W => ∃ (j : Nat) (zs : List Int), j ≤ rows.length ∧ i = .int .i64 (j : Int) ∧ W.ownsRow w.heap.size 3 1 (.slice (some ⟨w.heap.size, 0, none⟩) rows.length rows.length) rows.length (ints zs) ∧ Below w.heap.size w W ∧ zs.length = rows.length ∧ ∀ x, x < j → zs[x]? = some (-1)) (fun i _ => rows.length - (intOf i).toNat)
  case atStart => exact ⟨0, _, Nat.zero_le _, rfl, HM.out.1, HM.out.2, by simp, fun x hx => by omega⟩
  case round =>
    obtain ⟨j, zs, hj, rfl, him, hbl, hzl, hz⟩ := hrel
    have HZ := Lib.hid hz; have HZL := Lib.hid hzl; have HBL := Lib.hid hbl; have HIM := Lib.hid him
    clear hz hzl hbl him
    by_cases hlt : j < rows.length
    · as_aux_lemma =>
      have hji : (j : Int) < (rows.length : Int) := by omega
      obtain ⟨z0, hz0⟩ : ∃ z, zs[j]? = some z := ⟨_, List.getElem?_eq_getElem (by rw [HZL.out]; exact hlt)⟩
      have d0 : wr.cell? ⟨w.heap.size, j, none⟩ = some (.int .i64 z0) := by
        rw [HIM.out.cellAt j (by omega)]; simp [ints, hz0]
      have f0 : wr.frozen? ⟨w.heap.size, j, none⟩ = false := HIM.out.frozenAt j
      have hst := HIM.out.stored j (.int .i64 (-1))
      rw [ints_setZ] at hst
      have HST := Lib.hid hst
      clear hst hz0
      go_wp2_with fail
      refine ⟨⟨j + 1, zs.set j (-1), by omega, by go_num, HST.out.1, HBL.out.grown HST.out.2 HBL.out.size (fun k hk => by cases hk; exact Nat.le_refl _), by simpa using HZL.out, fun x hx => ?_⟩, by simp [intOf]; omega⟩
      rw [List.getElem?_set]
      by_cases e : j = x
      · rw [if_pos e, if_pos (by rw [HZL.out]; omega)]
      · rw [if_neg e]; exact HZ.out x (by omega)
    · as_aux_lemma =>
      obtain rfl : j = rows.length := by omega
      have hmz := muL_none HZL.out HZ.out
      subst hmz
      have hpi : (p : Int) < (rows.length : Int) := by have := HPF.out.1; omega
      have d0 : wr.cell? ⟨w.heap.size, p, none⟩ = some (.int .i64 (-1)) := by
        have hp := HPF.out.1
        rw [HIM.out.cellAt p (by omega)]
        simp [ints, muL_at (fun _ => none) hp, muI]
      have f0 : wr.frozen? ⟨w.heap.size, p, none⟩ = false := HIM.out.frozenAt p
      have hst := HIM.out.stored p (.int .i64 (f : Int))
      rw [ints_setZ, muL_set] at hst
      have HS0 : Hid (MaI w rows p f w.heap.size (p + 1) (wr.setCell ⟨w.heap.size, p, none⟩ (.int .i64 (f : Int))) (muSet (fun _ => none) p f) (.slice none 0 0) []) :=
        ⟨HBL.out.grown hst.2 HBL.out.size (fun k hk => by cases hk; exact Nat.le_refl _), hst.1, World.ownsRow_nil _ _ _ _, by simp [Value.ownBlock], MI.start HPF.out.1 HPF.out.2⟩
      clear hst HIM HBL HZ HZL
      go_wp2_with fail
      clear d0 f0
      generalize wr.setCell ⟨w.heap.size, p, none⟩ (.int .i64 (f : Int)) = W0 at *
      go_loopw [11, 12] (fun u i W => ∃ (j : Nat) (mu : Nat → Option Nat) (out : List HY), j ≤ p + 1 ∧ i = .int .i64 ((j : Int) - 1) ∧ MaI w rows p f w.heap.size j W mu u out) (fun _ i _ => (intOf i + 1).toNat)
      case atStart => exact ⟨p + 1, _, _, Nat.le_refl _, by simp, HS0.out⟩
      case round =>
        obtain ⟨j, mu, out, hj, rfl, hI⟩ := hrel
        have HI := Lib.hid hI
        obtain ⟨oa, oc, rfl⟩ := own_slice hI.own
        cases j with
        | zero =>
          as_aux_lemma =>
          rw [show (((0 : Nat) : Int) - 1) = -1 from rfl]
          clear hI
          go_wp2_with fail
          go_ret3
          exact ⟨.slice oa out.length oc, out, true, by rw [HE.out]; rfl, fun h => absurd HE.out h, fun _ => by simp only [Int.toNat_natCast]; exact HI.out.mi.done HK.out HPF.out.1, HI.out.own, HI.out.bl⟩
        | succ j =>
          rw [show (((j + 1 : Nat) : Int) - 1) = (j : Int) by omega]
          have hjl : j < rows.length := by have := HPF.out.1; omega
          have hji : (j : Int) < (rows.length : Int) := by omega
          have d0 := hI.cell hjl
          cases hm : mu j with
          | none =>
            as_aux_lemma =>
            rw [muI_none hm] at d0
            have HN := Lib.hid (HI.out.down (HI.out.mi.skip hm))
            clear hI hm
            go_wp2_with fail
            exact ⟨⟨j, mu, out, by omega, by go_num, HN.out⟩, by simp [intOf] <;> omega⟩
          | some gg =>
            as_aux_lemma =>
            rw [muI_some hm] at d0
            have HMU := Lib.hid hm
            obtain ⟨_, hgl, _⟩ := hI.mi.rng j gg hm
            have hgi : (gg : Int) < (rows.length : Int) := by omega
            obtain ⟨g1, c1, e, r0, r1, r2, r3, r4⟩ := (HT.out.below hI.bl).row (rowAt_get hjl)
            obtain ⟨g2, c2, e', s0, s1, s2, s3, s4⟩ := (HT.out.below hI.bl).row (rowAt_get hgl)
            rw [e] at e'
            cases e'
            cases e
            clear hI hm
            have HRR : Hid (rowAt rows j = rowAt rows j ∧ rowAt rows gg = rowAt rows gg) := ⟨rfl, rfl⟩
            have HGG := Lib.hid hgl
            have HPX := HK.out.parts (rowAt_get hjl)
            have HPY := HK.out.parts (rowAt_get hgl)
            have hkx := HK.out.kinds (rowAt_get hjl)
            have hfx := fits_le (HK.out.fit _ _ (rowAt_get hjl))
            have hfy := fits_le (HK.out.fit _ _ (rowAt_get hgl))
            generalize hxn : rowAt rows j = n at *
            generalize hyn : rowAt rows gg = m at *
            obtain ⟨kd, nm, l', r'⟩ := n
            obtain ⟨kd2, nm2, l2', r2'⟩ := m
            simp only at r1 r2 r3 r4 s1 s2 s3 s4 HPX HPY hkx hfx hfy
            obtain ⟨l, rfl⟩ := Int.eq_ofNat_of_zero_le hfx.2.2.1.1
            obtain ⟨r, rfl⟩ := Int.eq_ofNat_of_zero_le hfx.2.2.2.1
            obtain ⟨l2, rfl⟩ := Int.eq_ofNat_of_zero_le hfy.2.2.1.1
            obtain ⟨r2n, rfl⟩ := Int.eq_ofNat_of_zero_le hfy.2.2.2.1
            have HXN := Lib.hid hxn; have HYN := Lib.hid hyn
            clear hxn hyn HRR
            have d5 := HI.out.cell hjl
            rw [muI_some HMU.out] at d5
            go_wp2_with fail
            -- 'x' is boxed; 'y := t.N[must[i]]'
            have HBX : Hid (Boxed (wr.alloc (.cells #[.int .i64 kd, .string nm, .int .i64 (l : Int), .int .i64 (r : Int)] 36)) wr.heap.size ⟨kd, nm, l, r⟩) := boxed_new wr ⟨kd, nm, l, r⟩ _
            have HI1 := Lib.hid (HI.out.later (below_alloc wr (.cells #[.int .i64 kd, .string nm, .int .i64 (l : Int), .int .i64 (r : Int)] 36)))
            have al := fun {a : Addr} {u : Value} (hc : wr.cell? a = some u) => ((below_alloc wr (.cells #[.int .i64 kd, .string nm, .int .i64 (l : Int), .int .i64 (r : Int)] 36)).cell (World.block_lt_of_cell? _ _ hc)).trans hc
            have d0 := al d5; have s0 := al r0; have t1 := al s1; have t2 := al s2; have t3 := al s3; have t4 := al s4
            have HXB : Hid (wr.heap.size ≠ w.heap.size) := by have := HI.out.lt.2; unfold Hid; omega
            clear al r0 r1 r2 r3 r4 s1 s2 s3 s4 d5 HI
            generalize wr.alloc (.cells #[.int .i64 kd, .string nm, .int .i64 (l : Int), .int .i64 (r : Int)] 36) = W1 at *
            generalize wr.heap.size = xb at *
            obtain ⟨I0, _, F, i0, i1, hF⟩ := twoI W1.drew (W1.drew.alloc (.cells #[.int .i64 0, .string ByteArray.empty, .int .i64 0, .int .i64 0] 36))
            have a0 := alloc_both hF d0
            have b0 := alloc_both hF s0; have b1 := alloc_both hF t1; have b2 := alloc_both hF t2; have b3 := alloc_both hF t3; have b4 := alloc_both hF t4
            have HF := Lib.hid hF
            clear hF
            refine wp_eventI 11 _ (.pointer (some ⟨W1.heap.size, 0, none⟩)) HF.out (by kernel_rfl) (by kernel_rfl) rfl (fun ρ => by simp [go_sem]; rfl) rfl ?_
            simp only [Nat.reduceSub, List.take_succ_cons, List.take_zero, List.drop_succ_cons, List.drop_zero]
            repeat (go_big_quiet_step (fail))
            refine wpQuiet_nil ?_
            clear a0 b0 b1 b2 b3 b4 d0 s0 t1 t2 t3 t4 HF
            have HB2 : Hid (Below W1.heap.size W1 (W1.alloc (.cells #[.int .i64 kd2, .string nm2, .int .i64 (l2 : Int), .int .i64 (r2n : Int)] 36)).drew) := below_trans (below_alloc W1 (.cells #[.int .i64 kd2, .string nm2, .int .i64 (l2 : Int), .int .i64 (r2n : Int)] 36)) (below_drewN _ 1)
            have HBY : Hid (Boxed (W1.alloc (.cells #[.int .i64 kd2, .string nm2, .int .i64 (l2 : Int), .int .i64 (r2n : Int)] 36)).drew W1.heap.size ⟨kd2, nm2, l2, r2n⟩) := (boxed_new W1 ⟨kd2, nm2, l2, r2n⟩ _).below (below_drewN _ 1)
            have HBX2 := Lib.hid (HBX.out.below HB2.out)
            have HI2 := Lib.hid (HI1.out.later HB2.out)
            have HYB : Hid (W1.heap.size ≠ w.heap.size) := by have := HI1.out.lt.2; unfold Hid; omega
            have q0 := HBX2.out.c0; have p0 := HBY.out.c0
            have q1 := HBX2.out.c1
            simp only at q0 p0 q1
            clear HBX HI1 HB2
            by_cases k1 : kd = 1
            · as_aux_lemma =>
              subst k1
              go_wp2_with fail
              have d0 := HI2.out.cell hjl
              rw [muI_some HMU.out] at d0
              clear q0 p0 HBX2 HBY
              generalize (W1.alloc (.cells #[.int .i64 kd2, .string nm2, .int .i64 (l2 : Int), .int .i64 (r2n : Int)] 36)).drew = W2 at *
              obtain ⟨I2, _, F2, L2⟩ := later W2
              have e0 := L2.cell q1; have e1 := L2.cell d0
              have HL2 := Lib.hid L2
              have HOL : Hid (out.length ≤ 1024) := by have := HI2.out.mi.len; unfold Hid; omega
              clear L2 q1 d0
              refine wp_callW (W := F2) 7 _ 44 (by kernel_rfl) (by kernel_rfl) HL2.out.drew rfl rfl ?_
              simp only [List.take_succ_cons, List.take_zero, List.drop_succ_cons, List.drop_zero]
              repeat (go_big_quiet_step (fail))
              refine wpQuiet_nil ?_
              refine ⟨_, fun w' => by simp [go_sem]; rfl, ?_⟩
              rintro w7 ⟨i7, rfl⟩
              have HI3 := Lib.hid (HI2.out.later (HL2.out.bel i7))
              clear e0 e1 HL2 HI2
              generalize F2 i7 = W3 at *
              refine (bind07_any W3 _ out nm (gg : Int) (rd_own HI3.out.own) (by have := HOL.out; omega)).mono ?_
              rintro e w8 ⟨v8, rfl, hb8, hr8⟩
              have HB8 := Lib.hid hb8; have HR8 := Lib.hid hr8
              have HAT : Hid ((bindP out nm (gg : Int)).2 = true → MI rows p f j mu (bindP out nm (gg : Int)).1) := fun h => by
                have := HI3.out.mi.atom HMU.out (by rw [HXN.out]) (by rw [HXN.out]; exact h)
                rw [HXN.out] at this
                exact this
              have HAN : Hid ((bindP out nm (gg : Int)).2 = false → ∀ σ, sub σ (tree rows p) ≠ tree rows f) := fun h => HI3.out.mi.atomNo HK.out HMU.out (by rw [HXN.out]) (by rw [HXN.out]; exact h)
              clear hb8 hr8
              refine ⟨_, rfl, ?_⟩
              simp only [Act.put, List.setIfInBounds_toArray, List.set_cons_succ, List.set_cons_zero]
              repeat (go_big_quiet_step (fail))
              refine wpQuiet_nil ?_
              cases hb : (bindP out nm (gg : Int)).2 with
              | true =>
                have HN := Lib.hid (HI3.out.bind HB8.out HR8.out (HAT.out hb))
                clear hb HAT HAN
                go_wp2_with fail
                exact ⟨⟨j, mu, _, by omega, by go_num, HN.out⟩, by simp [intOf] <;> omega⟩
              | false =>
                have HNO := Lib.hid (HAN.out hb)
                have HBL := Lib.hid (below_trans HI3.out.bl HB8.out)
                clear hb HAT HAN
                go_wp2_with fail
                go_ret3
                exact ⟨.slice none 0 0, [], false, by rw [HE.out]; rfl, fun _ => ⟨rfl, rfl⟩, fun _ => by simp only [Int.toNat_natCast]; exact no_match HNO.out, World.ownsRow_nil _ _ _ _, HBL.out⟩
            · have hkb : (kd == 1) = false := by simpa using k1
              have K1 := Lib.hid k1
              by_cases ke : kd = kd2
              · subst ke
                have hnkb : (kd != kd) = false := by simp
                by_cases k2 : kd = 2
                · as_aux_lemma =>
                  subst k2
                  have HN := Lib.hid (HI2.out.down (HI2.out.mi.bot HMU.out (by rw [HXN.out]) (by rw [HYN.out])))
                  go_wp2_with fail
                  exact ⟨⟨j, mu, out, by omega, by go_num, HN.out⟩, by simp [intOf] <;> omega⟩
                · as_aux_lemma =>
                  have k3 : 3 ≤ kd := by omega
                  have hk2b : (kd == 2) = false := by simpa using k2
                  have hpx := HPX k3
                  have hpy := HPY k3
                  have HPA : Hid (∀ σ, sub σ (tree rows p) = tree rows f → sub σ (tree rows l) = tree rows l2 ∧ sub σ (tree rows r) = tree rows r2n) := by
                    have := (HI2.out.mi.parts HK.out HMU.out (by rw [HXN.out]; exact k3) (by rw [HXN.out, HYN.out])).1
                    rw [HXN.out, HYN.out] at this
                    unfold Hid
                    simpa using this
                  have HRE : Hid (Reach rows p l ∧ Reach rows p r) := by
                    have := (HI2.out.mi.parts HK.out HMU.out (by rw [HXN.out]; exact k3) (by rw [HXN.out, HYN.out])).2
                    rw [HXN.out] at this
                    unfold Hid
                    simpa using this
                  have hlj : l < j := by omega
                  have hrj : r < j := by omega
                  have hll : l < rows.length := by omega
                  have hrl : r < rows.length := by omega
                  have HLL2 : Hid (l2 < rows.length ∧ r2n < rows.length) := by unfold Hid; omega
                  have hlI : (l : Int) < (rows.length : Int) := by omega
                  have hrI : (r : Int) < (rows.length : Int) := by omega
                  have HK3 := Lib.hid k3
                  clear k1 k2 k3 hpx hpy HPX HPY hkx hfx hfy
                  go_wp2_with fail
                  clear q0 p0 q1
                  generalize (W1.alloc (.cells #[.int .i64 kd, .string nm2, .int .i64 (l2 : Int), .int .i64 (r2n : Int)] 36)).drew = W2 at *
                  generalize W1.heap.size = yb at *
                  have q2 := HBX2.out.c2; have p2 := HBY.out.c2; have dl := HI2.out.cell hll
                  simp only at q2 p2
                  by_cases hbad : ∃ z, mu l = some z ∧ z ≠ l2
                  · obtain ⟨z, hz1, hz2⟩ := hbad
                    as_aux_lemma =>
                    have HNO := Lib.hid (HI2.out.mi.storeNo HK.out HLL2.out.1 (fun σ h => (HPA.out σ h).1) hz1 hz2)
                    have HBL := Lib.hid HI2.out.bl
                    rw [muI_some hz1] at dl
                    have hzb : ((z : Int) != (l2 : Int)) = true := by simp; omega
                    have hz0 : (0 : Int) ≤ (z : Int) := by omega
                    clear hz1 hz2
                    go_quiet (fail)
                    have HBL2 := Lib.hid (below_trans HBL.out (below_drewN _ nq))
                    clear q2 p2 dl
                    go_wp2_with fail
                    go_ret3
                    exact ⟨.slice none 0 0, [], false, by rw [HE.out]; rfl, fun _ => ⟨rfl, rfl⟩, fun _ => by simp only [Int.toNat_natCast]; exact no_match HNO.out, World.ownsRow_nil _ _ _ _, HBL2.out⟩
                  have hok1 : mu l = none ∨ mu l = some l2 := by
                    cases hml : mu l with
                    | none => exact .inl rfl
                    | some z => exact .inr (Classical.byContradiction fun hne => hbad ⟨z, hml, fun e => hne (by rw [e])⟩)
                  clear hbad
                  have HM1 := Lib.hid (HI2.out.mi.store (by omega) hll HLL2.out.1 HRE.out.1 (fun σ h => (HPA.out σ h).1) hok1)
                  have HOK1 := Lib.hid hok1
                  have hcase : muI mu l = -1 ∨ muI mu l = (l2 : Int) := hok1.imp muI_none muI_some
                  have HIMX : Hid (∀ {x y : Nat}, mu x = some y → muSet mu l l2 x = some y) := fun h => muSet_more HOK1.out h
                  have HML : Hid (muSet mu l l2 l = some l2) := by simp [Hid, muSet]
                  have HMJ : Hid (muSet mu l l2 j = some gg) := HIMX.out HMU.out
                  clear hok1
                  generalize muI mu l = ml at *
                  have hz0 : (0 : Int) ≤ (l2 : Int) := by omega
                  have hzz : ((l2 : Int) != (l2 : Int)) = false := by simp
                  rcases hcase with hc | hc
                  all_goals
                    as_aux_lemma =>
                    rw [hc] at dl
                    clear hc
                    go_quiet (fail)
                    have HI3 := Lib.hid (HI2.out.later (below_drewN W2 nq))
                    have HBX3 := Lib.hid (HBX2.out.below (below_drewN W2 nq))
                    have HBY3 := Lib.hid (HBY.out.below (below_drewN W2 nq))
                    clear q2 p2 dl HI2 HBX2 HBY
                    generalize W2.drewN nq = W3 at *
                    have q2 := HBX3.out.c2; have p2 := HBY3.out.c2; have dl := HI3.out.cell hll; have fl := HI3.out.fr l
                    simp only at q2 p2
                    have HI4 := Lib.hid (HI3.out.store HM1.out)
                    have HBX4 := Lib.hid (HBX3.out.set HXB.out (i := l) (.int .i64 (l2 : Int)))
                    have HBY4 := Lib.hid (HBY3.out.set HYB.out (i := l) (.int .i64 (l2 : Int)))
                    go_wp2_with fail
                    clear q2 p2 dl fl HI3 HBX3 HBY3
                    generalize W3.setCell ⟨w.heap.size, l, none⟩ (.int .i64 (l2 : Int)) = W4 at *
                    generalize muSet mu l l2 = mu2 at *
                    have q3 := HBX4.out.c3; have p3 := HBY4.out.c3; have dr := HI4.out.cell hrl
                    simp only at q3 p3
                    by_cases hbad : ∃ z, mu2 r = some z ∧ z ≠ r2n
                    · obtain ⟨z, hz1, hz2⟩ := hbad
                      as_aux_lemma =>
                      have HNO := Lib.hid (HI4.out.mi.storeNo HK.out HLL2.out.2 (fun σ h => (HPA.out σ h).2) hz1 hz2)
                      have HBL := Lib.hid HI4.out.bl
                      rw [muI_some hz1] at dr
                      have hzb : ((z : Int) != (r2n : Int)) = true := by simp; omega
                      have hz0 : (0 : Int) ≤ (z : Int) := by omega
                      clear hz1 hz2
                      go_quiet (fail)
                      have HBL2 := Lib.hid (below_trans HBL.out (below_drewN _ nq))
                      clear q3 p3 dr
                      go_wp2_with fail
                      go_ret3
                      exact ⟨.slice none 0 0, [], false, by rw [HE.out]; rfl, fun _ => ⟨rfl, rfl⟩, fun _ => by simp only [Int.toNat_natCast]; exact no_match HNO.out, World.ownsRow_nil _ _ _ _, HBL2.out⟩
                    have hok2 : mu2 r = none ∨ mu2 r = some r2n := by
                      cases hml : mu2 r with
                      | none => exact .inl rfl
                      | some z => exact .inr (Classical.byContradiction fun hne => hbad ⟨z, hml, fun e => hne (by rw [e])⟩)
                    clear hbad
                    have HM2 := Lib.hid (HI4.out.mi.store (by omega) hrl HLL2.out.2 HRE.out.2 (fun σ h => (HPA.out σ h).2) hok2)
                    have HOK2 := Lib.hid hok2
                    have hcase2 : muI mu2 r = -1 ∨ muI mu2 r = (r2n : Int) := hok2.imp muI_none muI_some
                    have HML2 : Hid (muSet mu2 r r2n l = some l2) := muSet_more HOK2.out HML.out
                    have HMR2 : Hid (muSet mu2 r r2n r = some r2n) := by simp [Hid, muSet]
                    have HMJ2 : Hid (muSet mu2 r r2n j = some gg) := muSet_more HOK2.out HMJ.out
                    clear hok2
                    generalize muI mu2 r = mr at *
                    have hy0 : (0 : Int) ≤ (r2n : Int) := by omega
                    have hyz : ((r2n : Int) != (r2n : Int)) = false := by simp
                    rcases hcase2 with hc | hc
                    all_goals
                      as_aux_lemma =>
                      rw [hc] at dr
                      clear hc
                      go_quiet (fail)
                      have HI5 := Lib.hid (HI4.out.later (below_drewN W4 nq))
                      have HBX5 := Lib.hid (HBX4.out.below (below_drewN W4 nq))
                      have HBY5 := Lib.hid (HBY4.out.below (below_drewN W4 nq))
                      clear q3 p3 dr HI4 HBX4 HBY4
                      generalize W4.drewN nq = W5 at *
                      have q3 := HBX5.out.c3; have p3 := HBY5.out.c3; have dr := HI5.out.cell hrl; have fr := HI5.out.fr r
                      simp only at q3 p3
                      have HI6 := Lib.hid (HI5.out.store HM2.out)
                      have HN := Lib.hid (HI6.out.down (HI6.out.mi.two HMJ2.out (by rw [HXN.out]; exact HK3.out) (by rw [HXN.out, HYN.out]) (by rw [HXN.out, HYN.out]; exact HML2.out) (by rw [HXN.out, HYN.out]; exact HMR2.out)))
                      go_wp2_with fail
                      exact ⟨⟨j, _, out, by omega, by go_num, HN.out⟩, by simp [intOf] <;> omega⟩
              · as_aux_lemma =>
                have HNO : Hid (∀ σ, sub σ (tree rows p) ≠ tree rows f) := HI2.out.mi.kindNo HK.out HMU.out (by rw [HXN.out]; exact k1) (by rw [HXN.out, HYN.out]; exact ke)
                have HBL := Lib.hid HI2.out.bl
                have hneb : (kd != kd2) = true := by simpa using ke
                clear k1 ke
                go_wp2_with fail
                go_ret3
                exact ⟨.slice none 0 0, [], false, by rw [HE.out]; rfl, fun _ => ⟨rfl, rfl⟩, fun _ => by simp only [Int.toNat_natCast]; exact no_match HNO.out, World.ownsRow_nil _ _ _ _, HBL.out⟩

end Go.Dk

