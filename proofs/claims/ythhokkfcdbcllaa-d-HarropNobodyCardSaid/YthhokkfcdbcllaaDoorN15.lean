/- Parts of the proof: Qw, Qx, Qy. -/
import Derived.Test.YthhokkfcdbcllaaDoorN01
import Derived.Test.YthhokkfcdbcllaaDoorN02
import Derived.Test.YthhokkfcdbcllaaDoorN03
import Derived.Test.YthhokkfcdbcllaaDoorN04
import Derived.Test.YthhokkfcdbcllaaDoorN05
import Derived.Test.YthhokkfcdbcllaaDoorN06
import Derived.Test.YthhokkfcdbcllaaDoorN07
import Derived.Test.YthhokkfcdbcllaaDoorN08
import Derived.Test.YthhokkfcdbcllaaDoorN09
import Derived.Test.YthhokkfcdbcllaaDoorN10
import Derived.Test.YthhokkfcdbcllaaDoorN11
import Derived.Test.YthhokkfcdbcllaaDoorN12
import Derived.Test.YthhokkfcdbcllaaDoorN13
import Derived.Test.YthhokkfcdbcllaaDoorN14
section
namespace Go.Dk
open Go.RowKit Go.Maps Go.MapKept
open Go.Proofs hiding intOf
structure OutI (fuel : Nat) (pf : Nat) (t : Value) (F G K : FP) (w : World) (s : SQ) (cs : List (Int × Nat)) (v8 v9 : Value) (sb : Nat) (r : SA) (C : Int) (L : Nat) (i : Nat) (W : World) (F' G' K' : FP) (st : SR) (vis : Int) (stuck : List Nat) (skv : Value) : Prop where
  kept : KeptF (H3 F G K) w (H3 F' G' K') W
  fin : Fin F' G' K' W pf t st vis
  chl : ChL (H3 F' G' K') w.heap.size w.heap.size sb s (cs.map (·.1)) (cs.map fun c => (c.2 : Int)) v8 v9 stuck skv W
  eq : chooseF (decideL fuel) s (cs.drop i) st stuck = r
  inv : InvS st
  wf : Wf st.rows s
  isc : ∀ c ∈ cs.drop i, IsC st.rows s c
  left : st.left ≤ fuel
  lf : st.left ≤ L
  room : st.steps.length + st.left ≤ 4095
  v0 : 0 ≤ vis
  vc : vis + st.left = C
  kl : stuck.length ≤ i
structure InnI (fuel : Nat) (pf : Nat) (t : Value) (F G K : FP) (w : World) (s : SQ) (cs : List (Int × Nat)) (v8 v9 : Value) (sb : Nat) (r : SA) (C : Int) (L : Nat) (i : Nat) (k : Int) (main : Nat) (seqs : List SQ) (ad : Option Addr) (xb : Nat) (stuck : List Nat) (skv : Value) (n : Nat) (W : World) (F' G' K' : FP) (st : SR) (vis : Int) (kids : List Nat) (kv : Value) : Prop where
  kept : KeptF (H3 F G K) w (H3 F' G' K') W
  fin : Fin F' G' K' W pf t st vis
  chl : ChL (H3 F' G' K') w.heap.size w.heap.size sb s (cs.map (·.1)) (cs.map fun c => (c.2 : Int)) v8 v9 stuck skv W
  xl : XL (H3 F' G' K') w.heap.size sb xb s k main true seqs ad v9 skv kids kv W
  eq : innF (decideL fuel) s (k, main) (cs.drop (i + 1)) stuck (seqs.drop n) st kids = r
  inv : InvS st
  wf : Wf st.rows s
  wfs : ∀ q ∈ seqs.drop n, Wf st.rows q
  isc : ∀ c ∈ cs.drop (i + 1), IsC st.rows s c
  left : st.left ≤ fuel
  lf : st.left ≤ L
  room : st.steps.length + st.left ≤ 4095
  v0 : 0 ≤ vis
  vc : vis + st.left = C
  kl : kids.length = n
  sl : stuck.length ≤ i
theorem int_at {B : Nat} {w : World} {e : TypeId} {a : Option Addr} {n m c : Nat} {zs : List Int} (h : w.ownsRow B e 1 (.slice a m c) n (ints zs)) (hn : n = zs.length) {i : Nat} (hi : i < zs.length) : ∃ g, a = some ⟨g, 0, none⟩ ∧ (Value.slice a m c).ownBlock = some g ∧ w.cell? ⟨g, i, none⟩ = some (.int .i64 zs[i]) := by
  subst hn
  obtain ⟨g, c', e1, _, hc⟩ := own_some h (by omega)
  injection e1 with e1 e2 e3
  refine ⟨g, e1, by rw [e1]; rfl, hc i _ ?_⟩
  simp [ints, hi]
section
variable {ops : Array Oper} {rest : List Oper} {o : Oper} {a : Act} {Q : Exit → Act → World → Prop} {W : World} {b off : Nat}
/-- One cell is stored. -/
theorem wp_storeC {T : TypeId} (x y : Operand) (hop : o.op = .store T x y) (hg : o.guard = none) (hx : a.eval x = .pointer (some ⟨b, off, none⟩)) {v : Value} (hy : a.eval y = v) (hvc : v.cells = #[v]) (hv1 : v.oneCell' = true) (hi : (Tryd.prog.info? T).map (·.size) = some 1) {u : Value} (hc : W.cell? ⟨b, off, none⟩ = some u) (hf : W.frozen? ⟨b, off, none⟩ = false)
    (hk : ∀ W', W' = W.setCell ⟨b, off, none⟩ v → wpList Tryd.prog ops Q rest (a.put o.dst undef) W') : wpList Tryd.prog ops Q (o :: rest) a W := by
  refine wpList_plain hg fun K hK => ?_
  have := run_storeCells_cells (P := Tryd.prog) b off [v] 0 W (fun j hj => by obtain rfl : j = 0 := (by simpa using hj); simp [hc]) (fun j hj => by obtain rfl : j = 0 := (by simpa using hj); simp [hf]) (fun u hu => by simp at hu; subst hu; exact hv1)
  simp only [Nat.add_zero] at this
  unfold Oper.wp execOp
  cases hq : Tryd.prog.info? T with
  | none => simp [hq] at hi
  | some i =>
    have hs : i.size = 1 := by simpa [hq] using hi
    simp [hop, hx, hy, Instr.storeAt, Instr.sureAddr, storeVar, _root_.Go.sizeOf, typeInfo, hq, hvc, hs, this, World.setCells]
    exact hK _ _ (hk _ rfl)
end
theorem ChL.other {H : FP} {B x3 sb xb : Nat} {s : SQ} {rs ms : List Int} {v8 v9 skv : Value} {stuck : List Nat} {W W' : World} (h : ChL H B x3 sb s rs ms v8 v9 stuck skv W) {cs : List Value} (hbx : BoxB W xb cs 102) (hxs : xb ≠ sb) (ho : Only xb W W') : ChL H B x3 sb s rs ms v8 v9 stuck skv W' :=
  ⟨(ho.block _ (box_ne h.b3 hbx (by decide))).trans h.b3, (ho.block _ (Ne.symm hxs)).trans h.bs, ⟨own_same h.so.own fun g hg => ho.block g (fun e => box_lt_ne hbx (by decide) h.so.own (by rw [hg, e])), h.so.nk⟩,
   own_same h.r8 fun g hg => ho.block g (fun e => box_lt_ne hbx (by decide) h.r8 (by rw [hg, e])), h.n8, own_same h.r9 fun g hg => ho.block g (fun e => box_lt_ne hbx (by decide) h.r9 (by rw [hg, e])), h.n9, h.n3, h.ns, h.lo, h.d9⟩
theorem only_kept {xb : Nat} {W W' : World} (ho : Only xb W W') (hx : xb < W.heap.size) : KeptF (fun b => b = xb) W (fun b => b = xb) W' :=
  ⟨ho.os, ho.tape, ho.output, Nat.le_of_eq ho.size.symm, fun _ _ h => h, fun b hb => by rw [hb, ho.size]; exact hx, fun b _ hn => ho.block b hn⟩
theorem two_box {W : World} {o : Obj} {I : Type} {FW : I → World} {i0 i1 : I} (h : TwoI W.drew (W.drew.alloc o) I FW i0 i1) {b : Nat} {xs : List Value} {T : TypeId} (hb : BoxB W b xs T) (i : I) : BoxB (FW i) b xs T := by
  have h1 : BoxB W.drew b xs T := hb.below (below_drewN W 1)
  rcases h.all i with rfl | rfl
  · rw [h.a0]; exact h1
  · rw [h.a1]; exact h1.below (below_alloc _ _)
theorem choice_wf {rows : List ND} (ok : Ok rows) {s : SQ} (wf : Wf rows s) {c : Int × Nat} (hc : IsC rows s c) (he : (premisesP rows s c.1 c.2).err = 0) : Ok (premisesP rows s c.1 c.2).rows ∧ rows <+: (premisesP rows s c.1 c.2).rows ∧ ∀ q ∈ (premisesP rows s c.1 c.2).seqs, Wf (premisesP rows s c.1 c.2).rows q := by
  obtain ⟨h1, h2, h3⟩ := choice_ok ok wf hc he
  refine ⟨h1, h2, ?_⟩
  rcases h3 with ⟨q, hq, hw, _⟩ | ⟨q, q2, hq, hw, hw2, _⟩
  · rw [hq]; intro q' hq'; simp at hq'; rw [hq']; exact hw
  · rw [hq]; intro q' hq'; simp at hq'; rcases hq' with rfl | rfl; exact hw; exact hw2
attribute [local go_sem ↓] load_fold step_fold build_fold
attribute [local go_sem] load_seqV load_stepV build_4
set_option maxRecDepth 100000 in
set_option maxHeartbeats 4000000 in
theorem choose_any (fuel : Nat) (pf : Nat) (t : Value) (HDEC : DecOK fuel pf t) : ChoOK fuel pf t := by
  intro F G K w st vis s h he hi wf h14 hfu hroom hv0 hv
  have hs := wf_lt hi.ok wf
  have hgl : s.goal < 1024 := Nat.lt_of_lt_of_le wf.goal hi.ok.le
  have hcl0 := choicesP_len st.rows s
  have hle := hi.ok.le
  obtain ⟨cs, hcs⟩ : ∃ cs, choicesP st.rows s = cs := ⟨_, rfl⟩
  have HISC : Hid (∀ c ∈ cs, IsC st.rows s c) := fun c hc => isC_of (by rw [hcs]; exact hc)
  have hcl : cs.length ≤ 1026 := by rw [← hcs]; omega
  obtain ⟨sv, mb, kvs, hm⟩ := h
  have HB0 := Lib.hid (below_alloc w (.cells (seqL s.left s.goal).toArray 81))
  have HX0 := Lib.hid (BoxB.new w (seqL s.left s.goal) 81)
  have HM0 := Lib.hid (hm.below HB0.out)
  have HE0 := Lib.hid (he.below HB0.out)
  have HCH : Hid (∀ W, Below w.heap.size w W → Calls Tryd.prog 53 #[t, .agg (seqL s.left s.goal).toArray] W (ChoicesPost W cs)) := fun W hb => by
    rw [← hcs]
    exact rChoices_any F W t st.rows (hm.tab.below hb) (he.g.below hb) s wf h14
  have HM := Lib.hid hm; have HE := Lib.hid he; have HI := Lib.hid hi; have HW := Lib.hid wf
  rw [hcs]
  obtain ⟨r, hr⟩ : ∃ r, chooseF (decideL fuel) s cs st [] = r := ⟨_, rfl⟩
  rw [hr]
  have HRR := Lib.hid hr
  clear hr hcs hcl0 h14 hm he hi wf
  go_enter Tryd.func45, Tryd.ntmps45
  go_wp2
  generalize (w.alloc (.cells (seqL s.left s.goal).toArray 81)) = W0 at *
  have hcl : ∀ W', Aft W0 W' → W'.cell? ⟨pf, 0, none⟩ = some t := fun W' hb => cell_past hb (cell_of HM0.out.blk rfl)
  have hld : ∀ W', Aft W0 W' → Loadable 81 W' (.pointer (some ⟨w.heap.size, 0, none⟩)) := fun W' hb => (loadV_is (HX0.out.below hb).loads).1
  have hlv : ∀ W', Aft W0 W' → loadV 81 W' (.pointer (some ⟨w.heap.size, 0, none⟩)) = _ := fun W' hb => (loadV_is (HX0.out.below hb).loads).2
  have HK : Hid (∀ W', Below W0.heap.size W0 W' → Aft W0 W') := fun W' hb => hb
  have HD := Lib.hid (below_drewN W0 1)
  have HCS : Hid (cs.length ≤ 1026) := by assumption
  go_region_held3 (fun W' => Aft W0 W')
    ((refine HK.out _ ?_; first | exact HB1.out | exact HD.out))
    ((go_at_call 53; refine (HCH.out _ (below_trans HB0.out HD.out)).mono ?_; rintro e W1 ⟨v8, v9, rfl, hr8, hr9, hb1⟩; have HB1 := Lib.hid (below_trans HD.out hb1); have HR8 := Lib.hid (own_base hr8 (below_trans HB0.out HD.out).size); have HR9 := Lib.hid (own_base hr9 (below_trans HB0.out HD.out).size); have HN8 := Lib.hid (fun g (hg : v8.ownBlock = some g) => (hr8.lt g hg).1); have HN9 := Lib.hid (fun g (hg : v9.ownBlock = some g) => (hr9.lt g hg).1); clear hr8 hr9 hb1))
  obtain ⟨a8, c8, rfl⟩ := own_slice HR8.out
  obtain ⟨a9, c9, rfl⟩ := own_slice HR9.out
  have HX1 := Lib.hid (HX0.out.below HB1.out)
  have HM1 := Lib.hid (HM0.out.below HB1.out)
  clear hcl hld hlv
  go_wp2_with (first
    | (refine wp_loadSeq (.tmp 3) rfl rfl rfl HX1.out ?_)
    | (refine wp_build rfl rfl (v := .agg (stpC s.left s.goal false 14 0 (.slice none 0 0)).toArray) (by simp [go_sem]; exact build_stuck _ _ _) ?_)
    | (refine wp_storeRow rStep (.tmp 9) (.tmp 33) rfl rfl rfl (ys := stpC s.left s.goal false 14 0 (.slice none 0 0)) rfl (BoxB.new W1 zeroStep 102) rfl (stpC_len _ _ _ _ _ _) (all_oneCell_toArray (stpC_one rfl)) ?_; intro W2 hb2 ho2; have HB12 := Lib.hid ((below_alloc W1 (.cells zeroStep.toArray 102)).trans (ho2.below (Nat.le_refl _))); have HSB2 := Lib.hid hb2; clear hb2 ho2))
  have HI0 : Hid (OutI fuel pf t F G K w s cs (.slice a8 cs.length c8) (.slice a9 cs.length c9) W1.heap.size r (vis + st.left) st.left 0 W2 F G K st vis [] (.slice none 0 0)) := by
    have hw : ∀ b, w.heap.size ≤ b → ¬ H3 F G K b := fun b hb hf => by have := HM.out.in_ _ hf; omega
    have hz := HB0.out.size
    have hz1 := HB1.out.size
    refine ⟨KeptF.of_below HM.out.in_ (below_trans (below_trans HB0.out HB1.out) HB12.out), ⟨_, _, _, HM1.out.below HB12.out⟩, ⟨HX1.out.below HB12.out, HSB2.out, ⟨World.ownsRow_nil _ _ _ _, fun g hg => by simp [Value.ownBlock] at hg⟩, ?_, fun g hg => hw g (Nat.le_trans (below_trans HB0.out HD.out).size (HN8.out g hg)), ?_, fun g hg => hw g (Nat.le_trans (below_trans HB0.out HD.out).size (HN9.out g hg)), hw _ (Nat.le_refl _), hw _ (Nat.le_trans hz hz1), Nat.le_trans hz hz1, fun g hg => by simp [Value.ownBlock] at hg⟩, HRR.out, HI.out, HW.out, HISC.out, hfu, Nat.le_refl _, hroom, hv0, rfl, Nat.le_refl _⟩
    · rw [List.length_map]; exact own_same HR8.out fun g hg => HB12.out.block g (HR8.out.lt g hg).2
    · rw [List.length_map]; exact own_same HR9.out fun g hg => HB12.out.block g (HR9.out.lt g hg).2
  have HEN := Lib.hid HE.out
  clear HB0 HX0 HM0 HE0 HE HCH HM HI HW HISC HRR HK HD HB1 HR8 HR9 HN8 HN9 HX1 HM1 HB12 HSB2
  go_loopw [36] (fun i W => ∃ j F' G' K' st' vis' stuck skv, j ≤ cs.length ∧ i = .int .i64 (j : Int) ∧ OutI fuel pf t F G K w s cs (.slice a8 cs.length c8) (.slice a9 cs.length c9) W1.heap.size r (vis + st.left) st.left j W F' G' K' st' vis' stuck skv) (fun i _ => cs.length - (intOf i).toNat)
  case atStart => exact ⟨0, F, G, K, _, _, _, _, by omega, rfl, HI0.out⟩
  case round =>
    obtain ⟨i, F', G', K', st', vis', stuck, skv, hj, rfl, hI⟩ := hrel
    have HJ := Lib.hid hI
    clear hI HI0
    by_cases hlt : i < cs.length
    · obtain ⟨⟨k, main⟩, hc⟩ : ∃ c, c = cs[i] := ⟨_, rfl⟩
      have hdrop : cs.drop i = (k, main) :: cs.drop (i + 1) := by rw [hc]; exact List.drop_eq_getElem_cons hlt
      have hisc : IsC st'.rows s (k, main) := HJ.out.isc _ (by rw [hdrop]; simp)
      obtain ⟨g8, rfl, ho8, hc8⟩ := int_at HJ.out.chl.r8 rfl (i := i) (by simpa using hlt)
      obtain ⟨g9, rfl, ho9, hc9⟩ := int_at HJ.out.chl.r9 rfl (i := i) (by simpa using hlt)
      simp only [List.getElem_map, ← hc] at hc8 hc9
      have hin : (i : Int) < (cs.length : Int) := by omega
      have HFIT : Hid (FitK st'.rows s k main) := choice_fits HJ.out.wf hisc
      have HEV : Hid (FEnv F' G' K' wr) := HEN.out.kept HJ.out.kept
      obtain ⟨p, hp⟩ : ∃ p, premisesP st'.rows s k main = p := ⟨_, rfl⟩
      have HPP := Lib.hid hp
      have HPL : Hid (p.seqs.length ≤ 2) := by rw [← hp]; exact premisesP_len _ _ _ _
      have HEQ : Hid ((if p.err ≠ 0 then ⟨st', p.err, 0⟩ else innF (decideL fuel) s (k, main) (cs.drop (i + 1)) stuck p.seqs ⟨p.rows, st'.steps, st'.left⟩ []) = r) := by
        have h1 := HJ.out.eq
        rw [hdrop, chooseF_inn _ _ _ _ _ _ (premisesP_len _ _ _ _)] at h1
        simp only at h1
        rw [hp] at h1
        exact h1
      have HISC : Hid (∀ c ∈ cs.drop (i + 1), IsC st'.rows s c) := fun c hc' => HJ.out.isc c (by rw [hdrop]; simp [hc'])
      have HIS1 := Lib.hid hisc
      obtain ⟨sv1, mb1, kvs1, hm1⟩ := HJ.out.fin
      have HM1 := Lib.hid hm1
      have HN9 : Hid (¬ H3 F' G' K' g9) := HJ.out.chl.n9 g9 ho9
      have HPRE : Hid (∀ W, KeptF F' wr F' W → TabF F' W t st'.rows → TabG W → Calls Tryd.prog 46 #[t, .agg (seqL s.left s.goal).toArray, .int .i64 k, .int .i64 (main : Int)] W (PremF F' W t p)) := fun W _ ht hg => HPP.out ▸ rPremises_any F' W t st'.rows ht hg s HJ.out.wf k main HFIT.out
      have HNP : Hid (¬ F' pf) := fun hf => hm1.ap _ hf hm1.gp
      have HN3 : Hid (¬ F' w.heap.size) := fun hf => HJ.out.chl.n3 (.inl hf)
      have hcl0 : ∀ W', AftK F' wr W' → W'.cell? ⟨pf, 0, none⟩ = some t := fun W' ⟨F2, hk⟩ => hk.cell (cell_of HM1.out.blk rfl) HNP.out
      have hcl1 : ∀ W', AftK F' wr W' → W'.cell? ⟨g9, i, none⟩ = some (.int .i64 (main : Int)) := fun W' ⟨F2, hk⟩ => hk.cell hc9 (fun hf => HN9.out (.inl hf))
      have hld : ∀ W', AftK F' wr W' → Loadable 81 W' (.pointer (some ⟨w.heap.size, 0, none⟩)) := fun W' ⟨F2, hk⟩ => (loadV_is (HJ.out.chl.b3.keptF hk HN3.out).loads).1
      have hlv : ∀ W', AftK F' wr W' → loadV 81 W' (.pointer (some ⟨w.heap.size, 0, none⟩)) = _ := fun W' ⟨F2, hk⟩ => (loadV_is (HJ.out.chl.b3.keptF hk HN3.out).loads).2
      have HKK : Hid (∀ W', Below wr.heap.size wr W' → AftK F' wr W') := fun W' hb => ⟨F', KeptF.of_below hm1.tab.in_ hb⟩
      have HDD := Lib.hid (below_drewN wr 1)
      have HC9 := Lib.hid hc9
      clear hm1 hdrop hisc hc hp hc9 ho8 ho9
      by_cases hpe : p.err = 0
      · have hpz : (p.err != 0) = false := by simpa using hpe
        have HPE := Lib.hid hpe
        clear hpe
        go_wp2_with fail
        go_region_held3 (fun W' => AftK F' wr W')
          ((first | exact HKI.out | exact HKK.out _ HDD.out))
          ((go_at_call 46; refine (HPRE.out _ (KeptF.of_below HM1.out.tab.in_ HDD.out) (HM1.out.tab.below HDD.out) (HEV.out.g.below HDD.out)).mono ?_; rintro e W4 ⟨v, F4, rfl, hk4, ht4, hs4⟩; have HK4 := Lib.hid ((KeptF.of_below HM1.out.tab.in_ HDD.out).trans hk4); have HKI : Hid (AftK F' wr W4) := ⟨F4, HK4.out⟩; have HT4 := Lib.hid ht4; have HS4 := Lib.hid hs4; clear hk4 ht4 hs4))
        clear hcl0 hcl1 hld hlv
        have HM4 := Lib.hid (HM1.out.tabbed HK4.out HT4.out)
        have HH4 := Lib.hid (HK4.out.tab3 HM1.out.gin HM1.out.kin)
        have HC4 := Lib.hid (HJ.out.chl.step HH4.out)
        obtain ⟨ad, rfl, hsb⟩ := seqs_form (HS4.out HPE.out)
        have HSB := Lib.hid hsb
        have HC94 : Hid (W4.cell? ⟨g9, i, none⟩ = some (.int .i64 (main : Int))) := HH4.out.cell HC9.out HN9.out
        clear hsb
        go_wp2_with fail
        obtain ⟨I0, _, FW, i0, i1, hFW⟩ := twoI W4.drew (W4.drew.alloc (.cells zeroStep.toArray 102))
        have a0 := alloc_both hFW HC94.out
        have hldW : ∀ ix, Loadable 81 (FW ix) (.pointer (some ⟨w.heap.size, 0, none⟩)) := fun ix => (loadV_is (two_box hFW HC4.out.b3 ix).loads).1
        have hlvW : ∀ ix, loadV 81 (FW ix) (.pointer (some ⟨w.heap.size, 0, none⟩)) = _ := fun ix => (loadV_is (two_box hFW HC4.out.b3 ix).loads).2
        have HFW := Lib.hid hFW
        clear hFW
        refine wp_eventI 8 _ (.pointer (some ⟨W4.heap.size, 0, none⟩)) HFW.out (by kernel_rfl) (by kernel_rfl) rfl (fun ρ => by simp [go_sem]; rfl) rfl ?_
        simp only [Nat.reduceSub, List.take_succ_cons, List.take_zero, List.drop_succ_cons, List.drop_zero]
        repeat (go_big_quiet_step (fail))
        refine wpQuiet_nil ?_
        clear a0 hldW hlvW
        go_wp2_with (first
          | (refine wp_storeRow rStep (.tmp 14) (.tmp 64) rfl rfl rfl (ys := stpC s.left s.goal true k main (.slice none 0 0)) rfl (BoxB.new W4.drew zeroStep 102) rfl (stpC_len _ _ _ _ _ _) (all_oneCell_toArray (stpC_one rfl)) ?_; intro W5 hb5 ho5; have HB45 := Lib.hid (below_trans (below_drewN W4 1) ((below_alloc W4.drew (.cells zeroStep.toArray 102)).trans (ho5.below (Nat.le_refl _)))); have HBX5 : Hid (BoxB W5 W4.heap.size (stpC s.left s.goal true k main (.slice none 0 0)) 102) := hb5; clear hb5 ho5))
        have HK5 := Lib.hid (HH4.out.trans (KeptF.of_below HM4.out.in_ HB45.out))
        have HI1 : Hid (InnI fuel pf t F G K w s cs (.slice (some ⟨g8, 0, none⟩) cs.length c8) (.slice (some ⟨g9, 0, none⟩) cs.length c9) W1.heap.size r (vis + st.left) st.left i k main p.seqs ad W4.heap.size stuck skv 0 W5 F4 G' K' ⟨p.rows, st'.steps, st'.left⟩ vis' [] (.slice none 0 0)) := by
          have h0 := HJ.out
          have hcw := choice_wf h0.inv.ok h0.wf HIS1.out (by rw [HPP.out]; exact HPE.out)
          simp only [HPP.out] at hcw
          have hx : w.heap.size ≤ W4.heap.size := Nat.le_trans h0.kept.size HH4.out.size
          refine ⟨h0.kept.trans HK5.out, ⟨_, _, _, HM4.out.below HB45.out⟩, HC4.out.step (KeptF.of_below HM4.out.in_ HB45.out), ⟨HBX5.out, ⟨World.ownsRow_nil _ _ _ _, fun g hg => by simp [Value.ownBlock] at hg⟩, fun hf => ?_, hx, fun g hg => by simp [Value.ownBlock] at hg, fun g hg => by simp [Value.ownBlock] at hg, ?_, ?_⟩, ?_, h0.inv.ext hcw.1 hcw.2.1 _, h0.wf.ext hcw.2.1, fun q hq => hcw.2.2 q (by simpa using hq), fun c hc => (HISC.out c hc).ext h0.inv.ok h0.wf hcw.2.1, h0.left, h0.lf, h0.room, h0.v0, h0.vc, rfl, h0.kl⟩
          · have := HM4.out.in_ _ hf; exact absurd this (Nat.lt_irrefl _)
          · exact fun e => by have := HC4.out.bs.lt; omega
          · rcases HSB.out with h | ⟨b, h1, h2, h3, h4⟩
            · exact .inl h
            · refine .inr ⟨b, h1, h2.below HB45.out, fun hf => ?_⟩
              have hbw : wr.heap.size ≤ b := by simpa using h3
              rcases hf with hf | hf | hf
              · exact h4 hf
              · have := HM1.out.gin _ hf; omega
              · have := HM1.out.kin _ hf; omega
          · have := HEQ.out
            rw [if_neg (by simpa using HPE.out)] at this
            simpa using this
        have hpl := HPL.out
        clear HK5 HBX5 HB45 HFW HSB HC94 HC4 HH4 HM4 HS4 HT4 HKI HK4 HPRE HNP HN3 HKK HDD HC9 HN9 HM1 HIS1 HISC HEQ HFIT HPP HPL hpz hc8
        go_loopw [67] (fun n W => ∃ m F' G' K' st' vis' kids kv, m ≤ p.seqs.length ∧ n = .int .i64 (m : Int) ∧ InnI fuel pf t F G K w s cs (.slice (some ⟨g8, 0, none⟩) cs.length c8) (.slice (some ⟨g9, 0, none⟩) cs.length c9) W1.heap.size r (vis + st.left) st.left i k main p.seqs ad W4.heap.size stuck skv m W F' G' K' st' vis' kids kv) (fun n _ => p.seqs.length - (intOf n).toNat)
        case atStart => exact ⟨0, F4, G', K', _, _, _, _, by omega, rfl, HI1.out⟩
        case round =>
          obtain ⟨m, F5, G5, K5, st5, vis5, kids, kv, hm', rfl, hI5⟩ := hrel
          have HJ5 := Lib.hid hI5
          clear hI5 HI1
          by_cases hlt2 : m < p.seqs.length
          · obtain ⟨q, hq⟩ : ∃ q, q = p.seqs[m] := ⟨_, rfl⟩
            have hdrop : p.seqs.drop m = q :: p.seqs.drop (m + 1) := by rw [hq]; exact List.drop_eq_getElem_cons hlt2
            have hwq : Wf st5.rows q := HJ5.out.wfs q (by rw [hdrop]; simp)
            obtain ⟨b, hadb, hbx, hnb⟩ : ∃ b, ad = some ⟨b, 0, none⟩ ∧ BoxB wr b (p.seqs.flatMap fun s => seqL s.left s.goal) 81 ∧ ¬ H3 F5 G5 K5 b := by
              rcases HJ5.out.xl.sq with h | h
              · rw [h] at hlt2; simp at hlt2
              · exact h
            have hra : wr.rangeAt b (m * 17) (seqL q.left q.goal) := by rw [hq]; exact hbx.seqAt hlt2
            have HRA := Lib.hid hra
            have HEV5 : Hid (FEnv F5 G5 K5 wr) := HEN.out.kept HJ5.out.kept
            obtain ⟨r1, hr1⟩ : ∃ r1, decideL fuel st5 q = r1 := ⟨_, rfl⟩
            have HIH : Hid (∀ W, Below wr.heap.size wr W → Calls Tryd.prog 39 #[.pointer (some ⟨pf, 0, none⟩), .agg (seqL q.left q.goal).toArray] W (DecPost F5 G5 K5 W pf t st5 vis5 r1)) := fun W hb => by
              have h0 := HJ5.out
              exact hr1 ▸ HDEC F5 G5 K5 W st5 vis5 q (h0.fin.below hb) (HEV5.out.below hb) h0.inv hwq h0.left (by have := h0.room; omega) h0.v0 (by have := h0.vc; omega)
            have HEQ5 : Hid (innF (decideL fuel) s (k, main) (cs.drop (i + 1)) stuck (q :: p.seqs.drop (m + 1)) st5 kids = r) := by
              have := HJ5.out.eq
              rw [hdrop] at this
              exact this
            have HRM : Hid (Room st5 r1 0) := hr1 ▸ decideL_room fuel st5 q
            have HGO : Hid (r1.err = 0 → GoodA st5 q r1) := fun h => hr1 ▸ decideL_ok fuel st5 q HJ5.out.inv hwq (by rw [hr1]; exact h)
            have HR1 := Lib.hid hr1
            have hmn : (m : Int) < (p.seqs.length : Int) := by omega
            subst hadb
            clear hr1 hwq hra hbx hnb hdrop hq
            by_cases hz1 : r1.err = 0
            · have hz2 : (r1.err != 0) = false := by simpa using hz1
              have HGD := Lib.hid (HGO.out hz1)
              obtain ⟨xx, hxx, _⟩ := HGD.out.ans
              have hat : r1.at_ < r1.st.steps.length := (List.getElem?_eq_some_iff.1 hxx).1
              have hatI : (r1.at_ : Int) < (r1.st.steps.length : Int) := by omega
              clear hxx
              have HZ1 := Lib.hid hz1
              clear hz1
              cases hpb : provedAt r1.st r1.at_ with
              | true =>
                as_aux_lemma =>
                go_wp2_with (first
              | (refine wp_loadSeqAt (.tmp 70) rfl rfl rfl HRA.out ?_)
              | (refine wp_storeSeq (.tmp 16) (.tmp 71) rfl rfl rfl rfl (BoxB.new wr (seqL 0 0) 81) (seqL_len _ _) ?_; intro W6 hb6 ho6; have HX6 := Lib.hid hb6; have HB6 := Lib.hid ((below_alloc wr (.cells (seqL 0 0).toArray 81)).trans (ho6.below (Nat.le_refl _))); clear hb6 ho6)
              | (refine wp_loadSeq (.tmp 16) rfl rfl rfl HX6.out ?_)
              | (go_at_call 39; refine (HIH.out _ HB6.out).mono ?_; rintro e W7 ⟨rfl, F7, G7, K7, hk7, hf7⟩; have HB6K := Lib.hid (KeptF.of_below HJ5.out.fin.in_ HB6.out); have HF7 := Lib.hid hf7; have HKW7 := Lib.hid ((HJ5.out.kept.trans HB6K.out).trans hk7); have HC7 := Lib.hid ((HJ5.out.chl.step HB6K.out).step hk7); have HX7 := Lib.hid ((HJ5.out.xl.step HB6K.out).step hk7); have HVI : Hid (vis5 + ((st5.left - r1.st.left : Nat) : Int) = vis + ((st.left - r1.st.left : Nat) : Int)) := (by have h1 := HJ5.out.vc; have h2 := HRM.out.left; have h4 := HJ5.out.lf; show _ = _; omega); have c20 := HX7.out.bx.cell (stpC_at _ _ _ _ _ _).2; clear hk7 hf7)
              | (at_builtin; go_loud (refine wp_append rfl (.tmp 82) (.tmp 84) 22 rfl w.heap.size 3 _ 1 8 Tryd.underlying22 infoInt rfl (by decide) (by decide) kv kids.length (kidI kids) rfl (own_same HX7.out.ko.own (fun g hg => Below.heap_alloc _ _ _ (HX7.out.ko.own.lt g hg).2)) _ 1 [.int .i64 (r1.at_ : Int)] rfl (rd_one W7 _ _) (by simp [Value.oneCell']) (by have := HJ5.out.kl; omega) (by have := HKW7.out.size; simp; omega) ?_; intro v5 w5 hown hgr hat5 hnil; obtain ⟨g5, q5, rfl⟩ := ownsRow_succ hown; have HLA := Lib.hid (XL.app HC7.out HX7.out HF7.out.in_ hown hgr hat5); have HAW := Lib.hid (app_world (o := 20) (v' := .slice (some ⟨g5, 0, none⟩) (kids.length + 1) q5) HX7.out.ko.own hgr HX7.out.bx.lt HX7.out.lo); clear c20 hown hgr hat5 hnil))
              | (go_loud (refine wp_storeC (v := .slice (some ⟨g5, 0, none⟩) (kids.length + 1) q5) (.tmp 86) (.tmp 85) rfl rfl rfl rfl rfl rfl (by kernel_rfl) (HLA.out.1.cell (stpC_at _ _ _ _ _ _).2) (HLA.out.1.fr 20) ?_; intro W9 hw9; rw [← hw9] at HLA HAW; obtain ⟨sv7, mb7, kvs7, hm7⟩ := HF7.out; have hm9 := hm7.beside HAW.out.1 (fun b hb hx => by rcases hx with rfl | hx; exact HX7.out.nx hb; exact HX7.out.ko.nk b hx hb); obtain ⟨g7, c7, rfl, hcp9⟩ := fin_proved hm9 hat; rw [hpb] at hcp9; have c91 : W9.cell? ⟨pf, 1, none⟩ = some (.slice (some ⟨g7, 0, none⟩) r1.st.steps.length c7) := cell_of hm9.blk rfl; have HM9 := Lib.hid hm9; have HKW9 := Lib.hid (HKW7.out.thenNew HAW.out.2 (fun b hb => Nat.lt_of_lt_of_le (HF7.out.in_ b hb) HAW.out.1.size)); clear hm7 hm9 hw9)))
                have h1 := HRM.out.left
                have h2 := HRM.out.len
                have h3 := HJ5.out
                refine ⟨⟨m + 1, F7, G7, K7, r1.st, vis5 + ((st5.left - r1.st.left : Nat) : Int), kids ++ [r1.at_], _, by omega, by go_num, HKW9.out, ⟨_, _, _, HM9.out⟩, HLA.out.2.1, HLA.out.2.2, ?_, HGD.out.inv, h3.wf.ext HGD.out.pre, ?_, fun c hc => (h3.isc c hc).ext h3.inv.ok h3.wf HGD.out.pre, by have := h3.left; omega, by have := h3.lf; omega, by have := h3.room; omega, by have := h3.v0; omega, by have := h3.vc; omega, by rw [List.length_append, h3.kl]; rfl, h3.sl⟩, by simp [intOf]; omega⟩
                · have := HEQ5.out
                  rw [innF, HR1.out, if_neg (by simpa using HZ1.out), hpb] at this
                  exact this
                · intro q' hq'
                  refine (h3.wfs q' ?_).ext HGD.out.pre
                  rw [← List.drop_drop] at hq'
                  exact List.mem_of_mem_drop hq'
              | false =>
                by_cases hm0 : m = 0
                · as_aux_lemma =>
                  have hmz : ((m : Int) == 0) = true := by simp [hm0]
                  have HM0 := Lib.hid hm0
                  clear hm0
                  go_wp2_with (first
                | (refine wp_loadSeqAt (.tmp 70) rfl rfl rfl HRA.out ?_)
                | (refine wp_storeSeq (.tmp 16) (.tmp 71) rfl rfl rfl rfl (BoxB.new wr (seqL 0 0) 81) (seqL_len _ _) ?_; intro W6 hb6 ho6; have HX6 := Lib.hid hb6; have HB6 := Lib.hid ((below_alloc wr (.cells (seqL 0 0).toArray 81)).trans (ho6.below (Nat.le_refl _))); clear hb6 ho6)
                | (refine wp_loadSeq (.tmp 16) rfl rfl rfl HX6.out ?_)
                | (go_at_call 39; refine (HIH.out _ HB6.out).mono ?_; rintro e W7 ⟨rfl, F7, G7, K7, hk7, hf7⟩; have HB6K := Lib.hid (KeptF.of_below HJ5.out.fin.in_ HB6.out); have HF7 := Lib.hid hf7; have HKW7 := Lib.hid ((HJ5.out.kept.trans HB6K.out).trans hk7); have HC7 := Lib.hid ((HJ5.out.chl.step HB6K.out).step hk7); have HX7 := Lib.hid ((HJ5.out.xl.step HB6K.out).step hk7); have HVI : Hid (vis5 + ((st5.left - r1.st.left : Nat) : Int) = vis + ((st.left - r1.st.left : Nat) : Int)) := (by have h1 := HJ5.out.vc; have h2 := HRM.out.left; have h4 := HJ5.out.lf; show _ = _; omega); have c20 := HX7.out.bx.cell (stpC_at _ _ _ _ _ _).2; clear hk7 hf7)
                | (at_builtin; go_loud (refine wp_append rfl (.tmp 82) (.tmp 84) 22 rfl w.heap.size 3 _ 1 8 Tryd.underlying22 infoInt rfl (by decide) (by decide) kv kids.length (kidI kids) rfl (own_same HX7.out.ko.own (fun g hg => Below.heap_alloc _ _ _ (HX7.out.ko.own.lt g hg).2)) _ 1 [.int .i64 (r1.at_ : Int)] rfl (rd_one W7 _ _) (by simp [Value.oneCell']) (by have := HJ5.out.kl; omega) (by have := HKW7.out.size; simp; omega) ?_; intro v5 w5 hown hgr hat5 hnil; obtain ⟨g5, q5, rfl⟩ := ownsRow_succ hown; have HLA := Lib.hid (XL.app HC7.out HX7.out HF7.out.in_ hown hgr hat5); have HAW := Lib.hid (app_world (o := 20) (v' := .slice (some ⟨g5, 0, none⟩) (kids.length + 1) q5) HX7.out.ko.own hgr HX7.out.bx.lt HX7.out.lo); clear c20 hown hgr hat5 hnil))
                | (go_loud (refine wp_storeC (v := .slice (some ⟨g5, 0, none⟩) (kids.length + 1) q5) (.tmp 86) (.tmp 85) rfl rfl rfl rfl rfl rfl (by kernel_rfl) (HLA.out.1.cell (stpC_at _ _ _ _ _ _).2) (HLA.out.1.fr 20) ?_; intro W9 hw9; rw [← hw9] at HLA HAW; obtain ⟨sv7, mb7, kvs7, hm7⟩ := HF7.out; have hm9 := hm7.beside HAW.out.1 (fun b hb hx => by rcases hx with rfl | hx; exact HX7.out.nx hb; exact HX7.out.ko.nk b hx hb); obtain ⟨g7, c7, rfl, hcp9⟩ := fin_proved hm9 hat; rw [hpb] at hcp9; have c91 : W9.cell? ⟨pf, 1, none⟩ = some (.slice (some ⟨g7, 0, none⟩) r1.st.steps.length c7) := cell_of hm9.blk rfl; have HM9 := Lib.hid hm9; have HKW9 := Lib.hid (HKW7.out.thenNew HAW.out.2 (fun b hb => Nat.lt_of_lt_of_le (HF7.out.in_ b hb) HAW.out.1.size)); clear hm7 hm9 hw9))
                | (refine wp_storeC (v := .bool false) (.tmp 95) _ rfl rfl rfl rfl rfl rfl (by kernel_rfl) (HLA.out.2.2.bx.cell (stpC_at _ _ _ _ _ _).1) (HLA.out.2.2.bx.fr 17) ?_; intro W10 hw10; have HO10 : Hid (Only W4.heap.size W9 W10) := hw10 ▸ only_setCell W9 W4.heap.size 17 _; have HBX10 : Hid (BoxB W10 W4.heap.size (stpC s.left s.goal false k main (.slice (some ⟨g5, 0, none⟩) (kids.length + 1) q5)) 102) := (by have h1 := HLA.out.2.2.bx.set 17 (.bool false); rw [stpC_set17] at h1; exact hw10 ▸ h1); have HC10 := Lib.hid (HLA.out.2.1.other HLA.out.2.2.bx HLA.out.2.2.xs HO10.out); have HOK := Lib.hid (only_kept HO10.out HLA.out.2.2.bx.lt); have HM10 := Lib.hid (HM9.out.beside HOK.out (fun b hb hx => by subst hx; exact HLA.out.2.2.nx hb)); have HKW10 := Lib.hid (HKW9.out.thenNew (HO10.out.below HLA.out.2.2.lo) (fun b hb => Nat.lt_of_lt_of_le (HM9.out.in_ b hb) HOK.out.size)); have s20 := HC10.out.bs.cell (stpC_at _ _ _ _ _ _).2; clear c91 hcp9 hw10)
                | (at_builtin; refine wp_append rfl (.tmp 99) (.tmp 101) 22 rfl w.heap.size 3 _ 1 8 Tryd.underlying22 infoInt rfl (by decide) (by decide) skv stuck.length (kidI stuck) rfl (own_same HC10.out.so.own (fun g hg => Below.heap_alloc _ _ _ (HC10.out.so.own.lt g hg).2)) _ 1 [.int .i64 (r1.at_ : Int)] rfl (rd_one W10 _ _) (by simp [Value.oneCell']) (by have := HJ5.out.sl; omega) (by have := HKW10.out.size; simp; omega) ?_; intro v6 w6 hown hgr hat6 hnil; obtain ⟨g6, q6, rfl⟩ := ownsRow_succ hown; have HLB := Lib.hid (HC10.out.app HBX10.out HLA.out.2.2.xs HM10.out.in_ hown hgr hat6); have HBW := Lib.hid (app_world (o := 20) (v' := .slice (some ⟨g6, 0, none⟩) (stuck.length + 1) q6) HC10.out.so.own hgr HC10.out.bs.lt HC10.out.lo); clear s20 hown hgr hat6 hnil)
                | (refine wp_storeC (v := .slice (some ⟨g6, 0, none⟩) (stuck.length + 1) q6) (.tmp 103) (.tmp 102) rfl rfl rfl rfl rfl rfl (by kernel_rfl) (HLB.out.1.cell (stpC_at _ _ _ _ _ _).2) (HLB.out.1.fr 20) ?_; intro W12 hw12; rw [← hw12] at HLB HBW; have c17 := HLB.out.2.2.cell (stpC_at _ _ _ _ _ _).1; clear hw12))
                  have h1 := HRM.out.left
                  have h2 := HRM.out.len
                  have h3 := HJ5.out
                  have hk0 : kids = [] := List.eq_nil_of_length_eq_zero (by rw [h3.kl]; exact HM0.out)
                  refine ⟨⟨i + 1, F7, G7, K7, r1.st, vis5 + ((st5.left - r1.st.left : Nat) : Int), stuck ++ [r1.at_], _, by omega, by go_num, HKW10.out.thenNew HBW.out.2 (fun b hb => Nat.lt_of_lt_of_le (HM10.out.in_ b hb) HBW.out.1.size), ⟨_, _, _, HM10.out.beside HBW.out.1 (fun b hb hx => by rcases hx with rfl | hx; exact HC10.out.ns hb; exact HC10.out.so.nk b hx hb)⟩, HLB.out.2.1, ?_, HGD.out.inv, h3.wf.ext HGD.out.pre, fun c hc => (h3.isc c hc).ext h3.inv.ok h3.wf HGD.out.pre, by have := h3.left; omega, by have := h3.lf; omega, by have := h3.room; omega, by have := h3.v0; omega, by have := h3.vc; omega, by rw [List.length_append]; have := h3.sl; simp; omega⟩, by simp [intOf]; omega⟩
                  have := HEQ5.out
                  rw [innF, HR1.out, if_neg (by simpa using HZ1.out), hpb, if_pos hk0] at this
                  exact this
                · as_aux_lemma =>
                  have hmz : ((m : Int) == 0) = false := by simpa using hm0
                  have HM0 := Lib.hid hm0
                  clear hm0
                  go_wp2_with (first
                | (refine wp_loadSeqAt (.tmp 70) rfl rfl rfl HRA.out ?_)
                | (refine wp_storeSeq (.tmp 16) (.tmp 71) rfl rfl rfl rfl (BoxB.new wr (seqL 0 0) 81) (seqL_len _ _) ?_; intro W6 hb6 ho6; have HX6 := Lib.hid hb6; have HB6 := Lib.hid ((below_alloc wr (.cells (seqL 0 0).toArray 81)).trans (ho6.below (Nat.le_refl _))); clear hb6 ho6)
                | (refine wp_loadSeq (.tmp 16) rfl rfl rfl HX6.out ?_)
                | (go_at_call 39; refine (HIH.out _ HB6.out).mono ?_; rintro e W7 ⟨rfl, F7, G7, K7, hk7, hf7⟩; have HB6K := Lib.hid (KeptF.of_below HJ5.out.fin.in_ HB6.out); have HF7 := Lib.hid hf7; have HKW7 := Lib.hid ((HJ5.out.kept.trans HB6K.out).trans hk7); have HC7 := Lib.hid ((HJ5.out.chl.step HB6K.out).step hk7); have HX7 := Lib.hid ((HJ5.out.xl.step HB6K.out).step hk7); have HVI : Hid (vis5 + ((st5.left - r1.st.left : Nat) : Int) = vis + ((st.left - r1.st.left : Nat) : Int)) := (by have h1 := HJ5.out.vc; have h2 := HRM.out.left; have h4 := HJ5.out.lf; show _ = _; omega); have c20 := HX7.out.bx.cell (stpC_at _ _ _ _ _ _).2; clear hk7 hf7)
                | (at_builtin; go_loud (refine wp_append rfl (.tmp 82) (.tmp 84) 22 rfl w.heap.size 3 _ 1 8 Tryd.underlying22 infoInt rfl (by decide) (by decide) kv kids.length (kidI kids) rfl (own_same HX7.out.ko.own (fun g hg => Below.heap_alloc _ _ _ (HX7.out.ko.own.lt g hg).2)) _ 1 [.int .i64 (r1.at_ : Int)] rfl (rd_one W7 _ _) (by simp [Value.oneCell']) (by have := HJ5.out.kl; omega) (by have := HKW7.out.size; simp; omega) ?_; intro v5 w5 hown hgr hat5 hnil; obtain ⟨g5, q5, rfl⟩ := ownsRow_succ hown; have HLA := Lib.hid (XL.app HC7.out HX7.out HF7.out.in_ hown hgr hat5); have HAW := Lib.hid (app_world (o := 20) (v' := .slice (some ⟨g5, 0, none⟩) (kids.length + 1) q5) HX7.out.ko.own hgr HX7.out.bx.lt HX7.out.lo); clear c20 hown hgr hat5 hnil))
                | (go_loud (refine wp_storeC (v := .slice (some ⟨g5, 0, none⟩) (kids.length + 1) q5) (.tmp 86) (.tmp 85) rfl rfl rfl rfl rfl rfl (by kernel_rfl) (HLA.out.1.cell (stpC_at _ _ _ _ _ _).2) (HLA.out.1.fr 20) ?_; intro W9 hw9; rw [← hw9] at HLA HAW; obtain ⟨sv7, mb7, kvs7, hm7⟩ := HF7.out; have hm9 := hm7.beside HAW.out.1 (fun b hb hx => by rcases hx with rfl | hx; exact HX7.out.nx hb; exact HX7.out.ko.nk b hx hb); obtain ⟨g7, c7, rfl, hcp9⟩ := fin_proved hm9 hat; rw [hpb] at hcp9; have c91 : W9.cell? ⟨pf, 1, none⟩ = some (.slice (some ⟨g7, 0, none⟩) r1.st.steps.length c7) := cell_of hm9.blk rfl; have HM9 := Lib.hid hm9; have HKW9 := Lib.hid (HKW7.out.thenNew HAW.out.2 (fun b hb => Nat.lt_of_lt_of_le (HF7.out.in_ b hb) HAW.out.1.size)); clear hm7 hm9 hw9))
                | (refine wp_storeC (v := .bool false) (.tmp 95) _ rfl rfl rfl rfl rfl rfl (by kernel_rfl) (HLA.out.2.2.bx.cell (stpC_at _ _ _ _ _ _).1) (HLA.out.2.2.bx.fr 17) ?_; intro W10 hw10; have HO10 : Hid (Only W4.heap.size W9 W10) := hw10 ▸ only_setCell W9 W4.heap.size 17 _; have HBX10 : Hid (BoxB W10 W4.heap.size (stpC s.left s.goal false k main (.slice (some ⟨g5, 0, none⟩) (kids.length + 1) q5)) 102) := (by have h1 := HLA.out.2.2.bx.set 17 (.bool false); rw [stpC_set17] at h1; exact hw10 ▸ h1); have HC10 := Lib.hid (HLA.out.2.1.other HLA.out.2.2.bx HLA.out.2.2.xs HO10.out); have HOK := Lib.hid (only_kept HO10.out HLA.out.2.2.bx.lt); have HM10 := Lib.hid (HM9.out.beside HOK.out (fun b hb hx => by subst hx; exact HLA.out.2.2.nx hb)); have HKW10 := Lib.hid (HKW9.out.thenNew (HO10.out.below HLA.out.2.2.lo) (fun b hb => Nat.lt_of_lt_of_le (HM9.out.in_ b hb) HOK.out.size)); have s20 := HC10.out.bs.cell (stpC_at _ _ _ _ _ _).2; clear c91 hcp9 hw10)
                | (refine wp_storeC (v := .slice (some ⟨W10.heap.size, 0, none⟩) 1 1) (.tmp 106) (.tmp 105) rfl rfl rfl rfl rfl rfl (by kernel_rfl) ((HBX10.out.below (below_alloc W10 (.cells #[.int .i64 (r1.at_ : Int)] 3))).cell (stpC_at _ _ _ _ _ _).2) ((HBX10.out.below (below_alloc W10 (.cells #[.int .i64 (r1.at_ : Int)] 3))).fr 20) ?_; intro W12 hw12; have HO12 : Hid (Only W4.heap.size (W10.alloc (.cells #[.int .i64 (r1.at_ : Int)] 3)) W12) := hw12 ▸ only_setCell _ W4.heap.size 20 _; have HBX12 : Hid (BoxB W12 W4.heap.size (stpC s.left s.goal false k main (.slice (some ⟨W10.heap.size, 0, none⟩) 1 1)) 102) := (by have h1 := (HBX10.out.below (below_alloc W10 (.cells #[.int .i64 (r1.at_ : Int)] 3))).set 20 (.slice (some ⟨W10.heap.size, 0, none⟩) 1 1); rw [stpC_set20] at h1; exact hw12 ▸ h1); have HOK2 := Lib.hid (only_kept HO12.out (HBX10.out.below (below_alloc W10 (.cells #[.int .i64 (r1.at_ : Int)] 3))).lt); have HM12 := Lib.hid ((HM10.out.below (below_alloc W10 (.cells #[.int .i64 (r1.at_ : Int)] 3))).beside HOK2.out (fun b hb hx => by subst hx; exact HLA.out.2.2.nx hb)); have HKW12 := Lib.hid ((HKW10.out.trans (KeptF.of_below HM10.out.in_ (below_alloc W10 (.cells #[.int .i64 (r1.at_ : Int)] 3)))).thenNew (HO12.out.below HLA.out.2.2.lo) (fun b hb => HM12.out.in_ b hb)); have HRD : Hid (Rd W12 (.slice (some ⟨W10.heap.size, 0, none⟩) 1 1) 1 1 (kidI [r1.at_])) := (HOK2.out.rd (rd_one W10 _ _) (fun a m c e hx => by cases e; have := HBX10.out.lt; simp at hx; omega)); clear s20 hw12)
                | (refine wp_loadStep (.tmp 14) rfl rfl rfl HBX12.out (stpC_len _ _ _ _ _ _) ?_)
                | (go_at_call 47; refine (end_dec (x := ⟨s, false, k, main, [r1.at_]⟩) (st := st) (vis := vis) HKW12.out ⟨_, _, _, HM12.out⟩ HVI.out (.slice (some ⟨W10.heap.size, 0, none⟩) 1 1) hs (Nat.lt_of_lt_of_le hgl (by omega)) (by have := HRM.out.len; have := HJ5.out.room; omega) HRD.out (fun a m c e => by cases e; refine ⟨by have := HOK2.out.size; simp at this; show W10.heap.size < _; omega, HKW10.out.size, fun hf => by have := HM10.out.in_ _ hf; exact absurd this (Nat.lt_irrefl _)⟩)).mono ?_; rintro e W13 ⟨rfl, F8, G8, K8, hk8, hf8⟩; have HK8 := Lib.hid hk8; have HF8 := Lib.hid hf8; clear hk8 hf8))
                  go_ret2
                  have hk0 : ¬ kids = [] := fun e => HM0.out (by have := HJ5.out.kl; rw [e] at this; exact this.symm)
                  have hr0 : r = endS r1.st ⟨s, false, k, main, [r1.at_]⟩ := by
                    rw [← HEQ5.out, innF, HR1.out, if_neg (by simpa using HZ1.out), hpb, if_neg hk0]
                    rfl
                  rw [hr0]
                  exact ⟨rfl, F8, G8, K8, HK8.out, HF8.out⟩
            · have hz2 : (r1.err != 0) = true := by simpa using hz1
              have HZ1 := Lib.hid hz1
              clear hz1
              as_aux_lemma =>
              go_wp2_with (first
              | (refine wp_loadSeqAt (.tmp 70) rfl rfl rfl HRA.out ?_)
              | (refine wp_storeSeq (.tmp 16) (.tmp 71) rfl rfl rfl rfl (BoxB.new wr (seqL 0 0) 81) (seqL_len _ _) ?_; intro W6 hb6 ho6; have HX6 := Lib.hid hb6; have HB6 := Lib.hid ((below_alloc wr (.cells (seqL 0 0).toArray 81)).trans (ho6.below (Nat.le_refl _))); clear hb6 ho6)
              | (refine wp_loadSeq (.tmp 16) rfl rfl rfl HX6.out ?_)
              | (go_at_call 39; refine (HIH.out _ HB6.out).mono ?_; rintro e W7 ⟨rfl, F7, G7, K7, hk7, hf7⟩; have HB6K := Lib.hid (KeptF.of_below HJ5.out.fin.in_ HB6.out); have HF7 := Lib.hid hf7; have HKW7 := Lib.hid ((HJ5.out.kept.trans HB6K.out).trans hk7); have HC7 := Lib.hid ((HJ5.out.chl.step HB6K.out).step hk7); have HX7 := Lib.hid ((HJ5.out.xl.step HB6K.out).step hk7); have HVI : Hid (vis5 + ((st5.left - r1.st.left : Nat) : Int) = vis + ((st.left - r1.st.left : Nat) : Int)) := (by have h1 := HJ5.out.vc; have h2 := HRM.out.left; have h4 := HJ5.out.lf; show _ = _; omega); have c20 := HX7.out.bx.cell (stpC_at _ _ _ _ _ _).2; clear hk7 hf7))
              go_ret2
              have hr0 : r = ⟨r1.st, r1.err, 0⟩ := by
                rw [← HEQ5.out, innF, HR1.out, if_pos HZ1.out]
              rw [hr0]
              refine ⟨rfl, F7, G7, K7, HKW7.out, ?_⟩
              have h1 := HF7.out
              rw [HVI.out] at h1
              exact h1
          · as_aux_lemma =>
            obtain rfl : m = p.seqs.length := by omega
            have h3 := HJ5.out
            have HRK : Hid (r = endS st5 ⟨s, true, k, main, kids⟩) := by
              show r = _
              rw [← h3.eq, List.drop_length, innF]
            have HVI : Hid (vis5 = vis + ((st.left - st5.left : Nat) : Int)) := by have h1 := h3.vc; have h2 := h3.lf; show _ = _; omega
            have HRD : Hid (Rd wr kv kids.length 1 (kidI kids)) := rd_own h3.xl.ko.own
            have c17 := h3.xl.bx.cell (stpC_at _ _ _ _ _ _).1
            clear h3
            go_wp2_with (first
              | (refine wp_loadStep (.tmp 14) rfl rfl rfl HJ5.out.xl.bx (stpC_len _ _ _ _ _ _) ?_)
              | (go_at_call 47; refine (end_dec (x := ⟨s, true, k, main, kids⟩) (st := st) (vis := vis) HJ5.out.kept HJ5.out.fin HVI.out kv hs (Nat.lt_of_lt_of_le hgl (by omega)) (by have := HJ5.out.room; omega) HRD.out (fun a m c e => by have h1 := HJ5.out.xl.ko.own.lt a.block (by rw [e]; rfl); exact ⟨h1.2, h1.1, HJ5.out.xl.ko.nk a.block (by rw [e]; rfl)⟩)).mono ?_; rintro e W8 ⟨rfl, F8, G8, K8, hk8, hf8⟩; have HK8 := Lib.hid hk8; have HF8 := Lib.hid hf8; clear hk8 hf8))
            go_ret2
            rw [HRK.out]
            exact ⟨rfl, F8, G8, K8, HK8.out, HF8.out⟩
      · have hpz : (p.err != 0) = true := by simpa using hpe
        have HPE := Lib.hid hpe
        clear hpe
        as_aux_lemma =>
        go_wp2_with fail
        go_region_held3 (fun W' => AftK F' wr W')
          ((first | exact HKI.out | exact HKK.out _ HDD.out))
          ((go_at_call 46; refine (HPRE.out _ (KeptF.of_below HM1.out.tab.in_ HDD.out) (HM1.out.tab.below HDD.out) (HEV.out.g.below HDD.out)).mono ?_; rintro e W4 ⟨v, F4, rfl, hk4, ht4, hs4⟩; have HK4 := Lib.hid ((KeptF.of_below HM1.out.tab.in_ HDD.out).trans hk4); have HKI : Hid (AftK F' wr W4) := ⟨F4, HK4.out⟩; have HT4 := Lib.hid ht4; clear hk4 ht4 hs4))
        clear hcl0 hcl1 hld hlv
        go_wp2_with fail
        go_ret2
        have hr0 : r = ⟨st', p.err, 0⟩ := by rw [← HEQ.out, if_pos HPE.out]
        have h0 := HJ.out
        have h1 := HM1.out.tabbed HK4.out HT4.out
        have h2 : p.rows = st'.rows := by rw [← HPP.out]; exact premisesP_rows (by rw [HPP.out]; exact HPE.out)
        rw [h2] at h1
        rw [hr0]
        refine ⟨rfl, F4, G', K', h0.kept.trans (HK4.out.tab3 HM1.out.gin HM1.out.kin), ?_⟩
        have h4 := h0.vc
        have h5 := h0.lf
        rw [show vis + ((st.left - st'.left : Nat) : Int) = vis' by omega]
        exact ⟨_, _, _, h1⟩
    · as_aux_lemma =>
      obtain rfl : i = cs.length := by omega
      have h3 := HJ.out
      have HRK : Hid (r = endS st' ⟨s, false, 14, 0, stuck⟩) := by
        show r = _
        rw [← h3.eq, List.drop_length, chooseF]
      have HVI : Hid (vis' = vis + ((st.left - st'.left : Nat) : Int)) := by have h1 := h3.vc; have h2 := h3.lf; show _ = _; omega
      have HRD : Hid (Rd wr skv stuck.length 1 (kidI stuck)) := rd_own h3.chl.so.own
      clear h3
      go_wp2_with (first
        | (refine wp_loadStep (.tmp 9) rfl rfl rfl HJ.out.chl.bs (stpC_len _ _ _ _ _ _) ?_)
        | (go_at_call 47; refine (end_dec (x := ⟨s, false, 14, 0, stuck⟩) (st := st) (vis := vis) HJ.out.kept HJ.out.fin HVI.out skv hs (Nat.lt_of_lt_of_le hgl (by omega)) (by have := HJ.out.room; omega) HRD.out (fun a m c e => by have h1 := HJ.out.chl.so.own.lt a.block (by rw [e]; rfl); exact ⟨h1.2, h1.1, HJ.out.chl.so.nk a.block (by rw [e]; rfl)⟩)).mono ?_; rintro e W8 ⟨rfl, F8, G8, K8, hk8, hf8⟩; have HK8 := Lib.hid hk8; have HF8 := Lib.hid hf8; clear hk8 hf8))
      go_ret2
      rw [HRK.out]
      exact ⟨rfl, F8, G8, K8, HK8.out, HF8.out⟩
end Go.Dk
end

section
namespace Go.Dk
open Go.RowKit Go.Maps Go.MapKept
open Go.Proofs hiding intOf
theorem decide_any (pf : Nat) (t : Value) : ∀ fuel : Nat, DecOK fuel pf t := by
  intro fuel
  induction fuel with
  | zero =>
    intro F G K w st vis s h he hi wf hfu hroom hv0 hv
    have hs := wf_lt hi.ok wf
    have hg : s.goal < 2 ^ 62 := Nat.lt_of_lt_of_le wf.goal (by have := hi.ok.le; omega)
    rw [decideL]
    cases hf : findL st.steps s with
    | some i => exact decide_there F G K w pf t st vis h s hs hg i hf
    | none => exact decide_full F G K w pf t st vis h s hs hg hf (by omega)
  | succ fuel ih =>
    intro F G K w st vis s h he hi wf hfu hroom hv0 hv
    have hs := wf_lt hi.ok wf
    have hg : s.goal < 2 ^ 62 := Nat.lt_of_lt_of_le wf.goal (by have := hi.ok.le; omega)
    rw [decideL]
    cases hf : findL st.steps s with
    | some i => exact decide_there F G K w pf t st vis h s hs hg i hf
    | none =>
      simp only
      by_cases hl : st.left = 0
      · rw [if_pos hl]
        exact decide_full F G K w pf t st vis h s hs hg hf hl
      · rw [if_neg hl]
        by_cases h14 : (applyP st.rows s).1 = 14
        · rw [if_pos h14]
          exact decide_open fuel pf t (choose_any fuel pf t ih) F G K w st vis s h he hi wf hf (by omega) hfu hroom hv0 hv h14
        · rw [if_neg h14]
          by_cases hpe : (premisesP st.rows s (applyP st.rows s).1 (applyP st.rows s).2).err = 0
          · rw [if_neg (by simpa using hpe)]
            exact decide_kids fuel pf t ih F G K w st vis s h he hi wf hf (by omega) hfu hroom hv0 hv h14 hpe
          · rw [if_pos hpe]
            exact decide_perr fuel pf t ih F G K w st vis s h he hi wf hf (by omega) hfu hroom hv0 hv h14 hpe
end Go.Dk
end

section
namespace Go.Dk
open Go.RowKit Go.Maps Go.MapKept Go.Shelf
open Go.Proofs hiding intOf
attribute [local go_sem] Oper.semAt_some
structure RunF (w W5 : World) (pb m : Nat) (g : Int) : Prop where
  bel : Below w.heap.size w W5
  tb : ∀ {W}, Below W5.heap.size W5 W → BoxB W w.heap.size [.pointer (some ⟨pb, 0, none⟩)] 24
  sq : ∀ {W}, Below W5.heap.size W5 W → BoxB W (w.heap.size + 1) (seqL m g) 81
  fo : ∀ {W}, Below W5.heap.size W5 W → BoxB W (w.heap.size + 1 + 1) [.bool false, .slice none 0 0, .int .i64 0] 77
  er : ∀ {W}, Below W5.heap.size W5 W → BoxB W (w.heap.size + 1 + 1 + 1) [.int .i64 0] 32
  bits : BoxB W5 (w.heap.size + 1 + 1 + 1 + 1) (bitsV m) 72
  sz : W5.heap.size = w.heap.size + 5
theorem run_frame (w : World) (pb m : Nat) (g : Int) : RunF w (((((w.alloc (.cells #[.pointer (some ⟨pb, 0, none⟩)] 24)).alloc (.cells (seqL m g).toArray 81)).alloc (.cells #[.bool false, .slice none 0 0, .int .i64 0] 77)).alloc (.cells #[.int .i64 0] 32)).alloc (.cells (bitsV m).toArray 72)) pb m g := by
  refine ⟨below_trans (below_trans (below_trans (below_trans (below_alloc _ _) (below_alloc _ _)) (below_alloc _ _)) (below_alloc _ _)) (below_alloc _ _), fun hb => ?_, fun hb => ?_, fun hb => ?_, fun hb => ?_, ?_, by simp⟩
  · exact (((((BoxB.new w [.pointer (some ⟨pb, 0, none⟩)] 24).below (below_alloc _ (.cells (seqL m g).toArray 81))).below (below_alloc _ (.cells #[.bool false, .slice none 0 0, .int .i64 0] 77))).below (below_alloc _ (.cells #[.int .i64 0] 32))).below (below_alloc _ (.cells (bitsV m).toArray 72))).below hb
  · have h1 := ((((BoxB.new (w.alloc (.cells #[.pointer (some ⟨pb, 0, none⟩)] 24)) (seqL m g) 81).below (below_alloc _ (.cells #[.bool false, .slice none 0 0, .int .i64 0] 77))).below (below_alloc _ (.cells #[.int .i64 0] 32))).below (below_alloc _ (.cells (bitsV m).toArray 72))).below hb
    simpa using h1
  · have h1 := (((BoxB.new ((w.alloc (.cells #[.pointer (some ⟨pb, 0, none⟩)] 24)).alloc (.cells (seqL m g).toArray 81)) [.bool false, .slice none 0 0, .int .i64 0] 77).below (below_alloc _ (.cells #[.int .i64 0] 32))).below (below_alloc _ (.cells (bitsV m).toArray 72))).below hb
    simpa using h1
  · have h1 := ((BoxB.new (((w.alloc (.cells #[.pointer (some ⟨pb, 0, none⟩)] 24)).alloc (.cells (seqL m g).toArray 81)).alloc (.cells #[.bool false, .slice none 0 0, .int .i64 0] 77)) [.int .i64 0] 32).below (below_alloc _ (.cells (bitsV m).toArray 72))).below hb
    simpa using h1
  · have h1 := BoxB.new ((((w.alloc (.cells #[.pointer (some ⟨pb, 0, none⟩)] 24)).alloc (.cells (seqL m g).toArray 81)).alloc (.cells #[.bool false, .slice none 0 0, .int .i64 0] 77)).alloc (.cells #[.int .i64 0] 32)) (bitsV m) 72
    simpa using h1
theorem ite_pre {c : Prop} [Decidable c] {a b : Prem} {rows : List ND} (h1 : rows <+: a.rows) (h2 : rows <+: b.rows) : rows <+: (if c then a else b).rows := by split <;> assumption
theorem premisesP_pre (rows : List ND) (s : SQ) (k : Int) (main : Nat) : rows <+: (premisesP rows s k main).rows := by
  unfold premisesP
  simp only
  repeat' refine ite_pre ?_ ?_
  all_goals first
    | exact List.prefix_refl _
    | exact put_prefix _ _
    | exact (put_prefix _ _).trans (put_prefix _ _)
    | (refine putK_pre (List.prefix_refl _) (fun r f hr => ?_)
       first
         | exact hr
         | (refine putK_pre hr (fun r2 f2 hr2 => ?_); exact hr.trans hr2))
section
variable {dec : SR → SQ → SA} (D : ∀ st s, st.rows <+: (dec st s).st.rows)
include D
theorem kidsF_pre (s : SQ) (k : Int) (main : Nat) : ∀ (todo : List SQ) (st : SR) (kids : List Nat), st.rows <+: (kidsF dec s k main todo st kids).st.rows := by
  intro todo
  induction todo with
  | nil => intro st kids; rw [kidsF]; exact List.prefix_refl _
  | cons p t ih =>
    intro st kids
    rw [kidsF]
    split
    · exact D _ _
    · split
      · exact (D _ _).trans (ih _ _)
      · exact D _ _
theorem chooseF_pre (s : SQ) : ∀ (todo : List (Int × Nat)) (st : SR) (stuck : List Nat), st.rows <+: (chooseF dec s todo st stuck).st.rows := by
  intro todo
  induction todo with
  | nil => intro st stuck; rw [chooseF]; exact List.prefix_refl _
  | cons c t ih =>
    intro st stuck
    rw [chooseF]
    simp only
    have hp := premisesP_pre st.rows s c.1 c.2
    split
    · exact List.prefix_refl _
    · cases hs : (premisesP st.rows s c.1 c.2).seqs with
      | nil => exact hp
      | cons q more =>
        simp only
        have h1 := D ⟨(premisesP st.rows s c.1 c.2).rows, st.steps, st.left⟩ q
        have h1' := hp.trans h1
        split
        · exact h1'
        · split
          · cases more with
            | nil => exact h1'
            | cons q2 m =>
              simp only
              have h2 := h1'.trans (D (dec ⟨(premisesP st.rows s c.1 c.2).rows, st.steps, st.left⟩ q).st q2)
              split
              · exact h2
              · split <;> exact h2
          · exact h1'.trans (ih _ _)
end
theorem decideL_pre : ∀ (fuel : Nat) (st : SR) (s : SQ), st.rows <+: (decideL fuel st s).st.rows := by
  intro fuel
  induction fuel with
  | zero =>
    intro st s
    rw [decideL]
    cases findL st.steps s <;> exact List.prefix_refl _
  | succ fuel ih =>
    intro st s
    rw [decideL]
    cases findL st.steps s with
    | some i => exact List.prefix_refl _
    | none =>
      simp only
      split
      · exact List.prefix_refl _
      · split
        · exact chooseF_pre ih s (choicesP st.rows s) ⟨st.rows, st.steps, st.left - 1⟩ []
        · split
          · exact List.prefix_refl _
          · exact (premisesP_pre _ _ _ _).trans (kidsF_pre ih s _ _ _ ⟨(premisesP st.rows s (applyP st.rows s).1 (applyP st.rows s).2).rows, st.steps, st.left - 1⟩ [])
theorem KeptF.tail {F F4 : FP} {w W4 W9 : World} (h : KeptF F w F4 W4) (hb : Below w.heap.size W4 W9) : KeptF F w F4 W9 :=
  ⟨hb.os.trans h.os, hb.tape.trans h.tape, hb.output.trans h.output, Nat.le_trans h.size hb.size, h.sub, fun b hf => Nat.lt_of_lt_of_le (h.lt b hf) hb.size, fun b hb' hn => (hb.block b hb').trans (h.block b hb' hn)⟩
theorem KeptF.of_only {G : FP} {W W' : World} {c : Nat} (h : Only c W W') (hc : G c) (hi : G.in_ W) : KeptF G W G W' :=
  ⟨h.os, h.tape, h.output, Nat.le_of_eq h.size.symm, fun _ _ h => h, fun b hb => h.size ▸ hi b hb, fun b _ hn => h.block b fun e => hn (e ▸ hc)⟩
theorem KeptF.of_put {G : FP} {W : World} {D : Nat} {o : Obj} (hc : G D) (hi : G.in_ W) : KeptF G W G (W.putObj D o) :=
  ⟨rfl, rfl, rfl, (grownBy_putObj' W D o).size, fun _ _ h => h, fun b hb => Nat.lt_of_lt_of_le (hi b hb) (grownBy_putObj' W D o).size, fun b hb hn => (grownBy_putObj' W D o).block b hb fun e => hn (by cases e; exact hc)⟩
/-- What the last stores write. -/
def LastG (w : World) (D : Nat) : FP := fun c => c = w.heap.size + 1 + 1 ∨ c = w.heap.size + 1 + 1 + 1 ∨ c = D
theorem run_kept {F F4 FG G2 K2 : FP} {w W1 W3 W4 W9 : World} {D : Nat} (_hF : F.in_ w) (h1 : Below w.heap.size w W1) (h3 : Below W1.heap.size W1 W3) (hFG : ∀ c, FG c → W1.heap.size ≤ c)
    (hk : KeptF (H3 F FG FP.none) W3 (H3 F4 G2 K2) W4) (h4 : F4.in_ W4) (hD : w.heap.size ≤ D) (hg : KeptF (LastG w D) W4 (LastG w D) W9) : KeptF F w F4 W9 := by
  have hb3 := below_trans h1 h3
  have s1 := hb3.size
  have s2 := h1.size
  have s3 := hk.size
  have hno : ∀ c, c < w.heap.size → ¬ F c → ¬ H3 F FG FP.none c := fun c hc hn hh => by
    rcases hh with h | h | h
    · exact hn h
    · have := hFG c h; omega
    · exact h
  refine KeptF.tail (W4 := W4) ⟨hk.os.trans hb3.os, hk.tape.trans hb3.tape, hk.output.trans hb3.output, by omega, fun c hc hf => ?_, h4, fun c hc hn => (hk.block c (by omega) (hno c hc hn)).trans (hb3.block c hc)⟩ (hg.below (by omega) fun c hc hh => ?_)
  · apply Classical.byContradiction
    intro hn
    exact hno c hc hn (hk.sub c (by omega) (.inl hf))
  · rcases hh with h | h | h <;> omega
theorem run_apart {F F4 FG G2 K2 : FP} {w W1 W3 W4 : World} {D : Nat} (h3 : Below W1.heap.size W1 W3) (hk : KeptF (H3 F FG FP.none) W3 (H3 F4 G2 K2) W4) (hn : ∀ c, w.heap.size ≤ c → c < W1.heap.size → ¬ H3 F FG FP.none c) (hs : w.heap.size + 5 ≤ W1.heap.size) (hD : w.heap.size ≤ D) (hD2 : D < W1.heap.size) :
    (H3 F4 G2 K2).apart (LastG w D) := fun c hc hl => by
  have s1 := h3.size
  have hlt : w.heap.size ≤ c ∧ c < W1.heap.size := by rcases hl with h | h | h <;> omega
  exact hn c hlt.1 hlt.2 (hk.sub c (by omega) hc)
theorem lastG_in {w W1 W3 W4 : World} {D : Nat} {H H' : FP} (h3 : Below W1.heap.size W1 W3) (hk : KeptF H W3 H' W4) (hs : w.heap.size + 5 ≤ W1.heap.size) (hD2 : D < W1.heap.size) : (LastG w D).in_ W4 := fun c hl => by
  have s1 := h3.size
  have s2 := hk.size
  rcases hl with h | h | h <;> omega
theorem KeptF.setG {G H : FP} {W W' : World} (h : KeptF H W G W') {c : Nat} (hc : G c) (i : Nat) (v : Value) : KeptF H W G (W'.setCell ⟨c, i, none⟩ v) := h.trans (KeptF.of_only (only_setCell W' c i v) hc h.lt)
theorem KeptF.drewG {G H : FP} {W W' : World} (h : KeptF H W G W') : KeptF H W G W'.drew := h.trans (KeptF.of_below h.lt (below_drewN W' 1))
/-- Steps that can be read. -/
def StepsR (w : World) (sv : Value) (steps : List SS) : Prop := ∃ kvs K, steps.length = kvs.length ∧ w.ownsRow 0 102 21 sv steps.length (stepsL steps kvs) ∧ ∀ (i : Nat) (x : SS) (v : Value), steps[i]? = some x → kvs[i]? = some v → KidV K w v x.kids
def RunPost (F : FP) (w : World) (t : Value) (rows : List ND) (b : Nat) (r : SA) (e : Ending) (w' : World) : Prop :=
  ∃ F', KeptF F w F' w' ∧ (r.err = 0 → ∃ sv, e = .returned (.tuple #[.agg #[.bool (provedAt r.st r.at_), sv, .int .i64 ((b - r.st.left : Nat) : Int)], .int .i64 0]) ∧ TabF F' w' t r.st.rows ∧ StepsR w' sv r.st.steps) ∧
    (r.err ≠ 0 → e = .returned (.tuple #[.agg #[.bool false, .slice none 0 0, .int .i64 0], .int .i64 r.err]) ∧ TabF F' w' t rows)
theorem fin_new {F : FP} {w W5 W1 : World} {pb : Nat} {rows : List ND} {s : SQ} {b : Nat} (hF : TabF F w (.pointer (some ⟨pb, 0, none⟩)) rows) (_hs : Wf rows s) (h5 : Below w.heap.size w W5) (h1 : Below W5.heap.size W5 W1) (_hb : 1 ≤ b) :
    Fin F (fun c => c = W1.heap.size ∨ c = W1.heap.size + 1) FP.none ((W1.alloc (.map #[] 0)).alloc (.cells #[.pointer (some ⟨pb, 0, none⟩), .slice none 0 0, .map (some W1.heap.size), .int .i64 (b : Int), .int .i64 0] 98)) (W1.heap.size + 1) (.pointer (some ⟨pb, 0, none⟩)) ⟨rows, [], b⟩ 0 := by
  have hB := below_trans (below_trans (below_trans h5 h1) (below_alloc W1 (.map #[] 0))) (below_alloc _ (.cells #[.pointer (some ⟨pb, 0, none⟩), .slice none 0 0, .map (some W1.heap.size), .int .i64 (b : Int), .int .i64 0] 98))
  have hz := (below_trans h5 h1).size
  refine ⟨.slice none 0 0, W1.heap.size, [], hF.below hB, fun c hc => by rcases hc with rfl | rfl <;> simp <;> omega, fun _ h => h.elim, fun c hf hc => by have := hF.in_ _ hf; rcases hc with rfl | rfl <;> omega, fun _ h => h.elim, fun _ h => h.elim, heap_alloc_new' _ _ (by simp), World.ownsRow_nil _ _ _ _, rfl, fun i x v hx => by simp at hx, ?_, .inr rfl, .inl rfl, fun g hg => by simp [Value.ownBlock] at hg⟩
  exact (TM.made Tryd.prog 81 SQ.val natV W1).below (below_alloc _ _)
set_option maxRecDepth 100000 in
set_option maxHeartbeats 4000000 in
theorem run_any (F : FP) (w : World) (t : Value) (rows : List ND) (hF : TabF F w t rows) (hT : TabG w) (hF0 : ¬ F 0) (s : SQ) (hs : Wf rows s) (b : Nat) (hb1 : 1 ≤ b) (hb2 : b ≤ 4096) (r : SA) (hr : decideL b ⟨rows, [], b⟩ s = r) :
    Calls Tryd.prog 28 #[t, .agg (seqL s.left s.goal).toArray, .int .i64 (b : Int)] w (RunPost F w t rows b r) := by
  obtain ⟨pb, rfl⟩ : ∃ pb, t = .pointer (some ⟨pb, 0, none⟩) := by obtain ⟨pb, _, _, e, _⟩ := hF.col 0; exact ⟨pb, e⟩
  have H := Lib.hid (hF.col 0); have HT := Lib.hid hT; have HW := Lib.hid hs; have HF := Lib.hid hF; have HR := Lib.hid hr; have HF0 := Lib.hid hF0
  clear hF hT hs hr hF0
  refine (callsIn_wide (n := 8)).1 ?_
  refine callsIn_of_wp_marks Tryd.func28 rfl trivial ?_ rfl
  simp only [Tryd.ntmps28, List.size_toArray, List.length_cons, List.length_nil, Nat.reduceAdd, Nat.reduceSub, Array.replicate_succ, Array.replicate_zero, List.push_toArray, List.append_toArray, List.nil_append, List.cons_append]
  have HQ : Hid (∀ o o2, BoxB ((((w.alloc (.cells #[.pointer (some ⟨pb, 0, none⟩)] 24)).alloc (.cells (seqL s.left s.goal).toArray 81)).alloc o).alloc o2) (w.heap.size + 1) (seqL s.left s.goal) 81) := fun o o2 => by
    have := ((BoxB.new (w.alloc (.cells #[.pointer (some ⟨pb, 0, none⟩)] 24)) (seqL s.left s.goal) 81).below (below_alloc _ o)).below (below_alloc _ o2)
    simpa using this
  gi_wp2_with (first
    | (refine ⟨trivial, ?_⟩; gi_at_call 22; go_loud (refine (callsIn_wide.2 (not_out 0 _ _ _ rows (H.out.below (below_trans (below_trans (below_trans (below_alloc _ _) (below_alloc _ _)) (below_alloc _ _)) (below_alloc _ _))) (-1) (by simp [hasB]))).mono ?_; rintro e w2 ⟨rfl, rfl⟩))
    | (refine wpIn_loadLeft (.tmp 24) rfl rfl rfl (HQ.out _ _) ?_)
    | (refine ⟨trivial, ?_⟩; gi_at_call 38; refine (all_wide _ _).mono ?_; rintro e w5 ⟨rfl, rfl⟩))
  have HFR := Lib.hid (run_frame w pb s.left s.goal)
  generalize (((((w.alloc (.cells #[.pointer (some ⟨pb, 0, none⟩)] 24)).alloc (.cells (seqL s.left s.goal).toArray 81)).alloc (.cells #[.bool false, .slice none 0 0, .int .i64 0] 77)).alloc (.cells #[.int .i64 0] 32)).alloc (.cells (bitsV s.left).toArray 72)) = W5 at *
  have HS : Hid (∀ g, (g = 0 ∨ g = w.heap.size + 1 + 1 + 1 + 1) → g < W5.heap.size) := fun g hg => by
    have h1 := HFR.out.sz
    rcases hg with rfl | rfl <;> omega
  clear HQ
  refine' wpIn_rangeFunc_ownG (I := fun _ W => Below W5.heap.size W5 W) (Ix := fun _ _ _ => False) (Kp := HoldS fun g => g = 0 ∨ g = w.heap.size + 1 + 1 + 1 + 1)
    rfl (by omega) (gf := 42) (lb := #[.pointer (some ⟨w.heap.size + 1 + 1 + 1 + 1, 0, none⟩)]) rfl trivial (enters_of Tryd.func42 (by kernel_rfl) rfl)
    (all_stops _ (by omega) (w.heap.size + 1 + 1 + 1 + 1) s.left _ (.inl rfl) (.inr rfl) W5 HS.out (HT.out.below HFR.out.bel) HFR.out.bits) holdS_t (holdS_b HS.out) (Below.refl _ _) (fun _ => rfl) (ownFrom_below (Nat.le_refl _) (Nat.le_refl _)) (fun _ _ _ _ _ hs _ _ => hs) (Below.refl _ _) _ ?assign ?body ?done ?stop
  case assign =>
    intro l x W K hK
    unfold memV
    gi_wp2
    exact hK
  case stop => rintro _ _ _ _ _ _ h _; exact h.elim
  case body =>
    rintro l pre x W hI hlt
    have HI := Lib.hid hI
    have hlt : x.1 < rows.length := HW.out.left _ x.2.2
    have hc : ((x.1 : Int) < (rows.length : Int)) := by omega
    have c1 : W.cell? ⟨w.heap.size, 0, none⟩ = some (.pointer (some ⟨pb, 0, none⟩)) := (HFR.out.tb hI).cell (i := 0) rfl
    clear hI
    gi_wp2_with (refine ⟨trivial, ?_⟩; gi_at_call 16; refine (CallsIn.inRound l (callsIn_wide.2 (len_any 0 _ _ _ rows (H.out.below (below_trans HFR.out.bel HI.out))))).mono ?_; rintro e w6 ⟨rfl, rfl⟩)
    exact ⟨KeepsFrom.refl _ _, holdS_refl _ _, HI.out⟩
  case done =>
    rintro D ys W hD hys hI hK
    have HI := Lib.hid hI
    have c1 : W.cell? ⟨w.heap.size, 0, none⟩ = some (.pointer (some ⟨pb, 0, none⟩)) := (HFR.out.tb hI).cell (i := 0) rfl
    have c16 := (HFR.out.sq hI).cell (seqL_goal s.left s.goal)
    have HTL : Hid (∀ n, Tab 0 (colF F 0) (W.drewN n) (.pointer (some ⟨pb, 0, none⟩)) rows) := fun n => H.out.below (below_trans (below_trans HFR.out.bel hI) (below_drewN W n))
    have hg : (s.goal : Int) < (rows.length : Int) := by have := HW.out.goal; omega
    have hg0 : ¬ ((s.goal : Int) < 0) := by omega
    have hgd : decide ((s.goal : Int) < 0) = false := decide_eq_false hg0
    have hge : decide ((rows.length : Int) ≤ (s.goal : Int)) = false := decide_eq_false (by omega)
    have HLW : Hid (∀ a, CallsIn Fence.wide 7 Tryd.prog 16 #[.pointer (some ⟨pb, 0, none⟩)] (W.drewN a) fun e w'' => e = .returned (.int .i64 (rows.length : Int)) ∧ ∃ n, w'' = W.drewN n) := fun a =>
      CallsIn.quiet_of_same ((callsIn_wide.2 (len_any 0 _ _ _ rows (HTL.out a))).mono fun e w' ⟨h1, h2⟩ => ⟨h1, h2.symm⟩)
    clear hI
    gi_wp2
    refine wpIn_region_quiet_lit rfl (by kernel_rfl) (by kernel_rfl) ?_
    repeat (
      refine wpQuietIn_step (by unfold Oper.askedIn; intros; trivial) (fun K hK => ?_)
      go_simp
      first
        | (refine hK _ ?_; clear hK K)
        | (apply Exists.intro
           refine ⟨fun _ => ?_, hK _ ?_⟩
           (exact HLW.out _)
           clear hK K))
    refine wpQuietIn_nil ?_
    intro _ hw'
    obtain ⟨nq, hw''⟩ := hw'
    subst hw''
    have HB1 := Lib.hid (below_trans HI.out (below_drewN W nq))
    have hK1 : (W.drewN nq).heap[D]? = some (.deferred (some [])) := by simpa using hK
    have HKD := Lib.hid hK1
    clear c1 c16 HTL HLW hK hK1
    generalize W.drewN nq = W1 at *
    have c1 : W1.cell? ⟨w.heap.size, 0, none⟩ = some (.pointer (some ⟨pb, 0, none⟩)) := (HFR.out.tb HB1.out).cell (i := 0) rfl
    have hbl : decide ((b : Int) < 1) = false := decide_eq_false (by omega)
    have hbg : decide ((4096 : Int) < (b : Int)) = false := decide_eq_false (by omega)
    have hbl2 : ¬ ((b : Int) < 1) := by omega
    have hbg2 : ¬ ((4096 : Int) < (b : Int)) := by omega
    have hbg3 : decide (4096 < b) = false := decide_eq_false (by omega)
    have hbl3 : decide (b < 1) = false := decide_eq_false (by omega)
    have hbl4 : decide (b = 0) = false := decide_eq_false (by omega)
    have hbl5 : ¬ b = 0 := by omega
    have hbg4 : ¬ 4096 < b := by omega
    have hmm := @run_makeMap Tryd.prog
    have hnew := Lib.hid (fin_new HF.out HW.out HFR.out.bel HB1.out hb1)
    have HF3 : Hid (BoxB ((W1.alloc (.map #[] 0)).alloc (.cells #[.pointer (some ⟨pb, 0, none⟩), .slice none 0 0, .map (some W1.heap.size), .int .i64 (b : Int), .int .i64 0] 98)) (w.heap.size + 1) (seqL s.left s.goal) 81) := ((HFR.out.sq HB1.out).below (below_alloc _ _)).below (below_alloc _ _)
    have HZ : Hid (W5.heap.size ≤ W1.heap.size) := HB1.out.size
    have HINV : Hid (InvS ⟨rows, [], b⟩) := ⟨HF.out.ok, fun x hx => by cases hx⟩
    obtain ⟨FG, hFG⟩ : ∃ FG : FP, FG = fun c => c = W1.heap.size ∨ c = W1.heap.size + 1 := ⟨_, rfl⟩
    have HFIN : Hid (Fin F FG FP.none ((W1.alloc (.map #[] 0)).alloc (.cells #[.pointer (some ⟨pb, 0, none⟩), .slice none 0 0, .map (some W1.heap.size), .int .i64 (b : Int), .int .i64 0] 98)) (W1.heap.size + 1) (.pointer (some ⟨pb, 0, none⟩)) ⟨rows, [], b⟩ 0) := hFG ▸ hnew.out
    have HENV : Hid (FEnv F FG FP.none ((W1.alloc (.map #[] 0)).alloc (.cells #[.pointer (some ⟨pb, 0, none⟩), .slice none 0 0, .map (some W1.heap.size), .int .i64 (b : Int), .int .i64 0] 98))) := by
      refine ⟨HT.out.below (below_trans (below_trans (below_trans HFR.out.bel HB1.out) (below_alloc _ _)) (below_alloc _ _)), ?_⟩
      rintro (h | h | h)
      · exact HF0.out h
      · have := HFR.out.sz
        have := HZ.out
        rw [hFG] at h
        rcases h with h | h <;> omega
      · exact h
    have HDEC := Lib.hid (decide_any (W1.heap.size + 1) (.pointer (some ⟨pb, 0, none⟩)) b F FG FP.none _ ⟨rows, [], b⟩ 0 s HFIN.out HENV.out HINV.out HW.out (Nat.le_refl _) (by simp; omega) (by omega) (by simp; omega))
    rw [HR.out] at HDEC
    have HFGD := Lib.hid hFG
    clear hnew hFG
    have HDLT : Hid (D < W1.heap.size) := lt_of_block HKD.out
    have HPRE : Hid (rows <+: r.st.rows) := by have := decideL_pre b ⟨rows, [], b⟩ s; rw [HR.out] at this; exact this
    have HNB : Hid (∀ c, w.heap.size ≤ c → c < W1.heap.size → ¬ H3 F FG FP.none c) := fun c h1 h2 => by
      rintro (h | h | h)
      · have := HF.out.in_ _ h; omega
      · rw [HFGD.out] at h; rcases h with h | h <;> omega
      · exact h
    have HA3 : Hid (Below W1.heap.size W1 ((W1.alloc (.map #[] 0)).alloc (.cells #[.pointer (some ⟨pb, 0, none⟩), .slice none 0 0, .map (some W1.heap.size), .int .i64 (b : Int), .int .i64 0] 98))) := below_trans (below_alloc _ _) (below_alloc _ _)
    by_cases hz : r.err = 0
    · have hz2 : (r.err != 0) = false := by simpa using hz
      have HZR := Lib.hid hz
      have HGA : Hid (GoodA ⟨rows, [], b⟩ s r) := by
        have := decideL_ok b ⟨rows, [], b⟩ s HINV.out HW.out
        rw [HR.out] at this
        exact this hz
      have HAT : Hid (r.at_ < r.st.steps.length) := by
        obtain ⟨x, hx, _⟩ := HGA.out.ans
        exact (List.getElem?_eq_some_iff.1 hx).1
      have HS5 : w.heap.size + 5 ≤ W1.heap.size := by have := HFR.out.sz; have := HZ.out; omega
      clear hz
      gi_wp2_with (first
        | (refine ⟨trivial, ?_⟩; gi_at_call 16; refine (callsIn_wide.2 (len_any 0 _ _ _ rows (H.out.below (below_trans HFR.out.bel HB1.out)))).mono ?_; rintro e w6 ⟨rfl, rfl⟩)
        | (refine wpIn_loadSeq (.tmp 4) rfl rfl rfl HF3.out ?_)
        | (refine ⟨trivial, ?_⟩; gi_at_call 39; refine (callsIn_wide.2 HDEC.out).mono ?_; rintro e W2 ⟨rfl, F2, G2, K2, hk2, hf2⟩; have HK2 := Lib.hid hk2; have HF2 := Lib.hid hf2; clear hk2 hf2
           obtain ⟨sv2, mb2, kvs2, hm2⟩ := HF2.out; have HM2 := Lib.hid hm2; clear hm2
           obtain ⟨g2, q2, hsv, cg⟩ := fin_proved HM2.out HAT.out; subst hsv
           have p1 : W2.cell? ⟨W1.heap.size + 1, 1, none⟩ = some (.slice (some ⟨g2, 0, none⟩) r.st.steps.length q2) := cell_of HM2.out.blk rfl
           have p4 : W2.cell? ⟨W1.heap.size + 1, 4, none⟩ = some (.int .i64 (0 + ((b - r.st.left : Nat) : Int))) := cell_of HM2.out.blk rfl
           have KFO : BoxB W2 (w.heap.size + 1 + 1) [.bool false, .slice none 0 0, .int .i64 0] 77 := HK2.out.box ((HFR.out.fo HB1.out).below HA3.out) (HNB.out _ (by omega) (by omega))
           have KER : BoxB W2 (w.heap.size + 1 + 1 + 1) [.int .i64 0] 32 := HK2.out.box ((HFR.out.er HB1.out).below HA3.out) (HNB.out _ (by omega) (by omega))
           have c60 := KFO.cell (i := 0) rfl; have c61 := KFO.cell (i := 1) rfl; have c62 := KFO.cell (i := 2) rfl; have f60 := KFO.fr 0; have f61 := KFO.fr 1; have f62 := KFO.fr 2; have c70 := KER.cell (i := 0) rfl; have f70 := KER.fr 0))
      have hat : r.at_ < r.st.steps.length := HAT.out
      have hle : r.st.steps.length < 2 ^ 62 := by
        have := (decideL_room b ⟨rows, [], b⟩ s).len
        rw [HR.out] at this
        simp only [List.length_nil] at this
        omega
      have HDW : w.heap.size ≤ D := by have := HFR.out.sz; omega
      have hGI : (LastG w D).in_ W2 := lastG_in HA3.out HK2.out HS5 HDLT.out
      have HAP := run_apart HA3.out HK2.out HNB.out HS5 HDW HDLT.out
      have hG : ∀ c, G2 c → ¬ LastG w D c := fun c hc => HAP c (.inr (.inl hc))
      have l1 : ∀ W', KeptF (LastG w D) W2 (LastG w D) W' → W'.cell? ⟨W1.heap.size + 1, 1, none⟩ = some (.slice (some ⟨g2, 0, none⟩) r.st.steps.length q2) := fun W' hk => hk.cell p1 (hG _ HM2.out.gp)
      have l4 : ∀ W', KeptF (LastG w D) W2 (LastG w D) W' → W'.cell? ⟨W1.heap.size + 1, 4, none⟩ = some (.int .i64 (0 + ((b - r.st.left : Nat) : Int))) := fun W' hk => hk.cell p4 (hG _ HM2.out.gp)
      have lg : ∀ W', KeptF (LastG w D) W2 (LastG w D) W' → W'.cell? ⟨g2, r.at_ * 21 + 17, none⟩ = some (.bool (provedAt r.st r.at_)) := fun W' hk => hk.cell cg (hG _ (HM2.out.gs _ rfl))
      have HGR : Hid (KeptF (LastG w D) W2 (LastG w D) W2) := KeptF.refl hGI
      clear hG
      refine wpIn_wide.2 ?_
      go_region_held3 (fun W' => KeptF (LastG w D) W2 (LastG w D) W') ((repeat (first | exact HGR.out | refine KeptF.drewG ?_ | (refine KeptF.setG ?_ (.inl rfl) _ _) | (refine KeptF.setG ?_ (.inr (.inl rfl)) _ _)))) ((fail))
      gi_wp2
      have HFGB : ∀ c, FG c → W1.heap.size ≤ c := fun c hc => by rw [HFGD.out] at hc; rcases hc with h | h <;> omega
      have K6 := ((((KFO.set 0 (.bool (provedAt r.st r.at_))).set 1 (.slice (some ⟨g2, 0, none⟩) r.st.steps.length q2)).set 2 (.int .i64 ((b - r.st.left : Nat) : Int))).other (c := w.heap.size + 1 + 1 + 1) (by omega) 0 (.int .i64 0)).below (below_drewN _ 1)
      have K7 := ((((KER.other (c := w.heap.size + 1 + 1) (by omega) 0 (.bool (provedAt r.st r.at_))).other (c := w.heap.size + 1 + 1) (by omega) 1 (.slice (some ⟨g2, 0, none⟩) r.st.steps.length q2)).other (c := w.heap.size + 1 + 1) (by omega) 2 (.int .i64 ((b - r.st.left : Nat) : Int))).set 0 (.int .i64 0)).below (below_drewN _ 1)
      have hKD2 : W2.heap[D]? = some (.deferred (some [])) := HK2.out.box ((HA3.out.block D HDLT.out).trans HKD.out) (HNB.out D HDW HDLT.out)
      have hK8 : (((((W2.setCell ⟨w.heap.size + 1 + 1, 0, none⟩ (.bool (provedAt r.st r.at_))).setCell ⟨w.heap.size + 1 + 1, 1, none⟩ (.slice (some ⟨g2, 0, none⟩) r.st.steps.length q2)).setCell ⟨w.heap.size + 1 + 1, 2, none⟩ (.int .i64 ((b - r.st.left : Nat) : Int))).setCell ⟨w.heap.size + 1 + 1 + 1, 0, none⟩ (.int .i64 0)).drew).heap[D]? = some (.deferred (some [])) :=
        ((((KeepsOthers.setCell _ _ _).trans (KeepsOthers.setCell _ _ _)).trans (KeepsOthers.setCell _ _ _)).trans (KeepsOthers.setCell _ _ _)).same D _ hKD2 rfl
      have HKG : KeptF (LastG w D) W2 (LastG w D) (((((W2.setCell ⟨w.heap.size + 1 + 1, 0, none⟩ (.bool (provedAt r.st r.at_))).setCell ⟨w.heap.size + 1 + 1, 1, none⟩ (.slice (some ⟨g2, 0, none⟩) r.st.steps.length q2)).setCell ⟨w.heap.size + 1 + 1, 2, none⟩ (.int .i64 ((b - r.st.left : Nat) : Int))).setCell ⟨w.heap.size + 1 + 1 + 1, 0, none⟩ (.int .i64 0)).drew) := KeptF.drewG (KeptF.setG (KeptF.setG (KeptF.setG (KeptF.setG HGR.out (.inl rfl) _ _) (.inl rfl) _ _) (.inl rfl) _ _) (.inr (.inl rfl)) _ _)
      clear c60 c61 c62 f60 f61 f62 c70 f70 l1 l4 lg p1 p4 cg
      have K6' : BoxB (((((W2.setCell ⟨w.heap.size + 1 + 1, 0, none⟩ (.bool (provedAt r.st r.at_))).setCell ⟨w.heap.size + 1 + 1, 1, none⟩ (.slice (some ⟨g2, 0, none⟩) r.st.steps.length q2)).setCell ⟨w.heap.size + 1 + 1, 2, none⟩ (.int .i64 ((b - r.st.left : Nat) : Int))).setCell ⟨w.heap.size + 1 + 1 + 1, 0, none⟩ (.int .i64 0)).drew) (w.heap.size + 1 + 1) [.bool (provedAt r.st r.at_), .slice (some ⟨g2, 0, none⟩) r.st.steps.length q2, .int .i64 ((b - r.st.left : Nat) : Int)] 77 := K6
      have K7' : BoxB (((((W2.setCell ⟨w.heap.size + 1 + 1, 0, none⟩ (.bool (provedAt r.st r.at_))).setCell ⟨w.heap.size + 1 + 1, 1, none⟩ (.slice (some ⟨g2, 0, none⟩) r.st.steps.length q2)).setCell ⟨w.heap.size + 1 + 1, 2, none⟩ (.int .i64 ((b - r.st.left : Nat) : Int))).setCell ⟨w.heap.size + 1 + 1 + 1, 0, none⟩ (.int .i64 0)).drew) (w.heap.size + 1 + 1 + 1) [.int .i64 0] 32 := K7
      clear K6 K7
      generalize (((((W2.setCell ⟨w.heap.size + 1 + 1, 0, none⟩ (.bool (provedAt r.st r.at_))).setCell ⟨w.heap.size + 1 + 1, 1, none⟩ (.slice (some ⟨g2, 0, none⟩) r.st.steps.length q2)).setCell ⟨w.heap.size + 1 + 1, 2, none⟩ (.int .i64 ((b - r.st.left : Nat) : Int))).setCell ⟨w.heap.size + 1 + 1 + 1, 0, none⟩ (.int .i64 0)).drew) = W8 at *
      have HK9 := HKG.trans (KeptF.of_put (o := .deferred none) (.inr (.inr rfl)) HKG.lt)
      have g6 := K6'.grown (grownBy_putObj' W8 D (.deferred none)) (fun r e => by cases e; exact ⟨_, hK8, rfl⟩)
      have g7 := K7'.grown (grownBy_putObj' W8 D (.deferred none)) (fun r e => by cases e; exact ⟨_, hK8, rfl⟩)
      have d0 := g6.cell (i := 0) rfl; have d1 := g6.cell (i := 1) rfl; have d2 := g6.cell (i := 2) rfl; have d3 := g7.cell (i := 0) rfl
      have HSR : StepsR (W8.putObj D (.deferred none)) (.slice (some ⟨g2, 0, none⟩) r.st.steps.length q2) r.st.steps :=
        ⟨kvs2, K2, HM2.out.len, own_same HM2.out.row (fun g hg => HK9.block g (HM2.out.gin g (HM2.out.gs g hg)) (HAP g (.inr (.inl (HM2.out.gs g hg))))), fun i x v hx hv => (HM2.out.kid i x v hx hv).same (fun c hk => HK9.block c (HM2.out.kin c hk) (HAP c (.inr (.inr hk)))) (fun _ h => h)⟩
      have HFIN4 : RunPost F w (.pointer (some ⟨pb, 0, none⟩)) rows b r (.returned (.tuple #[.agg #[.bool (provedAt r.st r.at_), .slice (some ⟨g2, 0, none⟩) r.st.steps.length q2, .int .i64 ((b - r.st.left : Nat) : Int)], .int .i64 0])) (W8.putObj D (.deferred none)) :=
        ⟨F2, run_kept HF.out.in_ (below_trans HFR.out.bel HB1.out) HA3.out HFGB HK2.out HM2.out.tab.in_ HDW HK9, fun _ => ⟨_, rfl, HM2.out.tab.kept HK9 fun c hc => HAP c (.inl hc), HSR⟩, fun h => absurd HZR.out h⟩
      refine ⟨by simp, .inl ⟨_, _, rfl, run_takeDeferred hK8, ?_⟩⟩
      exact ⟨.tuple #[.agg #[.bool (provedAt r.st r.at_), .slice (some ⟨g2, 0, none⟩) r.st.steps.length q2, .int .i64 ((b - r.st.left : Nat) : Int)], .int .i64 0], by simp [results, Tryd.results28, go_sem, d0, d1, d2, d3], HFIN4⟩
    · have hz2 : (r.err != 0) = true := by simpa using hz
      have HZR := Lib.hid hz
      clear hz
      gi_wp2_with (first
        | (refine ⟨trivial, ?_⟩; gi_at_call 16; refine (callsIn_wide.2 (len_any 0 _ _ _ rows (H.out.below (below_trans HFR.out.bel HB1.out)))).mono ?_; rintro e w6 ⟨rfl, rfl⟩)
        | (refine wpIn_loadSeq (.tmp 4) rfl rfl rfl HF3.out ?_)
        | (refine ⟨trivial, ?_⟩; gi_at_call 39; refine (callsIn_wide.2 HDEC.out).mono ?_; rintro e W2 ⟨rfl, F2, G2, K2, hk2, hf2⟩; have HK2 := Lib.hid hk2; have HF2 := Lib.hid hf2; clear hk2 hf2; have c1 : W2.cell? ⟨w.heap.size, 0, none⟩ = some (.pointer (some ⟨pb, 0, none⟩)) := BoxB.cell (HK2.out.box ((HFR.out.tb HB1.out).below HA3.out) (HNB.out _ (Nat.le_refl _) (by have := HFR.out.sz; have := HZ.out; omega))) (i := 0) rfl)
        | (refine ⟨trivial, ?_⟩; gi_at_call 18; obtain ⟨sv2, mb2, kvs2, hm2⟩ := HF2.out; have HM2 := Lib.hid hm2; clear hm2; refine (callsIn_wide.2 (cut_F HM2.out.tab (rows.length : Int))).mono ?_; rintro e W4 ⟨rfl, F4, hk4, ht4⟩; rw [cut_back HPRE.out] at ht4; have HK4 := Lib.hid (HK2.out.trans (hk4.tab3 HM2.out.gin HM2.out.kin)); have HT4 := Lib.hid ht4; have HO4 := Lib.hid hk4; clear hk4 ht4
           have KFO : BoxB W4 (w.heap.size + 1 + 1) [.bool false, .slice none 0 0, .int .i64 0] 77 := HK4.out.box ((HFR.out.fo HB1.out).below HA3.out) (HNB.out _ (by omega) (by have := HFR.out.sz; have := HZ.out; omega))
           have KER : BoxB W4 (w.heap.size + 1 + 1 + 1) [.int .i64 0] 32 := HK4.out.box ((HFR.out.er HB1.out).below HA3.out) (HNB.out _ (by omega) (by have := HFR.out.sz; have := HZ.out; omega))
           have c60 := KFO.cell (i := 0) rfl; have c61 := KFO.cell (i := 1) rfl; have c62 := KFO.cell (i := 2) rfl; have f60 := KFO.fr 0; have f61 := KFO.fr 1; have f62 := KFO.fr 2; have c70 := KER.cell (i := 0) rfl; have f70 := KER.fr 0))
      have HS5 : w.heap.size + 5 ≤ W1.heap.size := by have := HFR.out.sz; have := HZ.out; omega
      have HDW : w.heap.size ≤ D := by have := HFR.out.sz; omega
      have HFGB : ∀ c, FG c → W1.heap.size ≤ c := fun c hc => by rw [HFGD.out] at hc; rcases hc with h | h <;> omega
      have K6 := (((KFO.set 0 (.bool false)).set 1 (.slice none 0 0)).set 2 (.int .i64 0)).other (c := w.heap.size + 1 + 1 + 1) (by omega) 0 (.int .i64 r.err)
      have K7 := (((KER.other (c := w.heap.size + 1 + 1) (by omega) 0 (.bool false)).other (c := w.heap.size + 1 + 1) (by omega) 1 (.slice none 0 0)).other (c := w.heap.size + 1 + 1) (by omega) 2 (.int .i64 0)).set 0 (.int .i64 r.err)
      have hKD4 : W4.heap[D]? = some (.deferred (some [])) := HK4.out.box ((HA3.out.block D HDLT.out).trans HKD.out) (HNB.out D HDW HDLT.out)
      have hGI : (LastG w D).in_ W4 := lastG_in HA3.out HK4.out HS5 HDLT.out
      have hK8 : ((((W4.setCell ⟨w.heap.size + 1 + 1, 0, none⟩ (.bool false)).setCell ⟨w.heap.size + 1 + 1, 1, none⟩ (.slice none 0 0)).setCell ⟨w.heap.size + 1 + 1, 2, none⟩ (.int .i64 0)).setCell ⟨w.heap.size + 1 + 1 + 1, 0, none⟩ (.int .i64 r.err)).heap[D]? = some (.deferred (some [])) :=
        ((((KeepsOthers.setCell _ _ _).trans (KeepsOthers.setCell _ _ _)).trans (KeepsOthers.setCell _ _ _)).trans (KeepsOthers.setCell _ _ _)).same D _ hKD4 rfl
      have HKG : KeptF (LastG w D) W4 (LastG w D) ((((W4.setCell ⟨w.heap.size + 1 + 1, 0, none⟩ (.bool false)).setCell ⟨w.heap.size + 1 + 1, 1, none⟩ (.slice none 0 0)).setCell ⟨w.heap.size + 1 + 1, 2, none⟩ (.int .i64 0)).setCell ⟨w.heap.size + 1 + 1 + 1, 0, none⟩ (.int .i64 r.err)) := by
        have k1 := KeptF.of_only (only_setCell W4 (w.heap.size + 1 + 1) 0 (.bool false)) (.inl rfl) hGI
        have k2 := k1.trans (KeptF.of_only (only_setCell _ (w.heap.size + 1 + 1) 1 (.slice none 0 0)) (.inl rfl) k1.lt)
        have k3 := k2.trans (KeptF.of_only (only_setCell _ (w.heap.size + 1 + 1) 2 (.int .i64 0)) (.inl rfl) k2.lt)
        exact k3.trans (KeptF.of_only (only_setCell _ (w.heap.size + 1 + 1 + 1) 0 (.int .i64 r.err)) (.inr (.inl rfl)) k3.lt)
      clear c60 c61 c62 f60 f61 f62 c70 f70
      generalize ((((W4.setCell ⟨w.heap.size + 1 + 1, 0, none⟩ (.bool false)).setCell ⟨w.heap.size + 1 + 1, 1, none⟩ (.slice none 0 0)).setCell ⟨w.heap.size + 1 + 1, 2, none⟩ (.int .i64 0)).setCell ⟨w.heap.size + 1 + 1 + 1, 0, none⟩ (.int .i64 r.err)) = W8 at *
      have HK9 := HKG.trans (KeptF.of_put (o := .deferred none) (.inr (.inr rfl)) HKG.lt)
      have g6 := K6.grown (grownBy_putObj' W8 D (.deferred none)) (fun r e => by cases e; exact ⟨_, hK8, rfl⟩)
      have g7 := K7.grown (grownBy_putObj' W8 D (.deferred none)) (fun r e => by cases e; exact ⟨_, hK8, rfl⟩)
      have d0 := g6.cell (i := 0) rfl; have d1 := g6.cell (i := 1) rfl; have d2 := g6.cell (i := 2) rfl; have d3 := g7.cell (i := 0) rfl
      have HAP := run_apart HA3.out HK4.out HNB.out HS5 HDW HDLT.out
      have HFIN4 : RunPost F w (.pointer (some ⟨pb, 0, none⟩)) rows b r (.returned (.tuple #[.agg #[.bool false, .slice none 0 0, .int .i64 0], .int .i64 r.err])) (W8.putObj D (.deferred none)) :=
        ⟨F4, run_kept HF.out.in_ (below_trans HFR.out.bel HB1.out) HA3.out HFGB HK4.out HT4.out.in_ HDW HK9, fun h => absurd h HZR.out, fun _ => ⟨rfl, HT4.out.kept HK9 fun c hc => HAP c (.inl hc)⟩⟩
      refine ⟨by simp, .inl ⟨_, _, rfl, run_takeDeferred hK8, ?_⟩⟩
      exact ⟨.tuple #[.agg #[.bool false, .slice none 0 0, .int .i64 0], .int .i64 r.err], by simp [results, Tryd.results28, go_sem, d0, d1, d2, d3], HFIN4⟩
end Go.Dk
end
