/- Parts of the proof: Qw, Qx, Qy. -/
import Derived.Test.YthhokkfcdbcllaaGreatDoorR01
import Derived.Test.YthhokkfcdbcllaaGreatDoorR02
import Derived.Test.YthhokkfcdbcllaaGreatDoorR03
import Derived.Test.YthhokkfcdbcllaaGreatDoorR04
import Derived.Test.YthhokkfcdbcllaaGreatDoorR05
import Derived.Test.YthhokkfcdbcllaaGreatDoorR06
import Derived.Test.YthhokkfcdbcllaaGreatDoorR07
import Derived.Test.YthhokkfcdbcllaaGreatDoorR08
import Derived.Test.YthhokkfcdbcllaaGreatDoorR09
import Derived.Test.YthhokkfcdbcllaaGreatDoorR10
import Derived.Test.YthhokkfcdbcllaaGreatDoorR11
import Derived.Test.YthhokkfcdbcllaaGreatDoorR12
import Derived.Test.YthhokkfcdbcllaaGreatDoorR13
section
namespace Go.Dk
open Go.RowKit Go.Maps Go.MapKept
open Go.Proofs hiding intOf
structure OutI (fuel:Nat) (pf:Nat) (t:Value) (F G K:FP) (w:World) (s:SQ) (cs:List (Int × Nat)) (v8 v9:Value) (sb:Nat) (r:SA) (C:Int) (L:Nat) (i:Nat) (W:World) (F' G' K':FP) (st:SR) (vis:Int) (stuck:List Nat) (skv:Value):Prop where
 kept:KeptF (H3 F G K) w (H3 F' G' K') W
 fin:Fin F' G' K' W pf t st vis
 chl:ChL (H3 F' G' K') w.heap.size w.heap.size sb s (cs.map (·.1)) (cs.map fun c=>(c.2:Int)) v8 v9 stuck skv W
 eq:Bq (Ci fuel) s (cs.drop i) st stuck=r
 inv:InvS st
 wf:Wf st.rows s
 isc:∀ c ∈ cs.drop i,IsC st.rows s c
 left:st.left≤fuel
 lf:st.left≤L
 room:st.steps.length+st.left≤4095
 v0:0≤vis
 vc:vis+st.left=C
 kl:stuck.length≤i
structure InnI (fuel:Nat) (pf:Nat) (t:Value) (F G K:FP) (w:World) (s:SQ) (cs:List (Int × Nat)) (v8 v9:Value) (sb:Nat) (r:SA) (C:Int) (L:Nat) (i:Nat) (k:Int) (main:Nat) (seqs:List SQ) (ad:Option Addr) (xb:Nat) (stuck:List Nat) (skv:Value) (n:Nat) (W:World) (F' G' K':FP) (st:SR) (vis:Int) (kids:List Nat) (kv:Value):Prop where
 kept:KeptF (H3 F G K) w (H3 F' G' K') W
 fin:Fin F' G' K' W pf t st vis
 chl:ChL (H3 F' G' K') w.heap.size w.heap.size sb s (cs.map (·.1)) (cs.map fun c=>(c.2:Int)) v8 v9 stuck skv W
 xl:XL (H3 F' G' K') w.heap.size sb xb s k main true seqs ad v9 skv kids kv W
 eq:Xr (Ci fuel) s (k,main) (cs.drop (i+1)) stuck (seqs.drop n) st kids=r
 inv:InvS st
 wf:Wf st.rows s
 wfs:∀ q ∈ seqs.drop n,Wf st.rows q
 isc:∀ c ∈ cs.drop (i+1),IsC st.rows s c
 left:st.left≤fuel
 lf:st.left≤L
 room:st.steps.length+st.left≤4095
 v0:0≤vis
 vc:vis+st.left=C
 kl:kids.length=n
 sl:stuck.length≤i
theorem rY {B:Nat} {w:World} {e:TypeId} {a:Option Addr} {n m c:Nat} {zs:List Int} (h:w.ownsRow B e 1 (.slice a m c) n (ints zs)) (hn:n=zs.length) {i:Nat} (hi:i<zs.length):∃ g,a=some ⟨g,0,none⟩∧(Value.slice a m c).ownBlock=some g∧w.cell? ⟨g,i,none⟩=some (.int .i64 zs[i]):=by
 subst hn
 obtain ⟨g,c',e1,_,hc⟩:=Ht h (by omega)
 injection e1 with e1 e2 e3
 refine ⟨g,e1,by rw [e1];rfl,hc i _ ?_⟩
 simp [ints,hi]
section
variable {ops:Array Oper} {rest:List Oper} {o:Oper} {a:Act} {Q:Exit→Act→World→Prop} {W:World} {b off:Nat}
theorem Jr {T:TypeId} (x y:Operand) (hop:o.op = .store T x y) (hg:o.guard=none) (hx:a.eval x = .pointer (some ⟨b,off,none⟩)) {v:Value} (hy:a.eval y=v) (hvc:v.cells = #[v]) (hv1:v.oneCell'=true) (hi:(Tryz.prog.info? T).map (·.size)=some 1) {u:Value} (hc:W.cell? ⟨b,off,none⟩=some u) (hf:W.frozen? ⟨b,off,none⟩=false)
  (hk:∀ W',W'=W.setCell ⟨b,off,none⟩ v→wpList Tryz.prog ops Q rest (a.put o.dst undef) W'):wpList Tryz.prog ops Q (o::rest) a W:=by
 refine wpList_plain hg fun K hK=>?_
 have:=run_storeCells_cells (P:=Tryz.prog) b off [v] 0 W (fun j hj=>by obtain rfl:j=0:=(by simpa using hj);simp [hc]) (fun j hj=>by obtain rfl:j=0:=(by simpa using hj);simp [hf]) (fun u hu=>by simp at hu;subst hu;exact hv1)
 simp only [Nat.add_zero] at this
 unfold Oper.wp execOp
 cases hq:Tryz.prog.info? T with
 | none=>simp [hq] at hi
 | some i=>
  have hs:i.size=1:=by simpa [hq] using hi
  simp [hop,hx,hy,Instr.storeAt,Instr.sureAddr,storeVar,_root_.Go.sizeOf,typeInfo,hq,hvc,hs,this,World.setCells]
  exact hK _ _ (hk _ rfl)
end
theorem ChL.other {H:FP} {B x3 sb xb:Nat} {s:SQ} {rs ms:List Int} {v8 v9 skv:Value} {stuck:List Nat} {W W':World} (h:ChL H B x3 sb s rs ms v8 v9 stuck skv W) {cs:List Value} (hbx:Ae W xb cs 122) (hxs:xb≠sb) (ho:Only xb W W'):ChL H B x3 sb s rs ms v8 v9 stuck skv W':=
 ⟨(ho.block _ (Vx h.b3 hbx (by decide))).trans h.b3,(ho.block _ (Ne.symm hxs)).trans h.bs,⟨Bd h.so.own fun g hg=>ho.block g (fun e=>Cj hbx (by decide) h.so.own (by rw [hg,e])),h.so.nk⟩,
  Bd h.r8 fun g hg=>ho.block g (fun e=>Cj hbx (by decide) h.r8 (by rw [hg,e])),h.n8,Bd h.r9 fun g hg=>ho.block g (fun e=>Cj hbx (by decide) h.r9 (by rw [hg,e])),h.n9,h.n3,h.ns,h.lo,h.d9⟩
theorem Vq {xb:Nat} {W W':World} (ho:Only xb W W') (hx:xb<W.heap.size):KeptF (fun b=>b=xb) W (fun b=>b=xb) W':=
 ⟨ho.os,ho.tape,ho.output,Nat.le_of_eq ho.size.symm,fun _ _ h=>h,fun b hb=>by rw [hb,ho.size];exact hx,fun b _ hn=>ho.block b hn⟩
theorem mV {W:World} {o:Obj} {I:Type} {FW:I→World} {i0 i1:I} (h:TwoI W.drew (W.drew.alloc o) I FW i0 i1) {b:Nat} {xs:List Value} {T:TypeId} (hb:Ae W b xs T) (i:I):Ae (FW i) b xs T:=by
 have h1:Ae W.drew b xs T:=hb.below (below_drewN W 1)
 rcases h.all i with rfl | rfl
 ·rw [h.a0];exact h1
 ·rw [h.a1];exact h1.below (Ab _ _)
theorem qU {rows:List ND} (ok:Ok rows) {s:SQ} (wf:Wf rows s) {c:Int × Nat} (hc:IsC rows s c) (he:(Af rows s c.1 c.2).err=0):Ok (Af rows s c.1 c.2).rows∧rows <+: (Af rows s c.1 c.2).rows∧∀ q ∈ (Af rows s c.1 c.2).seqs,Wf (Af rows s c.1 c.2).rows q:=by
 obtain ⟨h1,h2,h3⟩:=Rm ok wf hc he
 refine ⟨h1,h2,?_⟩
 rcases h3 with ⟨q,hq,hw,_⟩ | ⟨q,q2,hq,hw,hw2,_⟩
 ·rw [hq];intro q' hq';simp at hq';rw [hq'];exact hw
 ·rw [hq];intro q' hq';simp at hq';rcases hq' with rfl | rfl;exact hw;exact hw2
attribute [local go_sem ↓] Dv Oz aA
attribute [local go_sem] Du Lx nJ
set_option maxRecDepth 100000 in
set_option maxHeartbeats 4000000 in
theorem jU (fuel:Nat) (pf:Nat) (t:Value) (HDEC:nK fuel pf t):xF fuel pf t:=by
 intro F G K w st vis s h he hi wf h14 hfu hroom hv0 hv
 have hs:=Xm hi.ok wf
 have hgl:s.goal<1024:=Nat.lt_of_lt_of_le wf.goal hi.ok.le
 have hcl0:=dN st.rows s
 have hle:=hi.ok.le
 obtain ⟨cs,hcs⟩:∃ cs,Bj st.rows s=cs:=⟨_,rfl⟩
 have HISC:Hid (∀ c ∈ cs,IsC st.rows s c):=fun c hc=>Zz (by rw [hcs];exact hc)
 have hcl:cs.length≤1026:=by rw [← hcs];omega
 obtain ⟨sv,mb,kvs,hm⟩:=h
 have HB0:=Aa (Ab w (.cells (Ad s.left s.goal).toArray 86))
 have HX0:=Aa (Ae.new w (Ad s.left s.goal) 86)
 have HM0:=Aa (hm.below HB0.o)
 have HE0:=Aa (he.below HB0.o)
 have HCH:Hid (∀ W,Below w.heap.size w W→Calls Tryz.prog 85 #[t,.agg (Ad s.left s.goal).toArray] W (Np W cs)):=fun W hb=>by
  rw [← hcs]
  exact dQ F W t st.rows (hm.tab.below hb) (he.g.below hb) s wf h14
 have HM:=Aa hm;have HE:=Aa he;have HI:=Aa hi;have HW:=Aa wf
 rw [hcs]
 obtain ⟨r,hr⟩:∃ r,Bq (Ci fuel) s cs st []=r:=⟨_,rfl⟩
 rw [hr]
 have HRR:=Aa hr
 clear hr hcs hcl0 h14 hm he hi wf
 go_enter Tryz.func73,Tryz.ntmps73
 go_wp2
 generalize (w.alloc (.cells (Ad s.left s.goal).toArray 86))=W0 at *
 have hcl:∀ W',Aft W0 W'→W'.cell? ⟨pf,0,none⟩=some t:=fun W' hb=>Ao hb (cell_of HM0.o.blk rfl)
 have hld:∀ W',Aft W0 W'→Bf 86 W' (.pointer (some ⟨w.heap.size,0,none⟩)):=fun W' hb=>(An (HX0.o.below hb).loads).1
 have hlv:∀ W',Aft W0 W'→Dq 86 W' (.pointer (some ⟨w.heap.size,0,none⟩))=_:=fun W' hb=>(An (HX0.o.below hb).loads).2
 have HK:Hid (∀ W',Below W0.heap.size W0 W'→Aft W0 W'):=fun W' hb=>hb
 have HD:=Aa (below_drewN W0 1)
 have HCS:Hid (cs.length≤1026):=by assumption
 go_region_held3 (fun W'=>Aft W0 W')
  ((refine HK.o _ ?_;first | exact HB1.o | exact HD.o))
  ((go_at_call 85;refine (HCH.o _ (Ac HB0.o HD.o)).mono ?_;rintro e W1 ⟨v8,v9,rfl,hr8,hr9,hb1⟩;have HB1:=Aa (Ac HD.o hb1);have HR8:=Aa (own_base hr8 (Ac HB0.o HD.o).size);have HR9:=Aa (own_base hr9 (Ac HB0.o HD.o).size);have HN8:=Aa (fun g (hg:v8.ownBlock=some g)=>(hr8.lt g hg).1);have HN9:=Aa (fun g (hg:v9.ownBlock=some g)=>(hr9.lt g hg).1);clear hr8 hr9 hb1))
 obtain ⟨a8,c8,rfl⟩:=Ba HR8.o
 obtain ⟨a9,c9,rfl⟩:=Ba HR9.o
 have HX1:=Aa (HX0.o.below HB1.o)
 have HM1:=Aa (HM0.o.below HB1.o)
 clear hcl hld hlv
 go_wp2_with (first
  | (refine Ah (.tmp 3) rfl rfl rfl HX1.o ?_)
  | (refine wp_build rfl rfl (v:=.agg (Gp s.left s.goal false 14 0 (.slice none 0 0)).toArray) (by simp [go_sem];exact jF _ _ _) ?_)
  | (refine Aj uV (.tmp 9) (.tmp 33) rfl rfl rfl (ys:=Gp s.left s.goal false 14 0 (.slice none 0 0)) rfl (Ae.new W1 Ni 122) rfl (Lu _ _ _ _ _ _) (all_oneCell_toArray (Zk rfl)) ?_;intro W2 hb2 ho2;have HB12:=Aa ((Ab W1 (.cells Ni.toArray 122)).trans (ho2.below (Nat.le_refl _)));have HSB2:=Aa hb2;clear hb2 ho2))
 have HI0:Hid (OutI fuel pf t F G K w s cs (.slice a8 cs.length c8) (.slice a9 cs.length c9) W1.heap.size r (vis+st.left) st.left 0 W2 F G K st vis [] (.slice none 0 0)):=by
  have hw:∀ b,w.heap.size≤b→¬ H3 F G K b:=fun b hb hf=>by have:=HM.o.in_ _ hf;omega
  have hz:=HB0.o.size
  have hz1:=HB1.o.size
  refine ⟨KeptF.of_below HM.o.in_ (Ac (Ac HB0.o HB1.o) HB12.o),⟨_,_,_,HM1.o.below HB12.o⟩,⟨HX1.o.below HB12.o,HSB2.o,⟨World.ownsRow_nil _ _ _ _,fun g hg=>by simp [Value.ownBlock] at hg⟩,?_,fun g hg=>hw g (Nat.le_trans (Ac HB0.o HD.o).size (HN8.o g hg)),?_,fun g hg=>hw g (Nat.le_trans (Ac HB0.o HD.o).size (HN9.o g hg)),hw _ (Nat.le_refl _),hw _ (Nat.le_trans hz hz1),Nat.le_trans hz hz1,fun g hg=>by simp [Value.ownBlock] at hg⟩,HRR.o,HI.o,HW.o,HISC.o,hfu,Nat.le_refl _,hroom,hv0,rfl,Nat.le_refl _⟩
  ·rw [List.length_map];exact Bd HR8.o fun g hg=>HB12.o.block g (HR8.o.lt g hg).2
  ·rw [List.length_map];exact Bd HR9.o fun g hg=>HB12.o.block g (HR9.o.lt g hg).2
 have HEN:=Aa HE.o
 clear HB0 HX0 HM0 HE0 HE HCH HM HI HW HISC HRR HK HD HB1 HR8 HR9 HN8 HN9 HX1 HM1 HB12 HSB2
 go_loopw [36] (fun i W=>∃ j F' G' K' st' vis' stuck skv,j≤cs.length∧i = .int .i64 (j:Int)∧OutI fuel pf t F G K w s cs (.slice a8 cs.length c8) (.slice a9 cs.length c9) W1.heap.size r (vis+st.left) st.left j W F' G' K' st' vis' stuck skv) (fun i _=>cs.length - (intOf i).toNat)
 case atStart=>exact ⟨0,F,G,K,_,_,_,_,by omega,rfl,HI0.o⟩
 case round=>
  obtain ⟨i,F',G',K',st',vis',stuck,skv,hj,rfl,hI⟩:=hrel
  have HJ:=Aa hI
  clear hI HI0
  by_cases hlt:i<cs.length
  ·obtain ⟨⟨k,main⟩,hc⟩:∃ c,c=cs[i]:=⟨_,rfl⟩
   have hdrop:cs.drop i=(k,main)::cs.drop (i+1):=by rw [hc];exact List.drop_eq_getElem_cons hlt
   have hisc:IsC st'.rows s (k,main):=HJ.o.isc _ (by rw [hdrop];simp)
   obtain ⟨g8,rfl,ho8,hc8⟩:=rY HJ.o.chl.r8 rfl (i:=i) (by simpa using hlt)
   obtain ⟨g9,rfl,ho9,hc9⟩:=rY HJ.o.chl.r9 rfl (i:=i) (by simpa using hlt)
   simp only [List.getElem_map,← hc] at hc8 hc9
   have hin:(i:Int)<(cs.length:Int):=by omega
   have HFIT:Hid (FitK st'.rows s k main):=Xh HJ.o.wf hisc
   have HEV:Hid (FEnv F' G' K' wr):=HEN.o.kept HJ.o.kept
   obtain ⟨p,hp⟩:∃ p,Af st'.rows s k main=p:=⟨_,rfl⟩
   have HPP:=Aa hp
   have HPL:Hid (p.seqs.length≤2):=by rw [← hp];exact Kq _ _ _ _
   have HEQ:Hid ((if p.err≠0 then ⟨st',p.err,0⟩ else Xr (Ci fuel) s (k,main) (cs.drop (i+1)) stuck p.seqs ⟨p.rows,st'.steps,st'.left⟩ [])=r):=by
    have h1:=HJ.o.eq
    rw [hdrop,jI _ _ _ _ _ _ (Kq _ _ _ _)] at h1
    simp only at h1
    rw [hp] at h1
    exact h1
   have HISC:Hid (∀ c ∈ cs.drop (i+1),IsC st'.rows s c):=fun c hc'=>HJ.o.isc c (by rw [hdrop];simp [hc'])
   have HIS1:=Aa hisc
   obtain ⟨sv1,mb1,kvs1,hm1⟩:=HJ.o.fin
   have HM1:=Aa hm1
   have HN9:Hid (¬ H3 F' G' K' g9):=HJ.o.chl.n9 g9 ho9
   have HPRE:Hid (∀ W,KeptF F' wr F' W→Cm F' W t st'.rows→TabG W→Calls Tryz.prog 74 #[t,.agg (Ad s.left s.goal).toArray,.int .i64 k,.int .i64 (main:Int)] W (mQ F' W t p)):=fun W _ ht hg=>HPP.o▸Oj F' W t st'.rows ht hg s HJ.o.wf k main HFIT.o
   have HNP:Hid (¬ F' pf):=fun hf=>hm1.ap _ hf hm1.gp
   have HN3:Hid (¬ F' w.heap.size):=fun hf=>HJ.o.chl.n3 (.inl hf)
   have hcl0:∀ W',Dp F' wr W'→W'.cell? ⟨pf,0,none⟩=some t:=fun W' ⟨F2,hk⟩=>hk.cell (cell_of HM1.o.blk rfl) HNP.o
   have hcl1:∀ W',Dp F' wr W'→W'.cell? ⟨g9,i,none⟩=some (.int .i64 (main:Int)):=fun W' ⟨F2,hk⟩=>hk.cell hc9 (fun hf=>HN9.o (.inl hf))
   have hld:∀ W',Dp F' wr W'→Bf 86 W' (.pointer (some ⟨w.heap.size,0,none⟩)):=fun W' ⟨F2,hk⟩=>(An (HJ.o.chl.b3.keptF hk HN3.o).loads).1
   have hlv:∀ W',Dp F' wr W'→Dq 86 W' (.pointer (some ⟨w.heap.size,0,none⟩))=_:=fun W' ⟨F2,hk⟩=>(An (HJ.o.chl.b3.keptF hk HN3.o).loads).2
   have HKK:Hid (∀ W',Below wr.heap.size wr W'→Dp F' wr W'):=fun W' hb=>⟨F',KeptF.of_below hm1.tab.in_ hb⟩
   have HDD:=Aa (below_drewN wr 1)
   have HC9:=Aa hc9
   clear hm1 hdrop hisc hc hp hc9 ho8 ho9
   by_cases hpe:p.err=0
   ·have hpz:(p.err != 0)=false:=by simpa using hpe
    have HPE:=Aa hpe
    clear hpe
    go_wp2_with fail
    go_region_held3 (fun W'=>Dp F' wr W')
     ((first | exact HKI.o | exact HKK.o _ HDD.o))
     ((go_at_call 74;refine (HPRE.o _ (KeptF.of_below HM1.o.tab.in_ HDD.o) (HM1.o.tab.below HDD.o) (HEV.o.g.below HDD.o)).mono ?_;rintro e W4 ⟨v,F4,rfl,hk4,ht4,hs4⟩;have HK4:=Aa ((KeptF.of_below HM1.o.tab.in_ HDD.o).trans hk4);have HKI:Hid (Dp F' wr W4):=⟨F4,HK4.o⟩;have HT4:=Aa ht4;have HS4:=Aa hs4;clear hk4 ht4 hs4))
    clear hcl0 hcl1 hld hlv
    have HM4:=Aa (HM1.o.tabbed HK4.o HT4.o)
    have HH4:=Aa (HK4.o.tab3 HM1.o.gin HM1.o.kin)
    have HC4:=Aa (HJ.o.chl.step HH4.o)
    obtain ⟨ad,rfl,hsb⟩:=Rt (HS4.o HPE.o)
    have HSB:=Aa hsb
    have HC94:Hid (W4.cell? ⟨g9,i,none⟩=some (.int .i64 (main:Int))):=HH4.o.cell HC9.o HN9.o
    clear hsb
    go_wp2_with fail
    obtain ⟨I0,_,FW,i0,i1,hFW⟩:=kQ W4.drew (W4.drew.alloc (.cells Ni.toArray 122))
    have a0:=Bc hFW HC94.o
    have hldW:∀ ix,Bf 86 (FW ix) (.pointer (some ⟨w.heap.size,0,none⟩)):=fun ix=>(An (mV hFW HC4.o.b3 ix).loads).1
    have hlvW:∀ ix,Dq 86 (FW ix) (.pointer (some ⟨w.heap.size,0,none⟩))=_:=fun ix=>(An (mV hFW HC4.o.b3 ix).loads).2
    have HFW:=Aa hFW
    clear hFW
    refine Jz 8 _ (.pointer (some ⟨W4.heap.size,0,none⟩)) HFW.o (by kernel_rfl) (by kernel_rfl) rfl (fun ρ=>by simp [go_sem];rfl) rfl ?_
    simp only [Nat.reduceSub,List.take_succ_cons,List.take_zero,List.drop_succ_cons,List.drop_zero]
    repeat (go_big_quiet_step (fail))
    refine wpQuiet_nil ?_
    clear a0 hldW hlvW
    go_wp2_with (first
     | (refine Aj uV (.tmp 14) (.tmp 64) rfl rfl rfl (ys:=Gp s.left s.goal true k main (.slice none 0 0)) rfl (Ae.new W4.drew Ni 122) rfl (Lu _ _ _ _ _ _) (all_oneCell_toArray (Zk rfl)) ?_;intro W5 hb5 ho5;have HB45:=Aa (Ac (below_drewN W4 1) ((Ab W4.drew (.cells Ni.toArray 122)).trans (ho5.below (Nat.le_refl _))));have HBX5:Hid (Ae W5 W4.heap.size (Gp s.left s.goal true k main (.slice none 0 0)) 122):=hb5;clear hb5 ho5))
    have HK5:=Aa (HH4.o.trans (KeptF.of_below HM4.o.in_ HB45.o))
    have HI1:Hid (InnI fuel pf t F G K w s cs (.slice (some ⟨g8,0,none⟩) cs.length c8) (.slice (some ⟨g9,0,none⟩) cs.length c9) W1.heap.size r (vis+st.left) st.left i k main p.seqs ad W4.heap.size stuck skv 0 W5 F4 G' K' ⟨p.rows,st'.steps,st'.left⟩ vis' [] (.slice none 0 0)):=by
     have h0:=HJ.o
     have hcw:=qU h0.inv.ok h0.wf HIS1.o (by rw [HPP.o];exact HPE.o)
     simp only [HPP.o] at hcw
     have hx:w.heap.size≤W4.heap.size:=Nat.le_trans h0.kept.size HH4.o.size
     refine ⟨h0.kept.trans HK5.o,⟨_,_,_,HM4.o.below HB45.o⟩,HC4.o.step (KeptF.of_below HM4.o.in_ HB45.o),⟨HBX5.o,⟨World.ownsRow_nil _ _ _ _,fun g hg=>by simp [Value.ownBlock] at hg⟩,fun hf=>?_,hx,fun g hg=>by simp [Value.ownBlock] at hg,fun g hg=>by simp [Value.ownBlock] at hg,?_,?_⟩,?_,h0.inv.ext hcw.1 hcw.2.1 _,h0.wf.ext hcw.2.1,fun q hq=>hcw.2.2 q (by simpa using hq),fun c hc=>(HISC.o c hc).ext h0.inv.ok h0.wf hcw.2.1,h0.left,h0.lf,h0.room,h0.v0,h0.vc,rfl,h0.kl⟩
     ·have:=HM4.o.in_ _ hf;exact absurd this (Nat.lt_irrefl _)
     ·exact fun e=>by have:=HC4.o.bs.lt;omega
     ·rcases HSB.o with h | ⟨b,h1,h2,h3,h4⟩
      ·exact .inl h
      ·refine .inr ⟨b,h1,h2.below HB45.o,fun hf=>?_⟩
       have hbw:wr.heap.size≤b:=by simpa using h3
       rcases hf with hf | hf | hf
       ·exact h4 hf
       ·have:=HM1.o.gin _ hf;omega
       ·have:=HM1.o.kin _ hf;omega
     ·have:=HEQ.o
      rw [if_neg (by simpa using HPE.o)] at this
      simpa using this
    have hpl:=HPL.o
    clear HK5 HBX5 HB45 HFW HSB HC94 HC4 HH4 HM4 HS4 HT4 HKI HK4 HPRE HNP HN3 HKK HDD HC9 HN9 HM1 HIS1 HISC HEQ HFIT HPP HPL hpz hc8
    go_loopw [67] (fun n W=>∃ m F' G' K' st' vis' kids kv,m≤p.seqs.length∧n = .int .i64 (m:Int)∧InnI fuel pf t F G K w s cs (.slice (some ⟨g8,0,none⟩) cs.length c8) (.slice (some ⟨g9,0,none⟩) cs.length c9) W1.heap.size r (vis+st.left) st.left i k main p.seqs ad W4.heap.size stuck skv m W F' G' K' st' vis' kids kv) (fun n _=>p.seqs.length - (intOf n).toNat)
    case atStart=>exact ⟨0,F4,G',K',_,_,_,_,by omega,rfl,HI1.o⟩
    case round=>
     obtain ⟨m,F5,G5,K5,st5,vis5,kids,kv,hm',rfl,hI5⟩:=hrel
     have HJ5:=Aa hI5
     clear hI5 HI1
     by_cases hlt2:m<p.seqs.length
     ·obtain ⟨q,hq⟩:∃ q,q=p.seqs[m]:=⟨_,rfl⟩
      have hdrop:p.seqs.drop m=q::p.seqs.drop (m+1):=by rw [hq];exact List.drop_eq_getElem_cons hlt2
      have hwq:Wf st5.rows q:=HJ5.o.wfs q (by rw [hdrop];simp)
      obtain ⟨b,hadb,hbx,hnb⟩:∃ b,ad=some ⟨b,0,none⟩∧Ae wr b (p.seqs.flatMap fun s=>Ad s.left s.goal) 86∧¬ H3 F5 G5 K5 b:=by
       rcases HJ5.o.xl.sq with h | h
       ·rw [h] at hlt2;simp at hlt2
       ·exact h
      have hra:wr.rangeAt b (m * 17) (Ad q.left q.goal):=by rw [hq];exact hbx.seqAt hlt2
      have HRA:=Aa hra
      have HEV5:Hid (FEnv F5 G5 K5 wr):=HEN.o.kept HJ5.o.kept
      obtain ⟨r1,hr1⟩:∃ r1,Ci fuel st5 q=r1:=⟨_,rfl⟩
      have HIH:Hid (∀ W,Below wr.heap.size wr W→Calls Tryz.prog 53 #[.pointer (some ⟨pf,0,none⟩),.agg (Ad q.left q.goal).toArray] W (Jh F5 G5 K5 W pf t st5 vis5 r1)):=fun W hb=>by
       have h0:=HJ5.o
       exact hr1▸HDEC F5 G5 K5 W st5 vis5 q (h0.fin.below hb) (HEV5.o.below hb) h0.inv hwq h0.left (by have:=h0.room;omega) h0.v0 (by have:=h0.vc;omega)
      have HEQ5:Hid (Xr (Ci fuel) s (k,main) (cs.drop (i+1)) stuck (q::p.seqs.drop (m+1)) st5 kids=r):=by
       have:=HJ5.o.eq
       rw [hdrop] at this
       exact this
      have HRM:Hid (Room st5 r1 0):=hr1▸Jc fuel st5 q
      have HGO:Hid (r1.err=0→GoodA st5 q r1):=fun h=>hr1▸Ub fuel st5 q HJ5.o.inv hwq (by rw [hr1];exact h)
      have HR1:=Aa hr1
      have hmn:(m:Int)<(p.seqs.length:Int):=by omega
      subst hadb
      clear hr1 hwq hra hbx hnb hdrop hq
      by_cases hz1:r1.err=0
      ·have hz2:(r1.err != 0)=false:=by simpa using hz1
       have HGD:=Aa (HGO.o hz1)
       obtain ⟨xx,hxx,_⟩:=HGD.o.ans
       have hat:r1.at_<r1.st.steps.length:=(List.getElem?_eq_some_iff.1 hxx).1
       have hatI:(r1.at_:Int)<(r1.st.steps.length:Int):=by omega
       clear hxx
       have HZ1:=Aa hz1
       clear hz1
       cases hpb:Ax r1.st r1.at_ with
       | true=>
        as_aux_lemma=>
        go_wp2_with (first
       | (refine Cb (.tmp 70) rfl rfl rfl HRA.o ?_)
       | (refine Ar (.tmp 16) (.tmp 71) rfl rfl rfl rfl (Ae.new wr (Ad 0 0) 86) (Ai _ _) ?_;intro W6 hb6 ho6;have HX6:=Aa hb6;have HB6:=Aa ((Ab wr (.cells (Ad 0 0).toArray 86)).trans (ho6.below (Nat.le_refl _)));clear hb6 ho6)
       | (refine Ah (.tmp 16) rfl rfl rfl HX6.o ?_)
       | (go_at_call 53;refine (HIH.o _ HB6.o).mono ?_;rintro e W7 ⟨rfl,F7,G7,K7,hk7,hf7⟩;have HB6K:=Aa (KeptF.of_below HJ5.o.fin.in_ HB6.o);have HF7:=Aa hf7;have HKW7:=Aa ((HJ5.o.kept.trans HB6K.o).trans hk7);have HC7:=Aa ((HJ5.o.chl.step HB6K.o).step hk7);have HX7:=Aa ((HJ5.o.xl.step HB6K.o).step hk7);have HVI:Hid (vis5+((st5.left - r1.st.left:Nat):Int)=vis+((st.left - r1.st.left:Nat):Int)):=(by have h1:=HJ5.o.vc;have h2:=HRM.o.left;have h4:=HJ5.o.lf;show _=_;omega);have c20:=HX7.o.bx.cell (Ez _ _ _ _ _ _).2;clear hk7 hf7)
       | (at_builtin;go_loud (refine By rfl (.tmp 82) (.tmp 84) 23 rfl w.heap.size 3 _ 1 8 Tryz.underlying23 Ef rfl (by decide) (by decide) kv kids.length (Iy kids) rfl (Bd HX7.o.ko.own (fun g hg=>Below.heap_alloc _ _ _ (HX7.o.ko.own.lt g hg).2)) _ 1 [.int .i64 (r1.at_:Int)] rfl (Gs W7 _ _) (by simp [Value.oneCell']) (by have:=HJ5.o.kl;omega) (by have:=HKW7.o.size;simp;omega) ?_;intro v5 w5 hown hgr hat5 hnil;obtain ⟨g5,q5,rfl⟩:=ownsRow_succ hown;have HLA:=Aa (XL.app HC7.o HX7.o HF7.o.in_ hown hgr hat5);have HAW:=Aa (Rx (o:=20) (v':=.slice (some ⟨g5,0,none⟩) (kids.length+1) q5) HX7.o.ko.own hgr HX7.o.bx.lt HX7.o.lo);clear c20 hown hgr hat5 hnil))
       | (go_loud (refine Jr (v:=.slice (some ⟨g5,0,none⟩) (kids.length+1) q5) (.tmp 86) (.tmp 85) rfl rfl rfl rfl rfl rfl (by kernel_rfl) (HLA.o.1.cell (Ez _ _ _ _ _ _).2) (HLA.o.1.fr 20) ?_;intro W9 hw9;rw [← hw9] at HLA HAW;obtain ⟨sv7,mb7,kvs7,hm7⟩:=HF7.o;have hm9:=hm7.beside HAW.o.1 (fun b hb hx=>by rcases hx with rfl | hx;exact HX7.o.nx hb;exact HX7.o.ko.nk b hx hb);obtain ⟨g7,c7,rfl,hcp9⟩:=Js hm9 hat;rw [hpb] at hcp9;have c91:W9.cell? ⟨pf,1,none⟩=some (.slice (some ⟨g7,0,none⟩) r1.st.steps.length c7):=cell_of hm9.blk rfl;have HM9:=Aa hm9;have HKW9:=Aa (HKW7.o.thenNew HAW.o.2 (fun b hb=>Nat.lt_of_lt_of_le (HF7.o.in_ b hb) HAW.o.1.size));clear hm7 hm9 hw9)))
        have h1:=HRM.o.left
        have h2:=HRM.o.len
        have h3:=HJ5.o
        refine ⟨⟨m+1,F7,G7,K7,r1.st,vis5+((st5.left - r1.st.left:Nat):Int),kids++[r1.at_],_,by omega,by go_num,HKW9.o,⟨_,_,_,HM9.o⟩,HLA.o.2.1,HLA.o.2.2,?_,HGD.o.inv,h3.wf.ext HGD.o.pre,?_,fun c hc=>(h3.isc c hc).ext h3.inv.ok h3.wf HGD.o.pre,by have:=h3.left;omega,by have:=h3.lf;omega,by have:=h3.room;omega,by have:=h3.v0;omega,by have:=h3.vc;omega,by rw [List.length_append,h3.kl];rfl,h3.sl⟩,by simp [intOf];omega⟩
        ·have:=HEQ5.o
         rw [Xr,HR1.o,if_neg (by simpa using HZ1.o),hpb] at this
         exact this
        ·intro q' hq'
         refine (h3.wfs q' ?_).ext HGD.o.pre
         rw [← List.drop_drop] at hq'
         exact List.mem_of_mem_drop hq'
       | false=>
        by_cases hm0:m=0
        ·as_aux_lemma=>
         have hmz:((m:Int) == 0)=true:=by simp [hm0]
         have HM0:=Aa hm0
         clear hm0
         go_wp2_with (first
        | (refine Cb (.tmp 70) rfl rfl rfl HRA.o ?_)
        | (refine Ar (.tmp 16) (.tmp 71) rfl rfl rfl rfl (Ae.new wr (Ad 0 0) 86) (Ai _ _) ?_;intro W6 hb6 ho6;have HX6:=Aa hb6;have HB6:=Aa ((Ab wr (.cells (Ad 0 0).toArray 86)).trans (ho6.below (Nat.le_refl _)));clear hb6 ho6)
        | (refine Ah (.tmp 16) rfl rfl rfl HX6.o ?_)
        | (go_at_call 53;refine (HIH.o _ HB6.o).mono ?_;rintro e W7 ⟨rfl,F7,G7,K7,hk7,hf7⟩;have HB6K:=Aa (KeptF.of_below HJ5.o.fin.in_ HB6.o);have HF7:=Aa hf7;have HKW7:=Aa ((HJ5.o.kept.trans HB6K.o).trans hk7);have HC7:=Aa ((HJ5.o.chl.step HB6K.o).step hk7);have HX7:=Aa ((HJ5.o.xl.step HB6K.o).step hk7);have HVI:Hid (vis5+((st5.left - r1.st.left:Nat):Int)=vis+((st.left - r1.st.left:Nat):Int)):=(by have h1:=HJ5.o.vc;have h2:=HRM.o.left;have h4:=HJ5.o.lf;show _=_;omega);have c20:=HX7.o.bx.cell (Ez _ _ _ _ _ _).2;clear hk7 hf7)
        | (at_builtin;go_loud (refine By rfl (.tmp 82) (.tmp 84) 23 rfl w.heap.size 3 _ 1 8 Tryz.underlying23 Ef rfl (by decide) (by decide) kv kids.length (Iy kids) rfl (Bd HX7.o.ko.own (fun g hg=>Below.heap_alloc _ _ _ (HX7.o.ko.own.lt g hg).2)) _ 1 [.int .i64 (r1.at_:Int)] rfl (Gs W7 _ _) (by simp [Value.oneCell']) (by have:=HJ5.o.kl;omega) (by have:=HKW7.o.size;simp;omega) ?_;intro v5 w5 hown hgr hat5 hnil;obtain ⟨g5,q5,rfl⟩:=ownsRow_succ hown;have HLA:=Aa (XL.app HC7.o HX7.o HF7.o.in_ hown hgr hat5);have HAW:=Aa (Rx (o:=20) (v':=.slice (some ⟨g5,0,none⟩) (kids.length+1) q5) HX7.o.ko.own hgr HX7.o.bx.lt HX7.o.lo);clear c20 hown hgr hat5 hnil))
        | (go_loud (refine Jr (v:=.slice (some ⟨g5,0,none⟩) (kids.length+1) q5) (.tmp 86) (.tmp 85) rfl rfl rfl rfl rfl rfl (by kernel_rfl) (HLA.o.1.cell (Ez _ _ _ _ _ _).2) (HLA.o.1.fr 20) ?_;intro W9 hw9;rw [← hw9] at HLA HAW;obtain ⟨sv7,mb7,kvs7,hm7⟩:=HF7.o;have hm9:=hm7.beside HAW.o.1 (fun b hb hx=>by rcases hx with rfl | hx;exact HX7.o.nx hb;exact HX7.o.ko.nk b hx hb);obtain ⟨g7,c7,rfl,hcp9⟩:=Js hm9 hat;rw [hpb] at hcp9;have c91:W9.cell? ⟨pf,1,none⟩=some (.slice (some ⟨g7,0,none⟩) r1.st.steps.length c7):=cell_of hm9.blk rfl;have HM9:=Aa hm9;have HKW9:=Aa (HKW7.o.thenNew HAW.o.2 (fun b hb=>Nat.lt_of_lt_of_le (HF7.o.in_ b hb) HAW.o.1.size));clear hm7 hm9 hw9))
        | (refine Jr (v:=.bool false) (.tmp 95) _ rfl rfl rfl rfl rfl rfl (by kernel_rfl) (HLA.o.2.2.bx.cell (Ez _ _ _ _ _ _).1) (HLA.o.2.2.bx.fr 17) ?_;intro W10 hw10;have HO10:Hid (Only W4.heap.size W9 W10):=hw10▸Aq W9 W4.heap.size 17 _;have HBX10:Hid (Ae W10 W4.heap.size (Gp s.left s.goal false k main (.slice (some ⟨g5,0,none⟩) (kids.length+1) q5)) 122):=(by have h1:=HLA.o.2.2.bx.set 17 (.bool false);rw [Zc] at h1;exact hw10▸h1);have HC10:=Aa (HLA.o.2.1.other HLA.o.2.2.bx HLA.o.2.2.xs HO10.o);have HOK:=Aa (Vq HO10.o HLA.o.2.2.bx.lt);have HM10:=Aa (HM9.o.beside HOK.o (fun b hb hx=>by subst hx;exact HLA.o.2.2.nx hb));have HKW10:=Aa (HKW9.o.thenNew (HO10.o.below HLA.o.2.2.lo) (fun b hb=>Nat.lt_of_lt_of_le (HM9.o.in_ b hb) HOK.o.size));have s20:=HC10.o.bs.cell (Ez _ _ _ _ _ _).2;clear c91 hcp9 hw10)
        | (at_builtin;refine By rfl (.tmp 99) (.tmp 101) 23 rfl w.heap.size 3 _ 1 8 Tryz.underlying23 Ef rfl (by decide) (by decide) skv stuck.length (Iy stuck) rfl (Bd HC10.o.so.own (fun g hg=>Below.heap_alloc _ _ _ (HC10.o.so.own.lt g hg).2)) _ 1 [.int .i64 (r1.at_:Int)] rfl (Gs W10 _ _) (by simp [Value.oneCell']) (by have:=HJ5.o.sl;omega) (by have:=HKW10.o.size;simp;omega) ?_;intro v6 w6 hown hgr hat6 hnil;obtain ⟨g6,q6,rfl⟩:=ownsRow_succ hown;have HLB:=Aa (HC10.o.app HBX10.o HLA.o.2.2.xs HM10.o.in_ hown hgr hat6);have HBW:=Aa (Rx (o:=20) (v':=.slice (some ⟨g6,0,none⟩) (stuck.length+1) q6) HC10.o.so.own hgr HC10.o.bs.lt HC10.o.lo);clear s20 hown hgr hat6 hnil)
        | (refine Jr (v:=.slice (some ⟨g6,0,none⟩) (stuck.length+1) q6) (.tmp 103) (.tmp 102) rfl rfl rfl rfl rfl rfl (by kernel_rfl) (HLB.o.1.cell (Ez _ _ _ _ _ _).2) (HLB.o.1.fr 20) ?_;intro W12 hw12;rw [← hw12] at HLB HBW;have c17:=HLB.o.2.2.cell (Ez _ _ _ _ _ _).1;clear hw12))
         have h1:=HRM.o.left
         have h2:=HRM.o.len
         have h3:=HJ5.o
         have hk0:kids = []:=List.eq_nil_of_length_eq_zero (by rw [h3.kl];exact HM0.o)
         refine ⟨⟨i+1,F7,G7,K7,r1.st,vis5+((st5.left - r1.st.left:Nat):Int),stuck++[r1.at_],_,by omega,by go_num,HKW10.o.thenNew HBW.o.2 (fun b hb=>Nat.lt_of_lt_of_le (HM10.o.in_ b hb) HBW.o.1.size),⟨_,_,_,HM10.o.beside HBW.o.1 (fun b hb hx=>by rcases hx with rfl | hx;exact HC10.o.ns hb;exact HC10.o.so.nk b hx hb)⟩,HLB.o.2.1,?_,HGD.o.inv,h3.wf.ext HGD.o.pre,fun c hc=>(h3.isc c hc).ext h3.inv.ok h3.wf HGD.o.pre,by have:=h3.left;omega,by have:=h3.lf;omega,by have:=h3.room;omega,by have:=h3.v0;omega,by have:=h3.vc;omega,by rw [List.length_append];have:=h3.sl;simp;omega⟩,by simp [intOf];omega⟩
         have:=HEQ5.o
         rw [Xr,HR1.o,if_neg (by simpa using HZ1.o),hpb,if_pos hk0] at this
         exact this
        ·as_aux_lemma=>
         have hmz:((m:Int) == 0)=false:=by simpa using hm0
         have HM0:=Aa hm0
         clear hm0
         go_wp2_with (first
        | (refine Cb (.tmp 70) rfl rfl rfl HRA.o ?_)
        | (refine Ar (.tmp 16) (.tmp 71) rfl rfl rfl rfl (Ae.new wr (Ad 0 0) 86) (Ai _ _) ?_;intro W6 hb6 ho6;have HX6:=Aa hb6;have HB6:=Aa ((Ab wr (.cells (Ad 0 0).toArray 86)).trans (ho6.below (Nat.le_refl _)));clear hb6 ho6)
        | (refine Ah (.tmp 16) rfl rfl rfl HX6.o ?_)
        | (go_at_call 53;refine (HIH.o _ HB6.o).mono ?_;rintro e W7 ⟨rfl,F7,G7,K7,hk7,hf7⟩;have HB6K:=Aa (KeptF.of_below HJ5.o.fin.in_ HB6.o);have HF7:=Aa hf7;have HKW7:=Aa ((HJ5.o.kept.trans HB6K.o).trans hk7);have HC7:=Aa ((HJ5.o.chl.step HB6K.o).step hk7);have HX7:=Aa ((HJ5.o.xl.step HB6K.o).step hk7);have HVI:Hid (vis5+((st5.left - r1.st.left:Nat):Int)=vis+((st.left - r1.st.left:Nat):Int)):=(by have h1:=HJ5.o.vc;have h2:=HRM.o.left;have h4:=HJ5.o.lf;show _=_;omega);have c20:=HX7.o.bx.cell (Ez _ _ _ _ _ _).2;clear hk7 hf7)
        | (at_builtin;go_loud (refine By rfl (.tmp 82) (.tmp 84) 23 rfl w.heap.size 3 _ 1 8 Tryz.underlying23 Ef rfl (by decide) (by decide) kv kids.length (Iy kids) rfl (Bd HX7.o.ko.own (fun g hg=>Below.heap_alloc _ _ _ (HX7.o.ko.own.lt g hg).2)) _ 1 [.int .i64 (r1.at_:Int)] rfl (Gs W7 _ _) (by simp [Value.oneCell']) (by have:=HJ5.o.kl;omega) (by have:=HKW7.o.size;simp;omega) ?_;intro v5 w5 hown hgr hat5 hnil;obtain ⟨g5,q5,rfl⟩:=ownsRow_succ hown;have HLA:=Aa (XL.app HC7.o HX7.o HF7.o.in_ hown hgr hat5);have HAW:=Aa (Rx (o:=20) (v':=.slice (some ⟨g5,0,none⟩) (kids.length+1) q5) HX7.o.ko.own hgr HX7.o.bx.lt HX7.o.lo);clear c20 hown hgr hat5 hnil))
        | (go_loud (refine Jr (v:=.slice (some ⟨g5,0,none⟩) (kids.length+1) q5) (.tmp 86) (.tmp 85) rfl rfl rfl rfl rfl rfl (by kernel_rfl) (HLA.o.1.cell (Ez _ _ _ _ _ _).2) (HLA.o.1.fr 20) ?_;intro W9 hw9;rw [← hw9] at HLA HAW;obtain ⟨sv7,mb7,kvs7,hm7⟩:=HF7.o;have hm9:=hm7.beside HAW.o.1 (fun b hb hx=>by rcases hx with rfl | hx;exact HX7.o.nx hb;exact HX7.o.ko.nk b hx hb);obtain ⟨g7,c7,rfl,hcp9⟩:=Js hm9 hat;rw [hpb] at hcp9;have c91:W9.cell? ⟨pf,1,none⟩=some (.slice (some ⟨g7,0,none⟩) r1.st.steps.length c7):=cell_of hm9.blk rfl;have HM9:=Aa hm9;have HKW9:=Aa (HKW7.o.thenNew HAW.o.2 (fun b hb=>Nat.lt_of_lt_of_le (HF7.o.in_ b hb) HAW.o.1.size));clear hm7 hm9 hw9))
        | (refine Jr (v:=.bool false) (.tmp 95) _ rfl rfl rfl rfl rfl rfl (by kernel_rfl) (HLA.o.2.2.bx.cell (Ez _ _ _ _ _ _).1) (HLA.o.2.2.bx.fr 17) ?_;intro W10 hw10;have HO10:Hid (Only W4.heap.size W9 W10):=hw10▸Aq W9 W4.heap.size 17 _;have HBX10:Hid (Ae W10 W4.heap.size (Gp s.left s.goal false k main (.slice (some ⟨g5,0,none⟩) (kids.length+1) q5)) 122):=(by have h1:=HLA.o.2.2.bx.set 17 (.bool false);rw [Zc] at h1;exact hw10▸h1);have HC10:=Aa (HLA.o.2.1.other HLA.o.2.2.bx HLA.o.2.2.xs HO10.o);have HOK:=Aa (Vq HO10.o HLA.o.2.2.bx.lt);have HM10:=Aa (HM9.o.beside HOK.o (fun b hb hx=>by subst hx;exact HLA.o.2.2.nx hb));have HKW10:=Aa (HKW9.o.thenNew (HO10.o.below HLA.o.2.2.lo) (fun b hb=>Nat.lt_of_lt_of_le (HM9.o.in_ b hb) HOK.o.size));have s20:=HC10.o.bs.cell (Ez _ _ _ _ _ _).2;clear c91 hcp9 hw10)
        | (refine Jr (v:=.slice (some ⟨W10.heap.size,0,none⟩) 1 1) (.tmp 106) (.tmp 105) rfl rfl rfl rfl rfl rfl (by kernel_rfl) ((HBX10.o.below (Ab W10 (.cells #[.int .i64 (r1.at_:Int)] 3))).cell (Ez _ _ _ _ _ _).2) ((HBX10.o.below (Ab W10 (.cells #[.int .i64 (r1.at_:Int)] 3))).fr 20) ?_;intro W12 hw12;have HO12:Hid (Only W4.heap.size (W10.alloc (.cells #[.int .i64 (r1.at_:Int)] 3)) W12):=hw12▸Aq _ W4.heap.size 20 _;have HBX12:Hid (Ae W12 W4.heap.size (Gp s.left s.goal false k main (.slice (some ⟨W10.heap.size,0,none⟩) 1 1)) 122):=(by have h1:=(HBX10.o.below (Ab W10 (.cells #[.int .i64 (r1.at_:Int)] 3))).set 20 (.slice (some ⟨W10.heap.size,0,none⟩) 1 1);rw [Px] at h1;exact hw12▸h1);have HOK2:=Aa (Vq HO12.o (HBX10.o.below (Ab W10 (.cells #[.int .i64 (r1.at_:Int)] 3))).lt);have HM12:=Aa ((HM10.o.below (Ab W10 (.cells #[.int .i64 (r1.at_:Int)] 3))).beside HOK2.o (fun b hb hx=>by subst hx;exact HLA.o.2.2.nx hb));have HKW12:=Aa ((HKW10.o.trans (KeptF.of_below HM10.o.in_ (Ab W10 (.cells #[.int .i64 (r1.at_:Int)] 3)))).thenNew (HO12.o.below HLA.o.2.2.lo) (fun b hb=>HM12.o.in_ b hb));have HRD:Hid (Rd W12 (.slice (some ⟨W10.heap.size,0,none⟩) 1 1) 1 1 (Iy [r1.at_])):=(HOK2.o.rd (Gs W10 _ _) (fun a m c e hx=>by cases e;have:=HBX10.o.lt;simp at hx;omega));clear s20 hw12)
        | (refine Ns (.tmp 14) rfl rfl rfl HBX12.o (Lu _ _ _ _ _ _) ?_)
        | (go_at_call 75;refine (Uo (x:=⟨s,false,k,main,[r1.at_]⟩) (st:=st) (vis:=vis) HKW12.o ⟨_,_,_,HM12.o⟩ HVI.o (.slice (some ⟨W10.heap.size,0,none⟩) 1 1) hs (Nat.lt_of_lt_of_le hgl (by omega)) (by have:=HRM.o.len;have:=HJ5.o.room;omega) HRD.o (fun a m c e=>by cases e;refine ⟨by have:=HOK2.o.size;simp at this;show W10.heap.size<_;omega,HKW10.o.size,fun hf=>by have:=HM10.o.in_ _ hf;exact absurd this (Nat.lt_irrefl _)⟩)).mono ?_;rintro e W13 ⟨rfl,F8,G8,K8,hk8,hf8⟩;have HK8:=Aa hk8;have HF8:=Aa hf8;clear hk8 hf8))
         go_ret2
         have hk0:¬ kids = []:=fun e=>HM0.o (by have:=HJ5.o.kl;rw [e] at this;exact this.symm)
         have hr0:r=Ho r1.st ⟨s,false,k,main,[r1.at_]⟩:=by
          rw [← HEQ5.o,Xr,HR1.o,if_neg (by simpa using HZ1.o),hpb,if_neg hk0]
          rfl
         rw [hr0]
         exact ⟨rfl,F8,G8,K8,HK8.o,HF8.o⟩
      ·have hz2:(r1.err != 0)=true:=by simpa using hz1
       have HZ1:=Aa hz1
       clear hz1
       as_aux_lemma=>
       go_wp2_with (first
       | (refine Cb (.tmp 70) rfl rfl rfl HRA.o ?_)
       | (refine Ar (.tmp 16) (.tmp 71) rfl rfl rfl rfl (Ae.new wr (Ad 0 0) 86) (Ai _ _) ?_;intro W6 hb6 ho6;have HX6:=Aa hb6;have HB6:=Aa ((Ab wr (.cells (Ad 0 0).toArray 86)).trans (ho6.below (Nat.le_refl _)));clear hb6 ho6)
       | (refine Ah (.tmp 16) rfl rfl rfl HX6.o ?_)
       | (go_at_call 53;refine (HIH.o _ HB6.o).mono ?_;rintro e W7 ⟨rfl,F7,G7,K7,hk7,hf7⟩;have HB6K:=Aa (KeptF.of_below HJ5.o.fin.in_ HB6.o);have HF7:=Aa hf7;have HKW7:=Aa ((HJ5.o.kept.trans HB6K.o).trans hk7);have HC7:=Aa ((HJ5.o.chl.step HB6K.o).step hk7);have HX7:=Aa ((HJ5.o.xl.step HB6K.o).step hk7);have HVI:Hid (vis5+((st5.left - r1.st.left:Nat):Int)=vis+((st.left - r1.st.left:Nat):Int)):=(by have h1:=HJ5.o.vc;have h2:=HRM.o.left;have h4:=HJ5.o.lf;show _=_;omega);have c20:=HX7.o.bx.cell (Ez _ _ _ _ _ _).2;clear hk7 hf7))
       go_ret2
       have hr0:r=⟨r1.st,r1.err,0⟩:=by
        rw [← HEQ5.o,Xr,HR1.o,if_pos HZ1.o]
       rw [hr0]
       refine ⟨rfl,F7,G7,K7,HKW7.o,?_⟩
       have h1:=HF7.o
       rw [HVI.o] at h1
       exact h1
     ·as_aux_lemma=>
      obtain rfl:m=p.seqs.length:=by omega
      have h3:=HJ5.o
      have HRK:Hid (r=Ho st5 ⟨s,true,k,main,kids⟩):=by
       show r=_
       rw [← h3.eq,List.drop_length,Xr]
      have HVI:Hid (vis5=vis+((st.left - st5.left:Nat):Int)):=by have h1:=h3.vc;have h2:=h3.lf;show _=_;omega
      have HRD:Hid (Rd wr kv kids.length 1 (Iy kids)):=Hv h3.xl.ko.own
      have c17:=h3.xl.bx.cell (Ez _ _ _ _ _ _).1
      clear h3
      go_wp2_with (first
       | (refine Ns (.tmp 14) rfl rfl rfl HJ5.o.xl.bx (Lu _ _ _ _ _ _) ?_)
       | (go_at_call 75;refine (Uo (x:=⟨s,true,k,main,kids⟩) (st:=st) (vis:=vis) HJ5.o.kept HJ5.o.fin HVI.o kv hs (Nat.lt_of_lt_of_le hgl (by omega)) (by have:=HJ5.o.room;omega) HRD.o (fun a m c e=>by have h1:=HJ5.o.xl.ko.own.lt a.block (by rw [e];rfl);exact ⟨h1.2,h1.1,HJ5.o.xl.ko.nk a.block (by rw [e];rfl)⟩)).mono ?_;rintro e W8 ⟨rfl,F8,G8,K8,hk8,hf8⟩;have HK8:=Aa hk8;have HF8:=Aa hf8;clear hk8 hf8))
      go_ret2
      rw [HRK.o]
      exact ⟨rfl,F8,G8,K8,HK8.o,HF8.o⟩
   ·have hpz:(p.err != 0)=true:=by simpa using hpe
    have HPE:=Aa hpe
    clear hpe
    as_aux_lemma=>
    go_wp2_with fail
    go_region_held3 (fun W'=>Dp F' wr W')
     ((first | exact HKI.o | exact HKK.o _ HDD.o))
     ((go_at_call 74;refine (HPRE.o _ (KeptF.of_below HM1.o.tab.in_ HDD.o) (HM1.o.tab.below HDD.o) (HEV.o.g.below HDD.o)).mono ?_;rintro e W4 ⟨v,F4,rfl,hk4,ht4,hs4⟩;have HK4:=Aa ((KeptF.of_below HM1.o.tab.in_ HDD.o).trans hk4);have HKI:Hid (Dp F' wr W4):=⟨F4,HK4.o⟩;have HT4:=Aa ht4;clear hk4 ht4 hs4))
    clear hcl0 hcl1 hld hlv
    go_wp2_with fail
    go_ret2
    have hr0:r=⟨st',p.err,0⟩:=by rw [← HEQ.o,if_pos HPE.o]
    have h0:=HJ.o
    have h1:=HM1.o.tabbed HK4.o HT4.o
    have h2:p.rows=st'.rows:=by rw [← HPP.o];exact Jj (by rw [HPP.o];exact HPE.o)
    rw [h2] at h1
    rw [hr0]
    refine ⟨rfl,F4,G',K',h0.kept.trans (HK4.o.tab3 HM1.o.gin HM1.o.kin),?_⟩
    have h4:=h0.vc
    have h5:=h0.lf
    rw [show vis+((st.left - st'.left:Nat):Int)=vis' by omega]
    exact ⟨_,_,_,h1⟩
  ·as_aux_lemma=>
   obtain rfl:i=cs.length:=by omega
   have h3:=HJ.o
   have HRK:Hid (r=Ho st' ⟨s,false,14,0,stuck⟩):=by
    show r=_
    rw [← h3.eq,List.drop_length,Bq]
   have HVI:Hid (vis'=vis+((st.left - st'.left:Nat):Int)):=by have h1:=h3.vc;have h2:=h3.lf;show _=_;omega
   have HRD:Hid (Rd wr skv stuck.length 1 (Iy stuck)):=Hv h3.chl.so.own
   clear h3
   go_wp2_with (first
    | (refine Ns (.tmp 9) rfl rfl rfl HJ.o.chl.bs (Lu _ _ _ _ _ _) ?_)
    | (go_at_call 75;refine (Uo (x:=⟨s,false,14,0,stuck⟩) (st:=st) (vis:=vis) HJ.o.kept HJ.o.fin HVI.o skv hs (Nat.lt_of_lt_of_le hgl (by omega)) (by have:=HJ.o.room;omega) HRD.o (fun a m c e=>by have h1:=HJ.o.chl.so.own.lt a.block (by rw [e];rfl);exact ⟨h1.2,h1.1,HJ.o.chl.so.nk a.block (by rw [e];rfl)⟩)).mono ?_;rintro e W8 ⟨rfl,F8,G8,K8,hk8,hf8⟩;have HK8:=Aa hk8;have HF8:=Aa hf8;clear hk8 hf8))
   go_ret2
   rw [HRK.o]
   exact ⟨rfl,F8,G8,K8,HK8.o,HF8.o⟩
end Go.Dk
end
section
namespace Go.Dk
open Go.RowKit Go.Maps Go.MapKept
open Go.Proofs hiding intOf
theorem jT (pf:Nat) (t:Value):∀ fuel:Nat,nK fuel pf t:=by
 intro fuel
 induction fuel with
 | zero=>
  intro F G K w st vis s h he hi wf hfu hroom hv0 hv
  have hs:=Xm hi.ok wf
  have hg:s.goal<2 ^ 62:=Nat.lt_of_lt_of_le wf.goal (by have:=hi.ok.le;omega)
  rw [Ci]
  cases hf:Fv st.steps s with
  | some i=>exact Vh F G K w pf t st vis h s hs hg i hf
  | none=>exact Xa F G K w pf t st vis h s hs hg hf (by omega)
 | succ fuel ih=>
  intro F G K w st vis s h he hi wf hfu hroom hv0 hv
  have hs:=Xm hi.ok wf
  have hg:s.goal<2 ^ 62:=Nat.lt_of_lt_of_le wf.goal (by have:=hi.ok.le;omega)
  rw [Ci]
  cases hf:Fv st.steps s with
  | some i=>exact Vh F G K w pf t st vis h s hs hg i hf
  | none=>
   simp only
   by_cases hl:st.left=0
   ·rw [if_pos hl]
    exact Xa F G K w pf t st vis h s hs hg hf hl
   ·rw [if_neg hl]
    by_cases h14:(Ak st.rows s).1=14
    ·rw [if_pos h14]
     exact iD fuel pf t (jU fuel pf t ih) F G K w st vis s h he hi wf hf (by omega) hfu hroom hv0 hv h14
    ·rw [if_neg h14]
     by_cases hpe:(Af st.rows s (Ak st.rows s).1 (Ak st.rows s).2).err=0
     ·rw [if_neg (by simpa using hpe)]
      exact jM fuel pf t ih F G K w st vis s h he hi wf hf (by omega) hfu hroom hv0 hv h14 hpe
     ·rw [if_pos hpe]
      exact eP fuel pf t ih F G K w st vis s h he hi wf hf (by omega) hfu hroom hv0 hv h14 hpe
end Go.Dk
end
section
namespace Go.Dk
open Go.RowKit Go.Maps Go.MapKept Go.Shelf
open Go.Proofs hiding intOf
attribute [local go_sem] Oper.semAt_some
structure RunF (w W5:World) (pb m:Nat) (g:Int):Prop where
 bel:Below w.heap.size w W5
 tb:∀ {W},Below W5.heap.size W5 W→Ae W w.heap.size [.pointer (some ⟨pb,0,none⟩)] 24
 sq:∀ {W},Below W5.heap.size W5 W→Ae W (w.heap.size+1) (Ad m g) 86
 fo:∀ {W},Below W5.heap.size W5 W→Ae W (w.heap.size+1+1) [.bool false,.slice none 0 0,.int .i64 0] 82
 er:∀ {W},Below W5.heap.size W5 W→Ae W (w.heap.size+1+1+1) [.int .i64 0] 35
 bits:Ae W5 (w.heap.size+1+1+1+1) (Ag m) 77
 sz:W5.heap.size=w.heap.size+5
theorem qL (w:World) (pb m:Nat) (g:Int):RunF w (((((w.alloc (.cells #[.pointer (some ⟨pb,0,none⟩)] 24)).alloc (.cells (Ad m g).toArray 86)).alloc (.cells #[.bool false,.slice none 0 0,.int .i64 0] 82)).alloc (.cells #[.int .i64 0] 35)).alloc (.cells (Ag m).toArray 77)) pb m g:=by
 refine ⟨Ac (Ac (Ac (Ac (Ab _ _) (Ab _ _)) (Ab _ _)) (Ab _ _)) (Ab _ _),fun hb=>?_,fun hb=>?_,fun hb=>?_,fun hb=>?_,?_,by simp⟩
 ·exact (((((Ae.new w [.pointer (some ⟨pb,0,none⟩)] 24).below (Ab _ (.cells (Ad m g).toArray 86))).below (Ab _ (.cells #[.bool false,.slice none 0 0,.int .i64 0] 82))).below (Ab _ (.cells #[.int .i64 0] 35))).below (Ab _ (.cells (Ag m).toArray 77))).below hb
 ·have h1:=((((Ae.new (w.alloc (.cells #[.pointer (some ⟨pb,0,none⟩)] 24)) (Ad m g) 86).below (Ab _ (.cells #[.bool false,.slice none 0 0,.int .i64 0] 82))).below (Ab _ (.cells #[.int .i64 0] 35))).below (Ab _ (.cells (Ag m).toArray 77))).below hb
  simpa using h1
 ·have h1:=(((Ae.new ((w.alloc (.cells #[.pointer (some ⟨pb,0,none⟩)] 24)).alloc (.cells (Ad m g).toArray 86)) [.bool false,.slice none 0 0,.int .i64 0] 82).below (Ab _ (.cells #[.int .i64 0] 35))).below (Ab _ (.cells (Ag m).toArray 77))).below hb
  simpa using h1
 ·have h1:=((Ae.new (((w.alloc (.cells #[.pointer (some ⟨pb,0,none⟩)] 24)).alloc (.cells (Ad m g).toArray 86)).alloc (.cells #[.bool false,.slice none 0 0,.int .i64 0] 82)) [.int .i64 0] 35).below (Ab _ (.cells (Ag m).toArray 77))).below hb
  simpa using h1
 ·have h1:=Ae.new ((((w.alloc (.cells #[.pointer (some ⟨pb,0,none⟩)] 24)).alloc (.cells (Ad m g).toArray 86)).alloc (.cells #[.bool false,.slice none 0 0,.int .i64 0] 82)).alloc (.cells #[.int .i64 0] 35)) (Ag m) 77
  simpa using h1
theorem wK {c:Prop} [Decidable c] {a b:Prem} {rows:List ND} (h1:rows <+: a.rows) (h2:rows <+: b.rows):rows <+: (if c then a else b).rows:=by split<;>assumption
theorem Oe (rows:List ND) (s:SQ) (k:Int) (main:Nat):rows <+: (Af rows s k main).rows:=by
 unfold Af
 simp only
 repeat' refine wK ?_ ?_
 all_goals first
  | exact List.prefix_refl _
  | exact Dl _ _
  | exact (Dl _ _).trans (Dl _ _)
  |(refine putK_pre (List.prefix_refl _) (fun r f hr=>?_)
    first
     | exact hr
     | (refine putK_pre hr (fun r2 f2 hr2=>?_);exact hr.trans hr2))
section
variable {dec:SR→SQ→SA} (D:∀ st s,st.rows <+: (dec st s).st.rows)
include D
theorem bR (s:SQ) (k:Int) (main:Nat):∀ (todo:List SQ) (st:SR) (kids:List Nat),st.rows <+: (Em dec s k main todo st kids).st.rows:=by
 intro todo
 induction todo with
 | nil=>intro st kids;rw [Em];exact List.prefix_refl _
 | cons p t ih=>
  intro st kids
  rw [Em]
  split
  ·exact D _ _
  ·split
   ·exact (D _ _).trans (ih _ _)
   ·exact D _ _
theorem Xd (s:SQ):∀ (todo:List (Int × Nat)) (st:SR) (stuck:List Nat),st.rows <+: (Bq dec s todo st stuck).st.rows:=by
 intro todo
 induction todo with
 | nil=>intro st stuck;rw [Bq];exact List.prefix_refl _
 | cons c t ih=>
  intro st stuck
  rw [Bq]
  simp only
  have hp:=Oe st.rows s c.1 c.2
  split
  ·exact List.prefix_refl _
  ·cases hs:(Af st.rows s c.1 c.2).seqs with
   | nil=>exact hp
   | cons q more=>
    simp only
    have h1:=D ⟨(Af st.rows s c.1 c.2).rows,st.steps,st.left⟩ q
    have h1':=hp.trans h1
    split
    ·exact h1'
    ·split
     ·cases more with
      | nil=>exact h1'
      | cons q2 m=>
       simp only
       have h2:=h1'.trans (D (dec ⟨(Af st.rows s c.1 c.2).rows,st.steps,st.left⟩ q).st q2)
       split
       ·exact h2
       ·split<;>exact h2
     ·exact h1'.trans (ih _ _)
end
theorem gU:∀ (fuel:Nat) (st:SR) (s:SQ),st.rows <+: (Ci fuel st s).st.rows:=by
 intro fuel
 induction fuel with
 | zero=>
  intro st s
  rw [Ci]
  cases Fv st.steps s<;>exact List.prefix_refl _
 | succ fuel ih=>
  intro st s
  rw [Ci]
  cases Fv st.steps s with
  | some i=>exact List.prefix_refl _
  | none=>
   simp only
   split
   ·exact List.prefix_refl _
   ·split
    ·exact Xd ih s (Bj st.rows s) ⟨st.rows,st.steps,st.left - 1⟩ []
    ·split
     ·exact List.prefix_refl _
     ·exact (Oe _ _ _ _).trans (bR ih s _ _ _ ⟨(Af st.rows s (Ak st.rows s).1 (Ak st.rows s).2).rows,st.steps,st.left - 1⟩ [])
theorem KeptF.tail {F F4:FP} {w W4 W9:World} (h:KeptF F w F4 W4) (hb:Below w.heap.size W4 W9):KeptF F w F4 W9:=
 ⟨hb.os.trans h.os,hb.tape.trans h.tape,hb.output.trans h.output,Nat.le_trans h.size hb.size,h.sub,fun b hf=>Nat.lt_of_lt_of_le (h.lt b hf) hb.size,fun b hb' hn=>(hb.block b hb').trans (h.block b hb' hn)⟩
theorem KeptF.of_only {G:FP} {W W':World} {c:Nat} (h:Only c W W') (hc:G c) (hi:G.in_ W):KeptF G W G W':=
 ⟨h.os,h.tape,h.output,Nat.le_of_eq h.size.symm,fun _ _ h=>h,fun b hb=>h.size▸hi b hb,fun b _ hn=>h.block b fun e=>hn (e▸hc)⟩
theorem KeptF.of_put {G:FP} {W:World} {D:Nat} {o:Obj} (hc:G D) (hi:G.in_ W):KeptF G W G (W.putObj D o):=
 ⟨rfl,rfl,rfl,(grownBy_putObj' W D o).size,fun _ _ h=>h,fun b hb=>Nat.lt_of_lt_of_le (hi b hb) (grownBy_putObj' W D o).size,fun b hb hn=>(grownBy_putObj' W D o).block b hb fun e=>hn (by cases e;exact hc)⟩
def Il (w:World) (D:Nat):FP:=fun c=>c=w.heap.size+1+1∨c=w.heap.size+1+1+1∨c=D
theorem eR {F F4 FG G2 K2:FP} {w W1 W3 W4 W9:World} {D:Nat} (_hF:F.in_ w) (h1:Below w.heap.size w W1) (h3:Below W1.heap.size W1 W3) (hFG:∀ c,FG c→W1.heap.size≤c)
  (hk:KeptF (H3 F FG FP.none) W3 (H3 F4 G2 K2) W4) (h4:F4.in_ W4) (hD:w.heap.size≤D) (hg:KeptF (Il w D) W4 (Il w D) W9):KeptF F w F4 W9:=by
 have hb3:=Ac h1 h3
 have s1:=hb3.size
 have s2:=h1.size
 have s3:=hk.size
 have hno:∀ c,c<w.heap.size→¬ F c→¬ H3 F FG FP.none c:=fun c hc hn hh=>by
  rcases hh with h | h | h
  ·exact hn h
  ·have:=hFG c h;omega
  ·exact h
 refine KeptF.tail (W4:=W4) ⟨hk.os.trans hb3.os,hk.tape.trans hb3.tape,hk.output.trans hb3.output,by omega,fun c hc hf=>?_,h4,fun c hc hn=>(hk.block c (by omega) (hno c hc hn)).trans (hb3.block c hc)⟩ (hg.below (by omega) fun c hc hh=>?_)
 ·apply Classical.byContradiction
  intro hn
  exact hno c hc hn (hk.sub c (by omega) (.inl hf))
 ·rcases hh with h | h | h<;>omega
theorem bQ {F F4 FG G2 K2:FP} {w W1 W3 W4:World} {D:Nat} (h3:Below W1.heap.size W1 W3) (hk:KeptF (H3 F FG FP.none) W3 (H3 F4 G2 K2) W4) (hn:∀ c,w.heap.size≤c→c<W1.heap.size→¬ H3 F FG FP.none c) (hs:w.heap.size+5≤W1.heap.size) (hD:w.heap.size≤D) (hD2:D<W1.heap.size) :
  (H3 F4 G2 K2).apart (Il w D):=fun c hc hl=>by
 have s1:=h3.size
 have hlt:w.heap.size≤c∧c<W1.heap.size:=by rcases hl with h | h | h<;>omega
 exact hn c hlt.1 hlt.2 (hk.sub c (by omega) hc)
theorem fG {w W1 W3 W4:World} {D:Nat} {H H':FP} (h3:Below W1.heap.size W1 W3) (hk:KeptF H W3 H' W4) (hs:w.heap.size+5≤W1.heap.size) (hD2:D<W1.heap.size):(Il w D).in_ W4:=fun c hl=>by
 have s1:=h3.size
 have s2:=hk.size
 rcases hl with h | h | h<;>omega
theorem KeptF.setG {G H:FP} {W W':World} (h:KeptF H W G W') {c:Nat} (hc:G c) (i:Nat) (v:Value):KeptF H W G (W'.setCell ⟨c,i,none⟩ v):=h.trans (KeptF.of_only (Aq W' c i v) hc h.lt)
theorem KeptF.drewG {G H:FP} {W W':World} (h:KeptF H W G W'):KeptF H W G W'.drew:=h.trans (KeptF.of_below h.lt (below_drewN W' 1))
def kP (w:World) (sv:Value) (steps:List SS):Prop:=∃ kvs K,steps.length=kvs.length∧w.ownsRow 0 122 21 sv steps.length (Ih steps kvs)∧∀ (i:Nat) (x:SS) (v:Value),steps[i]? = some x→kvs[i]? = some v→KidV K w v x.kids
def Ya (F:FP) (w:World) (t:Value) (rows:List ND) (b:Nat) (r:SA) (e:Ending) (w':World):Prop:=
 ∃ F',KeptF F w F' w'∧(r.err=0→∃ sv,e = .returned (.tuple #[.agg #[.bool (Ax r.st r.at_),sv,.int .i64 ((b - r.st.left:Nat):Int)],.int .i64 0])∧Cm F' w' t r.st.rows∧kP w' sv r.st.steps) ∧
  (r.err≠0→e = .returned (.tuple #[.agg #[.bool false,.slice none 0 0,.int .i64 0],.int .i64 r.err])∧Cm F' w' t rows)
theorem vP {F:FP} {w W5 W1:World} {pb:Nat} {rows:List ND} {s:SQ} {b:Nat} (hF:Cm F w (.pointer (some ⟨pb,0,none⟩)) rows) (_hs:Wf rows s) (h5:Below w.heap.size w W5) (h1:Below W5.heap.size W5 W1) (_hb:1≤b) :
  Fin F (fun c=>c=W1.heap.size∨c=W1.heap.size+1) FP.none ((W1.alloc (.map #[] 0)).alloc (.cells #[.pointer (some ⟨pb,0,none⟩),.slice none 0 0,.map (some W1.heap.size),.int .i64 (b:Int),.int .i64 0] 118)) (W1.heap.size+1) (.pointer (some ⟨pb,0,none⟩)) ⟨rows,[],b⟩ 0:=by
 have hB:=Ac (Ac (Ac h5 h1) (Ab W1 (.map #[] 0))) (Ab _ (.cells #[.pointer (some ⟨pb,0,none⟩),.slice none 0 0,.map (some W1.heap.size),.int .i64 (b:Int),.int .i64 0] 118))
 have hz:=(Ac h5 h1).size
 refine ⟨.slice none 0 0,W1.heap.size,[],hF.below hB,fun c hc=>by rcases hc with rfl | rfl<;>simp<;>omega,fun _ h=>h.elim,fun c hf hc=>by have:=hF.in_ _ hf;rcases hc with rfl | rfl<;>omega,fun _ h=>h.elim,fun _ h=>h.elim,Cd _ _ (by simp),World.ownsRow_nil _ _ _ _,rfl,fun i x v hx=>by simp at hx,?_,.inr rfl,.inl rfl,fun g hg=>by simp [Value.ownBlock] at hg⟩
 exact (TM.made Tryz.prog 86 SQ.val Jq W1).below (Ab _ _)
set_option maxRecDepth 100000 in
set_option maxHeartbeats 4000000 in
theorem run_any (F:FP) (w:World) (t:Value) (rows:List ND) (hF:Cm F w t rows) (hT:TabG w) (hF0:¬ F 0) (s:SQ) (hs:Wf rows s) (b:Nat) (hb1:1≤b) (hb2:b≤4096) (r:SA) (hr:Ci b ⟨rows,[],b⟩ s=r) :
  Calls Tryz.prog 30 #[t,.agg (Ad s.left s.goal).toArray,.int .i64 (b:Int)] w (Ya F w t rows b r):=by
 obtain ⟨pb,rfl⟩:∃ pb,t = .pointer (some ⟨pb,0,none⟩):=by obtain ⟨pb,_,_,e,_⟩:=hF.col 0;exact ⟨pb,e⟩
 have H:=Aa (hF.col 0);have HT:=Aa hT;have HW:=Aa hs;have HF:=Aa hF;have HR:=Aa hr;have HF0:=Aa hF0
 clear hF hT hs hr hF0
 refine (callsIn_wide (n:=8)).1 ?_
 refine callsIn_of_wp_marks Tryz.func30 rfl trivial ?_ rfl
 simp only [Tryz.ntmps30,List.size_toArray,List.length_cons,List.length_nil,Nat.reduceAdd,Nat.reduceSub,Array.replicate_succ,Array.replicate_zero,List.push_toArray,List.append_toArray,List.nil_append,List.cons_append]
 have HQ:Hid (∀ o o2,Ae ((((w.alloc (.cells #[.pointer (some ⟨pb,0,none⟩)] 24)).alloc (.cells (Ad s.left s.goal).toArray 86)).alloc o).alloc o2) (w.heap.size+1) (Ad s.left s.goal) 86):=fun o o2=>by
  have:=((Ae.new (w.alloc (.cells #[.pointer (some ⟨pb,0,none⟩)] 24)) (Ad s.left s.goal) 86).below (Ab _ o)).below (Ab _ o2)
  simpa using this
 gi_wp2_with (first
  | (refine ⟨trivial,?_⟩;gi_at_call 45;go_loud (refine (callsIn_wide.2 (mP 0 _ _ _ rows (H.o.below (Ac (Ac (Ac (Ab _ _) (Ab _ _)) (Ab _ _)) (Ab _ _))) (-1) (by simp [hasB]))).mono ?_;rintro e w2 ⟨rfl,rfl⟩))
  | (refine Ij (.tmp 24) rfl rfl rfl (HQ.o _ _) ?_)
  | (refine ⟨trivial,?_⟩;gi_at_call 52;refine (Rf _ _).mono ?_;rintro e w5 ⟨rfl,rfl⟩))
 have HFR:=Aa (qL w pb s.left s.goal)
 generalize (((((w.alloc (.cells #[.pointer (some ⟨pb,0,none⟩)] 24)).alloc (.cells (Ad s.left s.goal).toArray 86)).alloc (.cells #[.bool false,.slice none 0 0,.int .i64 0] 82)).alloc (.cells #[.int .i64 0] 35)).alloc (.cells (Ag s.left).toArray 77))=W5 at *
 have HS:Hid (∀ g,(g=0∨g=w.heap.size+1+1+1+1)→g<W5.heap.size):=fun g hg=>by
  have h1:=HFR.o.sz
  rcases hg with rfl | rfl<;>omega
 clear HQ
 refine' wpIn_rangeFunc_ownG (I:=fun _ W=>Below W5.heap.size W5 W) (Ix:=fun _ _ _=>False) (Kp:=Lh fun g=>g=0∨g=w.heap.size+1+1+1+1)
  rfl (by omega) (gf:=70) (lb:=#[.pointer (some ⟨w.heap.size+1+1+1+1,0,none⟩)]) rfl trivial (enters_of Tryz.func70 (by kernel_rfl) rfl)
  (all_stops _ (by omega) (w.heap.size+1+1+1+1) s.left _ (.inl rfl) (.inr rfl) W5 HS.o (HT.o.below HFR.o.bel) HFR.o.bits) Pn (Uz HS.o) (Below.refl _ _) (fun _=>rfl) (ownFrom_below (Nat.le_refl _) (Nat.le_refl _)) (fun _ _ _ _ _ hs _ _=>hs) (Below.refl _ _) _ ?assign ?body ?done ?stop
 case assign=>
  intro l x W K hK
  unfold eO
  gi_wp2
  exact hK
 case stop=>rintro _ _ _ _ _ _ h _;exact h.elim
 case body=>
  rintro l pre x W hI hlt
  have HI:=Aa hI
  have hlt:x.1<rows.length:=HW.o.left _ x.2.2
  have hc:((x.1:Int)<(rows.length:Int)):=by omega
  have c1:W.cell? ⟨w.heap.size,0,none⟩=some (.pointer (some ⟨pb,0,none⟩)):=(HFR.o.tb hI).cell (i:=0) rfl
  clear hI
  gi_wp2_with (refine ⟨trivial,?_⟩;gi_at_call 31;refine (CallsIn.inRound l (callsIn_wide.2 (len_any 0 _ _ _ rows (H.o.below (Ac HFR.o.bel HI.o))))).mono ?_;rintro e w6 ⟨rfl,rfl⟩)
  exact ⟨KeepsFrom.refl _ _,Zl _ _,HI.o⟩
 case done=>
  rintro D ys W hD hys hI hK
  have HI:=Aa hI
  have c1:W.cell? ⟨w.heap.size,0,none⟩=some (.pointer (some ⟨pb,0,none⟩)):=(HFR.o.tb hI).cell (i:=0) rfl
  have c16:=(HFR.o.sq hI).cell (Bl s.left s.goal)
  have HTL:Hid (∀ n,Tab 0 (Vi F 0) (W.drewN n) (.pointer (some ⟨pb,0,none⟩)) rows):=fun n=>H.o.below (Ac (Ac HFR.o.bel hI) (below_drewN W n))
  have hg:(s.goal:Int)<(rows.length:Int):=by have:=HW.o.goal;omega
  have hg0:¬ ((s.goal:Int)<0):=by omega
  have hgd:decide ((s.goal:Int)<0)=false:=decide_eq_false hg0
  have hge:decide ((rows.length:Int)≤(s.goal:Int))=false:=decide_eq_false (by omega)
  have HLW:Hid (∀ a,CallsIn Fence.wide 7 Tryz.prog 31 #[.pointer (some ⟨pb,0,none⟩)] (W.drewN a) fun e w''=>e = .returned (.int .i64 (rows.length:Int))∧∃ n,w''=W.drewN n):=fun a=>
   CallsIn.quiet_of_same ((callsIn_wide.2 (len_any 0 _ _ _ rows (HTL.o a))).mono fun e w' ⟨h1,h2⟩=>⟨h1,h2.symm⟩)
  clear hI
  gi_wp2
  refine wpIn_region_quiet_lit rfl (by kernel_rfl) (by kernel_rfl) ?_
  repeat (
   refine wpQuietIn_step (by unfold Oper.askedIn;intros;trivial) (fun K hK=>?_)
   go_simp
   first
    | (refine hK _ ?_;clear hK K)
    |(apply Exists.intro
      refine ⟨fun _=>?_,hK _ ?_⟩
      (exact HLW.o _)
      clear hK K))
  refine wpQuietIn_nil ?_
  intro _ hw'
  obtain ⟨nq,hw''⟩:=hw'
  subst hw''
  have HB1:=Aa (Ac HI.o (below_drewN W nq))
  have hK1:(W.drewN nq).heap[D]? = some (.deferred (some [])):=by simpa using hK
  have HKD:=Aa hK1
  clear c1 c16 HTL HLW hK hK1
  generalize W.drewN nq=W1 at *
  have c1:W1.cell? ⟨w.heap.size,0,none⟩=some (.pointer (some ⟨pb,0,none⟩)):=(HFR.o.tb HB1.o).cell (i:=0) rfl
  have hbl:decide ((b:Int)<1)=false:=decide_eq_false (by omega)
  have hbg:decide ((4096:Int)<(b:Int))=false:=decide_eq_false (by omega)
  have hbl2:¬ ((b:Int)<1):=by omega
  have hbg2:¬ ((4096:Int)<(b:Int)):=by omega
  have hbg3:decide (4096<b)=false:=decide_eq_false (by omega)
  have hbl3:decide (b<1)=false:=decide_eq_false (by omega)
  have hbl4:decide (b=0)=false:=decide_eq_false (by omega)
  have hbl5:¬ b=0:=by omega
  have hbg4:¬ 4096<b:=by omega
  have hmm:=@run_makeMap Tryz.prog
  have hnew:=Aa (vP HF.o HW.o HFR.o.bel HB1.o hb1)
  have HF3:Hid (Ae ((W1.alloc (.map #[] 0)).alloc (.cells #[.pointer (some ⟨pb,0,none⟩),.slice none 0 0,.map (some W1.heap.size),.int .i64 (b:Int),.int .i64 0] 118)) (w.heap.size+1) (Ad s.left s.goal) 86):=((HFR.o.sq HB1.o).below (Ab _ _)).below (Ab _ _)
  have HZ:Hid (W5.heap.size≤W1.heap.size):=HB1.o.size
  have HINV:Hid (InvS ⟨rows,[],b⟩):=⟨HF.o.ok,fun x hx=>by cases hx⟩
  obtain ⟨FG,hFG⟩:∃ FG:FP,FG=fun c=>c=W1.heap.size∨c=W1.heap.size+1:=⟨_,rfl⟩
  have HFIN:Hid (Fin F FG FP.none ((W1.alloc (.map #[] 0)).alloc (.cells #[.pointer (some ⟨pb,0,none⟩),.slice none 0 0,.map (some W1.heap.size),.int .i64 (b:Int),.int .i64 0] 118)) (W1.heap.size+1) (.pointer (some ⟨pb,0,none⟩)) ⟨rows,[],b⟩ 0):=hFG▸hnew.o
  have HENV:Hid (FEnv F FG FP.none ((W1.alloc (.map #[] 0)).alloc (.cells #[.pointer (some ⟨pb,0,none⟩),.slice none 0 0,.map (some W1.heap.size),.int .i64 (b:Int),.int .i64 0] 118))):=by
   refine ⟨HT.o.below (Ac (Ac (Ac HFR.o.bel HB1.o) (Ab _ _)) (Ab _ _)),?_⟩
   rintro (h | h | h)
   ·exact HF0.o h
   ·have:=HFR.o.sz
    have:=HZ.o
    rw [hFG] at h
    rcases h with h | h<;>omega
   ·exact h
  have HDEC:=Aa (jT (W1.heap.size+1) (.pointer (some ⟨pb,0,none⟩)) b F FG FP.none _ ⟨rows,[],b⟩ 0 s HFIN.o HENV.o HINV.o HW.o (Nat.le_refl _) (by simp;omega) (by omega) (by simp;omega))
  rw [HR.o] at HDEC
  have HFGD:=Aa hFG
  clear hnew hFG
  have HDLT:Hid (D<W1.heap.size):=lt_of_block HKD.o
  have HPRE:Hid (rows <+: r.st.rows):=by have:=gU b ⟨rows,[],b⟩ s;rw [HR.o] at this;exact this
  have HNB:Hid (∀ c,w.heap.size≤c→c<W1.heap.size→¬ H3 F FG FP.none c):=fun c h1 h2=>by
   rintro (h | h | h)
   ·have:=HF.o.in_ _ h;omega
   ·rw [HFGD.o] at h;rcases h with h | h<;>omega
   ·exact h
  have HA3:Hid (Below W1.heap.size W1 ((W1.alloc (.map #[] 0)).alloc (.cells #[.pointer (some ⟨pb,0,none⟩),.slice none 0 0,.map (some W1.heap.size),.int .i64 (b:Int),.int .i64 0] 118))):=Ac (Ab _ _) (Ab _ _)
  by_cases hz:r.err=0
  ·have hz2:(r.err != 0)=false:=by simpa using hz
   have HZR:=Aa hz
   have HGA:Hid (GoodA ⟨rows,[],b⟩ s r):=by
    have:=Ub b ⟨rows,[],b⟩ s HINV.o HW.o
    rw [HR.o] at this
    exact this hz
   have HAT:Hid (r.at_<r.st.steps.length):=by
    obtain ⟨x,hx,_⟩:=HGA.o.ans
    exact (List.getElem?_eq_some_iff.1 hx).1
   have HS5:w.heap.size+5≤W1.heap.size:=by have:=HFR.o.sz;have:=HZ.o;omega
   clear hz
   gi_wp2_with (first
    | (refine ⟨trivial,?_⟩;gi_at_call 31;refine (callsIn_wide.2 (len_any 0 _ _ _ rows (H.o.below (Ac HFR.o.bel HB1.o)))).mono ?_;rintro e w6 ⟨rfl,rfl⟩)
    | (refine Ea (.tmp 4) rfl rfl rfl HF3.o ?_)
    |(refine ⟨trivial,?_⟩;gi_at_call 53;refine (callsIn_wide.2 HDEC.o).mono ?_;rintro e W2 ⟨rfl,F2,G2,K2,hk2,hf2⟩;have HK2:=Aa hk2;have HF2:=Aa hf2;clear hk2 hf2
      obtain ⟨sv2,mb2,kvs2,hm2⟩:=HF2.o;have HM2:=Aa hm2;clear hm2
      obtain ⟨g2,q2,hsv,cg⟩:=Js HM2.o HAT.o;subst hsv
      have p1:W2.cell? ⟨W1.heap.size+1,1,none⟩=some (.slice (some ⟨g2,0,none⟩) r.st.steps.length q2):=cell_of HM2.o.blk rfl
      have p4:W2.cell? ⟨W1.heap.size+1,4,none⟩=some (.int .i64 (0+((b - r.st.left:Nat):Int))):=cell_of HM2.o.blk rfl
      have KFO:Ae W2 (w.heap.size+1+1) [.bool false,.slice none 0 0,.int .i64 0] 82:=HK2.o.box ((HFR.o.fo HB1.o).below HA3.o) (HNB.o _ (by omega) (by omega))
      have KER:Ae W2 (w.heap.size+1+1+1) [.int .i64 0] 35:=HK2.o.box ((HFR.o.er HB1.o).below HA3.o) (HNB.o _ (by omega) (by omega))
      have c60:=KFO.cell (i:=0) rfl;have c61:=KFO.cell (i:=1) rfl;have c62:=KFO.cell (i:=2) rfl;have f60:=KFO.fr 0;have f61:=KFO.fr 1;have f62:=KFO.fr 2;have c70:=KER.cell (i:=0) rfl;have f70:=KER.fr 0))
   have hat:r.at_<r.st.steps.length:=HAT.o
   have hle:r.st.steps.length<2 ^ 62:=by
    have:=(Jc b ⟨rows,[],b⟩ s).len
    rw [HR.o] at this
    simp only [List.length_nil] at this
    omega
   have HDW:w.heap.size≤D:=by have:=HFR.o.sz;omega
   have hGI:(Il w D).in_ W2:=fG HA3.o HK2.o HS5 HDLT.o
   have HAP:=bQ HA3.o HK2.o HNB.o HS5 HDW HDLT.o
   have hG:∀ c,G2 c→¬ Il w D c:=fun c hc=>HAP c (.inr (.inl hc))
   have l1:∀ W',KeptF (Il w D) W2 (Il w D) W'→W'.cell? ⟨W1.heap.size+1,1,none⟩=some (.slice (some ⟨g2,0,none⟩) r.st.steps.length q2):=fun W' hk=>hk.cell p1 (hG _ HM2.o.gp)
   have l4:∀ W',KeptF (Il w D) W2 (Il w D) W'→W'.cell? ⟨W1.heap.size+1,4,none⟩=some (.int .i64 (0+((b - r.st.left:Nat):Int))):=fun W' hk=>hk.cell p4 (hG _ HM2.o.gp)
   have lg:∀ W',KeptF (Il w D) W2 (Il w D) W'→W'.cell? ⟨g2,r.at_ * 21+17,none⟩=some (.bool (Ax r.st r.at_)):=fun W' hk=>hk.cell cg (hG _ (HM2.o.gs _ rfl))
   have HGR:Hid (KeptF (Il w D) W2 (Il w D) W2):=KeptF.refl hGI
   clear hG
   refine wpIn_wide.2 ?_
   go_region_held3 (fun W'=>KeptF (Il w D) W2 (Il w D) W') ((repeat (first | exact HGR.o | refine KeptF.drewG ?_ | (refine KeptF.setG ?_ (.inl rfl) _ _) | (refine KeptF.setG ?_ (.inr (.inl rfl)) _ _)))) ((fail))
   gi_wp2
   have HFGB:∀ c,FG c→W1.heap.size≤c:=fun c hc=>by rw [HFGD.o] at hc;rcases hc with h | h<;>omega
   have K6:=((((KFO.set 0 (.bool (Ax r.st r.at_))).set 1 (.slice (some ⟨g2,0,none⟩) r.st.steps.length q2)).set 2 (.int .i64 ((b - r.st.left:Nat):Int))).other (c:=w.heap.size+1+1+1) (by omega) 0 (.int .i64 0)).below (below_drewN _ 1)
   have K7:=((((KER.other (c:=w.heap.size+1+1) (by omega) 0 (.bool (Ax r.st r.at_))).other (c:=w.heap.size+1+1) (by omega) 1 (.slice (some ⟨g2,0,none⟩) r.st.steps.length q2)).other (c:=w.heap.size+1+1) (by omega) 2 (.int .i64 ((b - r.st.left:Nat):Int))).set 0 (.int .i64 0)).below (below_drewN _ 1)
   have hKD2:W2.heap[D]? = some (.deferred (some [])):=HK2.o.box ((HA3.o.block D HDLT.o).trans HKD.o) (HNB.o D HDW HDLT.o)
   have hK8:(((((W2.setCell ⟨w.heap.size+1+1,0,none⟩ (.bool (Ax r.st r.at_))).setCell ⟨w.heap.size+1+1,1,none⟩ (.slice (some ⟨g2,0,none⟩) r.st.steps.length q2)).setCell ⟨w.heap.size+1+1,2,none⟩ (.int .i64 ((b - r.st.left:Nat):Int))).setCell ⟨w.heap.size+1+1+1,0,none⟩ (.int .i64 0)).drew).heap[D]? = some (.deferred (some [])):=
    ((((KeepsOthers.setCell _ _ _).trans (KeepsOthers.setCell _ _ _)).trans (KeepsOthers.setCell _ _ _)).trans (KeepsOthers.setCell _ _ _)).same D _ hKD2 rfl
   have HKG:KeptF (Il w D) W2 (Il w D) (((((W2.setCell ⟨w.heap.size+1+1,0,none⟩ (.bool (Ax r.st r.at_))).setCell ⟨w.heap.size+1+1,1,none⟩ (.slice (some ⟨g2,0,none⟩) r.st.steps.length q2)).setCell ⟨w.heap.size+1+1,2,none⟩ (.int .i64 ((b - r.st.left:Nat):Int))).setCell ⟨w.heap.size+1+1+1,0,none⟩ (.int .i64 0)).drew):=KeptF.drewG (KeptF.setG (KeptF.setG (KeptF.setG (KeptF.setG HGR.o (.inl rfl) _ _) (.inl rfl) _ _) (.inl rfl) _ _) (.inr (.inl rfl)) _ _)
   clear c60 c61 c62 f60 f61 f62 c70 f70 l1 l4 lg p1 p4 cg
   have K6':Ae (((((W2.setCell ⟨w.heap.size+1+1,0,none⟩ (.bool (Ax r.st r.at_))).setCell ⟨w.heap.size+1+1,1,none⟩ (.slice (some ⟨g2,0,none⟩) r.st.steps.length q2)).setCell ⟨w.heap.size+1+1,2,none⟩ (.int .i64 ((b - r.st.left:Nat):Int))).setCell ⟨w.heap.size+1+1+1,0,none⟩ (.int .i64 0)).drew) (w.heap.size+1+1) [.bool (Ax r.st r.at_),.slice (some ⟨g2,0,none⟩) r.st.steps.length q2,.int .i64 ((b - r.st.left:Nat):Int)] 82:=K6
   have K7':Ae (((((W2.setCell ⟨w.heap.size+1+1,0,none⟩ (.bool (Ax r.st r.at_))).setCell ⟨w.heap.size+1+1,1,none⟩ (.slice (some ⟨g2,0,none⟩) r.st.steps.length q2)).setCell ⟨w.heap.size+1+1,2,none⟩ (.int .i64 ((b - r.st.left:Nat):Int))).setCell ⟨w.heap.size+1+1+1,0,none⟩ (.int .i64 0)).drew) (w.heap.size+1+1+1) [.int .i64 0] 35:=K7
   clear K6 K7
   generalize (((((W2.setCell ⟨w.heap.size+1+1,0,none⟩ (.bool (Ax r.st r.at_))).setCell ⟨w.heap.size+1+1,1,none⟩ (.slice (some ⟨g2,0,none⟩) r.st.steps.length q2)).setCell ⟨w.heap.size+1+1,2,none⟩ (.int .i64 ((b - r.st.left:Nat):Int))).setCell ⟨w.heap.size+1+1+1,0,none⟩ (.int .i64 0)).drew)=W8 at *
   have HK9:=HKG.trans (KeptF.of_put (o:=.deferred none) (.inr (.inr rfl)) HKG.lt)
   have g6:=K6'.grown (grownBy_putObj' W8 D (.deferred none)) (fun r e=>by cases e;exact ⟨_,hK8,rfl⟩)
   have g7:=K7'.grown (grownBy_putObj' W8 D (.deferred none)) (fun r e=>by cases e;exact ⟨_,hK8,rfl⟩)
   have d0:=g6.cell (i:=0) rfl;have d1:=g6.cell (i:=1) rfl;have d2:=g6.cell (i:=2) rfl;have d3:=g7.cell (i:=0) rfl
   have HSR:kP (W8.putObj D (.deferred none)) (.slice (some ⟨g2,0,none⟩) r.st.steps.length q2) r.st.steps:=
    ⟨kvs2,K2,HM2.o.len,Bd HM2.o.row (fun g hg=>HK9.block g (HM2.o.gin g (HM2.o.gs g hg)) (HAP g (.inr (.inl (HM2.o.gs g hg))))),fun i x v hx hv=>(HM2.o.kid i x v hx hv).same (fun c hk=>HK9.block c (HM2.o.kin c hk) (HAP c (.inr (.inr hk)))) (fun _ h=>h)⟩
   have HFIN4:Ya F w (.pointer (some ⟨pb,0,none⟩)) rows b r (.returned (.tuple #[.agg #[.bool (Ax r.st r.at_),.slice (some ⟨g2,0,none⟩) r.st.steps.length q2,.int .i64 ((b - r.st.left:Nat):Int)],.int .i64 0])) (W8.putObj D (.deferred none)):=
    ⟨F2,eR HF.o.in_ (Ac HFR.o.bel HB1.o) HA3.o HFGB HK2.o HM2.o.tab.in_ HDW HK9,fun _=>⟨_,rfl,HM2.o.tab.kept HK9 fun c hc=>HAP c (.inl hc),HSR⟩,fun h=>absurd HZR.o h⟩
   refine ⟨by simp,.inl ⟨_,_,rfl,run_takeDeferred hK8,?_⟩⟩
   exact ⟨.tuple #[.agg #[.bool (Ax r.st r.at_),.slice (some ⟨g2,0,none⟩) r.st.steps.length q2,.int .i64 ((b - r.st.left:Nat):Int)],.int .i64 0],by simp [results,Tryz.results30,go_sem,d0,d1,d2,d3],HFIN4⟩
  ·have hz2:(r.err != 0)=true:=by simpa using hz
   have HZR:=Aa hz
   clear hz
   gi_wp2_with (first
    | (refine ⟨trivial,?_⟩;gi_at_call 31;refine (callsIn_wide.2 (len_any 0 _ _ _ rows (H.o.below (Ac HFR.o.bel HB1.o)))).mono ?_;rintro e w6 ⟨rfl,rfl⟩)
    | (refine Ea (.tmp 4) rfl rfl rfl HF3.o ?_)
    | (refine ⟨trivial,?_⟩;gi_at_call 53;refine (callsIn_wide.2 HDEC.o).mono ?_;rintro e W2 ⟨rfl,F2,G2,K2,hk2,hf2⟩;have HK2:=Aa hk2;have HF2:=Aa hf2;clear hk2 hf2;have c1:W2.cell? ⟨w.heap.size,0,none⟩=some (.pointer (some ⟨pb,0,none⟩)):=Ae.cell (HK2.o.box ((HFR.o.tb HB1.o).below HA3.o) (HNB.o _ (Nat.le_refl _) (by have:=HFR.o.sz;have:=HZ.o;omega))) (i:=0) rfl)
    |(refine ⟨trivial,?_⟩;gi_at_call 33;obtain ⟨sv2,mb2,kvs2,hm2⟩:=HF2.o;have HM2:=Aa hm2;clear hm2;refine (callsIn_wide.2 (mM HM2.o.tab (rows.length:Int))).mono ?_;rintro e W4 ⟨rfl,F4,hk4,ht4⟩;rw [Oq HPRE.o] at ht4;have HK4:=Aa (HK2.o.trans (hk4.tab3 HM2.o.gin HM2.o.kin));have HT4:=Aa ht4;have HO4:=Aa hk4;clear hk4 ht4
      have KFO:Ae W4 (w.heap.size+1+1) [.bool false,.slice none 0 0,.int .i64 0] 82:=HK4.o.box ((HFR.o.fo HB1.o).below HA3.o) (HNB.o _ (by omega) (by have:=HFR.o.sz;have:=HZ.o;omega))
      have KER:Ae W4 (w.heap.size+1+1+1) [.int .i64 0] 35:=HK4.o.box ((HFR.o.er HB1.o).below HA3.o) (HNB.o _ (by omega) (by have:=HFR.o.sz;have:=HZ.o;omega))
      have c60:=KFO.cell (i:=0) rfl;have c61:=KFO.cell (i:=1) rfl;have c62:=KFO.cell (i:=2) rfl;have f60:=KFO.fr 0;have f61:=KFO.fr 1;have f62:=KFO.fr 2;have c70:=KER.cell (i:=0) rfl;have f70:=KER.fr 0))
   have HS5:w.heap.size+5≤W1.heap.size:=by have:=HFR.o.sz;have:=HZ.o;omega
   have HDW:w.heap.size≤D:=by have:=HFR.o.sz;omega
   have HFGB:∀ c,FG c→W1.heap.size≤c:=fun c hc=>by rw [HFGD.o] at hc;rcases hc with h | h<;>omega
   have K6:=(((KFO.set 0 (.bool false)).set 1 (.slice none 0 0)).set 2 (.int .i64 0)).other (c:=w.heap.size+1+1+1) (by omega) 0 (.int .i64 r.err)
   have K7:=(((KER.other (c:=w.heap.size+1+1) (by omega) 0 (.bool false)).other (c:=w.heap.size+1+1) (by omega) 1 (.slice none 0 0)).other (c:=w.heap.size+1+1) (by omega) 2 (.int .i64 0)).set 0 (.int .i64 r.err)
   have hKD4:W4.heap[D]? = some (.deferred (some [])):=HK4.o.box ((HA3.o.block D HDLT.o).trans HKD.o) (HNB.o D HDW HDLT.o)
   have hGI:(Il w D).in_ W4:=fG HA3.o HK4.o HS5 HDLT.o
   have hK8:((((W4.setCell ⟨w.heap.size+1+1,0,none⟩ (.bool false)).setCell ⟨w.heap.size+1+1,1,none⟩ (.slice none 0 0)).setCell ⟨w.heap.size+1+1,2,none⟩ (.int .i64 0)).setCell ⟨w.heap.size+1+1+1,0,none⟩ (.int .i64 r.err)).heap[D]? = some (.deferred (some [])):=
    ((((KeepsOthers.setCell _ _ _).trans (KeepsOthers.setCell _ _ _)).trans (KeepsOthers.setCell _ _ _)).trans (KeepsOthers.setCell _ _ _)).same D _ hKD4 rfl
   have HKG:KeptF (Il w D) W4 (Il w D) ((((W4.setCell ⟨w.heap.size+1+1,0,none⟩ (.bool false)).setCell ⟨w.heap.size+1+1,1,none⟩ (.slice none 0 0)).setCell ⟨w.heap.size+1+1,2,none⟩ (.int .i64 0)).setCell ⟨w.heap.size+1+1+1,0,none⟩ (.int .i64 r.err)):=by
    have k1:=KeptF.of_only (Aq W4 (w.heap.size+1+1) 0 (.bool false)) (.inl rfl) hGI
    have k2:=k1.trans (KeptF.of_only (Aq _ (w.heap.size+1+1) 1 (.slice none 0 0)) (.inl rfl) k1.lt)
    have k3:=k2.trans (KeptF.of_only (Aq _ (w.heap.size+1+1) 2 (.int .i64 0)) (.inl rfl) k2.lt)
    exact k3.trans (KeptF.of_only (Aq _ (w.heap.size+1+1+1) 0 (.int .i64 r.err)) (.inr (.inl rfl)) k3.lt)
   clear c60 c61 c62 f60 f61 f62 c70 f70
   generalize ((((W4.setCell ⟨w.heap.size+1+1,0,none⟩ (.bool false)).setCell ⟨w.heap.size+1+1,1,none⟩ (.slice none 0 0)).setCell ⟨w.heap.size+1+1,2,none⟩ (.int .i64 0)).setCell ⟨w.heap.size+1+1+1,0,none⟩ (.int .i64 r.err))=W8 at *
   have HK9:=HKG.trans (KeptF.of_put (o:=.deferred none) (.inr (.inr rfl)) HKG.lt)
   have g6:=K6.grown (grownBy_putObj' W8 D (.deferred none)) (fun r e=>by cases e;exact ⟨_,hK8,rfl⟩)
   have g7:=K7.grown (grownBy_putObj' W8 D (.deferred none)) (fun r e=>by cases e;exact ⟨_,hK8,rfl⟩)
   have d0:=g6.cell (i:=0) rfl;have d1:=g6.cell (i:=1) rfl;have d2:=g6.cell (i:=2) rfl;have d3:=g7.cell (i:=0) rfl
   have HAP:=bQ HA3.o HK4.o HNB.o HS5 HDW HDLT.o
   have HFIN4:Ya F w (.pointer (some ⟨pb,0,none⟩)) rows b r (.returned (.tuple #[.agg #[.bool false,.slice none 0 0,.int .i64 0],.int .i64 r.err])) (W8.putObj D (.deferred none)):=
    ⟨F4,eR HF.o.in_ (Ac HFR.o.bel HB1.o) HA3.o HFGB HK4.o HT4.o.in_ HDW HK9,fun h=>absurd h HZR.o,fun _=>⟨rfl,HT4.o.kept HK9 fun c hc=>HAP c (.inl hc)⟩⟩
   refine ⟨by simp,.inl ⟨_,_,rfl,run_takeDeferred hK8,?_⟩⟩
   exact ⟨.tuple #[.agg #[.bool false,.slice none 0 0,.int .i64 0],.int .i64 r.err],by simp [results,Tryz.results30,go_sem,d0,d1,d2,d3],HFIN4⟩
end Go.Dk
end
