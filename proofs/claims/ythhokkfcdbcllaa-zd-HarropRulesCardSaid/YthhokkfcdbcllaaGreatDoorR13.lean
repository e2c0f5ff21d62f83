/- Parts of the proof: Qu, Qv. -/
import Derived.Test.YthhokkfcdbcllaaGreatDoorR01
import Derived.Test.YthhokkfcdbcllaaGreatDoorR02
import Derived.Test.YthhokkfcdbcllaaGreatDoorR03
import Derived.Test.YthhokkfcdbcllaaGreatDoorR04
import Derived.Test.YthhokkfcdbcllaaGreatDoorR05
import Derived.Test.YthhokkfcdbcllaaGreatDoorR06
import Derived.Test.YthhokkfcdbcllaaGreatDoorR07
import Derived.Test.YthhokkfcdbcllaaGreatDoorR08
import Derived.Test.YthhokkfcdbcllaaGreatDoorR09
import Derived.Test.YthhokkfcdbcllaaGreatDoorR10
import Derived.Test.YthhokkfcdbcllaaGreatDoorR11
import Derived.Test.YthhokkfcdbcllaaGreatDoorR12
section
namespace Go.Dk
open Go.RowKit Go.Maps Go.MapKept
open Go.Proofs hiding intOf
theorem Qn {rows0 rows:List ND} {a b:Int} {k:List ND→Nat→Prem} (hk:∀ r f,(k r f).seqs.length≤2):(Jn rows0 rows a b k).seqs.length≤2:=by
 unfold Jn
 simp only
 split
 ·simp
 ·exact hk _ _
theorem Kq (rows:List ND) (s:SQ) (k:Int) (main:Nat):(Af rows s k main).seqs.length≤2:=by
 unfold Af
 simp only
 by_cases h3:k=3
 ·subst h3
  simp only [if_true]
  simp
 by_cases h4:k=4
 ·subst h4
  simp only [show ¬ (4:Int)=3 by decide,if_false,if_true]
  simp
 by_cases h5:k=5
 ·subst h5
  simp only [show ¬ (5:Int)=3 by decide,show ¬ (5:Int)=4 by decide,if_false,if_true]
  simp
 by_cases h6:k=6
 ·subst h6
  simp only [show ¬ (6:Int)=3 by decide,show ¬ (6:Int)=4 by decide,show ¬ (6:Int)=5 by decide,if_false,if_true]
  exact Qn fun r f=>Qn fun r f=>by simp
 by_cases h7:k=7
 ·subst h7
  simp only [show ¬ (7:Int)=3 by decide,show ¬ (7:Int)=4 by decide,show ¬ (7:Int)=5 by decide,show ¬ (7:Int)=6 by decide,if_false,if_true]
  exact Qn fun r f=>Qn fun r f=>by simp
 by_cases h8:k=8
 ·subst h8
  simp only [show ¬ (8:Int)=3 by decide,show ¬ (8:Int)=4 by decide,show ¬ (8:Int)=5 by decide,show ¬ (8:Int)=6 by decide,show ¬ (8:Int)=7 by decide,if_false,if_true]
  simp
 by_cases h9:k=9
 ·subst h9
  simp only [show ¬ (9:Int)=3 by decide,show ¬ (9:Int)=4 by decide,show ¬ (9:Int)=5 by decide,show ¬ (9:Int)=6 by decide,show ¬ (9:Int)=7 by decide,show ¬ (9:Int)=8 by decide,if_false,if_true]
  simp
 by_cases h10:k=10
 ·subst h10
  simp only [show ¬ (10:Int)=3 by decide,show ¬ (10:Int)=4 by decide,show ¬ (10:Int)=5 by decide,show ¬ (10:Int)=6 by decide,show ¬ (10:Int)=7 by decide,show ¬ (10:Int)=8 by decide,show ¬ (10:Int)=9 by decide,if_false,if_true]
  simp
 by_cases h11:k=11
 ·subst h11
  simp only [show ¬ (11:Int)=3 by decide,show ¬ (11:Int)=4 by decide,show ¬ (11:Int)=5 by decide,show ¬ (11:Int)=6 by decide,show ¬ (11:Int)=7 by decide,show ¬ (11:Int)=8 by decide,show ¬ (11:Int)=9 by decide,show ¬ (11:Int)=10 by decide,if_false,if_true]
  simp
 by_cases h12:k=12
 ·subst h12
  simp only [show ¬ (12:Int)=3 by decide,show ¬ (12:Int)=4 by decide,show ¬ (12:Int)=5 by decide,show ¬ (12:Int)=6 by decide,show ¬ (12:Int)=7 by decide,show ¬ (12:Int)=8 by decide,show ¬ (12:Int)=9 by decide,show ¬ (12:Int)=10 by decide,show ¬ (12:Int)=11 by decide,if_false,if_true]
  simp
 by_cases h13:k=13
 ·subst h13
  simp only [show ¬ (13:Int)=3 by decide,show ¬ (13:Int)=4 by decide,show ¬ (13:Int)=5 by decide,show ¬ (13:Int)=6 by decide,show ¬ (13:Int)=7 by decide,show ¬ (13:Int)=8 by decide,show ¬ (13:Int)=9 by decide,show ¬ (13:Int)=10 by decide,show ¬ (13:Int)=11 by decide,show ¬ (13:Int)=12 by decide,if_false,if_true]
  exact Qn fun r f=>by simp
 simp only [h3,h4,h5,h6,h7,h8,h9,h10,h11,h12,h13,if_false]
 simp
theorem Rt {B:Nat} {F:FP} {w:World} {v:Value} {l:List SQ} (h:Xl B F w v l):∃ ad,v = .slice ad l.length l.length∧(l = []∨∃ b,ad=some ⟨b,0,none⟩∧Ae w b (l.flatMap fun s=>Ad s.left s.goal) 86∧B≤b∧¬ F b):=by
 rcases h with ⟨rfl,rfl⟩ | ⟨b,h1,h2,h3,h4,h5⟩
 ·exact ⟨none,rfl,.inl rfl⟩
 ·exact ⟨_,h2,.inr ⟨b,rfl,h5,h3,h4⟩⟩
structure KidI (fuel:Nat) (pf:Nat) (t:Value) (F G K:FP) (w:World) (s:SQ) (k:Int) (main:Nat) (ad:Option Addr) (seqs:List SQ) (xb:Nat) (r:SA) (C:Int) (L:Nat) (j:Nat) (W:World) (F' G' K':FP) (st:SR) (vis:Int) (kids:List Nat) (kv:Value):Prop where
 kept:KeptF (H3 F G K) w (H3 F' G' K') W
 fin:Fin F' G' K' W pf t st vis
 eq:Em (Ci fuel) s k main (seqs.drop j) st kids=r
 loc:Loc (H3 F' G' K') w.heap.size w.heap.size xb s k main ad seqs kids kv W
 inv:InvS st
 wf:∀ q ∈ seqs.drop j,Wf st.rows q
 left:st.left≤fuel
 lf:st.left≤L
 room:st.steps.length+st.left≤4095
 v0:0≤vis
 vc:vis+st.left=C
 kl:kids.length=j
attribute [local go_sem ↓] Dv Oz
attribute [local go_sem] Du Lx
set_option maxRecDepth 100000 in
set_option maxHeartbeats 2000000 in
theorem jM (fuel:Nat) (pf:Nat) (t:Value) (HDEC:nK fuel pf t) (F G K:FP) (w:World) (st:SR) (vis:Int) (s:SQ) (h:Fin F G K w pf t st vis) (he:FEnv F G K w) (hi:InvS st) (wf:Wf st.rows s) (hf:Fv st.steps s=none) (hl:0<st.left) (hfu:st.left≤fuel+1) (hroom:st.steps.length+st.left≤4096) (hv0:0≤vis) (hv:vis+st.left≤4096) (h14:(Ak st.rows s).1≠14) (hpe:(Af st.rows s (Ak st.rows s).1 (Ak st.rows s).2).err=0) :
  Calls Tryz.prog 53 #[.pointer (some ⟨pf,0,none⟩),.agg (Ad s.left s.goal).toArray] w (Jh F G K w pf t st vis (Em (Ci fuel) s (Ak st.rows s).1 (Ak st.rows s).2 (Af st.rows s (Ak st.rows s).1 (Ak st.rows s).2).seqs ⟨(Af st.rows s (Ak st.rows s).1 (Ak st.rows s).2).rows,st.steps,st.left - 1⟩ [])):=by
 have hs:=Xm hi.ok wf
 have hgl:=wf.goal
 have hle:=hi.ok.le
 obtain ⟨sv,mb,kvs,hm⟩:=h
 have HB0:=Aa (Ab w (.cells (Ad s.left s.goal).toArray 86))
 have HX:=Aa (Ae.new w (Ad s.left s.goal) 86)
 have h0:=hm.below HB0.o
 obtain ⟨kl,hkl⟩:=Qu s.left s.goal (WalkArith.wf_i64 (by omega))
 rw [← SQ.val_yes (s:=s) hs] at hkl
 have hz:∀ W,(zeroValue 3).run Tryz.prog W = .ok (.int .i64 0) W:=fun _=>by kernel_rfl
 have hlk:∀ nq,(Instr.lookup 116 (.map (some mb)) (.agg (Ad s.left s.goal).toArray) true).run Tryz.prog ((w.alloc (.cells (Ad s.left s.goal).toArray 86)).drewN nq) = .ok (.tuple #[.int .i64 0,.bool false]) ((w.alloc (.cells (Ad s.left s.goal).toArray 86)).drewN nq):=fun nq=>by
  rw [← SQ.val_yes (s:=s) hs]
  exact TM.look_none (h0.map.below (below_drewN _ nq)) Ti SQ.val_inj Tryz.underlying116 (hz _) hkl true hf
 have c2:(w.alloc (.cells (Ad s.left s.goal).toArray 86)).cell? ⟨pf,2,none⟩=some (.map (some mb)):=cell_of h0.blk rfl
 have hld:∀ nq,Bf 86 ((w.alloc (.cells (Ad s.left s.goal).toArray 86)).drewN nq) (.pointer (some ⟨w.heap.size,0,none⟩)):=fun nq=>(An (HX.o.below (below_drewN _ nq)).loads).1
 have hlv:∀ nq,Dq 86 ((w.alloc (.cells (Ad s.left s.goal).toArray 86)).drewN nq) (.pointer (some ⟨w.heap.size,0,none⟩))=_:=fun nq=>(An (HX.o.below (below_drewN _ nq)).loads).2
 have hlz:(st.left == 0)=false:=by simpa using (show st.left≠0 by omega)
 have HM:=Aa hm;have HE:=Aa he;have HI:=Aa hi;have HW:=Aa wf;have H14:=Aa h14
 obtain ⟨r,hr⟩:∃ r:SA,(Em (Ci fuel) s (Ak st.rows s).1 (Ak st.rows s).2 (Af st.rows s (Ak st.rows s).1 (Ak st.rows s).2).seqs ⟨(Af st.rows s (Ak st.rows s).1 (Ak st.rows s).2).rows,st.steps,st.left - 1⟩ []:SA)=r:=⟨_,rfl⟩
 have HR:Hid (r.st.left≤st.left - 1):=by rw [← hr];exact (Pi (Jc fuel) s _ _ _ _ _).left
 rw [hr]
 have HRR:=Aa hr
 clear hr
 have HN:Hid (0<st.left∧st.left≤fuel+1∧st.steps.length+st.left≤4096∧0≤vis∧vis+st.left≤4096):=⟨hl,hfu,hroom,hv0,hv⟩
 have H0:=Aa h0
 obtain ⟨⟨k,main⟩,hkm⟩:∃ km,Ak st.rows s=km:=⟨_,rfl⟩
 have hk14:(k == 14)=false:=by rw [hkm] at h14;simpa using h14
 have HFIT:Hid (FitK st.rows s k main):=by have:=Pm hi.ok wf h14;rw [hkm] at this;exact this
 have HKM:=Aa hkm
 obtain ⟨p,hp⟩:∃ p,Af st.rows s k main=p:=⟨_,rfl⟩
 have HPP:=Aa hp
 have hpo:PremOk st.rows s p∧p.err=0∧p.seqs.length≤2:=by
  have h1:=Qk hi.ok wf h14 hpe
  rw [hkm] at h1 hpe
  simp only at h1 hpe
  rw [hp] at h1 hpe
  exact ⟨h1,hpe,by rw [← hp];exact Kq _ _ _ _⟩
 have HPO:=Aa hpo
 have hpz:(p.err != 0)=false:=by simpa using hpo.2.1
 have hrr:Em (Ci fuel) s k main p.seqs ⟨p.rows,st.steps,st.left - 1⟩ []=r:=by rw [← HRR.o,hkm,← hp]
 have HR2:=Aa hrr
 have hsl2:p.seqs.length≤2:=hpo.2.2
 clear hp hpe hpo hrr
 clear hkm
 clear hm h0 hkl hf hz he hi wf h14
 go_enter Tryz.func53,Tryz.ntmps53
 go_wp2
 go_quiet (fail)
 have HM1:=Aa (H0.o.below (below_drewN (w.alloc (.cells (Ad s.left s.goal).toArray 86)) nq))
 have HX1:=Aa (HX.o.below (below_drewN (w.alloc (.cells (Ad s.left s.goal).toArray 86)) nq))
 have HB1:=Aa (Ac HB0.o (below_drewN (w.alloc (.cells (Ad s.left s.goal).toArray 86)) nq))
 clear c2 hld hlv hlk
 generalize ((w.alloc (.cells (Ad s.left s.goal).toArray 86)).drewN nq)=W1 at *
 have c3:W1.cell? ⟨pf,3,none⟩=some (.int .i64 (st.left:Int)):=cell_of HM1.o.blk rfl
 have c4:W1.cell? ⟨pf,4,none⟩=some (.int .i64 vis):=cell_of HM1.o.blk rfl
 have f3:=Dt (i:=3) HM1.o.blk
 have f4:=Dt (i:=4) HM1.o.blk
 go_wp2
 have hfe:=We HM1.o hl
 have HK2:=Aa hfe.1
 have HM2:=Aa hfe.2
 have HX2:=Aa (HX1.o.kept2 hfe.1 (fun hg=>by have:=HM.o.gin _ hg;omega))
 clear hfe c3 c4 f3 f4
 generalize ((W1.setCell ⟨pf,3,none⟩ (.int .i64 ((st.left:Int) - 1))).setCell ⟨pf,4,none⟩ (.int .i64 (vis+1)))=W2 at *
 have HKW:Hid (KeptF (H3 F G K) w (H3 F G K) W2):=(KeptF.of_below HM.o.in_ HB1.o).trans (HK2.o.fin3 HM1.o.tab.in_ HM1.o.kin)
 have HE2:=Aa (HE.o.kept HKW.o)
 have hcl:∀ W',Aft W2 W'→W'.cell? ⟨pf,0,none⟩=some t:=fun W' hb=>Ao hb (cell_of HM2.o.blk rfl)
 have hld:∀ W',Aft W2 W'→Bf 86 W' (.pointer (some ⟨w.heap.size,0,none⟩)):=fun W' hb=>(An (HX2.o.below hb).loads).1
 have hlv:∀ W',Aft W2 W'→Dq 86 W' (.pointer (some ⟨w.heap.size,0,none⟩))=_:=fun W' hb=>(An (HX2.o.below hb).loads).2
 have HK:Hid (∀ W',Below W2.heap.size W2 W'→Aft W2 W'):=fun W' hb=>hb
 have HD:=Aa (below_drewN W2 1)
 have HA:Hid (∀ W,Below W2.heap.size W2 W→Calls Tryz.prog 72 #[t,.agg (Ad s.left s.goal).toArray] W fun e w'=>e = .returned (.tuple #[.int .i64 k,.int .i64 (main:Int),.int .i64 0])∧Below W.heap.size W w'):=fun W hb=>by
  have:=Wl 0 _ W t st.rows ((HM2.o.tab.col 0).below hb) (HE2.o.g.below hb) s HW.o
  rw [HKM.o] at this
  exact this
 go_region_held3 (fun W'=>Aft W2 W')
  ((refine HK.o _ ?_;first | exact HB3.o | exact HD.o))
  ((go_at_call 72;refine (HA.o _ HD.o).mono ?_;rintro e W3 ⟨rfl,hb3⟩;have HB3:=Aa (Ac HD.o hb3);clear hb3))
 have HX3:=Aa (HX2.o.below HB3.o)
 have HM3:=Aa (HM2.o.below HB3.o)
 have HE3:=Aa (HE2.o.below HB3.o)
 have HKW3:=Aa (HKW.o.trans (KeptF.of_below HM2.o.in_ HB3.o))
 have HNX:Hid (¬ F w.heap.size):=fun hf=>by have:=HM.o.tab.in_ _ hf;omega
 have HNP:Hid (¬ F pf):=fun hf=>HM.o.ap _ hf HM.o.gp
 clear hcl hld hlv
 have hcl:∀ W',Dp F W3 W'→W'.cell? ⟨pf,0,none⟩=some t:=fun W' ⟨F',hk⟩=>hk.cell (cell_of HM3.o.blk rfl) HNP.o
 have hld:∀ W',Dp F W3 W'→Bf 86 W' (.pointer (some ⟨w.heap.size,0,none⟩)):=fun W' ⟨F',hk⟩=>(An (HX3.o.keptF hk HNX.o).loads).1
 have hlv:∀ W',Dp F W3 W'→Dq 86 W' (.pointer (some ⟨w.heap.size,0,none⟩))=_:=fun W' ⟨F',hk⟩=>(An (HX3.o.keptF hk HNX.o).loads).2
 have HK3:Hid (∀ W',Below W3.heap.size W3 W'→Dp F W3 W'):=fun W' hb=>⟨F,KeptF.of_below HM3.o.tab.in_ hb⟩
 have HD3:=Aa (below_drewN W3 1)
 have HPR:Hid (∀ W,Below W3.heap.size W3 W→Calls Tryz.prog 74 #[t,.agg (Ad s.left s.goal).toArray,.int .i64 k,.int .i64 (main:Int)] W (mQ F W t p)):=fun W hb=>HPP.o▸Oj F W t st.rows (HM3.o.tab.below hb) (HE3.o.g.below hb) s HW.o k main HFIT.o
 go_wp2_with fail
 go_region_held3 (fun W'=>Dp F W3 W')
  ((first | exact HKI.o | exact HK3.o _ HD3.o))
  ((go_at_call 74;refine (HPR.o _ HD3.o).mono ?_;rintro e W4 ⟨v,F4,rfl,hk4,ht4,hs4⟩;have HK4:=Aa ((KeptF.of_below HM3.o.tab.in_ HD3.o).trans hk4);have HKI:Hid (Dp F W3 W4):=⟨F4,HK4.o⟩;have HT4:=Aa ht4;have HS4:=Aa hs4;clear hk4 ht4 hs4))
 clear hcl hld hlv HA HPR
 have HM4:=Aa (HM3.o.tabbed HK4.o HT4.o)
 have HKW4:=Aa (HKW3.o.trans (HK4.o.tab3 HM3.o.gin HM3.o.kin))
 have HX4:=Aa (HX3.o.keptF HK4.o HNX.o)
 obtain ⟨ad,rfl,hsb⟩:=Rt (HS4.o HPO.o.2.1)
 have HSB:=Aa hsb
 have HNG:Hid (∀ b,w.heap.size≤b→¬ G b∧¬ K b):=fun b hb=>⟨fun hg=>by have:=HM.o.gin _ hg;omega,fun hg=>by have:=HM.o.kin _ hg;omega⟩
 have HNF4:Hid (¬ F4 w.heap.size):=fun hf=>HNX.o (HK4.o.sub _ HX3.o.lt hf)
 clear hsb
 go_wp2_with (first
  | (refine Ah (.tmp 3) rfl rfl rfl HX4.o ?_)
  | (refine wp_build rfl rfl (v:=.agg (Gp s.left s.goal true k main (.slice none 0 0)).toArray) (by simp [go_sem];exact nJ _ _ _ _ _ _) ?_)
  | (refine Aj uV (.tmp 12) (.tmp 84) rfl rfl rfl (ys:=Gp s.left s.goal true k main (.slice none 0 0)) rfl (Ae.new W4 Ni 122) rfl (Lu _ _ _ _ _ _) (all_oneCell_toArray (Zk rfl)) ?_;intro W5 hb5 ho5;have HB45:=Aa ((Ab W4 (.cells Ni.toArray 122)).trans (ho5.below (Nat.le_refl _)));have HBX5:=Aa hb5;clear hb5 ho5))
 have hwx:w.heap.size<W4.heap.size:=HX4.o.lt
 have HI0:Hid (KidI fuel pf t F G K w s k main ad p.seqs W4.heap.size r (vis+st.left) st.left 0 W5 F4 G K ⟨p.rows,st.steps,st.left - 1⟩ (vis+1) [] (.slice none 0 0)):=by
  refine ⟨HKW4.o.trans (KeptF.of_below HM4.o.in_ HB45.o),⟨_,_,_,HM4.o.below HB45.o⟩,by simpa using HR2.o,⟨HX4.o.below HB45.o,HBX5.o,⟨World.ownsRow_nil _ _ _ _,fun g hg=>by simp [Value.ownBlock] at hg⟩,?_,?_,?_,Nat.le_of_lt hwx⟩,(HI.o.ext HPO.o.1.ok HPO.o.1.pre _),?_,by show st.left - 1≤fuel;omega,by show st.left - 1≤st.left;omega,by show st.steps.length+(st.left - 1)≤4095;omega,by omega,by show vis+1+((st.left - 1:Nat):Int)=_;omega,rfl⟩
  ·rcases HSB.o with h | ⟨b,h1,h2,h3,h4⟩
   ·exact .inl h
   ·refine .inr ⟨b,h1,h2.below HB45.o,fun hf=>?_⟩
    have hwb:w.heap.size≤b:=by have:=HKW3.o.size;simp at h3;omega
    rcases hf with hf | hf | hf
    ·exact h4 hf
    ·exact (HNG.o b hwb).1 hf
    ·exact (HNG.o b hwb).2 hf
  ·rintro (hf | hf | hf)
   ·exact HNF4.o hf
   ·exact (HNG.o _ (Nat.le_refl _)).1 hf
   ·exact (HNG.o _ (Nat.le_refl _)).2 hf
  ·rintro (hf | hf | hf)
   ·have:=HM4.o.tab.in_ _ hf;omega
   ·exact (HNG.o _ (Nat.le_of_lt hwx)).1 hf
   ·exact (HNG.o _ (Nat.le_of_lt hwx)).2 hf
  ·intro q hq
   exact HPO.o.1.inv.wf q (by simpa using hq)
 clear HB0 HX H0 HM HI HW H14 HN HRR HR HM1 HX1 HB1 HK2 HM2 HX2 HKW HE2 HK HD HB3 HX3 HM3 HE3 HKW3 HNX HNP HK3 HD3 HK4 HKI HT4 HS4 HM4 HKW4 HX4 HSB HNG HNF4 HB45 HBX5 HKM HFIT HPP HR2 HPO hwx hlz hk14 hpz
 go_loopw [87] (fun i W=>∃ j F' G' K' st' vis' kids kv,j≤p.seqs.length∧i = .int .i64 (j:Int)∧KidI fuel pf t F G K w s k main ad p.seqs W4.heap.size r (vis+st.left) st.left j W F' G' K' st' vis' kids kv) (fun i _=>p.seqs.length - (intOf i).toNat)
 case atStart=>exact ⟨0,F4,G,K,_,_,_,_,by omega,rfl,HI0.o⟩
 case round=>
  obtain ⟨j,F',G',K',st',vis',kids,kv,hj,rfl,hI⟩:=hrel
  have HJ:=Aa hI
  clear hI
  by_cases hlt:j<p.seqs.length
  ·obtain ⟨q,hq⟩:∃ q,q=p.seqs[j]:=⟨_,rfl⟩
   have hdrop:p.seqs.drop j=q::p.seqs.drop (j+1):=by rw [hq];exact List.drop_eq_getElem_cons hlt
   have hwq:Wf st'.rows q:=HJ.o.wf q (by rw [hdrop];simp)
   obtain ⟨b,hadb,hbx,hnb⟩:∃ b,ad=some ⟨b,0,none⟩∧Ae wr b (p.seqs.flatMap fun s=>Ad s.left s.goal) 86∧¬ H3 F' G' K' b:=by
    rcases HJ.o.loc.bs with h | h
    ·rw [h] at hlt;simp at hlt
    ·exact h
   have hra:wr.rangeAt b (j * 17) (Ad q.left q.goal):=by rw [hq];exact hbx.seqAt hlt
   have HRA:=Aa hra
   have hbl:b<wr.heap.size:=hbx.lt
   have HIH0:=HDEC F' G' K'
   have HEV:Hid (FEnv F' G' K' wr):=HE.o.kept HJ.o.kept
   obtain ⟨r1,hr1⟩:∃ r1,Ci fuel st' q=r1:=⟨_,rfl⟩
   have HIH:Hid (∀ W,Below wr.heap.size wr W→Calls Tryz.prog 53 #[.pointer (some ⟨pf,0,none⟩),.agg (Ad q.left q.goal).toArray] W (Jh F' G' K' W pf t st' vis' r1)):=fun W hb=>by
    have h0:=HJ.o
    exact hr1▸HDEC F' G' K' W st' vis' q (h0.fin.below hb) (HEV.o.below hb) h0.inv hwq h0.left (by have:=h0.room;omega) h0.v0 (by have:=h0.vc;omega)
   have HEQ:Hid (Em (Ci fuel) s k main (q::p.seqs.drop (j+1)) st' kids=r):=by
    have:=HJ.o.eq
    rw [hdrop] at this
    exact this
   have HRM:Hid (Room st' r1 0):=hr1▸Jc fuel st' q
   have HGO:Hid (r1.err=0→GoodA st' q r1):=fun h=>hr1▸Ub fuel st' q HJ.o.inv hwq (by rw [hr1];exact h)
   have HR1:=Aa hr1
   have hjn:(j:Int)<(p.seqs.length:Int):=by omega
   subst hadb
   clear hr1 hwq hra hbx hnb hdrop HIH0 hq
   by_cases hz1:r1.err=0
   ·have hz2:(r1.err != 0)=false:=by simpa using hz1
    have HGD:=Aa (HGO.o hz1)
    obtain ⟨xx,hxx,_⟩:=HGD.o.ans
    have hat:r1.at_<r1.st.steps.length:=(List.getElem?_eq_some_iff.1 hxx).1
    have hatI:(r1.at_:Int)<(r1.st.steps.length:Int):=by omega
    clear hxx
    have HZ1:=Aa hz1
    clear hz1
    cases hpb:Ax r1.st r1.at_ with
    | false=>
     as_aux_lemma=>
     go_wp2_with (first
      | (refine Cb (.tmp 89) rfl rfl rfl HRA.o ?_)
      | (refine Ar (.tmp 14) (.tmp 90) rfl rfl rfl rfl (Ae.new wr (Ad 0 0) 86) (Ai _ _) ?_;intro W6 hb6 ho6;have HX6:=Aa hb6;have HB6:=Aa ((Ab wr (.cells (Ad 0 0).toArray 86)).trans (ho6.below (Nat.le_refl _)));clear hb6 ho6)
      | (refine Ah (.tmp 14) rfl rfl rfl HX6.o ?_)
      | (go_at_call 53;refine (HIH.o _ HB6.o).mono ?_;rintro e W7 ⟨rfl,F7,G7,K7,hk7,hf7⟩;have HB6K:=Aa (KeptF.of_below HJ.o.fin.in_ HB6.o);have HK7:=Aa hk7;have HF7:=Aa hf7;have HKW7:=Aa ((HJ.o.kept.trans HB6K.o).trans hk7);have HL7:=Aa ((HJ.o.loc.step HB6K.o).step hk7);have HVI:Hid (vis'+((st'.left - r1.st.left:Nat):Int)=vis+((st.left - r1.st.left:Nat):Int)):=(by have h1:=HJ.o.vc;have h2:=HRM.o.left;have h3:=HJ.o.left;have h4:=HJ.o.lf;show _=_;omega);obtain ⟨sv7,mb7,kvs7,hm7⟩:=HF7.o;obtain ⟨g7,c7,rfl,hcp7⟩:=Js hm7 hat;rw [hpb] at hcp7;have c71:W7.cell? ⟨pf,1,none⟩=some (.slice (some ⟨g7,0,none⟩) r1.st.steps.length c7):=cell_of hm7.blk rfl;have HM7:=Aa hm7;have c20:=HL7.o.bx.cell (Ez _ _ _ _ _ _).2;clear hm7;clear hk7 hf7)
      | (refine Ah (.tmp 3) rfl rfl rfl HL7.o.b3 ?_)
      | (refine wp_build rfl rfl (v:=.agg (Gp s.left s.goal false k main (.slice (some ⟨W7.heap.size,0,none⟩) 1 1)).toArray) (by simp [go_sem];exact qM _ _ _ _ _ _ _ _) ?_)
      | (go_at_call 75;refine (Uo (x:=⟨s,false,k,main,[r1.at_]⟩) (st:=st) (vis:=vis) (HKW7.o.trans (KeptF.of_below HF7.o.in_ (Ab W7 (.cells #[.int .i64 (r1.at_:Int)] 3)))) (HF7.o.below (Ab W7 _)) HVI.o (.slice (some ⟨W7.heap.size,0,none⟩) 1 1) hs (Nat.lt_of_lt_of_le hgl (by omega)) (by have:=HRM.o.len;have:=HJ.o.room;omega) (Gs W7 _ _) (fun a m c e=>by cases e;refine ⟨by show W7.heap.size<_;simp,HKW7.o.size,fun hf=>by have:=HF7.o.in_ _ hf;exact absurd this (Nat.lt_irrefl _)⟩)).mono ?_;rintro e W8 ⟨rfl,F8,G8,K8,hk8,hf8⟩;have HK8:=Aa hk8;have HF8:=Aa hf8;clear hk8 hf8))
     go_ret2
     have hr0:r=Ho r1.st ⟨s,false,k,main,[r1.at_]⟩:=by
      rw [← HEQ.o,Em,HR1.o,if_neg (by simpa using HZ1.o),hpb]
      rfl
     rw [hr0]
     exact ⟨rfl,F8,G8,K8,HK8.o,HF8.o⟩
    | true=>
     as_aux_lemma=>
     go_wp2_with (first
      | (refine Cb (.tmp 89) rfl rfl rfl HRA.o ?_)
      | (refine Ar (.tmp 14) (.tmp 90) rfl rfl rfl rfl (Ae.new wr (Ad 0 0) 86) (Ai _ _) ?_;intro W6 hb6 ho6;have HX6:=Aa hb6;have HB6:=Aa ((Ab wr (.cells (Ad 0 0).toArray 86)).trans (ho6.below (Nat.le_refl _)));clear hb6 ho6)
      | (refine Ah (.tmp 14) rfl rfl rfl HX6.o ?_)
      | (go_at_call 53;refine (HIH.o _ HB6.o).mono ?_;rintro e W7 ⟨rfl,F7,G7,K7,hk7,hf7⟩;have HB6K:=Aa (KeptF.of_below HJ.o.fin.in_ HB6.o);have HK7:=Aa hk7;have HF7:=Aa hf7;have HKW7:=Aa ((HJ.o.kept.trans HB6K.o).trans hk7);have HL7:=Aa ((HJ.o.loc.step HB6K.o).step hk7);have HVI:Hid (vis'+((st'.left - r1.st.left:Nat):Int)=vis+((st.left - r1.st.left:Nat):Int)):=(by have h1:=HJ.o.vc;have h2:=HRM.o.left;have h3:=HJ.o.left;have h4:=HJ.o.lf;show _=_;omega);obtain ⟨sv7,mb7,kvs7,hm7⟩:=HF7.o;obtain ⟨g7,c7,rfl,hcp7⟩:=Js hm7 hat;rw [hpb] at hcp7;have c71:W7.cell? ⟨pf,1,none⟩=some (.slice (some ⟨g7,0,none⟩) r1.st.steps.length c7):=cell_of hm7.blk rfl;have HM7:=Aa hm7;have c20:=HL7.o.bx.cell (Ez _ _ _ _ _ _).2;clear hm7;clear hk7 hf7)
      | (at_builtin;go_loud (refine By rfl (.tmp 120) (.tmp 122) 23 rfl w.heap.size 3 _ 1 8 Tryz.underlying23 Ef rfl (by decide) (by decide) kv kids.length (Iy kids) rfl (Bd HL7.o.ko.own (fun g hg=>Below.heap_alloc _ _ _ (HL7.o.ko.own.lt g hg).2)) _ 1 [.int .i64 (r1.at_:Int)] rfl (Gs W7 _ _) (by simp [Value.oneCell']) (by have:=HJ.o.kl;omega) (by have:=HKW7.o.size;simp;omega) ?_;intro v5 w5 hown hgr hat5 hnil;obtain ⟨g5,q5,rfl⟩:=ownsRow_succ hown;have hla:=HL7.o.app HF7.o.in_ hown hgr hat5;have cx:=hla.1.cell (Ez _ _ _ _ _ _).2;have fx:=hla.1.fr 20;have HLA:=Aa hla;clear hown hgr hat5 hnil hla)))
     have HKX:Hid (KeptF (H3 F G K) w (H3 F7 G7 K7) (w5.setCell ⟨W4.heap.size,20,none⟩ (.slice (some ⟨g5,0,none⟩) (kids.length+1) q5))):=HKW7.o.thenNew HLA.o.2.2.2 (fun b hb=>Nat.lt_of_lt_of_le (HF7.o.in_ b hb) HLA.o.2.2.1.size)
     have HFX:Hid (Fin F7 G7 K7 (w5.setCell ⟨W4.heap.size,20,none⟩ (.slice (some ⟨g5,0,none⟩) (kids.length+1) q5)) pf t r1.st (vis'+((st'.left - r1.st.left:Nat):Int))):=⟨_,_,_,HM7.o.beside HLA.o.2.2.1 (fun b hb hx=>by
      rcases hx with rfl | hx
      ·exact HL7.o.nx hb
      ·exact HL7.o.ko.nk b hx hb)⟩
     have h1:=HRM.o.left
     have h2:=HRM.o.len
     have h3:=HJ.o
     refine ⟨⟨j+1,F7,G7,K7,r1.st,vis'+((st'.left - r1.st.left:Nat):Int),kids++[r1.at_],_,by omega,by go_num,HKX.o,HFX.o,?_,HLA.o.2.1,HGD.o.inv,?_,by have:=h3.left;omega,by have:=h3.lf;omega,by have:=h3.room;omega,by have:=h3.v0;omega,by have:=h3.vc;omega,by rw [List.length_append,h3.kl];rfl⟩,by simp [intOf];omega⟩
     ·have:=HEQ.o
      rw [Em,HR1.o,if_neg (by simpa using HZ1.o),hpb] at this
      exact this
     ·intro q' hq'
      refine (h3.wf q' ?_).ext HGD.o.pre
      rw [← List.drop_drop] at hq'
      exact List.mem_of_mem_drop hq'
   ·have hz2:(r1.err != 0)=true:=by simpa using hz1
    have HZ1:=Aa hz1
    clear hz1
    as_aux_lemma=>
    go_wp2_with (first
     | (refine Cb (.tmp 89) rfl rfl rfl HRA.o ?_)
     | (refine Ar (.tmp 14) (.tmp 90) rfl rfl rfl rfl (Ae.new wr (Ad 0 0) 86) (Ai _ _) ?_;intro W6 hb6 ho6;have HX6:=Aa hb6;have HB6:=Aa ((Ab wr (.cells (Ad 0 0).toArray 86)).trans (ho6.below (Nat.le_refl _)));clear hb6 ho6)
     | (refine Ah (.tmp 14) rfl rfl rfl HX6.o ?_)
     | (go_at_call 53;refine (HIH.o _ HB6.o).mono ?_;rintro e W7 ⟨rfl,F7,G7,K7,hk7,hf7⟩;have HB6K:=Aa (KeptF.of_below HJ.o.fin.in_ HB6.o);have HK7:=Aa hk7;have HF7:=Aa hf7;have HKW7:=Aa ((HJ.o.kept.trans HB6K.o).trans hk7);have HL7:=Aa ((HJ.o.loc.step HB6K.o).step hk7);have HVI:Hid (vis'+((st'.left - r1.st.left:Nat):Int)=vis+((st.left - r1.st.left:Nat):Int)):=(by have h1:=HJ.o.vc;have h2:=HRM.o.left;have h3:=HJ.o.left;have h4:=HJ.o.lf;show _=_;omega);clear hk7 hf7))
    go_ret2
    have hr0:r=⟨r1.st,r1.err,0⟩:=by
     rw [← HEQ.o,Em,HR1.o,if_pos HZ1.o]
    rw [hr0]
    refine ⟨rfl,F7,G7,K7,HKW7.o,?_⟩
    have h1:=HF7.o
    rw [HVI.o] at h1
    exact h1
  ·as_aux_lemma=>
   obtain rfl:j=p.seqs.length:=by omega
   have h3:=HJ.o
   have HRK:Hid (r=Ho st' ⟨s,true,k,main,kids⟩):=by
    show r=_
    rw [← h3.eq,List.drop_length,Em]
   have HVI:Hid (vis'=vis+((st.left - st'.left:Nat):Int)):=by have h1:=h3.vc;have h2:=h3.lf;show _=_;omega
   have HRD:Hid (Rd wr kv kids.length 1 (Iy kids)):=Hv h3.loc.ko.own
   clear h3
   go_wp2_with (first
    | (refine Ns (.tmp 12) rfl rfl rfl HJ.o.loc.bx (Lu _ _ _ _ _ _) ?_)
    | (go_at_call 75;refine (Uo (x:=⟨s,true,k,main,kids⟩) (st:=st) (vis:=vis) HJ.o.kept HJ.o.fin HVI.o kv hs (Nat.lt_of_lt_of_le hgl (by omega)) (by have:=HJ.o.room;omega) HRD.o (fun a m c e=>by have h1:=HJ.o.loc.ko.own.lt a.block (by rw [e];rfl);exact ⟨h1.2,h1.1,HJ.o.loc.ko.nk a.block (by rw [e];rfl)⟩)).mono ?_;rintro e W8 ⟨rfl,F8,G8,K8,hk8,hf8⟩;have HK8:=Aa hk8;have HF8:=Aa hf8;clear hk8 hf8))
   go_ret2
   rw [HRK.o]
   exact ⟨rfl,F8,G8,K8,HK8.o,HF8.o⟩
end Go.Dk
end
section
namespace Go.Dk
open Go.RowKit Go.Maps Go.MapKept
open Go.Proofs hiding intOf
def Xr (dec:SR→SQ→SA) (s:SQ) (c:Int × Nat) (t:List (Int × Nat)) (stuck:List Nat):List SQ→SR→List Nat→SA
 | [],st,kids=>Ho st ⟨s,true,c.1,c.2,kids⟩
 | q::rest,st,kids=>
  if (dec st q).err≠0 then ⟨(dec st q).st,(dec st q).err,0⟩
  else if Ax (dec st q).st (dec st q).at_ then Xr dec s c t stuck rest (dec st q).st (kids++[(dec st q).at_])
  else if kids = [] then Bq dec s t (dec st q).st (stuck++[(dec st q).at_])
  else Ho (dec st q).st ⟨s,false,c.1,c.2,[(dec st q).at_]⟩
theorem jI (dec:SR→SQ→SA) (s:SQ) (c:Int × Nat) (t:List (Int × Nat)) (st:SR) (stuck:List Nat) (hl:(Af st.rows s c.1 c.2).seqs.length≤2) :
  Bq dec s (c::t) st stuck=if (Af st.rows s c.1 c.2).err≠0 then ⟨st,(Af st.rows s c.1 c.2).err,0⟩ else Xr dec s c t stuck (Af st.rows s c.1 c.2).seqs ⟨(Af st.rows s c.1 c.2).rows,st.steps,st.left⟩ []:=by
 rw [Bq]
 simp only
 generalize Af st.rows s c.1 c.2=p at *
 split
 ·rfl
 ·cases hs:p.seqs with
  | nil=>rfl
  | cons q more=>
   simp only
   rw [Xr]
   split
   ·rfl
   ·split
    ·cases more with
     | nil=>rfl
     | cons q2 m=>
      rw [hs] at hl
      have hm:m = []:=List.eq_nil_of_length_eq_zero (by simp only [List.length_cons] at hl;omega)
      subst hm
      simp only [List.nil_append]
      rw [Xr]
      split
      ·rfl
      ·split
       ·rfl
       ·rw [if_neg (by simp)]
    ·rw [if_pos rfl]
theorem dN (rows:List ND) (s:SQ):(Bj rows s).length≤rows.length+2:=by
 unfold Bj
 rw [List.length_append,List.length_map]
 have h1:=List.length_filter_le (fun i=>s.left.testBit i && onP rows s i == 13) (List.range rows.length)
 rw [List.length_range] at h1
 split<;>simp<;>omega
structure ChL (H:FP) (B x3 sb:Nat) (s:SQ) (rs ms:List Int) (v8 v9:Value) (stuck:List Nat) (skv:Value) (W:World):Prop where
 b3:Ae W x3 (Ad s.left s.goal) 86
 bs:Ae W sb (Gp s.left s.goal false 14 0 skv) 122
 so:KidO B H W skv stuck
 r8:W.ownsRow B 120 1 v8 rs.length (ints rs)
 n8:∀ g,v8.ownBlock=some g→¬ H g
 r9:W.ownsRow B 3 1 v9 ms.length (ints ms)
 n9:∀ g,v9.ownBlock=some g→¬ H g
 n3:¬ H x3
 ns:¬ H sb
 lo:B≤sb
 d9:∀ g,skv.ownBlock=some g→v9.ownBlock≠some g
structure XL (H:FP) (B sb xb:Nat) (s:SQ) (k:Int) (main:Nat) (b:Bool) (seqs:List SQ) (ad:Option Addr) (v9 skv:Value) (kids:List Nat) (kv:Value) (W:World):Prop where
 bx:Ae W xb (Gp s.left s.goal b k main kv) 122
 ko:KidO B H W kv kids
 nx:¬ H xb
 lo:B≤xb
 dk9:∀ g,kv.ownBlock=some g→v9.ownBlock≠some g
 dks:∀ g,kv.ownBlock=some g→skv.ownBlock≠some g
 xs:xb≠sb
 sq:seqs = []∨∃ b,ad=some ⟨b,0,none⟩∧Ae W b (seqs.flatMap fun s=>Ad s.left s.goal) 86∧¬ H b
section
variable {H H':FP} {B x3 sb xb:Nat} {s:SQ} {rs ms:List Int} {v8 v9 skv kv:Value} {stuck kids:List Nat} {W W' w1:World} {k:Int} {main:Nat} {b0:Bool} {seqs:List SQ} {ad:Option Addr}
theorem ChL.step (h:ChL H B x3 sb s rs ms v8 v9 stuck skv W) (hk:KeptF H W H' W'):ChL H' B x3 sb s rs ms v8 v9 stuck skv W':=
 ⟨h.b3.keptF hk h.n3,h.bs.keptF hk h.ns,h.so.step hk,hk.own h.r8 h.n8,fun g hg hf=>h.n8 g hg (hk.sub g (h.r8.lt g hg).2 hf),hk.own h.r9 h.n9,fun g hg hf=>h.n9 g hg (hk.sub g (h.r9.lt g hg).2 hf),fun hf=>h.n3 (hk.sub _ h.b3.lt hf),fun hf=>h.ns (hk.sub _ h.bs.lt hf),h.lo,h.d9⟩
theorem XL.step (h:XL H B sb xb s k main b0 seqs ad v9 skv kids kv W) (hk:KeptF H W H' W'):XL H' B sb xb s k main b0 seqs ad v9 skv kids kv W':=by
 refine ⟨h.bx.keptF hk h.nx,h.ko.step hk,fun hf=>h.nx (hk.sub _ h.bx.lt hf),h.lo,h.dk9,h.dks,h.xs,?_⟩
 rcases h.sq with hs | ⟨b,h1,h2,h3⟩
 ·exact .inl hs
 ·exact .inr ⟨b,h1,h2.keptF hk h3,fun hf=>h3 (hk.sub _ h2.lt hf)⟩
theorem nD {W:World} {B B' n m:Nat} {e e':TypeId} {v v':Value} {xs ys:List Value} {z z':Nat} (h:W.ownsRow B e z v n xs) (h':W.ownsRow B' e' z' v' m ys) (hT:e≠e'):∀ g,v.ownBlock=some g→v'.ownBlock≠some g:=fun g h8 h9=>by
 rcases h.2 with ⟨e1,_⟩ | ⟨g8,c8,cur8,e8,_,hg8,_⟩
 ·rw [e1] at h8;simp [Value.ownBlock] at h8
 rcases h'.2 with ⟨e1,_⟩ | ⟨g9,c9,cur9,e9,_,hg9,_⟩
 ·rw [e1] at h9;simp [Value.ownBlock] at h9
 rw [e8] at h8;rw [e9] at h9
 simp [Value.ownBlock] at h8 h9
 subst h8 h9
 rw [hg8] at hg9
 simp at hg9
 exact hT hg9.2
theorem Rx {o:Nat} {kv v':Value} {n:Nat} {xs:List Value} {tmp:Obj} (hr:W.ownsRow B 3 1 kv n xs) (hg:(W.alloc tmp).grownBy w1 kv.ownBlock) (hx:xb<W.heap.size) (hl:B≤xb) :
  KeptF (fun b=>b=xb∨kv.ownBlock=some b) W (fun b=>b=xb∨kv.ownBlock=some b) (w1.setCell ⟨xb,o,none⟩ v')∧Below B W (w1.setCell ⟨xb,o,none⟩ v'):=by
 have hsz:W.heap.size≤w1.heap.size:=by have:=hg.size;simp at this;omega
 refine ⟨⟨hg.os,hg.tape,hg.output,by simp;exact hsz,fun _ _ h=>h,fun b hb=>?_,fun b hb hn=>?_⟩,⟨hg.os,hg.tape,hg.output,by simp;exact hsz,fun b hb=>?_⟩⟩
 ·rcases hb with rfl | hb
  ·simp;omega
  ·have:=(hr.lt b hb).2;simp;omega
 ·exact Eg hg hb (fun e=>hn (.inr e)) (fun e=>hn (.inl e))
 ·refine Eg hg (by omega) (fun e=>?_) (fun e=>by omega)
  have:=(hr.lt b e).1
  omega
theorem XL.app (hc:ChL H B x3 sb s rs ms v8 v9 stuck skv W) (h:XL H B sb xb s k main b0 seqs ad v9 skv kids kv W) (hH:H.in_ W) {v':Value} {i:Nat} {tmp:Obj}
  (hown:w1.ownsRow B 3 1 v' (kids.length+1) (Iy kids++[.int .i64 (i:Int)])) (hg:(W.alloc tmp).grownBy w1 kv.ownBlock) (hat:v'.ownBlock=kv.ownBlock∨v'.ownBlock=some (W.alloc tmp).heap.size) :
  Ae w1 xb (Gp s.left s.goal b0 k main kv) 122∧ChL H B x3 sb s rs ms v8 v9 stuck skv (w1.setCell ⟨xb,20,none⟩ v')∧XL H B sb xb s k main b0 seqs ad v9 skv (kids++[i]) v' (w1.setCell ⟨xb,20,none⟩ v'):=by
 have nkx:kv.ownBlock≠some xb:=Cj h.bx (by decide) h.ko.own
 have n3x:x3≠xb:=Vx hc.b3 h.bx (by decide)
 have hb1:Ae w1 xb (Gp s.left s.goal b0 k main kv) 122:=(hg.block xb (by simp;have:=h.bx.lt;omega) (fun e=>nkx e.symm)).trans ((Below.heap_alloc _ _ _ h.bx.lt).trans h.bx)
 have hnv:v'.ownBlock≠some xb:=Cj hb1 (by decide) hown
 have new9:∀ (u:Value) (n:Nat) (ys:List Value) (e:TypeId),W.ownsRow B e 1 u n ys→(∀ g,kv.ownBlock=some g→u.ownBlock≠some g)→∀ g,v'.ownBlock=some g→u.ownBlock≠some g:=fun u n ys e hu hd g hg' hu'=>by
  rcases hat with e | e
  ·exact hd g (e▸hg') hu'
  ·rw [e] at hg'
   cases hg'
   have:=(hu.lt _ hu').2
   simp at this
   omega
 have hso:=h.dks
 refine ⟨hb1,⟨?_,?_,⟨?_,hc.so.nk⟩,?_,hc.n8,?_,hc.n9,hc.n3,hc.ns,hc.lo,hc.d9⟩,⟨?_,⟨?_,fun g hg' hf=>?_⟩,h.nx,h.lo,?_,?_,h.xs,?_⟩⟩
 ·exact (Eg hg hc.b3.lt (Cj hc.b3 (by decide) h.ko.own) n3x).trans hc.b3
 ·exact (Eg hg hc.bs.lt (Cj hc.bs (by decide) h.ko.own) (fun e=>h.xs e.symm)).trans hc.bs
 ·exact Bd hc.so.own fun g hg'=>Eg hg (hc.so.own.lt g hg').2 (fun e=>h.dks g e hg') (fun e=>Cj h.bx (by decide) hc.so.own (by rw [hg',e]))
 ·exact Bd hc.r8 fun g hg'=>Eg hg (hc.r8.lt g hg').2 (fun e=>nD h.ko.own hc.r8 (by decide) g e hg') (fun e=>Cj h.bx (by decide) hc.r8 (by rw [hg',e]))
 ·exact Bd hc.r9 fun g hg'=>Eg hg (hc.r9.lt g hg').2 (fun e=>h.dk9 g e hg') (fun e=>Cj h.bx (by decide) hc.r9 (by rw [hg',e]))
 ·have:=hb1.set 20 v'
  rw [Px] at this
  exact this
 ·rw [List.length_append,Ov]
  exact Bd hown fun g hg'=>Below.heap_setCell _ _ _ _ (fun e=>hnv (by rw [hg',e]))
 ·rcases hat with e | e
  ·exact h.ko.nk g (e▸hg') hf
  ·rw [e] at hg'
   cases hg'
   have:=hH _ hf
   simp at this
   omega
 ·exact new9 v9 _ _ _ hc.r9 h.dk9
 ·exact new9 skv _ _ _ hc.so.own h.dks
 ·rcases h.sq with hs | ⟨b,h1,h2,h3⟩
  ·exact .inl hs
  ·exact .inr ⟨b,h1,(Eg hg h2.lt (Cj h2 (by decide) h.ko.own) (Vx h2 h.bx (by decide))).trans h2,h3⟩
theorem ChL.app (hc:ChL H B x3 sb s rs ms v8 v9 stuck skv W) (hbx:Ae W xb (Gp s.left s.goal b0 k main kv) 122) (hxs:xb≠sb) (hH:H.in_ W) {v':Value} {i:Nat} {tmp:Obj}
  (hown:w1.ownsRow B 3 1 v' (stuck.length+1) (Iy stuck++[.int .i64 (i:Int)])) (hg:(W.alloc tmp).grownBy w1 skv.ownBlock) (hat:v'.ownBlock=skv.ownBlock∨v'.ownBlock=some (W.alloc tmp).heap.size) :
  Ae w1 sb (Gp s.left s.goal false 14 0 skv) 122∧ChL H B x3 sb s rs ms v8 v9 (stuck++[i]) v' (w1.setCell ⟨sb,20,none⟩ v')∧Ae (w1.setCell ⟨sb,20,none⟩ v') xb (Gp s.left s.goal b0 k main kv) 122:=by
 have nkx:skv.ownBlock≠some sb:=Cj hc.bs (by decide) hc.so.own
 have n3x:x3≠sb:=Vx hc.b3 hc.bs (by decide)
 have hb1:Ae w1 sb (Gp s.left s.goal false 14 0 skv) 122:=(hg.block sb (by simp;have:=hc.bs.lt;omega) (fun e=>nkx e.symm)).trans ((Below.heap_alloc _ _ _ hc.bs.lt).trans hc.bs)
 have hnv:v'.ownBlock≠some sb:=Cj hb1 (by decide) hown
 refine ⟨hb1,⟨?_,?_,⟨?_,fun g hg' hf=>?_⟩,?_,hc.n8,?_,hc.n9,hc.n3,hc.ns,hc.lo,fun g hg' h9=>?_⟩,?_⟩
 ·exact (Eg hg hc.b3.lt (Cj hc.b3 (by decide) hc.so.own) n3x).trans hc.b3
 ·have:=hb1.set 20 v'
  rw [Px] at this
  exact this
 ·rw [List.length_append,Ov]
  exact Bd hown fun g hg'=>Below.heap_setCell _ _ _ _ (fun e=>hnv (by rw [hg',e]))
 ·rcases hat with e | e
  ·exact hc.so.nk g (e▸hg') hf
  ·rw [e] at hg'
   cases hg'
   have:=hH _ hf
   simp at this
   omega
 ·exact Bd hc.r8 fun g hg'=>Eg hg (hc.r8.lt g hg').2 (fun e=>nD hc.so.own hc.r8 (by decide) g e hg') (fun e=>Cj hc.bs (by decide) hc.r8 (by rw [hg',e]))
 ·exact Bd hc.r9 fun g hg'=>Eg hg (hc.r9.lt g hg').2 (fun e=>hc.d9 g e hg') (fun e=>Cj hc.bs (by decide) hc.r9 (by rw [hg',e]))
 ·rcases hat with e | e
  ·exact hc.d9 g (e▸hg') h9
  ·rw [e] at hg'
   cases hg'
   have:=(hc.r9.lt _ h9).2
   simp at this
   omega
 ·exact (Eg hg hbx.lt (Cj hbx (by decide) hc.so.own) hxs).trans hbx
end
end Go.Dk
end
