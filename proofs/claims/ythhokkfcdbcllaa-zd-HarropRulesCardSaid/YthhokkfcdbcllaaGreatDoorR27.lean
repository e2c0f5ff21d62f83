/- Parts of the proof: Vy, Vz, Wc. -/
import Derived.Test.YthhokkfcdbcllaaGreatDoorR01
import Derived.Test.YthhokkfcdbcllaaGreatDoorR02
import Derived.Test.YthhokkfcdbcllaaGreatDoorR03
import Derived.Test.YthhokkfcdbcllaaGreatDoorR04
import Derived.Test.YthhokkfcdbcllaaGreatDoorR05
import Derived.Test.YthhokkfcdbcllaaGreatDoorR06
import Derived.Test.YthhokkfcdbcllaaGreatDoorR07
import Derived.Test.YthhokkfcdbcllaaGreatDoorR08
import Derived.Test.YthhokkfcdbcllaaGreatDoorR09
import Derived.Test.YthhokkfcdbcllaaGreatDoorR10
import Derived.Test.YthhokkfcdbcllaaGreatDoorR11
import Derived.Test.YthhokkfcdbcllaaGreatDoorR12
import Derived.Test.YthhokkfcdbcllaaGreatDoorR15
import Derived.Test.YthhokkfcdbcllaaGreatDoorR13
import Derived.Test.YthhokkfcdbcllaaGreatDoorR17
import Derived.Test.YthhokkfcdbcllaaGreatDoorR26
section
namespace Go.Dk
open Go.RowKit Go.Maps Go.MapKept
open Go.Proofs hiding intOf
def Xw:Prop:=∀ (F:FP) (w:World) (t:Value) (rows:List ND) (s:SQ) (k:Int) (main:Nat),Bn F w t rows→Wf rows s→FitK rows s k main →
 Calls Tryz.prog 94 #[t,.agg (Ad s.left s.goal).toArray,.int .i64 k,.int .i64 (main:Int)] w (Fe F w t (Af rows s k main))
theorem RunM.beside {F G K X:FP} {w w':World} {pf:Nat} {t:Value} {st:SR} {vis:Int} {sv:Value} {kvs:List Value} (h:RunM F G K w pf t st vis sv kvs) (hk:KeptF X w X w') (hx:(H3 F G K).apart X):RunM F G K w' pf t st vis sv kvs:=by
 have hb:∀ b,H3 F G K b→w'.heap[b]? = w.heap[b]?:=fun b hf=>hk.block b (h.in_ b hf) (hx b hf)
 exact ⟨h.tab.kept hk (fun b hf=>hx b (.inl hf)),fun b hg=>Nat.lt_of_lt_of_le (h.gin b hg) hk.size,fun b hg=>Nat.lt_of_lt_of_le (h.kin b hg) hk.size,h.ap,h.kf,h.kg,(hb _ (.inr (.inl h.gp))).trans h.blk,Bd h.row fun g hg=>hb g (.inr (.inl (h.gs g hg))),h.len,
  fun i x v hx hv=>(h.kid i x v hx hv).same (fun b hk=>hb b (.inr (.inr hk))) (fun _ h=>h),h.gp,h.gs⟩
structure RLoc (H:FP) (B:Nat) (s:SQ) (ad:Option Addr) (seqs:List SQ) (kids:List Nat) (kv:Value) (W:World):Prop where
 b3:Ae W B (Ad s.left s.goal) 86
 n3:¬ H B
 ko:KidO B H W kv kids
 bs:seqs = []∨∃ b,ad=some ⟨b,0,none⟩∧Ae W b (seqs.flatMap fun s=>Ad s.left s.goal) 86∧¬ H b
theorem RLoc.step {H H':FP} {B:Nat} {s:SQ} {ad:Option Addr} {seqs:List SQ} {kids:List Nat} {kv:Value} {W W':World} (h:RLoc H B s ad seqs kids kv W) (hk:KeptF H W H' W'):RLoc H' B s ad seqs kids kv W':=by
 refine ⟨h.b3.keptF hk h.n3,fun hf=>h.n3 (hk.sub _ h.b3.lt hf),h.ko.step hk,?_⟩
 rcases h.bs with hs | ⟨b,h1,h2,h3⟩
 ·exact .inl hs
 ·exact .inr ⟨b,h1,h2.keptF hk h3,fun hf=>h3 (hk.sub _ h2.lt hf)⟩
theorem RLoc.app {H:FP} {B:Nat} {s:SQ} {ad:Option Addr} {seqs:List SQ} {kids:List Nat} {kv:Value} {W w1:World} (h:RLoc H B s ad seqs kids kv W) (hH:H.in_ W) {v':Value} {i:Nat} {tmp:Obj}
  (hown:w1.ownsRow B 3 1 v' (kids.length+1) (Iy kids++[.int .i64 (i:Int)])) (hg:(W.alloc tmp).grownBy w1 kv.ownBlock) (hat:v'.ownBlock=kv.ownBlock∨v'.ownBlock=some (W.alloc tmp).heap.size) :
  RLoc H B s ad seqs (kids++[i]) v' w1∧KeptF (fun b=>kv.ownBlock=some b) W (fun b=>kv.ownBlock=some b) w1∧Below B W w1:=by
 have nk3:kv.ownBlock≠some B:=Cj h.b3 (by decide) h.ko.own
 have hsz:W.heap.size≤w1.heap.size:=by have:=hg.size;simp at this;omega
 have hB:B≤W.heap.size:=Nat.le_of_lt h.b3.lt
 have hkeep:∀ b,b<W.heap.size→kv.ownBlock≠some b→w1.heap[b]? = W.heap[b]?:=fun b hb hn=>(hg.block b (by simp;omega) (fun e=>hn e.symm)).trans (Below.heap_alloc _ _ _ hb)
 refine ⟨⟨(hkeep _ h.b3.lt nk3).trans h.b3,h.n3,⟨?_,fun g hg' hf=>?_⟩,?_⟩,⟨hg.os,hg.tape,hg.output,hsz,fun _ _ h=>h,fun b hb=>?_,fun b hb hn=>hkeep b hb hn⟩,⟨hg.os,hg.tape,hg.output,hsz,fun b hb=>hkeep b (by omega) fun e=>?_⟩⟩
 ·rw [List.length_append,Ov]
  exact hown
 ·rcases hat with e | e
  ·exact h.ko.nk g (e▸hg') hf
  ·rw [e] at hg'
   cases hg'
   have:=hH _ hf
   simp at this
   omega
 ·rcases h.bs with hs | ⟨b,h1,h2,h3⟩
  ·exact .inl hs
  ·exact .inr ⟨b,h1,(hkeep _ h2.lt (Cj h2 (by decide) h.ko.own)).trans h2,h3⟩
 ·have:=(h.ko.own.lt b hb).2;omega
 ·have:=(h.ko.own.lt b e).1
  omega
structure RKid (fuel:Nat) (pf:Nat) (t:Value) (F G K:FP) (w:World) (s:SQ) (k:Int) (main:Nat) (ad:Option Addr) (seqs:List SQ) (r:SA) (C:Int) (L:Nat) (j:Nat) (W:World) (F' G' K':FP) (st:SR) (vis:Int) (kids:List Nat) (kv:Value):Prop where
 kept:KeptF (H3 F G K) w (H3 F' G' K') W
 fin:Jv F' G' K' W pf t st vis
 eq:Em (Bw fuel) s k main (seqs.drop j) st kids=r
 loc:RLoc (H3 F' G' K') w.heap.size s ad seqs kids kv W
 inv:InvS st
 wf:∀ q ∈ seqs.drop j,Wf st.rows q
 left:st.left≤fuel
 lf:st.left≤L
 room:st.steps.length+st.left≤4095
 v0:0≤vis
 vc:vis+st.left=C
 kl:kids.length=j
attribute [local go_sem ↓] Dv
attribute [local go_sem] Du
set_option maxRecDepth 100000 in
set_option maxHeartbeats 4000000 in
theorem dT (AP:Vj) (PR:Xw) (fuel:Nat) (pf:Nat) (t:Value) (HDEC:xU fuel pf t) (F G K:FP) (w:World) (st:SR) (vis:Int) (s:SQ) (h:Jv F G K w pf t st vis) (hi:InvS st) (wf:Wf st.rows s) (hf:Gy st s=none) (hl:0<st.left) (hfu:st.left≤fuel+1) (hroom:st.steps.length+st.left≤4096) (hv0:0≤vis) (hv:vis+st.left≤4096) (h14:(Ak st.rows s).1≠14) (hpe:(Af st.rows s (Ak st.rows s).1 (Ak st.rows s).2).err=0) :
  Calls Tryz.prog 79 #[.pointer (some ⟨pf,0,none⟩),.agg (Ad s.left s.goal).toArray] w (Ny F G K w pf t st vis (Em (Bw fuel) s (Ak st.rows s).1 (Ak st.rows s).2 (Af st.rows s (Ak st.rows s).1 (Ak st.rows s).2).seqs ⟨(Af st.rows s (Ak st.rows s).1 (Ak st.rows s).2).rows,st.steps,st.left - 1⟩ [])):=by
 have HB0:=Aa (Ab w (.cells (Ad s.left s.goal).toArray 86))
 have HX:=Aa (Ae.new w (Ad s.left s.goal) 86)
 have hfd:=Ou F G K _ pf t st vis (h.below HB0.o) hi s wf (by omega)
 rw [hf] at hfd
 simp only [Wg] at hfd
 have HFD:=Aa hfd
 have H:=Aa h
 have HI:=Aa hi;have HW:=Aa wf
 obtain ⟨r,hr⟩:∃ r:SA,(Em (Bw fuel) s (Ak st.rows s).1 (Ak st.rows s).2 (Af st.rows s (Ak st.rows s).1 (Ak st.rows s).2).seqs ⟨(Af st.rows s (Ak st.rows s).1 (Ak st.rows s).2).rows,st.steps,st.left - 1⟩ []:SA)=r:=⟨_,rfl⟩
 have HR:Hid (r.st.left≤st.left - 1):=by rw [← hr];exact (Pi (Ic fuel) s _ _ _ _ _).left
 rw [hr]
 have HRR:=Aa hr
 have HN:Hid (0<st.left∧st.left≤fuel+1∧st.steps.length+st.left≤4096∧0≤vis∧vis+st.left≤4096):=⟨hl,hfu,hroom,hv0,hv⟩
 obtain ⟨bd,hbd⟩:∃ bd,bd=vis+(st.left:Int):=⟨_,rfl⟩
 have HBD:=Aa hbd
 have hlt:¬ bd≤vis:=by omega
 obtain ⟨⟨k,main⟩,hkm⟩:∃ km,Ak st.rows s=km:=⟨_,rfl⟩
 have hk14:(k == 14)=false:=by rw [hkm] at h14;simpa using h14
 have HFIT:Hid (FitK st.rows s k main):=by have:=Pm hi.ok wf h14;rw [hkm] at this;exact this
 have HKM:=Aa hkm
 obtain ⟨p,hp⟩:∃ p,Af st.rows s k main=p:=⟨_,rfl⟩
 have HPP:=Aa hp
 have hpo:PremOk st.rows s p∧p.err=0∧p.seqs.length≤2:=by
  have h1:=Qk hi.ok wf h14 hpe
  rw [hkm] at h1 hpe
  simp only at h1 hpe
  rw [hp] at h1 hpe
  exact ⟨h1,hpe,by rw [← hp];exact Kq _ _ _ _⟩
 have HPO:=Aa hpo
 have hpz:(p.err != 0)=false:=by simpa using hpo.2.1
 have hrr:Em (Bw fuel) s k main p.seqs ⟨p.rows,st.steps,st.left - 1⟩ []=r:=by rw [← HRR.o,hkm,← hp]
 have HR2:=Aa hrr
 have hsl2:p.seqs.length≤2:=hpo.2.2
 clear hr hfd h hi wf hf h14 hbd hp hpe hpo hrr hkm
 go_enter Tryz.func79,Tryz.ntmps79
 go_wp2_with (first
  | (refine Ah (.tmp 3) rfl rfl rfl HX.o ?_)
  | (go_at_call 91;refine HFD.o.mono ?_;rintro e w1 ⟨rfl,hb1⟩;have HB1:=Aa (Ac HB0.o hb1);have HX1:=Aa (HX.o.below hb1);obtain ⟨sv,kvs,hm⟩:=H.o.below HB1.o;have HM1:=Aa hm;have c2:w1.cell? ⟨pf,2,none⟩=some (.int .i64 vis):=cell_of hm.blk rfl;have c3:w1.cell? ⟨pf,3,none⟩=some (.int .i64 bd):=(by have:=cell_of (i:=3) hm.blk rfl;rw [this,HBD.o];rfl);clear hb1 hm))
 go_quiet (fail)
 have HM2:=Aa (HM1.o.below (below_drewN w1 nq))
 have HX2:=Aa (HX1.o.below (below_drewN w1 nq))
 have HB2:=Aa (Ac HB1.o (below_drewN w1 nq))
 clear c2 c3
 generalize w1.drewN nq=W1 at *
 have c2:W1.cell? ⟨pf,2,none⟩=some (.int .i64 vis):=cell_of HM2.o.blk rfl
 have f2:=Dt (i:=2) HM2.o.blk
 go_wp2
 have hfe:=Vw HM2.o hl
 have HK3:=Aa hfe.1
 have HM3:=Aa hfe.2
 have HX3:=Aa (HX2.o.kept2 hfe.1 (fun hg=>by have:=H.o.in_ _ (.inr (.inl hg));omega))
 clear hfe c2 f2
 generalize (W1.setCell ⟨pf,2,none⟩ (.int .i64 (vis+1)))=W2 at *
 have HKW:Hid (KeptF (H3 F G K) w (H3 F G K) W2):=(KeptF.of_below H.o.in_ HB2.o).trans (HK3.o.fin3 HM2.o.tab.in_ HM2.o.kin)
 have hcl:∀ W',Aft W2 W'→W'.cell? ⟨pf,0,none⟩=some t:=fun W' hb=>Ao hb (cell_of HM3.o.blk rfl)
 have hld:∀ W',Aft W2 W'→Bf 86 W' (.pointer (some ⟨w.heap.size,0,none⟩)):=fun W' hb=>(An (HX3.o.below hb).loads).1
 have hlv:∀ W',Aft W2 W'→Dq 86 W' (.pointer (some ⟨w.heap.size,0,none⟩))=_:=fun W' hb=>(An (HX3.o.below hb).loads).2
 have HK:Hid (∀ W',Below W2.heap.size W2 W'→Aft W2 W'):=fun W' hb=>hb
 have HD:=Aa (below_drewN W2 1)
 have HA:Hid (∀ W,Below W2.heap.size W2 W→Calls Tryz.prog 92 #[t,.agg (Ad s.left s.goal).toArray] W fun e w'=>e = .returned (.tuple #[.int .i64 k,.int .i64 (main:Int)])∧Below W.heap.size W w'):=fun W hb=>by
  have:=AP F W t st.rows s (HM3.o.tab.below hb) HW.o
  rw [HKM.o] at this
  exact this
 go_region_held3 (fun W'=>Aft W2 W')
  ((refine HK.o _ ?_;first | exact HB3.o | exact HD.o))
  ((go_at_call 92;refine (HA.o _ HD.o).mono ?_;rintro e W3 ⟨rfl,hb3⟩;have HB3:=Aa (Ac HD.o hb3);clear hb3))
 have HX4:=Aa (HX3.o.below HB3.o)
 have HM4:=Aa (HM3.o.below HB3.o)
 have HKW3:=Aa (HKW.o.trans (KeptF.of_below HM3.o.in_ HB3.o))
 have HNX:Hid (¬ F w.heap.size):=fun hf=>by have:=H.o.in_ _ (.inl hf);omega
 have HNP:Hid (¬ F pf):=fun hf=>HM3.o.ap _ hf HM3.o.gp
 clear hcl hld hlv
 have hcl:∀ W',Dp F W3 W'→W'.cell? ⟨pf,0,none⟩=some t:=fun W' ⟨F',hk⟩=>hk.cell (cell_of HM4.o.blk rfl) HNP.o
 have hld:∀ W',Dp F W3 W'→Bf 86 W' (.pointer (some ⟨w.heap.size,0,none⟩)):=fun W' ⟨F',hk⟩=>(An (HX4.o.keptF hk HNX.o).loads).1
 have hlv:∀ W',Dp F W3 W'→Dq 86 W' (.pointer (some ⟨w.heap.size,0,none⟩))=_:=fun W' ⟨F',hk⟩=>(An (HX4.o.keptF hk HNX.o).loads).2
 have HK3':Hid (∀ W',Below W3.heap.size W3 W'→Dp F W3 W'):=fun W' hb=>⟨F,KeptF.of_below HM4.o.tab.in_ hb⟩
 have HD3:=Aa (below_drewN W3 1)
 have HPR:Hid (∀ W,Below W3.heap.size W3 W→Calls Tryz.prog 94 #[t,.agg (Ad s.left s.goal).toArray,.int .i64 k,.int .i64 (main:Int)] W (Fe F W t p)):=fun W hb=>HPP.o▸PR F W t st.rows s k main (HM4.o.tab.below hb) HW.o HFIT.o
 go_wp2_with fail
 go_region_held3 (fun W'=>Dp F W3 W')
  ((first | exact HKI.o | exact HK3'.o _ HD3.o))
  ((go_at_call 94;refine (HPR.o _ HD3.o).mono ?_;rintro e W4 ⟨v,F4,rfl,hk4,ht4,hs4⟩;have HK4:=Aa ((KeptF.of_below HM4.o.tab.in_ HD3.o).trans hk4);have HKI:Hid (Dp F W3 W4):=⟨F4,HK4.o⟩;have HT4:=Aa ht4;have HS4:=Aa hs4;clear hk4 ht4 hs4))
 clear hcl hld hlv HA HPR
 have HM5:=Aa (HM4.o.tabbed HK4.o HT4.o)
 have HKW4:=Aa (HKW3.o.trans (HK4.o.tab3 HM4.o.gin HM4.o.kin))
 have HX5:=Aa (HX4.o.keptF HK4.o HNX.o)
 obtain ⟨ad,rfl,hsb⟩:=Rt (HS4.o HPO.o.2.1)
 have HSB:=Aa hsb
 have HNG:Hid (∀ b,w.heap.size≤b→¬ G b∧¬ K b):=fun b hb=>⟨fun hg=>by have:=H.o.in_ _ (.inr (.inl hg));omega,fun hg=>by have:=H.o.in_ _ (.inr (.inr hg));omega⟩
 have HNF4:Hid (¬ F4 w.heap.size):=fun hf=>HNX.o (HK4.o.sub _ HX4.o.lt hf)
 clear hsb
 go_wp2_with fail
 have HI0:Hid (RKid fuel pf t F G K w s k main ad p.seqs r (vis+st.left) st.left 0 W4 F4 G K ⟨p.rows,st.steps,st.left - 1⟩ (vis+1) [] (.slice none 0 0)):=by
  refine ⟨HKW4.o,⟨_,_,HM5.o⟩,by simpa using HR2.o,⟨HX5.o,?_,⟨World.ownsRow_nil _ _ _ _,fun g hg=>by simp [Value.ownBlock] at hg⟩,?_⟩,(HI.o.ext HPO.o.1.ok HPO.o.1.pre _),?_,by show st.left - 1≤fuel;omega,by show st.left - 1≤st.left;omega,by show st.steps.length+(st.left - 1)≤4095;omega,by omega,by show vis+1+((st.left - 1:Nat):Int)=_;omega,rfl⟩
  ·rintro (hf | hf | hf)
   ·exact HNF4.o hf
   ·exact (HNG.o _ (Nat.le_refl _)).1 hf
   ·exact (HNG.o _ (Nat.le_refl _)).2 hf
  ·rcases HSB.o with h | ⟨b,h1,h2,h3,h4⟩
   ·exact .inl h
   ·refine .inr ⟨b,h1,h2,fun hf=>?_⟩
    have hwb:w.heap.size≤b:=by have:=HKW3.o.size;simp at h3;omega
    rcases hf with hf | hf | hf
    ·exact h4 hf
    ·exact (HNG.o b hwb).1 hf
    ·exact (HNG.o b hwb).2 hf
  ·intro q hq
   exact HPO.o.1.inv.wf q (by simpa using hq)
 clear HFD HB0 HX H HI HW HRR HR HBD HKM HFIT HPP HR2 HPO HB1 HX1 HM1 HM2 HX2 HB2 HK3 HM3 HX3 HKW HK HD HB3 HX4 HM4 HKW3 HNX HNP HK3' HD3 HK4 HKI HT4 HS4 HM5 HKW4 HX5 HSB HNG HNF4 hk14 hpz hlt
 go_loopw [11,12] (fun kv i W=>∃ j F' G' K' st' vis' kids,j≤p.seqs.length∧i = .int .i64 (j:Int)∧RKid fuel pf t F G K w s k main ad p.seqs r (vis+st.left) st.left j W F' G' K' st' vis' kids kv) (fun _ i _=>p.seqs.length - (intOf i).toNat)
 case atStart=>exact ⟨0,F4,G,K,_,_,_,by omega,rfl,HI0.o⟩
 case round=>
  obtain ⟨j,F',G',K',st',vis',kids,hj,rfl,hI⟩:=hrel
  have HJ:=Aa hI
  obtain ⟨qa,qc,hkv⟩:=Ba hI.loc.ko.own
  subst hkv
  clear hI
  by_cases hlt:j<p.seqs.length
  ·obtain ⟨q,hq⟩:∃ q,q=p.seqs[j]:=⟨_,rfl⟩
   have hdrop:p.seqs.drop j=q::p.seqs.drop (j+1):=by rw [hq];exact List.drop_eq_getElem_cons hlt
   have hwq:Wf st'.rows q:=HJ.o.wf q (by rw [hdrop];simp)
   obtain ⟨b,hadb,hbx,hnb⟩:∃ b,ad=some ⟨b,0,none⟩∧Ae wr b (p.seqs.flatMap fun s=>Ad s.left s.goal) 86∧¬ H3 F' G' K' b:=by
    rcases HJ.o.loc.bs with h | h
    ·rw [h] at hlt;simp at hlt
    ·exact h
   have hra:wr.rangeAt b (j * 17) (Ad q.left q.goal):=by rw [hq];exact hbx.seqAt hlt
   have HRA:=Aa hra
   obtain ⟨r1,hr1⟩:∃ r1,Bw fuel st' q=r1:=⟨_,rfl⟩
   have HIH:Hid (Calls Tryz.prog 79 #[.pointer (some ⟨pf,0,none⟩),.agg (Ad q.left q.goal).toArray] wr (Ny F' G' K' wr pf t st' vis' r1)):=by
    have h0:=HJ.o
    exact hr1▸HDEC F' G' K' wr st' vis' q h0.fin h0.inv hwq h0.left (by have:=h0.room;omega) h0.v0 (by have:=h0.vc;omega)
   have HEQ:Hid (Em (Bw fuel) s k main (q::p.seqs.drop (j+1)) st' kids=r):=by
    have:=HJ.o.eq
    rw [hdrop] at this
    exact this
   have HRM:Hid (Room st' r1 0):=hr1▸Ic fuel st' q
   have HGO:Hid (r1.err=0→GoodA st' q r1):=fun h=>hr1▸Ot fuel st' q HJ.o.inv hwq (by rw [hr1];exact h)
   have HR1:=Aa hr1
   have hjn:(j:Int)<(p.seqs.length:Int):=by omega
   have HVI:Hid (vis'+((st'.left - r1.st.left:Nat):Int)=vis+((st.left - r1.st.left:Nat):Int)):=(by have h1:=HJ.o.vc;have h2:=HRM.o.left;have h3:=HJ.o.left;have h4:=HJ.o.lf;show _=_;omega)
   subst hadb
   clear hr1 hwq hra hbx hnb hdrop hq
   by_cases hz1:r1.err=0
   ·have hz2:(r1.err != 0)=false:=by simpa using hz1
    have HGD:=Aa (HGO.o hz1)
    obtain ⟨xx,hxx,_⟩:=HGD.o.ans
    have hat:r1.at_<r1.st.steps.length:=(List.getElem?_eq_some_iff.1 hxx).1
    have hatI:(r1.at_:Int)<(r1.st.steps.length:Int):=by omega
    clear hxx
    have HZ1:=Aa hz1
    clear hz1
    cases hpb:Ax r1.st r1.at_ with
    | false=>
     as_aux_lemma=>
     go_wp2_with (first
      | (refine Cb (.tmp 77) rfl rfl rfl HRA.o ?_)
      | (go_at_call 79;refine HIH.o.mono ?_;rintro e W7 ⟨rfl,F7,G7,K7,hk7,hf7⟩;have HF7:=Aa hf7;have HKW7:=Aa (HJ.o.kept.trans hk7);have HL7:=Aa (HJ.o.loc.step hk7);obtain ⟨sv7,kvs7,hm7⟩:=HF7.o;obtain ⟨g7,c7,rfl,hcp7⟩:=Gk hm7 hat;rw [hpb] at hcp7;have c71:W7.cell? ⟨pf,1,none⟩=some (.slice (some ⟨g7,0,none⟩) r1.st.steps.length c7):=cell_of hm7.blk rfl;clear hm7 hk7 hf7)
      | (refine Ah (.tmp 3) rfl rfl rfl HL7.o.b3 ?_)
      | (go_at_call 95;refine (Zw (st:=st) (vis:=vis) (HKW7.o.trans (KeptF.of_below HF7.o.in_ (Ab W7 (.cells #[.int .i64 (r1.at_:Int)] 3)))) (HF7.o.below (Ab W7 _)) HVI.o s false k main [r1.at_] (.slice (some ⟨W7.heap.size,0,none⟩) 1 1) (by have:=HRM.o.len;have:=HJ.o.room;omega) (Gs W7 _ _) (fun a m c e=>by cases e;refine ⟨by show W7.heap.size<_;simp,HKW7.o.size,fun hf=>by have:=HF7.o.in_ _ hf;exact absurd this (Nat.lt_irrefl _)⟩)).mono ?_;rintro e W8 ⟨rfl,F8,G8,K8,hk8,hf8⟩;have HK8:=Aa hk8;have HF8:=Aa hf8;clear hk8 hf8))
     go_ret2
     have hr0:r=Ho r1.st ⟨s,false,k,main,[r1.at_]⟩:=by
      rw [← HEQ.o,Em,HR1.o,if_neg (by simpa using HZ1.o),hpb]
      rfl
     rw [hr0]
     exact ⟨rfl,F8,G8,K8,HK8.o,HF8.o⟩
    | true=>
     as_aux_lemma=>
     go_wp2_with (first
      | (refine Cb (.tmp 77) rfl rfl rfl HRA.o ?_)
      | (go_at_call 79;refine HIH.o.mono ?_;rintro e W7 ⟨rfl,F7,G7,K7,hk7,hf7⟩;have HF7:=Aa hf7;have HKW7:=Aa (HJ.o.kept.trans hk7);have HL7:=Aa (HJ.o.loc.step hk7);obtain ⟨sv7,kvs7,hm7⟩:=HF7.o;obtain ⟨g7,c7,rfl,hcp7⟩:=Gk hm7 hat;rw [hpb] at hcp7;have c71:W7.cell? ⟨pf,1,none⟩=some (.slice (some ⟨g7,0,none⟩) r1.st.steps.length c7):=cell_of hm7.blk rfl;have HM7:=Aa hm7;clear hm7 hk7 hf7)
      | (at_builtin;go_loud (refine By rfl (.tmp 103) (.tmp 105) 23 rfl w.heap.size 3 _ 1 8 Tryz.underlying23 Ef rfl (by decide) (by decide) (.slice qa kids.length qc) kids.length (Iy kids) rfl (Bd HL7.o.ko.own (fun g hg=>Below.heap_alloc _ _ _ (HL7.o.ko.own.lt g hg).2)) _ 1 [.int .i64 (r1.at_:Int)] rfl (Gs W7 _ _) (by simp [Value.oneCell']) (by have:=HJ.o.kl;omega) (by have:=HKW7.o.size;simp;omega) ?_;intro v5 w5 hown hgr hat5 hnil;have hla:=HL7.o.app HF7.o.in_ hown hgr hat5;have HLA:=Aa hla;clear hown hgr hat5 hnil hla)))
     have HKX:Hid (KeptF (H3 F G K) w (H3 F7 G7 K7) w5):=HKW7.o.thenNew HLA.o.2.2 (fun b hb=>Nat.lt_of_lt_of_le (HF7.o.in_ b hb) HLA.o.2.1.size)
     have HFX:Hid (Jv F7 G7 K7 w5 pf t r1.st (vis'+((st'.left - r1.st.left:Nat):Int))):=⟨_,_,HM7.o.beside HLA.o.2.1 (fun b hb hx=>HL7.o.ko.nk b hx hb)⟩
     have h1:=HRM.o.left
     have h2:=HRM.o.len
     have h3:=HJ.o
     refine ⟨⟨j+1,F7,G7,K7,r1.st,vis'+((st'.left - r1.st.left:Nat):Int),kids++[r1.at_],by omega,by go_num,HKX.o,HFX.o,?_,HLA.o.1,HGD.o.inv,?_,by have:=h3.left;omega,by have:=h3.lf;omega,by have:=h3.room;omega,by have:=h3.v0;omega,by have:=h3.vc;omega,by rw [List.length_append,h3.kl];rfl⟩,by simp [intOf];omega⟩
     ·have:=HEQ.o
      rw [Em,HR1.o,if_neg (by simpa using HZ1.o),hpb] at this
      exact this
     ·intro q' hq'
      refine (h3.wf q' ?_).ext HGD.o.pre
      rw [← List.drop_drop] at hq'
      exact List.mem_of_mem_drop hq'
   ·have hz2:(r1.err != 0)=true:=by simpa using hz1
    have HZ1:=Aa hz1
    clear hz1
    as_aux_lemma=>
    go_wp2_with (first
     | (refine Cb (.tmp 77) rfl rfl rfl HRA.o ?_)
     | (go_at_call 79;refine HIH.o.mono ?_;rintro e W7 ⟨rfl,F7,G7,K7,hk7,hf7⟩;have HF7:=Aa hf7;have HKW7:=Aa (HJ.o.kept.trans hk7);clear hk7 hf7))
    go_ret2
    have hr0:r=⟨r1.st,r1.err,0⟩:=by
     rw [← HEQ.o,Em,HR1.o,if_pos HZ1.o]
    rw [hr0]
    refine ⟨rfl,F7,G7,K7,HKW7.o,?_⟩
    have h1:=HF7.o
    rw [HVI.o] at h1
    exact h1
  ·as_aux_lemma=>
   obtain rfl:j=p.seqs.length:=by omega
   have h3:=HJ.o
   have HRK:Hid (r=Ho st' ⟨s,true,k,main,kids⟩):=by
    show r=_
    rw [← h3.eq,List.drop_length,Em]
   have HVI:Hid (vis'=vis+((st.left - st'.left:Nat):Int)):=by have h1:=h3.vc;have h2:=h3.lf;show _=_;omega
   have HRD:Hid (Rd wr (.slice qa kids.length qc) kids.length 1 (Iy kids)):=Hv h3.loc.ko.own
   clear h3
   go_wp2_with (first
    | (refine Ah (.tmp 3) rfl rfl rfl HJ.o.loc.b3 ?_)
    | (go_at_call 95;refine (Zw (st:=st) (vis:=vis) HJ.o.kept HJ.o.fin HVI.o s true k main kids (.slice qa kids.length qc) (by have:=HJ.o.room;omega) HRD.o (fun a m c e=>by have h1:=HJ.o.loc.ko.own.lt a.block (by rw [e];rfl);exact ⟨h1.2,h1.1,HJ.o.loc.ko.nk a.block (by rw [e];rfl)⟩)).mono ?_;rintro e W8 ⟨rfl,F8,G8,K8,hk8,hf8⟩;have HK8:=Aa hk8;have HF8:=Aa hf8;clear hk8 hf8))
   go_ret2
   rw [HRK.o]
   exact ⟨rfl,F8,G8,K8,HK8.o,HF8.o⟩
end Go.Dk
end
section
namespace Go.Dk
open Go.RowKit Go.Maps Go.MapKept
open Go.Proofs hiding intOf
structure OwnO (B B2:Nat) (T:TypeId) (H:FP) (W:World) (v:Value) (zs:List Int):Prop where
 own:W.ownsRow B T 1 v zs.length (ints zs)
 nk:∀ g,v.ownBlock=some g→¬ H g
 lt:∀ g,v.ownBlock=some g→g<B2
theorem OwnO.step {B B2:Nat} {T:TypeId} {H H':FP} {W W':World} {v:Value} {zs:List Int} (h:OwnO B B2 T H W v zs) (hk:KeptF H W H' W'):OwnO B B2 T H' W' v zs:=
 ⟨hk.own h.own h.nk,fun g hg hf=>h.nk g hg (hk.sub g (h.own.lt g hg).2 hf),h.lt⟩
theorem OwnO.at {B B2:Nat} {T:TypeId} {H:FP} {W:World} {v:Value} {zs:List Int} (h:OwnO B B2 T H W v zs) {i:Nat} (hi:i<zs.length):∃ g c,v = .slice (some ⟨g,0,none⟩) zs.length c∧¬ H g∧W.cell? ⟨g,i,none⟩=some (.int .i64 zs[i]):=by
 obtain ⟨g,c,rfl,_,hc⟩:=Ht h.own (by omega)
 exact ⟨g,c,rfl,h.nk g rfl,hc i _ (by simp [ints,hi])⟩
def Ys (w:World) (cs:List (Int × Nat)) (e:Ending) (w':World):Prop:=
 ∃ v8 v9,e = .returned (.tuple #[v8,v9])∧w'.ownsRow w.heap.size 120 1 v8 (cs.map (·.1)).length (ints (cs.map (·.1)))∧w'.ownsRow w.heap.size 3 1 v9 (cs.map fun c=>(c.2:Int)).length (ints (cs.map fun c=>(c.2:Int)))∧Below w.heap.size w w'
def sJ:Prop:=∀ (F:FP) (w:World) (t:Value) (rows:List ND) (s:SQ),Bn F w t rows→Wf rows s→(Ak rows s).1=14 →
 Calls Tryz.prog 119 #[t,.agg (Ad s.left s.goal).toArray] w (Ys w (Bj rows s))
structure RCl (H:FP) (B B2:Nat) (s:SQ) (rs ms:List Int) (v6 v7:Value) (stuck:List Nat) (skv:Value) (W:World):Prop where
 b3:Ae W B (Ad s.left s.goal) 86
 n3:¬ H B
 o6:OwnO B B2 120 H W v6 rs
 o7:OwnO B B2 3 H W v7 ms
 ko:KidO B2 H W skv stuck
 lo:B<B2
theorem RCl.step {H H':FP} {B B2:Nat} {s:SQ} {rs ms:List Int} {v6 v7:Value} {stuck:List Nat} {skv:Value} {W W':World} (h:RCl H B B2 s rs ms v6 v7 stuck skv W) (hk:KeptF H W H' W'):RCl H' B B2 s rs ms v6 v7 stuck skv W':=
 ⟨h.b3.keptF hk h.n3,fun hf=>h.n3 (hk.sub _ h.b3.lt hf),h.o6.step hk,h.o7.step hk,h.ko.step hk,h.lo⟩
theorem RCl.app {H:FP} {B B2:Nat} {s:SQ} {rs ms:List Int} {v6 v7:Value} {stuck:List Nat} {skv:Value} {W w1:World} (h:RCl H B B2 s rs ms v6 v7 stuck skv W) (hH:H.in_ W) (hB2:B2≤W.heap.size) {v':Value} {i:Nat} {tmp:Obj}
  (hown:w1.ownsRow B2 3 1 v' (stuck.length+1) (Iy stuck++[.int .i64 (i:Int)])) (hg:(W.alloc tmp).grownBy w1 skv.ownBlock) (hat:v'.ownBlock=skv.ownBlock∨v'.ownBlock=some (W.alloc tmp).heap.size) :
  RCl H B B2 s rs ms v6 v7 (stuck++[i]) v' w1∧KeptF (fun b=>skv.ownBlock=some b) W (fun b=>skv.ownBlock=some b) w1∧Below B2 W w1:=by
 have hsz:W.heap.size≤w1.heap.size:=by have:=hg.size;simp at this;omega
 have hkeep:∀ b,b<W.heap.size→skv.ownBlock≠some b→w1.heap[b]? = W.heap[b]?:=fun b hb hn=>(hg.block b (by simp;omega) (fun e=>hn e.symm)).trans (Below.heap_alloc _ _ _ hb)
 have hlo:∀ b,b<B2→skv.ownBlock≠some b:=fun b hb e=>by have:=(h.ko.own.lt b e).1;omega
 refine ⟨⟨(hkeep _ h.b3.lt (hlo _ h.lo)).trans h.b3,h.n3,⟨Bd h.o6.own fun g hg'=>hkeep g (h.o6.own.lt g hg').2 (hlo g (h.o6.lt g hg')),h.o6.nk,h.o6.lt⟩,⟨Bd h.o7.own fun g hg'=>hkeep g (h.o7.own.lt g hg').2 (hlo g (h.o7.lt g hg')),h.o7.nk,h.o7.lt⟩,⟨?_,fun g hg' hf=>?_⟩,h.lo⟩,⟨hg.os,hg.tape,hg.output,hsz,fun _ _ h=>h,fun b hb=>?_,fun b hb hn=>hkeep b hb hn⟩,⟨hg.os,hg.tape,hg.output,hsz,fun b hb=>hkeep b (by omega) (hlo b hb)⟩⟩
 ·rw [List.length_append,Ov]
  exact hown
 ·rcases hat with e | e
  ·exact h.ko.nk g (e▸hg') hf
  ·rw [e] at hg'
   cases hg'
   have:=hH _ hf
   simp at this
   omega
 ·have:=(h.ko.own.lt b hb).2;omega
structure RChI (fuel:Nat) (pf:Nat) (t:Value) (F G K:FP) (w:World) (B2:Nat) (s:SQ) (cs:List (Int × Nat)) (v6 v7:Value) (r:SA) (C:Int) (L:Nat) (i:Nat) (W:World) (F' G' K':FP) (st:SR) (vis:Int) (stuck:List Nat) (skv:Value):Prop where
 kept:KeptF (H3 F G K) w (H3 F' G' K') W
 fin:Jv F' G' K' W pf t st vis
 cl:RCl (H3 F' G' K') w.heap.size B2 s (cs.map (·.1)) (cs.map fun c=>(c.2:Int)) v6 v7 stuck skv W
 sz:B2≤W.heap.size
 eq:Bq (Bw fuel) s (cs.drop i) st stuck=r
 inv:InvS st
 wf:Wf st.rows s
 isc:∀ c ∈ cs.drop i,IsC st.rows s c
 left:st.left≤fuel
 lf:st.left≤L
 room:st.steps.length+st.left≤4095
 v0:0≤vis
 vc:vis+st.left=C
 kl:stuck.length≤i
def tH (dec:SR→SQ→SA) (s:SQ) (c:Int × Nat) (more:List SQ) (r:SA):SA:=match more with
 | []=>Ho r.st ⟨s,true,c.1,c.2,[r.at_]⟩
 | q2::_=>if (dec r.st q2).err≠0 then ⟨(dec r.st q2).st,(dec r.st q2).err,0⟩ else if Ax (dec r.st q2).st (dec r.st q2).at_ then Ho (dec r.st q2).st ⟨s,true,c.1,c.2,[r.at_,(dec r.st q2).at_]⟩ else Ho (dec r.st q2).st ⟨s,false,c.1,c.2,[(dec r.st q2).at_]⟩
theorem pY {dec:SR→SQ→SA} {s:SQ} {c:Int × Nat} {t:List (Int × Nat)} {st:SR} {stuck:List Nat} {p:Prem} (hp:Af st.rows s c.1 c.2=p) (he:p.err=0) {q:SQ} {more:List SQ} (hq:p.seqs=q::more) {r:SA} (hr:dec ⟨p.rows,st.steps,st.left⟩ q=r) :
  Bq dec s (c::t) st stuck=if r.err≠0 then ⟨r.st,r.err,0⟩ else if Ax r.st r.at_ then tH dec s c more r else Bq dec s t r.st (stuck++[r.at_]):=by
 rw [Bq]
 simp only [hp]
 rw [if_neg (by simpa using he)]
 cases more with
 | nil=>rw [hq];simp only [hr];rfl
 | cons q2 m=>rw [hq];simp only [hr];rfl
theorem Yt {F G K F1 G1 K1:FP} {w W:World} {pf:Nat} {t:Value} {st st1:SR} {vis vis1:Int} (hk:KeptF (H3 F G K) w (H3 F1 G1 K1) W) (hm:Jv F1 G1 K1 W pf t st1 vis1) (hv:vis1=vis+((st.left - st1.left:Nat):Int)) (s:SQ) (pv:Bool) (k:Int) (main:Nat) (kids:List Nat) (hsl:st1.steps.length<4096) (_h0:0<kids.length) :
  Calls Tryz.prog 95 #[.pointer (some ⟨pf,0,none⟩),.agg (Ad s.left s.goal).toArray,.bool pv,.int .i64 k,.int .i64 (main:Int),.slice (some ⟨W.heap.size,0,none⟩) kids.length kids.length] (W.alloc (.cells (Iy kids).toArray 3)).drew (fun e w'=>Ny F G K w pf t st vis (Ho st1 ⟨s,pv,k,main,kids⟩) e w'∧Dp (H3 F1 G1 K1) W w'):=by
 have hb:Below W.heap.size W (W.alloc (.cells (Iy kids).toArray 3)).drew:=Ac (Ab W _) (below_drewN _ 1)
 have hx:=(Ae.new W (Iy kids) 3).below (below_drewN _ 1)
 have hlt:W.heap.size<(W.alloc (.cells (Iy kids).toArray 3)).drew.heap.size:=hx.lt
 refine (aX (hk.trans (KeptF.of_below hm.in_ hb)) (hm.below hb) hv s pv k main kids _ hsl ⟨⟨_,_,rfl,fun e=>by (cases e),fun ad e=>?_⟩,by simp [Iy,ints]⟩ (fun a m c e=>?_)).mono fun e w' h=>⟨h.1,h.2.elim fun X hk2=>⟨X,(KeptF.of_below hm.in_ hb).trans hk2⟩⟩
 ·cases e
  exact ⟨fun _=>rfl,fun j u hu=>by simpa using hx.cell hu⟩
 ·cases e
  exact ⟨hlt,hk.size,fun hf=>Nat.lt_irrefl _ (hm.in_ _ hf)⟩
attribute [local go_sem ↓] Dv
attribute [local go_sem] Du
set_option maxRecDepth 100000 in
set_option maxHeartbeats 8000000 in
theorem gV (PR:Xw) (CH:sJ) (fuel:Nat) (pf:Nat) (t:Value) (HDEC:xU fuel pf t):zG fuel pf t:=by
 intro F G K w st vis s h hi wf h14 hfu hroom hv0 hv
 have HB0:=Aa (Ab w (.cells (Ad s.left s.goal).toArray 86))
 have HX:=Aa (Ae.new w (Ad s.left s.goal) 86)
 obtain ⟨sv,kvs,hm⟩:=h
 have HM:=Aa hm
 have HCH:Hid (∀ W,Below w.heap.size w W→Calls Tryz.prog 119 #[t,.agg (Ad s.left s.goal).toArray] W (Ys W (Bj st.rows s))):=fun W hb=>CH F W t st.rows s (hm.tab.below hb) wf h14
 have HISC:Hid (∀ c ∈ Bj st.rows s,IsC st.rows s c):=fun c hc=>Zz hc
 obtain ⟨cs,hcs⟩:∃ cs,Bj st.rows s=cs:=⟨_,rfl⟩
 have HLC:Hid (cs.length≤1030):=by
  have hle:=hi.ok.le
  have:=List.length_filter_le (fun i=>s.left.testBit i && onP st.rows s i == 13) (List.range st.rows.length)
  unfold Hid
  rw [← hcs]
  unfold Bj
  rw [List.length_append,List.length_map]
  simp at this
  split<;>simp<;>omega
 obtain ⟨r,hr⟩:∃ r,Bq (Bw fuel) s (Bj st.rows s) st []=r:=⟨_,rfl⟩
 rw [hr]
 rw [hcs] at HCH HISC hr
 have HI:=Aa hi;have HW:=Aa wf;have HRR:=Aa hr
 have HN:Hid (st.left≤fuel∧st.steps.length+st.left≤4095∧0≤vis∧vis+st.left≤4096):=⟨hfu,hroom,hv0,hv⟩
 have HPF:Hid (pf<w.heap.size):=hm.gin _ hm.gp
 clear hm hi wf h14 hcs hr
 go_enter Tryz.func93,Tryz.ntmps93
 go_wp2_with fail
 generalize hW0:w.alloc (.cells (Ad s.left s.goal).toArray 86)=W0 at *
 have HS0:Hid (W0.heap.size=w.heap.size+1):=by rw [← hW0];simp [Hid]
 clear hW0
 have HM0:=Aa (HM.o.below HB0.o)
 have hcl:∀ W',Aft W0 W'→W'.cell? ⟨pf,0,none⟩=some t:=fun W' hb=>Ao hb (cell_of HM0.o.blk rfl)
 have hld:∀ W',Aft W0 W'→Bf 86 W' (.pointer (some ⟨w.heap.size,0,none⟩)):=fun W' hb=>(An (HX.o.below hb).loads).1
 have hlv:∀ W',Aft W0 W'→Dq 86 W' (.pointer (some ⟨w.heap.size,0,none⟩))=_:=fun W' hb=>(An (HX.o.below hb).loads).2
 have HK:Hid (∀ W',Below W0.heap.size W0 W'→Aft W0 W'):=fun W' hb=>hb
 have HD:=Aa (below_drewN W0 1)
 go_region_held3 (fun W'=>Aft W0 W')
  ((refine HK.o _ ?_;first | exact HB1.o | exact HD.o))
  ((go_at_call 119;refine (HCH.o _ (Ac HB0.o HD.o)).mono ?_;rintro e W1 ⟨v6,v7,rfl,ho6,ho7,hb1⟩;have HO6:=Aa ho6;have HO7:=Aa ho7;have HB1:=Aa (Ac HD.o hb1);obtain ⟨a6,c6,h6⟩:=Ba ho6;obtain ⟨a7,c7,h7⟩:=Ba ho7;subst h6;subst h7;clear ho6 ho7 hb1))
 clear hcl hld hlv HCH
 go_wp2_with fail
 have HI0:Hid (RChI fuel pf t F G K w W1.heap.size s cs (.slice a6 (cs.map (·.1)).length c6) (.slice a7 (cs.map fun c=>(c.2:Int)).length c7) r (vis+st.left) st.left 0 W1 F G K st vis [] (.slice none 0 0)):=by
  have hwz:w.heap.size<W1.heap.size:=by have:=HB1.o.size;have:=HS0.o;omega
  have hnh:∀ b,w.heap.size≤b→¬ H3 F G K b:=fun b hb hf=>by have:=HM.o.in_ b hf;omega
  have hbw:Below w.heap.size w W1:=Ac HB0.o HB1.o
  have h0:w.heap.size≤(W0.drewN 1).heap.size:=(Ac HB0.o HD.o).size
  refine ⟨KeptF.of_below HM.o.in_ hbw,⟨_,_,HM.o.below hbw⟩,⟨HX.o.below HB1.o,hnh _ (Nat.le_refl _),⟨own_base HO6.o h0,fun g hg=>hnh g ?_,fun g hg=>(HO6.o.lt g hg).2⟩,⟨own_base HO7.o h0,fun g hg=>hnh g ?_,fun g hg=>(HO7.o.lt g hg).2⟩,⟨World.ownsRow_nil _ _ _ _,fun g hg=>by simp [Value.ownBlock] at hg⟩,hwz⟩,Nat.le_refl _,by simpa using HRR.o,HI.o,HW.o,by simpa using HISC.o,hfu,Nat.le_refl _,hroom,hv0,rfl,Nat.le_refl _⟩
  ·have:=(HO6.o.lt g hg).1;omega
  ·have:=(HO7.o.lt g hg).1;omega
 clear HB0 HX HM HISC HI HW HRR HM0 HK HD HB1 HO6 HO7 HS0
 go_loopw [8,9] (fun skv u W=>∃ i F' G' K' st' vis' stuck,i≤cs.length∧u = .int .i64 (i:Int)∧RChI fuel pf t F G K w W1.heap.size s cs (.slice a6 (cs.map (·.1)).length c6) (.slice a7 (cs.map fun c=>(c.2:Int)).length c7) r (vis+st.left) st.left i W F' G' K' st' vis' stuck skv) (fun _ u _=>cs.length - (intOf u).toNat)
 case atStart=>exact ⟨0,F,G,K,_,_,_,by omega,rfl,HI0.o⟩
 case round=>
  obtain ⟨i,F',G',K',st',vis',stuck,hi,rfl,hI⟩:=hrel
  have HJ:=Aa hI
  obtain ⟨qa,qc,hkv⟩:=Ba hI.cl.ko.own
  subst hkv
  clear hI
  have hl6:(cs.map (·.1)).length=cs.length:=List.length_map ..
  have hl7:(cs.map fun c=>(c.2:Int)).length=cs.length:=List.length_map ..
  by_cases hlt:i<cs.length
  ·obtain ⟨⟨k,main⟩,hc⟩:∃ c,c=cs[i]:=⟨_,rfl⟩
   have hdrop:cs.drop i=(k,main)::cs.drop (i+1):=by rw [hc];exact List.drop_eq_getElem_cons hlt
   have hisc:IsC st'.rows s (k,main):=HJ.o.isc _ (by rw [hdrop];simp)
   obtain ⟨g6,d6,he6,hn6,hc6⟩:=HJ.o.cl.o6.at (i:=i) (by rw [hl6];exact hlt)
   obtain ⟨g7,d7,he7,hn7,hc7⟩:=HJ.o.cl.o7.at (i:=i) (by rw [hl7];exact hlt)
   simp only [List.getElem_map,← hc] at hc6 hc7
   cases he6
   cases he7
   have HC6:=Aa hc6;have HC7:=Aa hc7;have HN6:=Aa hn6;have HN7:=Aa hn7
   have HFIT:Hid (FitK st'.rows s k main):=Xh HJ.o.wf hisc
   obtain ⟨p,hp⟩:∃ p,Af st'.rows s k main=p:=⟨_,rfl⟩
   have HPP:=Aa hp
   have hin:(i:Int)<(cs.length:Int):=by omega
   have HEQ:Hid (Bq (Bw fuel) s ((k,main)::cs.drop (i+1)) st' stuck=r):=by
    have:=HJ.o.eq
    rw [hdrop] at this
    exact this
   have HISN:Hid (∀ c ∈ cs.drop (i+1),IsC st'.rows s c):=fun c hc=>HJ.o.isc c (by rw [hdrop];simp [hc])
   have HISC:=Aa hisc
   rw [hl6,hl7] at *
   clear hisc hc6 hc7 hn6 hn7 hp hdrop hc
   obtain ⟨sv',kvs',hm'⟩:=HJ.o.fin
   have HM:=Aa hm'
   clear hm'
   have HNF:Hid (¬ F' w.heap.size∧¬ F' g6∧¬ F' g7∧¬ F' pf):=⟨fun hf=>HJ.o.cl.n3 (.inl hf),fun hf=>HN6.o (.inl hf),fun hf=>HN7.o (.inl hf),fun hf=>HM.o.ap _ hf HM.o.gp⟩
   have hcl:∀ W',Dp F' wr W'→W'.cell? ⟨pf,0,none⟩=some t:=fun W' ⟨F',hk⟩=>hk.cell (cell_of HM.o.blk rfl) HNF.o.2.2.2
   have hcl6:∀ W',Dp F' wr W'→W'.cell? ⟨g6,i,none⟩=some (.int .i64 k):=fun W' ⟨F',hk⟩=>hk.cell HC6.o HNF.o.2.1
   have hcl7:∀ W',Dp F' wr W'→W'.cell? ⟨g7,i,none⟩=some (.int .i64 (main:Int)):=fun W' ⟨F',hk⟩=>hk.cell HC7.o HNF.o.2.2.1
   have hld:∀ W',Dp F' wr W'→Bf 86 W' (.pointer (some ⟨w.heap.size,0,none⟩)):=fun W' ⟨F',hk⟩=>(An (HJ.o.cl.b3.keptF hk HNF.o.1).loads).1
   have hlv:∀ W',Dp F' wr W'→Dq 86 W' (.pointer (some ⟨w.heap.size,0,none⟩))=_:=fun W' ⟨F',hk⟩=>(An (HJ.o.cl.b3.keptF hk HNF.o.1).loads).2
   have HK3':Hid (∀ W',Below wr.heap.size wr W'→Dp F' wr W'):=fun W' hb=>⟨F',KeptF.of_below HM.o.tab.in_ hb⟩
   have HD3:=Aa (below_drewN wr 1)
   have HPR:Hid (∀ W,Below wr.heap.size wr W→Calls Tryz.prog 94 #[t,.agg (Ad s.left s.goal).toArray,.int .i64 k,.int .i64 (main:Int)] W (Fe F' W t p)):=fun W hb=>HPP.o▸PR F' W t st'.rows s k main (HM.o.tab.below hb) HJ.o.wf HFIT.o
   have hlc:=HLC.o
   go_wp2_with fail
   go_region_held3 (fun W'=>Dp F' wr W')
    ((first | exact HKI.o | exact HK3'.o _ HD3.o))
    ((go_at_call 94;refine (HPR.o _ HD3.o).mono ?_;rintro e W4 ⟨v,F4,rfl,hk4,ht4,hs4⟩;have HK4:=Aa ((KeptF.of_below HM.o.tab.in_ HD3.o).trans hk4);have HKI:Hid (Dp F' wr W4):=⟨F4,HK4.o⟩;have HT4:=Aa ht4;have HS4:=Aa hs4;clear hk4 ht4 hs4))
   clear hcl hld hlv hcl6 hcl7 HPR
   have HM5:=Aa (HM.o.tabbed HK4.o HT4.o)
   have HK5:=Aa (HK4.o.tab3 HM.o.gin HM.o.kin)
   have HKW4:=Aa (HJ.o.kept.trans HK5.o)
   have HCL:=Aa (HJ.o.cl.step HK5.o)
   by_cases hpe:p.err=0
   ·have hpz:(p.err != 0)=false:=by simpa using hpe
    obtain ⟨ad,rfl,hsb⟩:=Rt (HS4.o hpe)
    obtain ⟨o1,p1,hq⟩:=Rm HJ.o.inv.ok HJ.o.wf HISC.o (by rw [HPP.o];exact hpe)
    rw [HPP.o] at o1 p1 hq
    have HO1:=Aa o1;have HP1:=Aa p1
    obtain ⟨q,more,hqm,hwq,hmo⟩:∃ q more,p.seqs=q::more∧Wf p.rows q∧(more = []∨∃ q2,more = [q2]∧Wf p.rows q2):=by
     rcases hq with ⟨q,hq,wq,_⟩ | ⟨q,q2,hq,wq,wq2,_⟩
     ·exact ⟨q,[],hq,wq,.inl rfl⟩
     ·exact ⟨q,[q2],hq,wq,.inr ⟨q2,rfl,wq2⟩⟩
    obtain ⟨b,hadb,hbx,hbn⟩:∃ b,ad=some ⟨b,0,none⟩∧Ae W4 b (p.seqs.flatMap fun s=>Ad s.left s.goal) 86∧¬ H3 F4 G' K' b:=by
     rcases hsb with h | ⟨b,h1,h2,h3,h4⟩
     ·rw [hqm] at h;cases h
     ·refine ⟨b,h1,h2,fun hf=>?_⟩
      have hwb:wr.heap.size≤b:=by simpa using h3
      rcases hf with hf | hf | hf
      ·exact h4 hf
      ·have:=HM.o.gin _ hf;omega
      ·have:=HM.o.kin _ hf;omega
    subst hadb
    have HBX:=Aa hbx;have HBN:=Aa hbn
    have HQM:=Aa hqm
    have hra:W4.rangeAt b 0 (Ad q.left q.goal):=by
     have:=hbx.seqAt (j:=0) (by rw [hqm];simp)
     simpa [hqm] using this
    have HRA:=Aa hra
    obtain ⟨n,hn⟩:∃ n,p.seqs.length=n:=⟨_,rfl⟩
    have hn0:(0:Int)<(n:Int):=by rw [← hn,hqm];simp
    have HNN:=Aa hn
    rw [hn]
    have hi1:=HJ.o.inv.ext o1 p1 st'.left
    obtain ⟨r1,hr1⟩:∃ r1,Bw fuel ⟨p.rows,st'.steps,st'.left⟩ q=r1:=⟨_,rfl⟩
    have HIH:Hid (Calls Tryz.prog 79 #[.pointer (some ⟨pf,0,none⟩),.agg (Ad q.left q.goal).toArray] W4 (Ny F4 G' K' W4 pf t ⟨p.rows,st'.steps,st'.left⟩ vis' r1)):=by
     have h0:=HJ.o
     exact hr1▸HDEC F4 G' K' W4 ⟨p.rows,st'.steps,st'.left⟩ vis' q ⟨_,_,HM5.o⟩ hi1 hwq h0.left (by have:=h0.room;show st'.steps.length+st'.left≤4096;omega) h0.v0 (by have:=h0.vc;show vis'+(st'.left:Int)≤4096;have:=h0.lf;omega)
    have HRM:Hid (Room ⟨p.rows,st'.steps,st'.left⟩ r1 0):=hr1▸Ic fuel _ q
    have HGO:Hid (r1.err=0→GoodA ⟨p.rows,st'.steps,st'.left⟩ q r1):=fun h=>hr1▸Ot fuel _ q hi1 hwq (by rw [hr1];exact h)
    have HEQ2:=Aa ((pY (t:=cs.drop (i+1)) (stuck:=stuck) HPP.o hpe hqm hr1).symm.trans HEQ.o)
    have HVI:Hid (vis'+((st'.left - r1.st.left:Nat):Int)=vis+((st.left - r1.st.left:Nat):Int)):=(by have h1:=HJ.o.vc;have h2:=HRM.o.left;have h3:=HJ.o.left;have h4:=HJ.o.lf;show _=_;simp only at h2;omega)
    have HMO:=Aa hmo
    clear hr1 hwq hra hbx hbn hqm hq hmo hsb o1 p1 hi1 hn
    by_cases hz1:r1.err=0
    ·have hz2:(r1.err != 0)=false:=by simpa using hz1
     have HGD:=Aa (HGO.o hz1)
     obtain ⟨xx,hxx,_⟩:=HGD.o.ans
     have hat:r1.at_<r1.st.steps.length:=(List.getElem?_eq_some_iff.1 hxx).1
     have hatI:(r1.at_:Int)<(r1.st.steps.length:Int):=by omega
     clear hxx
     have HZ1:=Aa hz1
     clear hz1
     cases hpb:Ax r1.st r1.at_ with
     | false=>
      as_aux_lemma=>
      go_wp2_with (first
       | (refine Cb (.tmp 52) rfl rfl rfl HRA.o ?_)
       | (go_at_call 79;refine HIH.o.mono ?_;rintro e W7 ⟨rfl,F7,G7,K7,hk7,hf7⟩;have HF7:=Aa hf7;have HKW7:=Aa (HKW4.o.trans hk7);have HL7:=Aa (HCL.o.step hk7);have HS7:=Aa (Nat.le_trans HJ.o.sz (Nat.le_trans HK5.o.size hk7.size));obtain ⟨sv7,kvs7,hm7⟩:=HF7.o;obtain ⟨g8,c8,rfl,hcp7⟩:=Gk hm7 hat;rw [hpb] at hcp7;have c71:W7.cell? ⟨pf,1,none⟩=some (.slice (some ⟨g8,0,none⟩) r1.st.steps.length c8):=cell_of hm7.blk rfl;have HM7:=Aa hm7;clear hm7 hk7 hf7)
       | (at_builtin;go_loud (refine By rfl (.tmp 69) (.tmp 71) 23 rfl W1.heap.size 3 _ 1 8 Tryz.underlying23 Ef rfl (by decide) (by decide) (.slice qa stuck.length qc) stuck.length (Iy stuck) rfl (Bd HL7.o.ko.own (fun g hg=>Below.heap_alloc _ _ _ (HL7.o.ko.own.lt g hg).2)) _ 1 [.int .i64 (r1.at_:Int)] rfl (Gs W7 _ _) (by simp [Value.oneCell']) (by have:=HJ.o.kl;omega) (by have:=HS7.o;simp;omega) ?_;intro v5 w5 hown hgr hat5 hnil;have hla:=HL7.o.app HF7.o.in_ HS7.o hown hgr hat5;have HLA:=Aa hla;clear hown hgr hat5 hnil hla)))
      have HKX:Hid (KeptF (H3 F G K) w (H3 F7 G7 K7) w5):=HKW7.o.thenNew (HLA.o.2.2.mono (Nat.le_of_lt HL7.o.lo)) (fun b hb=>Nat.lt_of_lt_of_le (HF7.o.in_ b hb) HLA.o.2.1.size)
      have HFX:Hid (Jv F7 G7 K7 w5 pf t r1.st (vis'+((st'.left - r1.st.left:Nat):Int))):=⟨_,_,HM7.o.beside HLA.o.2.1 (fun b hb hx=>HL7.o.ko.nk b hx hb)⟩
      have h1:=HRM.o.left
      have h2:=HRM.o.len
      have h3:=HJ.o
      simp only at h1 h2
      have hpre:st'.rows <+: r1.st.rows:=HP1.o.trans HGD.o.pre
      refine ⟨⟨i+1,F7,G7,K7,r1.st,vis'+((st'.left - r1.st.left:Nat):Int),stuck++[r1.at_],by omega,by go_num,HKX.o,HFX.o,HLA.o.1,Nat.le_trans HS7.o HLA.o.2.1.size,?_,HGD.o.inv,h3.wf.ext hpre,fun c hc=>(HISN.o c hc).ext h3.inv.ok h3.wf hpre,by have:=h3.left;omega,by have:=h3.lf;omega,by have:=h3.room;omega,by have:=h3.v0;omega,by have:=h3.vc;omega,by rw [List.length_append];have:=h3.kl;simp;omega⟩,by simp [intOf];omega⟩
      have:=HEQ2.o
      rw [if_neg (by simpa using HZ1.o),hpb] at this
      simpa using this
     | true=>
      rcases HMO.o with hmo | ⟨q2,hmo,hwq2⟩
      ·subst hmo
       obtain rfl:n=1:=by rw [← HNN.o,HQM.o];rfl
       as_aux_lemma=>
       go_wp2_with (first
        | (refine Cb (.tmp 52) rfl rfl rfl HRA.o ?_)
        | (go_at_call 79;refine HIH.o.mono ?_;clear HIH;rintro e W7 ⟨rfl,F7,G7,K7,hk7,hf7⟩;have HF7:=Aa hf7;have HKW7:=Aa (HKW4.o.trans hk7);have HL7:=Aa (HCL.o.step hk7);have HC67:=Aa (hk7.cell (HK5.o.cell HC6.o HN6.o) (HCL.o.o6.nk g6 rfl));have HC77:=Aa (hk7.cell (HK5.o.cell HC7.o HN7.o) (HCL.o.o7.nk g7 rfl));have HBX7:=Aa (HBX.o.keptF hk7 HBN.o);have HBN7:Hid (¬ H3 F7 G7 K7 b):=(fun hf=>HBN.o (hk7.sub _ HBX.o.lt hf));obtain ⟨sv7,kvs7,hm7⟩:=HF7.o;obtain ⟨g8,c8,rfl,hcp7⟩:=Gk hm7 hat;rw [hpb] at hcp7;have c71:W7.cell? ⟨pf,1,none⟩=some (.slice (some ⟨g8,0,none⟩) r1.st.steps.length c8):=cell_of hm7.blk rfl;clear hm7 hk7 hf7)
        | fail)
       clear c71 hcp7
       have hcl6:∀ W',Dp (H3 F7 G7 K7) W7 W'→W'.cell? ⟨g6,i,none⟩=some (.int .i64 k):=fun W' ⟨_,hk⟩=>hk.cell HC67.o (HL7.o.o6.nk g6 rfl)
       have hcl7:∀ W',Dp (H3 F7 G7 K7) W7 W'→W'.cell? ⟨g7,i,none⟩=some (.int .i64 (main:Int)):=fun W' ⟨_,hk⟩=>hk.cell HC77.o (HL7.o.o7.nk g7 rfl)
       have hld:∀ W',Dp (H3 F7 G7 K7) W7 W'→Bf 86 W' (.pointer (some ⟨w.heap.size,0,none⟩)):=fun W' ⟨_,hk⟩=>(An (HL7.o.b3.keptF hk HL7.o.n3).loads).1
       have hlv:∀ W',Dp (H3 F7 G7 K7) W7 W'→Dq 86 W' (.pointer (some ⟨w.heap.size,0,none⟩))=_:=fun W' ⟨_,hk⟩=>(An (HL7.o.b3.keptF hk HL7.o.n3).loads).2
       have HK7':Hid (∀ W',Below W7.heap.size W7 W'→Dp (H3 F7 G7 K7) W7 W'):=fun W' hb=>⟨_,KeptF.of_below HF7.o.in_ hb⟩
       have HD7:=Aa (below_drewN W7 1)
       have HE:=Aa (Yt (st:=st) (vis:=vis) HKW7.o HF7.o HVI.o s true k main [r1.at_] (by have:=HRM.o.len;have:=HJ.o.room;simp only at *;omega) (by simp))
       go_region_held3 (fun W'=>Dp (H3 F7 G7 K7) W7 W')
        ((first | exact HKA.o | (refine HK7'.o _ ?_;first | exact HD7.o | exact Ac HD7.o (Ab _ _) | exact Ac (Ab _ _) (below_drewN _ 1))))
        ((go_at_call 95;refine HE.o.mono ?_;rintro e W9 ⟨⟨rfl,F9,G9,K9,hk9,hf9⟩,ha9⟩;have HKA:=Aa ha9;clear ha9;have HK9:=Aa hk9;have HF9:=Aa hf9;clear hk9 hf9))
       go_wp2_with fail
       go_ret2
       have hr0:r=Ho r1.st ⟨s,true,k,main,[r1.at_]⟩:=by
        rw [← HEQ2.o,if_neg (by simpa using HZ1.o),if_pos hpb]
        rfl
       rw [hr0]
       exact ⟨rfl,F9,G9,K9,HK9.o,HF9.o⟩
      ·subst hmo
       obtain rfl:n=2:=by rw [← HNN.o,HQM.o];rfl
       have HW2:Hid (Wf r1.st.rows q2):=hwq2.ext HGD.o.pre
       have HRA2:Hid (∀ W,Ae W b (p.seqs.flatMap fun s=>Ad s.left s.goal) 86→W.rangeAt b 17 (Ad q2.left q2.goal)):=fun W h=>by
        have:=h.seqAt (j:=1) (by rw [HQM.o];simp)
        simpa [HQM.o] using this
       have HNUM:Hid (r1.st.left≤fuel∧r1.st.steps.length+r1.st.left≤4096∧0≤vis'+((st'.left - r1.st.left:Nat):Int)∧vis'+((st'.left - r1.st.left:Nat):Int)+(r1.st.left:Int)≤4096):=by
        have h1:=HRM.o.len;have h2:=HRM.o.left;have h3:=HJ.o.room;have h4:=HJ.o.left;have h5:=HJ.o.v0;have h6:=HJ.o.vc;have h7:=HJ.o.lf
        simp only at h1 h2
        exact ⟨by omega,by omega,by omega,by omega⟩
       obtain ⟨r2,hr2⟩:∃ r2,Bw fuel r1.st q2=r2:=⟨_,rfl⟩
       have HR2:=Aa hr2
       have HRM2:Hid (Room r1.st r2 0):=hr2▸Ic fuel _ q2
       have HGO2:Hid (r2.err=0→GoodA r1.st q2 r2):=fun h=>hr2▸Ot fuel _ q2 HGD.o.inv HW2.o (by rw [hr2];exact h)
       have HVI2:Hid (vis'+((st'.left - r1.st.left:Nat):Int)+((r1.st.left - r2.st.left:Nat):Int)=vis+((st.left - r2.st.left:Nat):Int)):=by
        have h1:=HVI.o;have h2:=HRM.o.left;have h3:=HRM2.o.left;have h4:=HJ.o.lf
        simp only at h2
        show _=_
        omega
       have HEQ3:Hid (tH (Bw fuel) s (k,main) [q2] r1=r):=by
        have:=HEQ2.o
        rw [if_neg (by simpa using HZ1.o),if_pos hpb] at this
        exact this
       have hrest:tH (Bw fuel) s (k,main) [q2] r1=if r2.err≠0 then ⟨r2.st,r2.err,0⟩ else if Ax r2.st r2.at_ then Ho r2.st ⟨s,true,k,main,[r1.at_,r2.at_]⟩ else Ho r2.st ⟨s,false,k,main,[r2.at_]⟩:=by
        rw [← hr2];rfl
       have HREST:=Aa hrest
       clear hrest hwq2 hr2
       by_cases hy1:r2.err=0
       ·have hy2:(r2.err != 0)=false:=by simpa using hy1
        have HGD2:=Aa (HGO2.o hy1)
        obtain ⟨xx,hxx,_⟩:=HGD2.o.ans
        have hat2:r2.at_<r2.st.steps.length:=(List.getElem?_eq_some_iff.1 hxx).1
        have hatI2:(r2.at_:Int)<(r2.st.steps.length:Int):=by omega
        clear hxx
        have HY1:=Aa hy1
        clear hy1
        cases hpb2:Ax r2.st r2.at_ with
        | false=>
         as_aux_lemma=>
         go_wp2_with (first
          | (refine Cb (.tmp 52) rfl rfl rfl HRA.o ?_)
          | (go_at_call 79;refine HIH.o.mono ?_;clear HIH;rintro e W7 ⟨rfl,F7,G7,K7,hk7,hf7⟩;have HF7:=Aa hf7;have HKW7:=Aa (HKW4.o.trans hk7);have HL7:=Aa (HCL.o.step hk7);have HC67:=Aa (hk7.cell (HK5.o.cell HC6.o HN6.o) (HCL.o.o6.nk g6 rfl));have HC77:=Aa (hk7.cell (HK5.o.cell HC7.o HN7.o) (HCL.o.o7.nk g7 rfl));have HBX7:=Aa (HBX.o.keptF hk7 HBN.o);have HBN7:Hid (¬ H3 F7 G7 K7 b):=(fun hf=>HBN.o (hk7.sub _ HBX.o.lt hf));obtain ⟨sv7,kvs7,hm7⟩:=HF7.o;obtain ⟨g8,c8,rfl,hcp7⟩:=Gk hm7 hat;rw [hpb] at hcp7;have c71:W7.cell? ⟨pf,1,none⟩=some (.slice (some ⟨g8,0,none⟩) r1.st.steps.length c8):=cell_of hm7.blk rfl;clear hm7 hk7 hf7;have HRA2:=Aa (HRA2.o _ HBX7.o))
          | (refine Cb (.tmp 94) rfl rfl rfl HRA2.o ?_)
          | (go_at_call 79;refine (HDEC F7 G7 K7 W7 r1.st _ q2 HF7.o HGD.o.inv HW2.o HNUM.o.1 HNUM.o.2.1 HNUM.o.2.2.1 HNUM.o.2.2.2).mono ?_;rw [HR2.o];clear c71 hcp7;rintro e W8 ⟨rfl,F8,G8,K8,hk8,hf8⟩;have HF8:=Aa hf8;have HKW8:=Aa (HKW7.o.trans hk8);have HL8:=Aa (HL7.o.step hk8);have HC68:=Aa (hk8.cell HC67.o (HL7.o.o6.nk g6 rfl));have HC78:=Aa (hk8.cell HC77.o (HL7.o.o7.nk g7 rfl));obtain ⟨sv8,kvs8,hm8⟩:=HF8.o;obtain ⟨g10,c10,rfl,hcp8⟩:=Gk hm8 hat2;rw [hpb2] at hcp8;have c81:W8.cell? ⟨pf,1,none⟩=some (.slice (some ⟨g10,0,none⟩) r2.st.steps.length c10):=cell_of hm8.blk rfl;clear hm8;clear hk8 hf8))
         clear c81 hcp8
         have hcl6:∀ W',Dp (H3 F8 G8 K8) W8 W'→W'.cell? ⟨g6,i,none⟩=some (.int .i64 k):=fun W' ⟨_,hk⟩=>hk.cell HC68.o (HL8.o.o6.nk g6 rfl)
         have hcl7:∀ W',Dp (H3 F8 G8 K8) W8 W'→W'.cell? ⟨g7,i,none⟩=some (.int .i64 (main:Int)):=fun W' ⟨_,hk⟩=>hk.cell HC78.o (HL8.o.o7.nk g7 rfl)
         have hld:∀ W',Dp (H3 F8 G8 K8) W8 W'→Bf 86 W' (.pointer (some ⟨w.heap.size,0,none⟩)):=fun W' ⟨_,hk⟩=>(An (HL8.o.b3.keptF hk HL8.o.n3).loads).1
         have hlv:∀ W',Dp (H3 F8 G8 K8) W8 W'→Dq 86 W' (.pointer (some ⟨w.heap.size,0,none⟩))=_:=fun W' ⟨_,hk⟩=>(An (HL8.o.b3.keptF hk HL8.o.n3).loads).2
         have HK7':Hid (∀ W',Below W8.heap.size W8 W'→Dp (H3 F8 G8 K8) W8 W'):=fun W' hb=>⟨_,KeptF.of_below HF8.o.in_ hb⟩
         have HD7:=Aa (below_drewN W8 1)
         have HE:=Aa (Yt (st:=st) (vis:=vis) HKW8.o HF8.o HVI2.o s false k main [r2.at_] (by have:=HRM2.o.len;have:=HNUM.o.2.1;have:=HRM.o.len;have:=HJ.o.room;simp only at *;omega) (by simp))
         go_region_held3 (fun W'=>Dp (H3 F8 G8 K8) W8 W')
          ((first | exact HKA.o | (refine HK7'.o _ ?_;first | exact HD7.o | exact Ac HD7.o (Ab _ _) | exact Ac (Ab _ _) (below_drewN _ 1))))
          ((go_at_call 95;refine HE.o.mono ?_;rintro e W9 ⟨⟨rfl,F9,G9,K9,hk9,hf9⟩,ha9⟩;have HKA:=Aa ha9;clear ha9;have HK9:=Aa hk9;have HF9:=Aa hf9;clear hk9 hf9))
         go_wp2_with fail
         go_ret2
         have hr0:r=Ho r2.st ⟨s,false,k,main,[r2.at_]⟩:=by
          rw [← HEQ3.o,HREST.o,if_neg (by simpa using HY1.o),hpb2]
          rfl
         rw [hr0]
         exact ⟨rfl,F9,G9,K9,HK9.o,HF9.o⟩
        | true=>
         as_aux_lemma=>
         go_wp2_with (first
          | (refine Cb (.tmp 52) rfl rfl rfl HRA.o ?_)
          | (go_at_call 79;refine HIH.o.mono ?_;clear HIH;rintro e W7 ⟨rfl,F7,G7,K7,hk7,hf7⟩;have HF7:=Aa hf7;have HKW7:=Aa (HKW4.o.trans hk7);have HL7:=Aa (HCL.o.step hk7);have HC67:=Aa (hk7.cell (HK5.o.cell HC6.o HN6.o) (HCL.o.o6.nk g6 rfl));have HC77:=Aa (hk7.cell (HK5.o.cell HC7.o HN7.o) (HCL.o.o7.nk g7 rfl));have HBX7:=Aa (HBX.o.keptF hk7 HBN.o);have HBN7:Hid (¬ H3 F7 G7 K7 b):=(fun hf=>HBN.o (hk7.sub _ HBX.o.lt hf));obtain ⟨sv7,kvs7,hm7⟩:=HF7.o;obtain ⟨g8,c8,rfl,hcp7⟩:=Gk hm7 hat;rw [hpb] at hcp7;have c71:W7.cell? ⟨pf,1,none⟩=some (.slice (some ⟨g8,0,none⟩) r1.st.steps.length c8):=cell_of hm7.blk rfl;clear hm7 hk7 hf7;have HRA2:=Aa (HRA2.o _ HBX7.o))
          | (refine Cb (.tmp 94) rfl rfl rfl HRA2.o ?_)
          | (go_at_call 79;refine (HDEC F7 G7 K7 W7 r1.st _ q2 HF7.o HGD.o.inv HW2.o HNUM.o.1 HNUM.o.2.1 HNUM.o.2.2.1 HNUM.o.2.2.2).mono ?_;rw [HR2.o];clear c71 hcp7;rintro e W8 ⟨rfl,F8,G8,K8,hk8,hf8⟩;have HF8:=Aa hf8;have HKW8:=Aa (HKW7.o.trans hk8);have HL8:=Aa (HL7.o.step hk8);have HC68:=Aa (hk8.cell HC67.o (HL7.o.o6.nk g6 rfl));have HC78:=Aa (hk8.cell HC77.o (HL7.o.o7.nk g7 rfl));obtain ⟨sv8,kvs8,hm8⟩:=HF8.o;obtain ⟨g10,c10,rfl,hcp8⟩:=Gk hm8 hat2;rw [hpb2] at hcp8;have c81:W8.cell? ⟨pf,1,none⟩=some (.slice (some ⟨g10,0,none⟩) r2.st.steps.length c10):=cell_of hm8.blk rfl;clear hm8;clear hk8 hf8))
         clear c81 hcp8
         have hcl6:∀ W',Dp (H3 F8 G8 K8) W8 W'→W'.cell? ⟨g6,i,none⟩=some (.int .i64 k):=fun W' ⟨_,hk⟩=>hk.cell HC68.o (HL8.o.o6.nk g6 rfl)
         have hcl7:∀ W',Dp (H3 F8 G8 K8) W8 W'→W'.cell? ⟨g7,i,none⟩=some (.int .i64 (main:Int)):=fun W' ⟨_,hk⟩=>hk.cell HC78.o (HL8.o.o7.nk g7 rfl)
         have hld:∀ W',Dp (H3 F8 G8 K8) W8 W'→Bf 86 W' (.pointer (some ⟨w.heap.size,0,none⟩)):=fun W' ⟨_,hk⟩=>(An (HL8.o.b3.keptF hk HL8.o.n3).loads).1
         have hlv:∀ W',Dp (H3 F8 G8 K8) W8 W'→Dq 86 W' (.pointer (some ⟨w.heap.size,0,none⟩))=_:=fun W' ⟨_,hk⟩=>(An (HL8.o.b3.keptF hk HL8.o.n3).loads).2
         have HK7':Hid (∀ W',Below W8.heap.size W8 W'→Dp (H3 F8 G8 K8) W8 W'):=fun W' hb=>⟨_,KeptF.of_below HF8.o.in_ hb⟩
         have HD7:=Aa (below_drewN W8 1)
         have HE:=Aa (Yt (st:=st) (vis:=vis) HKW8.o HF8.o HVI2.o s true k main [r1.at_,r2.at_] (by have:=HRM2.o.len;have:=HNUM.o.2.1;have:=HRM.o.len;have:=HJ.o.room;simp only at *;omega) (by simp))
         go_region_held3 (fun W'=>Dp (H3 F8 G8 K8) W8 W')
          ((first | exact HKA.o | (refine HK7'.o _ ?_;first | exact HD7.o | exact Ac HD7.o (Ab _ _) | exact Ac (Ab _ _) (below_drewN _ 1))))
          ((go_at_call 95;refine HE.o.mono ?_;rintro e W9 ⟨⟨rfl,F9,G9,K9,hk9,hf9⟩,ha9⟩;have HKA:=Aa ha9;clear ha9;have HK9:=Aa hk9;have HF9:=Aa hf9;clear hk9 hf9))
         go_wp2_with fail
         go_ret2
         have hr0:r=Ho r2.st ⟨s,true,k,main,[r1.at_,r2.at_]⟩:=by
          rw [← HEQ3.o,HREST.o,if_neg (by simpa using HY1.o),hpb2]
          rfl
         rw [hr0]
         exact ⟨rfl,F9,G9,K9,HK9.o,HF9.o⟩
       ·have hy2:(r2.err != 0)=true:=by simpa using hy1
        have HY1:=Aa hy1
        clear hy1
        as_aux_lemma=>
        go_wp2_with (first
         | (refine Cb (.tmp 52) rfl rfl rfl HRA.o ?_)
         | (go_at_call 79;refine HIH.o.mono ?_;clear HIH;rintro e W7 ⟨rfl,F7,G7,K7,hk7,hf7⟩;have HF7:=Aa hf7;have HKW7:=Aa (HKW4.o.trans hk7);have HL7:=Aa (HCL.o.step hk7);have HC67:=Aa (hk7.cell (HK5.o.cell HC6.o HN6.o) (HCL.o.o6.nk g6 rfl));have HC77:=Aa (hk7.cell (HK5.o.cell HC7.o HN7.o) (HCL.o.o7.nk g7 rfl));have HBX7:=Aa (HBX.o.keptF hk7 HBN.o);have HBN7:Hid (¬ H3 F7 G7 K7 b):=(fun hf=>HBN.o (hk7.sub _ HBX.o.lt hf));obtain ⟨sv7,kvs7,hm7⟩:=HF7.o;obtain ⟨g8,c8,rfl,hcp7⟩:=Gk hm7 hat;rw [hpb] at hcp7;have c71:W7.cell? ⟨pf,1,none⟩=some (.slice (some ⟨g8,0,none⟩) r1.st.steps.length c8):=cell_of hm7.blk rfl;clear hm7 hk7 hf7;have HRA2:=Aa (HRA2.o _ HBX7.o))
         | (refine Cb (.tmp 94) rfl rfl rfl HRA2.o ?_)
         | (go_at_call 79;refine (HDEC F7 G7 K7 W7 r1.st _ q2 HF7.o HGD.o.inv HW2.o HNUM.o.1 HNUM.o.2.1 HNUM.o.2.2.1 HNUM.o.2.2.2).mono ?_;rw [HR2.o];clear c71 hcp7;rintro e W8 ⟨rfl,F8,G8,K8,hk8,hf8⟩;have HF8:=Aa hf8;have HKW8:=Aa (HKW7.o.trans hk8);have HL8:=Aa (HL7.o.step hk8);have HC68:=Aa (hk8.cell HC67.o (HL7.o.o6.nk g6 rfl));have HC78:=Aa (hk8.cell HC77.o (HL7.o.o7.nk g7 rfl));clear hk8 hf8))
        go_ret2
        have hr0:r=⟨r2.st,r2.err,0⟩:=by rw [← HEQ3.o,HREST.o,if_pos HY1.o]
        rw [hr0]
        refine ⟨rfl,F8,G8,K8,HKW8.o,?_⟩
        have h1:=HF8.o
        rw [HVI2.o] at h1
        exact h1
    ·have hz2:(r1.err != 0)=true:=by simpa using hz1
     have HZ1:=Aa hz1
     clear hz1
     as_aux_lemma=>
     go_wp2_with (first
      | (refine Cb (.tmp 52) rfl rfl rfl HRA.o ?_)
      | (go_at_call 79;refine HIH.o.mono ?_;rintro e W7 ⟨rfl,F7,G7,K7,hk7,hf7⟩;have HF7:=Aa hf7;have HKW7:=Aa (HKW4.o.trans hk7);clear hk7 hf7))
     go_ret2
     have hr0:r=⟨r1.st,r1.err,0⟩:=by rw [← HEQ2.o,if_pos HZ1.o]
     rw [hr0]
     refine ⟨rfl,F7,G7,K7,HKW7.o,?_⟩
     have h1:=HF7.o
     rw [HVI.o] at h1
     exact h1
   ·have hpz:(p.err != 0)=true:=by simpa using hpe
    have HPE:=Aa hpe
    clear hpe
    as_aux_lemma=>
    go_wp2_with fail
    go_ret2
    have hr0:r=⟨st',p.err,0⟩:=by
     rw [← HEQ.o,Bq]
     simp only [HPP.o]
     rw [if_pos HPE.o]
    rw [hr0]
    refine ⟨rfl,F4,G',K',HKW4.o,?_⟩
    have hrows:p.rows=st'.rows:=by rw [← HPP.o];exact Jj (by rw [HPP.o];exact HPE.o)
    have h1:=HM5.o
    rw [hrows] at h1
    have h2:vis+((st.left - st'.left:Nat):Int)=vis':=by have:=HJ.o.vc;have:=HJ.o.lf;omega
    simp only
    rw [h2]
    exact ⟨_,_,h1⟩
  ·as_aux_lemma=>
   obtain rfl:i=cs.length:=by omega
   have h3:=HJ.o
   have HRK:Hid (r=Ho st' ⟨s,false,14,0,stuck⟩):=by
    show r=_
    rw [← h3.eq,List.drop_length,Bq]
   have HVI:Hid (vis'=vis+((st.left - st'.left:Nat):Int)):=by have h1:=h3.vc;have h2:=h3.lf;show _=_;omega
   have HRD:Hid (Rd wr (.slice qa stuck.length qc) stuck.length 1 (Iy stuck)):=Hv h3.cl.ko.own
   have hlo:=Nat.le_of_lt h3.cl.lo
   rw [hl6,hl7] at *
   clear h3
   go_wp2_with (first
    | (refine Ah (.tmp 3) rfl rfl rfl HJ.o.cl.b3 ?_)
    | (go_at_call 95;refine (Zw (st:=st) (vis:=vis) HJ.o.kept HJ.o.fin HVI.o s false 14 0 stuck (.slice qa stuck.length qc) (by have:=HJ.o.room;omega) HRD.o (fun a m c e=>by have h1:=HJ.o.cl.ko.own.lt a.block (by rw [e];rfl);exact ⟨h1.2,Nat.le_trans hlo h1.1,HJ.o.cl.ko.nk a.block (by rw [e];rfl)⟩)).mono ?_;rintro e W8 ⟨rfl,F8,G8,K8,hk8,hf8⟩;have HK8:=Aa hk8;have HF8:=Aa hf8;clear hk8 hf8))
   go_ret2
   rw [HRK.o]
   exact ⟨rfl,F8,G8,K8,HK8.o,HF8.o⟩
end Go.Dk
end
section
namespace Go.Dk
open Go.RowKit Go.Maps Go.MapKept
open Go.Proofs hiding intOf
theorem aZ:(Tryz.prog.info? 120).map (fun i=>(i.zero,i.size,i.bytes))=some (some (.int .i64 0),1,8):=by kernel_rfl
theorem aR {W:World} {B B' n n' sz sz':Nat} {T T':TypeId} {v v':Value} {xs ys:List Value} (h:W.ownsRow B T sz v n xs) (h':W.ownsRow B' T' sz' v' n' ys) (hT:T≠T') (g:Nat) (hg:v.ownBlock=some g):v'.ownBlock≠some g:=fun hg'=>by
 rcases h.2 with ⟨e,_⟩ | ⟨g1,c1,cur1,e1,_,hb1,_⟩
 ·rw [e] at hg;simp [Value.ownBlock] at hg
 rcases h'.2 with ⟨e,_⟩ | ⟨g2,c2,cur2,e2,_,hb2,_⟩
 ·rw [e] at hg';simp [Value.ownBlock] at hg'
 rw [e1] at hg;rw [e2] at hg'
 simp [Value.ownBlock] at hg hg'
 subst hg hg'
 rw [hb1] at hb2
 simp at hb2
 exact hT hb2.2
theorem bG {W w5:World} {B n sz:Nat} {T:TypeId} {v v':Value} {xs:List Value} {tmp:Obj} (h:W.ownsRow B T sz v n xs) (hg:(W.alloc tmp).grownBy w5 v'.ownBlock) (hne:∀ g,v.ownBlock=some g→v'.ownBlock≠some g):w5.ownsRow B T sz v n xs:=
 Bd h fun g hg'=>(hg.block g (by have:=(h.lt g hg').2;simp;omega) (fun e=>hne g hg' e.symm)).trans (Below.heap_alloc _ _ _ (h.lt g hg').2)
structure ChX (B:Nat) (W:World) (cs:List (Int × Nat)) (v8 v9:Value):Prop where
 r8:W.ownsRow B 120 1 v8 cs.length (ints (cs.map (·.1)))
 r9:W.ownsRow B 3 1 v9 cs.length (ints (cs.map fun c=>(c.2:Int)))
theorem ChX.below {B:Nat} {W W':World} {cs:List (Int × Nat)} {v8 v9:Value} (h:ChX B W cs v8 v9) (hb:Below W.heap.size W W'):ChX B W' cs v8 v9:=
 ⟨Bd h.r8 fun g hg=>hb.block g (h.r8.lt g hg).2,Bd h.r9 fun g hg=>hb.block g (h.r9.lt g hg).2⟩
theorem sS (w:World) (x y:Value) (e:TypeId):Rd (w.alloc (.cells #[x,y] e)) (.slice (some ⟨w.heap.size,0,none⟩) 2 2) 2 1 [x,y]:=by
 have hx:=Ae.new w [x,y] e
 refine ⟨⟨_,_,rfl,fun e=>by (cases e),fun ad e=>?_⟩,rfl⟩
 cases e
 exact ⟨fun _=>rfl,fun j u hu=>by simpa using hx.cell hu⟩
def Pz (rows:List ND) (s:SQ) (i:Nat):List (Int × Nat):=
 (if (rowAt rows s.goal).kind=4 then [(11,s.goal),(12,s.goal)] else [])++(((List.range i).filter fun i=>s.left.testBit i && onP rows s i == 13).map fun i=>(13,i))
theorem uQ (rows:List ND) (s:SQ) (i:Nat):(Pz rows s i).length≤i+2:=by
 have:=List.length_filter_le (fun i=>s.left.testBit i && onP rows s i == 13) (List.range i)
 unfold Pz
 rw [List.length_append,List.length_map]
 simp at this
 split<;>simp<;>omega
theorem tA {rows:List ND} {s:SQ} {i:Nat} (h:Az rows s 13 i=true):Pz rows s (i+1)=Pz rows s i++[(13,i)]:=by
 rw [Io rows s i (by omega)] at h
 unfold Pz
 rw [List.range_succ,List.filter_append,List.map_append,← List.append_assoc]
 simp [h]
theorem vZ {rows:List ND} {s:SQ} {i:Nat} (h:Az rows s 13 i=false):Pz rows s (i+1)=Pz rows s i:=by
 rw [Io rows s i (by omega)] at h
 unfold Pz
 rw [List.range_succ,List.filter_append,List.map_append,← List.append_assoc]
 simp [h]
theorem uP {w w':World} {rows:List ND} {s:SQ} {v8 v9:Value} (h:ChX w.heap.size w' (Pz rows s rows.length) v8 v9) (hb:Below w.heap.size w w'):Ys w (Bj rows s) (.returned (.tuple #[v8,v9])) w':=by
 have e:Bj rows s=Pz rows s rows.length:=rfl
 rw [e]
 exact ⟨v8,v9,rfl,by rw [List.length_map];exact h.r8,by rw [List.length_map];exact h.r9,hb⟩
set_option maxRecDepth 100000 in
set_option maxHeartbeats 4000000 in
theorem Ym:sJ:=by
 intro F w t rows s hF wf h14
 have HB0:=Aa (Ab w (.cells (Ad s.left s.goal).toArray 86))
 have HX:=Aa (Ae.new w (Ad s.left s.goal) 86)
 have HA:Hid (∀ W,Below w.heap.size w W→Calls Tryz.prog 92 #[t,.agg (Ad s.left s.goal).toArray] W fun e w'=>e = .returned (.tuple #[.int .i64 14,.int .i64 ((Ak rows s).2:Int)])∧Below W.heap.size W w'):=fun W hb=>by
  have:=Lo F W t rows s (hF.below hb) wf
  rw [h14] at this
  exact this
 have HKD:Hid (∀ W,Below w.heap.size w W→Calls Tryz.prog 139 #[t,.int .i64 (s.goal:Int)] W fun e w'=>e = .returned (.int .i64 (rowAt rows s.goal).kind)∧Below W.heap.size W w'):=fun W hb=>Ir 0 _ W t rows ((hF.below hb).col 0) s.goal wf.goal
 have HFI:Hid (∀ (W:World) (i:Nat) (b:Bool),Below w.heap.size w W→i<rows.length→Az rows s 13 i=b→Calls Tryz.prog 120 #[t,.agg (Ad s.left s.goal).toArray,.int .i64 13,.int .i64 (i:Int)] W fun e w'=>e = .returned (.bool b)∧Below W.heap.size W w'):=
  fun W i b hb hi e=>e▸Dh 0 _ W t rows ((hF.below hb).col 0) s i hi 13 (by decide) (by decide)
 have hle:=hF.ok.le
 obtain ⟨pb,v0,rfl,hat⟩:=hF.col 0
 obtain ⟨va,vc,rfl⟩:=hat.hr.slice
 have hc0:w.cell? ⟨pb,0,none⟩=some (.slice va rows.length vc):=cell_of hat.hp rfl
 have HC:Hid (∀ W,Below w.heap.size w W→W.cell? ⟨pb,0,none⟩=some (.slice va rows.length vc)):=fun W hb=>(hb.cell (World.block_lt_of_cell? _ _ hc0)).trans hc0
 have HS:Hid ((w.alloc (.cells (Ad s.left s.goal).toArray 86)).heap.size=w.heap.size+1):=by simp [Hid]
 have main:∀ (W1:World),Below (w.alloc (.cells (Ad s.left s.goal).toArray 86)).heap.size (w.alloc (.cells (Ad s.left s.goal).toArray 86)) W1→True:=fun _ _=>trivial
 obtain ⟨gk,hgk⟩:∃ gk,(rowAt rows s.goal).kind=gk:=⟨_,rfl⟩
 rw [hgk] at HKD
 have HGK:=Aa hgk
 clear hat hc0 main hgk hF wf h14
 have HLE:=Aa hle
 by_cases h4:gk=4
 case' pos=>
  subst h4
  have HI0:Hid (Pz rows s 0 = [(11,s.goal),(12,s.goal)]):=by unfold Hid Pz;rw [if_pos HGK.o];rfl
  go_enter Tryz.func119,Tryz.ntmps119
  go_wp2_with (first
   | (refine Ah (.tmp 3) rfl rfl rfl HX.o ?_)
   | (go_at_call 92;refine (HA.o _ HB0.o).mono ?_;clear HA;rintro e W1 ⟨rfl,hb1⟩;have HB1:=Aa hb1;have HX1:=Aa (HX.o.below hb1);have c16:=HX1.o.cell (Bl s.left s.goal);clear hb1 HX)
   | (go_at_call 139;refine (HKD.o _ (Ac HB0.o HB1.o)).mono ?_;clear HKD;rintro e W2 ⟨rfl,hb2⟩;have HB2:=Aa (Ac HB1.o hb2);have HX2:=Aa (HX1.o.below hb2);clear c16 hb2 HX1;have c16:=HX2.o.cell (Bl s.left s.goal))
   | (at_builtin;refine By rfl (.tmp 24) (.tmp 25) 164 rfl (w.heap.size+1) 120 _ 1 8 Tryz.underlying164 aZ rfl (by decide) (by decide) (.slice none 0 0) 0 (ints []) rfl (World.ownsRow_nil _ _ _ _) _ 2 [.int .i64 11,.int .i64 12] rfl (sS _ _ _ _) (by simp [Value.oneCell']) (by omega) (by have:=HB2.o.size;have:=HS.o;simp;omega) ?_;intro v8 W3 hown8 hgr8 hat8 hnil8;have HR8:=Aa hown8;have HB3:Hid (Below W2.heap.size W2 W3):=((Ab W2 _).grown hgr8 (by simp) (fun q hq=>by cases hq));have HX3:=Aa (HX2.o.below HB3.o);obtain ⟨a8,q8,rfl⟩:=Ba hown8;clear c16;have c16:=HX3.o.cell (Bl s.left s.goal);clear hown8 hgr8 hat8 hnil8)
   | (at_builtin;refine By rfl (.tmp 27) (.tmp 32) 23 rfl (w.heap.size+1) 3 _ 1 8 Tryz.underlying23 Ef rfl (by decide) (by decide) (.slice none 0 0) 0 (ints []) rfl (World.ownsRow_nil _ _ _ _) _ 2 [.int .i64 (s.goal:Int),.int .i64 (s.goal:Int)] rfl (sS _ _ _ _) (by simp [Value.oneCell']) (by omega) (by have:=HB2.o.size;have:=HB3.o.size;have:=HS.o;simp;omega) ?_;intro v9 W4 hown9 hgr9 hat9 hnil9;have HB34:Hid (Below W3.heap.size W3 W4):=((Ab W3 _).grown hgr9 (by simp) (fun q hq=>by cases hq));have HR9:=Aa hown9;obtain ⟨a9,q9,rfl⟩:=Ba hown9;have HX4:=Aa (HX3.o.below HB34.o);have HB4:=Aa (Ac HB0.o (Ac HB2.o (Ac HB3.o HB34.o)));have HR84:=Aa (Bd HR8.o fun g hg=>HB34.o.block g (HR8.o.lt g hg).2);clear hown9 hgr9 hat9 hnil9 c16))
  have HCX:Hid (ChX (w.heap.size+1) W4 (Pz rows s 0) (.slice a8 (0+2) q8) (.slice a9 (0+2) q9)):=by
   unfold Hid
   rw [HI0.o]
   exact ⟨HR84.o,HR9.o⟩
  clear HR84 HR8 HR9 HI0 HB1 HB2 HX2 HB3 HX3 HB34
 case' neg=>
  have hg4:(gk == 4)=false:=by simpa using h4
  have HI0:Hid (Pz rows s 0 = []):=by unfold Hid Pz;rw [HGK.o,if_neg h4];rfl
  clear h4
  go_enter Tryz.func119,Tryz.ntmps119
  go_wp2_with (first
   | (refine Ah (.tmp 3) rfl rfl rfl HX.o ?_)
   | (go_at_call 92;refine (HA.o _ HB0.o).mono ?_;clear HA;rintro e W1 ⟨rfl,hb1⟩;have HB1:=Aa hb1;have HX1:=Aa (HX.o.below hb1);have c16:=HX1.o.cell (Bl s.left s.goal);clear hb1 HX)
   | (go_at_call 139;refine (HKD.o _ (Ac HB0.o HB1.o)).mono ?_;clear HKD;rintro e W2 ⟨rfl,hb2⟩;have HB2:=Aa (Ac HB1.o hb2);have HX2:=Aa (HX1.o.below hb2);clear c16 hb2 HX1;have c16:=HX2.o.cell (Bl s.left s.goal)))
  have HB4:=Aa (Ac HB0.o HB2.o)
  have HX4:=Aa HX2.o
  have HCX:Hid (ChX (w.heap.size+1) W2 (Pz rows s 0) (.slice none 0 0) (.slice none 0 0)):=by
   unfold Hid
   rw [HI0.o]
   exact ⟨World.ownsRow_nil _ _ _ _,World.ownsRow_nil _ _ _ _⟩
  clear c16 HI0 HB1 HB2 HX2 hg4
  generalize W2=W4 at *
 all_goals
  as_aux_lemma=>
  clear HB0 HGK HS hle
  go_loopw [8,9,10] (fun v8 v9 u W=>∃ i:Nat,i≤rows.length∧u = .int .i64 (i:Int)∧ChX (w.heap.size+1) W (Pz rows s i) v8 v9∧Below (w.heap.size+1) W4 W) (fun _ _ u _=>rows.length - (intOf u).toNat)
  case atStart=>exact ⟨0,Nat.zero_le _,rfl,HCX.o,Below.refl _ _⟩
  case round=>
   obtain ⟨i,hi,rfl,hch,hb⟩:=hrel
   have HCH:=Aa hch;have HB:=Aa hb
   have HBW:=Aa (HB4.o.trans (hb.mono (Nat.le_succ _)))
   have HXW:Hid (Ae wr w.heap.size (Ad s.left s.goal) 86):=(hb.block _ (Nat.lt_succ_self _)).trans HX4.o
   obtain ⟨a8',q8',h8⟩:=Ba hch.r8
   obtain ⟨a9',q9',h9⟩:=Ba hch.r9
   subst h8;subst h9
   have c0:=HC.o _ HBW.o
   have HSZ:Hid (w.heap.size+1≤wr.heap.size):=HXW.o.lt
   have HCL:Hid ((Pz rows s i).length≤i+2):=uQ rows s i
   have hle:=HLE.o
   clear hch hb
   by_cases hlt:i<rows.length
   ·have hji:(i:Int)<(rows.length:Int):=by omega
    cases hf:Az rows s 13 i with
    | true=>
     have HF:=Aa (HFI.o _ i true HBW.o hlt hf)
     have HCS:=Aa (tA hf)
     clear hf
     generalize hcs:Pz rows s i=cs at *
     have hcl:=HCL.o
     go_wp2_with (first
      | (refine Ah (.tmp 3) rfl rfl rfl HXW.o ?_)
      | (go_at_call 120;refine HF.o.mono ?_;clear HF;rintro e W5 ⟨rfl,hb5⟩;have HB5:=Aa hb5;have HC5:=Aa (HCH.o.below hb5);clear hb5 c0)
      | (at_builtin;refine By rfl (.tmp 47) (.tmp 48) 164 rfl (w.heap.size+1) 120 _ 1 8 Tryz.underlying164 aZ rfl (by decide) (by decide) (.slice a8' cs.length q8') cs.length (ints (cs.map (·.1))) rfl (Bd HC5.o.r8 (fun g hg=>Below.heap_alloc _ _ _ (HC5.o.r8.lt g hg).2)) _ 1 [.int .i64 13] rfl (Gs _ _ _) (by simp [Value.oneCell']) (by omega) (by have:=HSZ.o;have:=HB5.o.size;simp;omega) ?_;intro v8 W6 hown8 hgr8 hat8 hnil8;have HR8:=Aa hown8;have HR96:=Aa (bG HC5.o.r9 hgr8 (aR HC5.o.r9 HC5.o.r8 (by decide)));have HB56:Hid (Below (w.heap.size+1) W5 W6):=((Ab W5 _).mono (by have:=HSZ.o;have:=HB5.o.size;omega)).grown hgr8 (by have:=HSZ.o;have:=HB5.o.size;simp;omega) (fun q hq=>(HC5.o.r8.lt q hq).1);obtain ⟨a8,q8,rfl⟩:=Ba hown8;clear hown8 hgr8 hat8 hnil8)
      | (at_builtin;refine By rfl (.tmp 50) (.tmp 52) 23 rfl (w.heap.size+1) 3 _ 1 8 Tryz.underlying23 Ef rfl (by decide) (by decide) (.slice a9' cs.length q9') cs.length (ints (cs.map fun c=>(c.2:Int))) rfl (Bd HR96.o (fun g hg=>Below.heap_alloc _ _ _ (HR96.o.lt g hg).2)) _ 1 [.int .i64 (i:Int)] rfl (Gs _ _ _) (by simp [Value.oneCell']) (by omega) (by have:=HSZ.o;have:=HB5.o.size;have:=HB56.o.size;simp;omega) ?_;intro v9 W7 hown9 hgr9 hat9 hnil9;have HR9:=Aa hown9;have HR87:=Aa (bG HR8.o hgr9 (aR HR8.o HR96.o (by decide)));have HB67:Hid (Below (w.heap.size+1) W6 W7):=((Ab W6 _).mono (by have:=HSZ.o;have:=HB5.o.size;have:=HB56.o.size;omega)).grown hgr9 (by have:=HSZ.o;have:=HB5.o.size;have:=HB56.o.size;simp;omega) (fun q hq=>(HR96.o.lt q hq).1);clear hown9 hgr9 hat9 hnil9))
     refine ⟨⟨i+1,by omega,by go_num,?_,((HB.o.trans (HB5.o.mono HSZ.o)).trans HB56.o).trans HB67.o⟩,by simp [intOf];omega⟩
     rw [HCS.o]
     have h8:=HR87.o
     have h9:=HR9.o
     rw [Zx] at h8 h9
     exact ⟨by rw [List.length_append,List.map_append];exact h8,by rw [List.length_append,List.map_append];exact h9⟩
    | false=>
     have HF:=Aa (HFI.o _ i false HBW.o hlt hf)
     have HCS:=Aa (vZ hf)
     clear hf
     go_wp2_with (first
      | (refine Ah (.tmp 3) rfl rfl rfl HXW.o ?_)
      | (go_at_call 120;refine HF.o.mono ?_;clear HF;rintro e W5 ⟨rfl,hb5⟩;have HB5:=Aa hb5;have HC5:=Aa (HCH.o.below hb5);clear hb5))
     refine ⟨⟨i+1,by omega,by go_num,?_,HB.o.trans (HB5.o.mono HSZ.o)⟩,by simp [intOf];omega⟩
     rw [HCS.o]
     exact HC5.o
   ·obtain rfl:i=rows.length:=by omega
    go_wp2_with fail
    go_ret2
    exact uP ⟨own_base HCH.o.r8 (Nat.le_succ _),own_base HCH.o.r9 (Nat.le_succ _)⟩ HBW.o
end Go.Dk
end
