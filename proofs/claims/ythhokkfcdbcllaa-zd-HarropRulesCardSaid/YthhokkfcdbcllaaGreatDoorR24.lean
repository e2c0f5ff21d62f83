/- Parts of the proof: Wa, Wd, We. -/
import Derived.Test.YthhokkfcdbcllaaGreatDoorR01
import Derived.Test.YthhokkfcdbcllaaGreatDoorR02
import Derived.Test.YthhokkfcdbcllaaGreatDoorR03
import Derived.Test.YthhokkfcdbcllaaGreatDoorR04
import Derived.Test.YthhokkfcdbcllaaGreatDoorR05
import Derived.Test.YthhokkfcdbcllaaGreatDoorR06
import Derived.Test.YthhokkfcdbcllaaGreatDoorR07
import Derived.Test.YthhokkfcdbcllaaGreatDoorR08
import Derived.Test.YthhokkfcdbcllaaGreatDoorR09
import Derived.Test.YthhokkfcdbcllaaGreatDoorR10
import Derived.Test.YthhokkfcdbcllaaGreatDoorR11
import Derived.Test.YthhokkfcdbcllaaGreatDoorR12
import Derived.Test.YthhokkfcdbcllaaGreatDoorR15
import Derived.Test.YthhokkfcdbcllaaGreatDoorR13
import Derived.Test.YthhokkfcdbcllaaGreatDoorR14
import Derived.Test.YthhokkfcdbcllaaGreatDoorR27
import Derived.Test.YthhokkfcdbcllaaGreatDoorR28
section
namespace Go.Dk
open Go.RowKit Go.Maps Go.MapKept
open Go.Proofs hiding intOf
theorem Fe.eq {F:FP} {w:World} {t:Value} {p q:Prem} {e:Ending} {w':World} (h:Fe F w t p e w') (hq:q=p):Fe F w t q e w':=hq▸h
theorem It (m a:Nat):Aw (Aw m a) a=Aw m a:=by
 apply Nat.eq_of_testBit_eq
 intro i
 simp only [Ja]
 cases m.testBit i<;>simp
theorem eS {rows:List ND} (ok:Ok rows) {i:Nat} (hi:i<rows.length):∃ (kd:Int) (nm:ByteArray) (l r:Nat),rowAt rows i=⟨kd,nm,(l:Int),(r:Int)⟩∧l<1024∧r<1024:=by
 have:=ok.le
 rcases Gh ok (Am hi) with ⟨s,e,_⟩ | ⟨e,_⟩ | ⟨l,r,hl,hr,⟨e,_⟩ | ⟨e,_⟩ | ⟨e,_⟩⟩
 ·exact ⟨_,_,0,0,e,by omega,by omega⟩
 ·exact ⟨_,_,0,0,e,by omega,by omega⟩
 ·exact ⟨_,_,l,r,e,by omega,by omega⟩
 ·exact ⟨_,_,l,r,e,by omega,by omega⟩
 ·exact ⟨_,_,l,r,e,by omega,by omega⟩
theorem jH {rows:List ND} {n:ND} (h:(put rows n).err≠0):(put rows n).rows=rows:=by
 rcases eQ rows n with h1 | h1
 ·exact h1
 ·exact absurd h1.2.2.1 h
theorem mC {rows:List ND} {n:ND} (hz:(put rows n).err≠0):put rows n=⟨rows,(put rows n).id,(put rows n).err⟩:=by
 have h:=jH hz
 generalize put rows n=p at *
 obtain ⟨a,b,c⟩:=p
 simp only at h
 rw [h]
theorem Yi {rows:List ND} {a b c d:Int} (h:(put rows (Bo (a,b))).err≠0):Le rows a b c d=⟨0,0,(put rows (Bo (a,b))).err,rows⟩:=by
 have h1:(put rows ⟨5,⟨#[]⟩,a,b⟩).err≠0:=h
 unfold Le
 rw [if_pos h1,jH h1]
 rfl
theorem Yx {rows:List ND} {a b c d:Int} {i:Nat} {c' d':Int} (h:(put rows (Bo (a,b))).err=0) (hi:(put rows (Bo (a,b))).id=(i:Int)) (hc:(if c<0 then (i:Int) else c)=c') (hd:(if d<0 then (i:Int) else d)=d') (h2:(put (put rows (Bo (a,b))).rows (Bo (c',d'))).err≠0) :
  Le rows a b c d=⟨0,0,(put (put rows (Bo (a,b))).rows (Bo (c',d'))).err,rows⟩:=by
 have h1:¬ (put rows ⟨5,⟨#[]⟩,a,b⟩).err≠0:=fun hn=>hn h
 have hi1:(put rows ⟨5,⟨#[]⟩,a,b⟩).id=(i:Int):=hi
 unfold Le
 rw [if_neg h1,hi1,hc,hd]
 exact if_pos h2
theorem gW {rows:List ND} {a b c d:Int} {i j:Nat} {c' d':Int} (h:(put rows (Bo (a,b))).err=0) (hi:(put rows (Bo (a,b))).id=(i:Int)) (hc:(if c<0 then (i:Int) else c)=c') (hd:(if d<0 then (i:Int) else d)=d') (h2:(put (put rows (Bo (a,b))).rows (Bo (c',d'))).err=0) (hj:(put (put rows (Bo (a,b))).rows (Bo (c',d'))).id=(j:Int)) :
  Le rows a b c d=⟨(i:Int),(j:Int),0,(put (put rows (Bo (a,b))).rows (Bo (c',d'))).rows⟩:=by
 have h1:¬ (put rows ⟨5,⟨#[]⟩,a,b⟩).err≠0:=fun hn=>hn h
 have hi1:(put rows ⟨5,⟨#[]⟩,a,b⟩).id=(i:Int):=hi
 have h3:¬ (put (put rows (Bo (a,b))).rows (Bo (c',d'))).err≠0:=fun hn=>hn h2
 unfold Le
 rw [if_neg h1,hi1,hc,hd]
 rw [← hj]
 exact if_neg h3
theorem vL {rows:List ND} {s:SQ} {k:Int} {main:Nat} (ok:Ok rows) (h:FitK rows s k main):Az rows s k main=true:=by
 have hf:=h.fit
 rcases Rl h with ⟨rfl,rfl⟩ | ⟨rfl,rfl,h5⟩ | ⟨rfl,rfl,h3⟩ | ⟨hk,rfl,h4⟩ | ⟨h0,hb,hon⟩
 ·simp [Sz] at hf
  unfold Az
  simp [hf]
 ·unfold Az;simp [h5]
 ·unfold Az;simp [h3]
 ·rcases hk with rfl | rfl<;>(unfold Az;simp [h4])
 ·have hc:k=1∨k=3∨k=4∨k=5∨k=6∨k=7∨k=10∨k=13:=by
   rcases Qq ok h.lt hon h0 with ⟨e,_⟩ | ⟨l,r,_,_,_,e,_⟩ | ⟨l,r,_,_,_,e,_⟩ | ⟨l,r,_,_,_,_,⟨e,_⟩ | ⟨e,_⟩ | ⟨x,y,_,_,⟨e,_⟩ | ⟨e,_⟩ | ⟨e,_⟩⟩⟩<;>simp [e]
  rw [Io rows s main hc]
  simp [hb,hon]
theorem Lc:Xw:=by
 intro F w t rows s k main hF wf h
 have ok:=hF.ok
 have hle:=ok.le
 have hm:=h.lt
 have hfit:=vL ok h
 rcases Rl h with ⟨rfl,rfl⟩ | ⟨rfl,rfl,h5⟩ | ⟨rfl,rfl,h3⟩ | ⟨hk,rfl,h4⟩ | ⟨h0,hb,hon⟩
 ·obtain ⟨kd,nm,l,r,e,hl,hr⟩:=eS ok hm
  exact (kW F w t rows hF s _ hm hfit kd nm l r e hl hr).mono fun _ w' hp=>hp.eq (by simp [Af])
 ·obtain ⟨kd,l,r,hl,hr,e⟩:=Ri ok hm (by omega)
  exact (kK F w t rows hF s _ hm hfit kd _ l r e (by omega) (by omega)).mono fun _ w' hp=>hp.eq (by simp [Af,e,It])
 ·obtain ⟨kd,l,r,hl,hr,e⟩:=Ri ok hm (by omega)
  exact (jW F w t rows hF s _ hm hfit kd _ l r e (by omega) (by omega)).mono fun _ w' hp=>hp.eq (by simp [Af,e])
 ·obtain ⟨kd,l,r,hl,hr,e⟩:=Ri ok hm (by omega)
  rcases hk with rfl | rfl
  ·exact (fQ F w t rows hF s _ hm hfit kd _ l r e (by omega) (by omega)).mono fun _ w' hp=>hp.eq (by simp [Af,e])
  ·exact (fX F w t rows hF s _ hm hfit kd _ l r e (by omega) (by omega)).mono fun _ w' hp=>hp.eq (by simp [Af,e])
 ·rcases Qq ok hm hon h0 with ⟨rfl,_⟩ | ⟨l,r,hl,hr,e,rfl,_⟩ | ⟨l,r,hl,hr,e,rfl,_⟩ | ⟨l,r,hl,hr,e,_,hc⟩
  ·obtain ⟨kd,nm,l,r,e,hl,hr⟩:=eS ok hm
   exact (kN F w t rows hF s _ hm hfit kd nm l r e hl hr).mono fun _ w' hp=>hp.eq (by simp [Af])
  ·exact (lQ F w t rows hF s _ hm hfit _ _ l r e (by omega) (by omega)).mono fun _ w' hp=>hp.eq (by simp [Af,e])
  ·exact (fY F w t rows hF s _ hm hfit _ _ l r e (by omega) (by omega)).mono fun _ w' hp=>hp.eq (by simp [Af,e,It])
  ·have hll:l<rows.length:=by omega
   rcases hc with ⟨rfl,_⟩ | ⟨rfl,_⟩ | ⟨x,y,hx,hy,⟨rfl,e2,_⟩ | ⟨rfl,e2,_⟩ | ⟨rfl,e2,_⟩⟩
   ·exact (kC F w t rows hF s _ hm hfit _ _ l r e (by omega) (by omega)).mono fun _ w' hp=>hp.eq (by simp [Af,e,It])
   ·exact (lG F w t rows hF s _ hm hfit _ _ l r e (by omega) (by omega)).mono fun _ w' hp=>hp.eq (by simp [Af])
   ·have hP:Af rows s 6 main=Jn rows rows (y:Int) (r:Int) fun rows1 f=>Jn rows rows1 (x:Int) (f:Int) fun rows2 g=>⟨rows2,0,[⟨Aw (Be s.left main) g,s.goal⟩]⟩:=by simp [Af,e,e2]
    have hx0:∀ i:Nat,(if (x:Int)<0 then (i:Int) else (x:Int))=(x:Int):=fun i=>if_neg (by omega)
    have hd0:∀ i:Nat,(if (-1:Int)<0 then (i:Int) else (-1))=(i:Int):=fun i=>if_pos (by omega)
    rcases Kr ok (a:=y) (b:=r) (by omega) (by omega) with hz | ⟨hz,i,hi,hil,ok1⟩
    ·exact (Wx F w t rows hF s main hm hfit _ _ l r e (by omega) (by omega) hll _ _ _ _ e2 _ hz (Yi hz)).mono fun _ _ hp=>hp.eq (by rw [hP,Ii hz])
    ·have p1:=Dl rows (Bo ((y:Int),(r:Int)))
     have hxl:x<(put rows (Bo ((y:Int),(r:Int)))).rows.length:=Nat.lt_of_lt_of_le (by omega) p1.length_le
     rcases Kr ok1 (a:=x) (b:=i) hxl hil with hz2 | ⟨hz2,j,hj,hjl,ok2⟩
     ·exact (Wx F w t rows hF s main hm hfit _ _ l r e (by omega) (by omega) hll _ _ _ _ e2 _ hz2 (Yx hz hi (hx0 i) (hd0 i) hz2)).mono fun _ _ hp=>hp.eq (by rw [hP,Hq hz hi,Ii hz2])
     ·have:=ok1.le
      have:=ok2.le
      exact (lT F w t rows hF s main hm hfit _ _ l r e (by omega) (by omega) hll _ _ _ _ e2 _ i j (by omega) (by omega) (gW hz hi (hx0 i) (hd0 i) hz2 hj)).mono fun _ _ hp=>hp.eq (by rw [hP,Hq hz hi,Hq hz2 hj,It])
   ·have hP:Af rows s 7 main=Jn rows rows (x:Int) (r:Int) fun rows1 f=>Jn rows rows1 (y:Int) (r:Int) fun rows2 g=>⟨rows2,0,[⟨Aw (Aw (Be s.left main) f) g,s.goal⟩]⟩:=by simp [Af,e,e2]
    have hy0:∀ i:Nat,(if (y:Int)<0 then (i:Int) else (y:Int))=(y:Int):=fun i=>if_neg (by omega)
    have hr0:∀ i:Nat,(if (r:Int)<0 then (i:Int) else (r:Int))=(r:Int):=fun i=>if_neg (by omega)
    rcases Kr ok (a:=x) (b:=r) (by omega) (by omega) with hz | ⟨hz,i,hi,hil,ok1⟩
    ·exact (Wz F w t rows hF s main hm hfit _ _ l r e (by omega) (by omega) hll _ _ _ _ e2 _ hz (Yi hz)).mono fun _ _ hp=>hp.eq (by rw [hP,Ii hz])
    ·have p1:=Dl rows (Bo ((x:Int),(r:Int)))
     have hyl:y<(put rows (Bo ((x:Int),(r:Int)))).rows.length:=Nat.lt_of_lt_of_le (by omega) p1.length_le
     have hrl:r<(put rows (Bo ((x:Int),(r:Int)))).rows.length:=Nat.lt_of_lt_of_le (by omega) p1.length_le
     have:=ok1.le
     rcases Kr ok1 (a:=y) (b:=r) hyl hrl with hz2 | ⟨hz2,j,hj,hjl,ok2⟩
     ·exact (Wz F w t rows hF s main hm hfit _ _ l r e (by omega) (by omega) hll _ _ _ _ e2 _ hz2 (Yx hz hi (hy0 i) (hr0 i) hz2)).mono fun _ _ hp=>hp.eq (by rw [hP,Hq hz hi,Ii hz2])
     ·have:=ok2.le
      exact (lK F w t rows hF s main hm hfit _ _ l r e (by omega) (by omega) hll _ _ _ _ e2 _ i j (by omega) (by omega) (gW hz hi (hy0 i) (hr0 i) hz2 hj)).mono fun _ _ hp=>hp.eq (by rw [hP,Hq hz hi,Hq hz2 hj])
   ·have hP:Af rows s 13 main=Jn rows rows (y:Int) (r:Int) fun rows1 f=>⟨rows1,0,[⟨Aw (Be s.left main) f,l⟩,⟨Aw (Be s.left main) r,s.goal⟩]⟩:=by simp [Af,e,e2]
    rcases Kr ok (a:=y) (b:=r) (by omega) (by omega) with hz | ⟨hz,i,hi,hil,ok1⟩
    ·have hR:put rows ⟨5,⟨#[]⟩,(y:Int),(r:Int)⟩=⟨rows,(put rows (Bo ((y:Int),(r:Int)))).id,(put rows (Bo ((y:Int),(r:Int)))).err⟩:=mC hz
     exact (cU F w t rows hF s main hm hfit _ _ l r e (by omega) (by omega) hll _ _ _ _ e2 _ hz _ hR).mono fun _ _ hp=>hp.eq (by rw [hP,Ii hz])
    ·have:=ok1.le
     have hR:put rows ⟨5,⟨#[]⟩,(y:Int),(r:Int)⟩=⟨(put rows (Bo ((y:Int),(r:Int)))).rows,(i:Int),0⟩:=by
      rw [← hi,← hz]
      rfl
     exact (iS F w t rows hF s main hm hfit _ _ l r e (by omega) (by omega) hll _ _ _ _ e2 _ i (by omega) hR).mono fun _ _ hp=>hp.eq (by rw [hP,Hq hz hi,It,It])
end Go.Dk
end
section
namespace Go.Dk
open Go.RowKit Go.Maps Go.MapKept
open Go.Proofs hiding intOf
attribute [local go_sem ↓] Dv
attribute [local go_sem] Du
set_option maxRecDepth 100000 in
set_option maxHeartbeats 4000000 in
theorem dH (AP:Vj) (PR:Xw) (fuel:Nat) (pf:Nat) (t:Value) (F G K:FP) (w:World) (st:SR) (vis:Int) (s:SQ) (h:Jv F G K w pf t st vis) (hi:InvS st) (wf:Wf st.rows s) (hf:Gy st s=none) (hl:0<st.left) (hfu:st.left≤fuel+1) (hroom:st.steps.length+st.left≤4096) (hv0:0≤vis) (hv:vis+st.left≤4096) (h14:(Ak st.rows s).1≠14) (hpe:(Af st.rows s (Ak st.rows s).1 (Ak st.rows s).2).err≠0) :
  Calls Tryz.prog 79 #[.pointer (some ⟨pf,0,none⟩),.agg (Ad s.left s.goal).toArray] w (Ny F G K w pf t st vis (⟨⟨st.rows,st.steps,st.left - 1⟩,(Af st.rows s (Ak st.rows s).1 (Ak st.rows s).2).err,0⟩)):=by
 have HB0:=Aa (Ab w (.cells (Ad s.left s.goal).toArray 86))
 have HX:=Aa (Ae.new w (Ad s.left s.goal) 86)
 have hfd:=Ou F G K _ pf t st vis (h.below HB0.o) hi s wf (by omega)
 rw [hf] at hfd
 simp only [Wg] at hfd
 have HFD:=Aa hfd
 have H:=Aa h
 have HI:=Aa hi;have HW:=Aa wf
 have HN:Hid (0<st.left∧st.left≤fuel+1∧st.steps.length+st.left≤4096∧0≤vis∧vis+st.left≤4096):=⟨hl,hfu,hroom,hv0,hv⟩
 obtain ⟨bd,hbd⟩:∃ bd,bd=vis+(st.left:Int):=⟨_,rfl⟩
 have HBD:=Aa hbd
 have hlt:¬ bd≤vis:=by omega
 obtain ⟨⟨k,main⟩,hkm⟩:∃ km,Ak st.rows s=km:=⟨_,rfl⟩
 have hk14:(k == 14)=false:=by rw [hkm] at h14;simpa using h14
 have HFIT:Hid (FitK st.rows s k main):=by have:=Pm hi.ok wf h14;rw [hkm] at this;exact this
 have HKM:=Aa hkm
 obtain ⟨p,hp⟩:∃ p,Af st.rows s k main=p:=⟨_,rfl⟩
 have HPP:=Aa hp
 have hpe2:p.err≠0∧p.rows=st.rows:=by
  rw [hkm] at hpe
  simp only at hpe
  rw [hp] at hpe
  exact ⟨hpe,by rw [← hp];exact Jj (by rw [hp];exact hpe)⟩
 have HPE:=Aa hpe2
 have hpz:(p.err != 0)=true:=by simpa using hpe2.1
 rw [hkm]
 simp only
 rw [hp]
 clear hfd h hi wf hf h14 hbd hp hpe hpe2 hkm
 go_enter Tryz.func79,Tryz.ntmps79
 go_wp2_with (first
  | (refine Ah (.tmp 3) rfl rfl rfl HX.o ?_)
  | (go_at_call 91;refine HFD.o.mono ?_;rintro e w1 ⟨rfl,hb1⟩;have HB1:=Aa (Ac HB0.o hb1);have HX1:=Aa (HX.o.below hb1);obtain ⟨sv,kvs,hm⟩:=H.o.below HB1.o;have HM1:=Aa hm;have c2:w1.cell? ⟨pf,2,none⟩=some (.int .i64 vis):=cell_of hm.blk rfl;have c3:w1.cell? ⟨pf,3,none⟩=some (.int .i64 bd):=(by have:=cell_of (i:=3) hm.blk rfl;rw [this,HBD.o];rfl);clear hb1 hm))
 go_quiet (fail)
 have HM2:=Aa (HM1.o.below (below_drewN w1 nq))
 have HX2:=Aa (HX1.o.below (below_drewN w1 nq))
 have HB2:=Aa (Ac HB1.o (below_drewN w1 nq))
 clear c2 c3
 generalize w1.drewN nq=W1 at *
 have c2:W1.cell? ⟨pf,2,none⟩=some (.int .i64 vis):=cell_of HM2.o.blk rfl
 have f2:=Dt (i:=2) HM2.o.blk
 go_wp2
 have hfe:=Vw HM2.o hl
 have HK3:=Aa hfe.1
 have HM3:=Aa hfe.2
 have HX3:=Aa (HX2.o.kept2 hfe.1 (fun hg=>by have:=H.o.in_ _ (.inr (.inl hg));omega))
 clear hfe c2 f2
 generalize (W1.setCell ⟨pf,2,none⟩ (.int .i64 (vis+1)))=W2 at *
 have HKW:Hid (KeptF (H3 F G K) w (H3 F G K) W2):=(KeptF.of_below H.o.in_ HB2.o).trans (HK3.o.fin3 HM2.o.tab.in_ HM2.o.kin)
 have hcl:∀ W',Aft W2 W'→W'.cell? ⟨pf,0,none⟩=some t:=fun W' hb=>Ao hb (cell_of HM3.o.blk rfl)
 have hld:∀ W',Aft W2 W'→Bf 86 W' (.pointer (some ⟨w.heap.size,0,none⟩)):=fun W' hb=>(An (HX3.o.below hb).loads).1
 have hlv:∀ W',Aft W2 W'→Dq 86 W' (.pointer (some ⟨w.heap.size,0,none⟩))=_:=fun W' hb=>(An (HX3.o.below hb).loads).2
 have HK:Hid (∀ W',Below W2.heap.size W2 W'→Aft W2 W'):=fun W' hb=>hb
 have HD:=Aa (below_drewN W2 1)
 have HA:Hid (∀ W,Below W2.heap.size W2 W→Calls Tryz.prog 92 #[t,.agg (Ad s.left s.goal).toArray] W fun e w'=>e = .returned (.tuple #[.int .i64 k,.int .i64 (main:Int)])∧Below W.heap.size W w'):=fun W hb=>by
  have:=AP F W t st.rows s (HM3.o.tab.below hb) HW.o
  rw [HKM.o] at this
  exact this
 go_region_held3 (fun W'=>Aft W2 W')
  ((refine HK.o _ ?_;first | exact HB3.o | exact HD.o))
  ((go_at_call 92;refine (HA.o _ HD.o).mono ?_;rintro e W3 ⟨rfl,hb3⟩;have HB3:=Aa (Ac HD.o hb3);clear hb3))
 have HX4:=Aa (HX3.o.below HB3.o)
 have HM4:=Aa (HM3.o.below HB3.o)
 have HKW3:=Aa (HKW.o.trans (KeptF.of_below HM3.o.in_ HB3.o))
 have HNX:Hid (¬ F w.heap.size):=fun hf=>by have:=H.o.in_ _ (.inl hf);omega
 have HNP:Hid (¬ F pf):=fun hf=>HM3.o.ap _ hf HM3.o.gp
 clear hcl hld hlv
 have hcl:∀ W',Dp F W3 W'→W'.cell? ⟨pf,0,none⟩=some t:=fun W' ⟨F',hk⟩=>hk.cell (cell_of HM4.o.blk rfl) HNP.o
 have hld:∀ W',Dp F W3 W'→Bf 86 W' (.pointer (some ⟨w.heap.size,0,none⟩)):=fun W' ⟨F',hk⟩=>(An (HX4.o.keptF hk HNX.o).loads).1
 have hlv:∀ W',Dp F W3 W'→Dq 86 W' (.pointer (some ⟨w.heap.size,0,none⟩))=_:=fun W' ⟨F',hk⟩=>(An (HX4.o.keptF hk HNX.o).loads).2
 have HK3':Hid (∀ W',Below W3.heap.size W3 W'→Dp F W3 W'):=fun W' hb=>⟨F,KeptF.of_below HM4.o.tab.in_ hb⟩
 have HD3:=Aa (below_drewN W3 1)
 have HPR:Hid (∀ W,Below W3.heap.size W3 W→Calls Tryz.prog 94 #[t,.agg (Ad s.left s.goal).toArray,.int .i64 k,.int .i64 (main:Int)] W (Fe F W t p)):=fun W hb=>HPP.o▸PR F W t st.rows s k main (HM4.o.tab.below hb) HW.o HFIT.o
 go_wp2_with fail
 go_region_held3 (fun W'=>Dp F W3 W')
  ((first | exact HKI.o | exact HK3'.o _ HD3.o))
  ((go_at_call 94;refine (HPR.o _ HD3.o).mono ?_;rintro e W4 ⟨v,F4,rfl,hk4,ht4,hs4⟩;have HK4:=Aa ((KeptF.of_below HM4.o.tab.in_ HD3.o).trans hk4);have HKI:Hid (Dp F W3 W4):=⟨F4,HK4.o⟩;have HT4:=Aa ht4;have HS4:=Aa hs4;clear hk4 ht4 hs4))
 clear hcl hld hlv HA HPR
 have HM5:=Aa (HM4.o.tabbed HK4.o HT4.o)
 have HKW4:=Aa (HKW3.o.trans (HK4.o.tab3 HM4.o.gin HM4.o.kin))
 have HX5:=Aa (HX4.o.keptF HK4.o HNX.o)
 go_wp2_with fail
 go_ret2
 refine ⟨rfl,F4,G,K,HKW4.o,?_⟩
 have h1:=HPE.o.2
 have h2:=HM5.o
 rw [h1] at h2
 simp only
 rw [show vis+((st.left - (st.left - 1):Nat):Int)=vis+1 by omega]
 exact ⟨_,_,h2⟩
theorem eN (pf:Nat) (t:Value):∀ fuel:Nat,xU fuel pf t:=by
 intro fuel
 induction fuel with
 | zero=>
  intro F G K w st vis s h hi wf hfu hroom hv0 hv
  rw [Bw]
  cases hf:Gy st s with
  | some i=>exact Sl F G K w pf t st vis h hi s wf (by omega) i hf
  | none=>exact Vd F G K w pf t st vis h hi s wf (by omega) hf (by omega)
 | succ fuel ih=>
  intro F G K w st vis s h hi wf hfu hroom hv0 hv
  rw [Bw]
  cases hf:Gy st s with
  | some i=>exact Sl F G K w pf t st vis h hi s wf (by omega) i hf
  | none=>
   simp only
   by_cases hl:st.left=0
   ·rw [if_pos hl]
    exact Vd F G K w pf t st vis h hi s wf (by omega) hf hl
   ·rw [if_neg hl]
    by_cases h14:(Ak st.rows s).1=14
    ·rw [if_pos h14]
     exact bY Lo fuel pf t (gV Lc Ym fuel pf t ih) F G K w st vis s h hi wf hf (by omega) hfu hroom hv0 hv h14
    ·rw [if_neg h14]
     by_cases hpe:(Af st.rows s (Ak st.rows s).1 (Ak st.rows s).2).err=0
     ·rw [if_neg (by simpa using hpe)]
      exact dT Lo Lc fuel pf t ih F G K w st vis s h hi wf hf (by omega) hfu hroom hv0 hv h14 hpe
     ·rw [if_pos hpe]
      exact dH Lo Lc fuel pf t F G K w st vis s h hi wf hf (by omega) hfu hroom hv0 hv h14 hpe
end Go.Dk
end
section
namespace Go.Dk
open Go.RowKit Go.Maps Go.MapKept
open Go.Proofs hiding intOf
theorem eT:∀ (fuel:Nat) (st:SR) (s:SQ),st.rows <+: (Bw fuel st s).st.rows:=by
 intro fuel
 induction fuel with
 | zero=>
  intro st s
  rw [Bw]
  cases Gy st s<;>exact List.prefix_refl _
 | succ fuel ih=>
  intro st s
  rw [Bw]
  cases Gy st s with
  | some i=>exact List.prefix_refl _
  | none=>
   simp only
   split
   ·exact List.prefix_refl _
   ·split
    ·exact Xd ih s (Bj st.rows s) ⟨st.rows,st.steps,st.left - 1⟩ []
    ·split
     ·exact List.prefix_refl _
     ·exact (Oe st.rows s (Ak st.rows s).1 (Ak st.rows s).2).trans (bR ih s (Ak st.rows s).1 (Ak st.rows s).2 (Af st.rows s (Ak st.rows s).1 (Ak st.rows s).2).seqs ⟨(Af st.rows s (Ak st.rows s).1 (Ak st.rows s).2).rows,st.steps,st.left - 1⟩ [])
def iH (F:FP) (w:World) (t:Value) (rows:List ND) (r:SA) (e:Ending) (w':World):Prop:=
 ∃ F',KeptF F w F' w'∧(r.err=0→∃ sv,e = .returned (.tuple #[.agg #[.bool (Ax r.st r.at_),sv,.int .i64 ((4096 - r.st.left:Nat):Int)],.int .i64 0])∧Bn F' w' t r.st.rows∧kP w' sv r.st.steps) ∧
  (r.err≠0→e = .returned (.tuple #[.agg #[.bool false,.slice none 0 0,.int .i64 0],.int .i64 r.err])∧Bn F' w' t rows)
def He (w:World):FP:=fun c=>c=w.heap.size+1
theorem Nw (w:World):He w (w.heap.size+1):=rfl
theorem rI {F:FP} {w W1:World} {t:Value} {rows:List ND} (hF:Bn F w t rows) (h1:Below w.heap.size w W1) :
  Jv F (fun c=>c=W1.heap.size) FP.none (W1.alloc (.cells #[t,.slice none 0 0,.int .i64 0,.int .i64 4096] 154)) W1.heap.size t ⟨rows,[],4096⟩ 0:=by
 have hB:=Ac h1 (Ab W1 (.cells #[t,.slice none 0 0,.int .i64 0,.int .i64 4096] 154))
 have e:(0:Int)+((4096:Nat):Int)=4096:=by decide
 refine ⟨.slice none 0 0,[],hF.below hB,fun c hc=>by subst hc;simp,fun _ h=>h.elim,fun c hf hc=>by have:=hF.in_ _ hf;have:=h1.size;omega,fun _ h=>h.elim,fun _ h=>h.elim,?_,World.ownsRow_nil _ _ _ _,rfl,fun i x v hx=>by simp at hx,rfl,fun g hg=>by simp [Value.ownBlock] at hg⟩
 simp only
 rw [e]
 exact Cd _ _ rfl
theorem aY {F F3 G3 K3:FP} {w W1 W2 W3 W4:World} (_hF:F.in_ w) (h1:Below w.heap.size w W1) (h2:Below W1.heap.size W1 W2) (hk:KeptF (H3 F (fun c=>c=W1.heap.size) FP.none) W2 (H3 F3 G3 K3) W3) (h3:F3.in_ W3) (hg:KeptF (He w) W3 (He w) W4):KeptF F w F3 W4:=by
 have hno:∀ c,c<w.heap.size→¬ F c→¬ H3 F (fun c=>c=W1.heap.size) FP.none c:=fun c hc hn hh=>by
  have:=h1.size
  rcases hh with h | h | h
  ·exact hn h
  ·omega
  ·exact h
 have s1:=h1.size;have s2:=h2.size;have s3:=hk.size;have s4:=hg.size
 refine ⟨hg.os.trans (hk.os.trans (h2.os.trans h1.os)),hg.tape.trans (hk.tape.trans (h2.tape.trans h1.tape)),hg.output.trans (hk.output.trans (h2.output.trans h1.output)),by omega,fun c hc hf=>?_,fun c hf=>Nat.lt_of_lt_of_le (h3 c hf) s4,fun c hc hn=>?_⟩
 ·rcases hk.sub c (by omega) (.inl hf) with h | h | h
  ·exact h
  ·exfalso;have h:c=W1.heap.size:=h;omega
  ·exact h.elim
 ·exact (hg.block c (by omega) (fun h=>by have h:c=w.heap.size+1:=h;omega)).trans ((hk.block c (by omega) (hno c hc hn)).trans ((h2.block c (by omega)).trans (h1.block c hc)))
theorem Bn.after {F3:FP} {w W3 W4:World} {t:Value} {rows:List ND} (h:Bn F3 W3 t rows) (hg:KeptF (He w) W3 (He w) W4) (hn:¬ F3 (w.heap.size+1)):Bn F3 W4 t rows:=h.kept hg fun _c hf e=>hn (e▸hf)
set_option maxRecDepth 100000 in
set_option maxHeartbeats 4000000 in
theorem uG (F:FP) (w:World) (t:Value) (rows:List ND) (hF:Bn F w t rows) (s:SQ) (hs:Wf rows s) (r:SA) (hr:Bw 4096 ⟨rows,[],4096⟩ s=r) :
  Calls Tryz.prog 59 #[t,.agg (Ad s.left s.goal).toArray,.int .i64 4096] w (iH F w t rows r):=by
 have HB0:=Aa (Ac (Ab w (.cells (Ad s.left s.goal).toArray 86)) (Ab _ (.cells #[.bool false,.slice none 0 0,.int .i64 0] 82)))
 have HX0:=Aa ((Ae.new w (Ad s.left s.goal) 86).below (Ab _ (.cells #[.bool false,.slice none 0 0,.int .i64 0] 82)))
 have HF0:Hid (Ae ((w.alloc (.cells (Ad s.left s.goal).toArray 86)).alloc (.cells #[.bool false,.slice none 0 0,.int .i64 0] 82)) (w.heap.size+1) [.bool false,.slice none 0 0,.int .i64 0] 82):=by
  have:=Ae.new (w.alloc (.cells (Ad s.left s.goal).toArray 86)) [.bool false,.slice none 0 0,.int .i64 0] 82
  unfold Hid
  simpa using this
 have HRI:Hid (∀ W,Below w.heap.size w W→Calls Tryz.prog 78 #[t,.agg (Ad s.left s.goal).toArray] W fun e w'=>e = .returned (.bool true)∧Below W.heap.size W w'):=fun W hb=>cD 0 _ W t rows ((hF.below hb).col 0) s hs
 have HT:=Aa hF
 have HDEC:Hid (∀ W1,Below w.heap.size w W1→Calls Tryz.prog 79 #[.pointer (some ⟨W1.heap.size,0,none⟩),.agg (Ad s.left s.goal).toArray] (W1.alloc (.cells #[t,.slice none 0 0,.int .i64 0,.int .i64 4096] 154)) (Ny F (fun c=>c=W1.heap.size) FP.none (W1.alloc (.cells #[t,.slice none 0 0,.int .i64 0,.int .i64 4096] 154)) W1.heap.size t ⟨rows,[],4096⟩ 0 r)):=fun W1 hb=>by
  rw [← hr]
  exact eN W1.heap.size t 4096 F _ FP.none _ ⟨rows,[],4096⟩ 0 s (rI hF hb) ⟨hF.ok,fun x hx=>by cases hx⟩ hs (Nat.le_refl _) (by simp) (by omega) (by simp)
 have HGA:Hid (r.err=0→GoodA ⟨rows,[],4096⟩ s r):=fun h=>hr▸Ot 4096 _ s ⟨hF.ok,fun x hx=>by cases hx⟩ hs (by rw [hr];exact h)
 have HPRE:Hid (rows <+: r.st.rows):=hr▸eT 4096 ⟨rows,[],4096⟩ s
 have HRM:Hid (Room ⟨rows,[],4096⟩ r 0):=hr▸Ic 4096 _ s
 obtain ⟨pb,v0,rfl,hat⟩:=hF.col 0
 obtain ⟨va,vc,rfl⟩:=hat.hr.slice
 have hc0:w.cell? ⟨pb,0,none⟩=some (.slice va rows.length vc):=cell_of hat.hp rfl
 have HC:Hid (∀ W,Below w.heap.size w W→W.cell? ⟨pb,0,none⟩=some (.slice va rows.length vc)):=fun W hb=>(hb.cell (World.block_lt_of_cell? _ _ hc0)).trans hc0
 have HCU:Hid (∀ W F1 rows1,rows <+: rows1→Bn F1 W (.pointer (some ⟨pb,0,none⟩)) rows1→Calls Tryz.prog 41 #[.pointer (some ⟨pb,0,none⟩),.int .i64 (rows.length:Int)] W fun e w'=>e = .returned (.int .i64 (Rz rows1 (rows.length:Int)).1)∧∃ F',KeptF F1 W F' w'∧Bn F' w' (.pointer (some ⟨pb,0,none⟩)) rows):=fun W F1 rows1 hp ht=>by
  have:=iF ht (rows.length:Int)
  rwa [Oq hp] at this
 clear hF hs hr hat hc0
 by_cases hz:r.err=0
 ·have hz2:(r.err != 0)=false:=by simpa using hz
  have HZ:=Aa hz
  have HGD:=Aa (HGA.o hz)
  obtain ⟨xx,hxx,_⟩:=HGD.o.ans
  have hat:r.at_<r.st.steps.length:=(List.getElem?_eq_some_iff.1 hxx).1
  have hatI:(r.at_:Int)<(r.st.steps.length:Int):=by omega
  clear hxx hz
  go_enter Tryz.func59,Tryz.ntmps59
  go_wp2_with (first
   | (refine Ah (.tmp 4) rfl rfl rfl HX0.o ?_)
   | (go_at_call 78;refine (HRI.o _ HB0.o).mono ?_;clear HRI;rintro e W1 ⟨rfl,hb1⟩;have HB1:=Aa (Ac HB0.o hb1);have HX1:=Aa (HX0.o.below hb1);have HF1:=Aa (HF0.o.below hb1);have c0:=HC.o _ HB1.o;clear hb1 HX0 HF0)
   | (refine Ah (.tmp 4) rfl rfl rfl (HX1.o.below (Ab W1 _)) ?_)
   | (go_at_call 79;refine (HDEC.o W1 HB1.o).mono ?_;clear HDEC;rintro e W3 ⟨rfl,F3,G3,K3,hk3,hf3⟩;have HK3:=Aa hk3;have HF3:=Aa hf3;obtain ⟨sv,kvs,hm⟩:=hf3;obtain ⟨g3,c3,rfl,hcp⟩:=Gk hm hat;have HM3:=Aa hm;clear hk3 hm c0))
  have HLT:Hid (w.heap.size+1<W1.heap.size):=HF1.o.lt
  have HNX:Hid (¬ H3 F3 G3 K3 (w.heap.size+1)):=fun hh=>by
   have h1:=HLT.o
   rcases HK3.o.sub _ (by simp;omega) hh with h | h | h
   ·have:=HT.o.in_ _ h;omega
   ·have h:w.heap.size+1=W1.heap.size:=h;omega
   ·exact h
  have KFO:Ae W3 (w.heap.size+1) [.bool false,.slice none 0 0,.int .i64 0] 82:=(HF1.o.below (Ab W1 _)).keptF HK3.o (fun hh=>by
   have h1:=HLT.o
   rcases hh with h | h | h
   ·have:=HT.o.in_ _ h;omega
   ·have h:w.heap.size+1=W1.heap.size:=h;omega
   ·exact h)
  have c60:=KFO.cell (i:=0) rfl;have c61:=KFO.cell (i:=1) rfl;have c62:=KFO.cell (i:=2) rfl
  have f60:=KFO.fr 0;have f61:=KFO.fr 1;have f62:=KFO.fr 2
  have p1:W3.cell? ⟨W1.heap.size,1,none⟩=some (.slice (some ⟨g3,0,none⟩) r.st.steps.length c3):=cell_of HM3.o.blk rfl
  have p2:W3.cell? ⟨W1.heap.size,2,none⟩=some (.int .i64 (0+((4096 - r.st.left:Nat):Int))):=cell_of HM3.o.blk rfl
  have hgi:FP.in_ (He w) W3:=fun c e=>by have e:c=w.heap.size+1:=e;rw [e];exact KFO.lt
  have hn:∀ c,H3 F3 G3 K3 c→c≠w.heap.size+1:=fun c hc e=>HNX.o (e▸hc)
  have l1:∀ W',KeptF (He w) W3 (He w) W'→W'.cell? ⟨W1.heap.size,1,none⟩=some (.slice (some ⟨g3,0,none⟩) r.st.steps.length c3):=fun W' hk=>hk.cell p1 (hn _ (.inr (.inl HM3.o.gp)))
  have l2:∀ W',KeptF (He w) W3 (He w) W'→W'.cell? ⟨W1.heap.size,2,none⟩=some (.int .i64 (0+((4096 - r.st.left:Nat):Int))):=fun W' hk=>hk.cell p2 (hn _ (.inr (.inl HM3.o.gp)))
  have lg:∀ W',KeptF (He w) W3 (He w) W'→W'.cell? ⟨g3,r.at_ * 21+17,none⟩=some (.bool (Ax r.st r.at_)):=fun W' hk=>hk.cell hcp (hn _ (.inr (.inl (HM3.o.gs _ rfl))))
  have HGR:Hid (KeptF (He w) W3 (He w) W3):=KeptF.refl hgi
  have hsl:r.st.steps.length<2 ^ 62:=by have:=HRM.o.len;simp only [List.length_nil] at this;omega
  clear hn hgi p1 p2 hcp
  go_region_held3 (fun W'=>KeptF (He w) W3 (He w) W') ((repeat (first | exact HGR.o | refine KeptF.drewG ?_ | (refine KeptF.setG ?_ (Nw w) _ _)))) ((fail))
  all_goals
   as_aux_lemma=>
   rename_i hHeld
   have K6:Ae (((W3.setCell ⟨w.heap.size+1,0,none⟩ (.bool (Ax r.st r.at_))).setCell ⟨w.heap.size+1,1,none⟩ (.slice (some ⟨g3,0,none⟩) r.st.steps.length c3)).setCell ⟨w.heap.size+1,2,none⟩ (.int .i64 ((4096 - r.st.left:Nat):Int))).drew (w.heap.size+1) [.bool (Ax r.st r.at_),.slice (some ⟨g3,0,none⟩) r.st.steps.length c3,.int .i64 ((4096 - r.st.left:Nat):Int)] 82:=
    (((KFO.set 0 (.bool (Ax r.st r.at_))).set 1 (.slice (some ⟨g3,0,none⟩) r.st.steps.length c3)).set 2 (.int .i64 ((4096 - r.st.left:Nat):Int))).below (below_drewN _ 1)
   have HKG:=Aa hHeld
   clear hHeld c60 c61 c62 f60 f61 f62 l1 l2 lg
   generalize (((W3.setCell ⟨w.heap.size+1,0,none⟩ (.bool (Ax r.st r.at_))).setCell ⟨w.heap.size+1,1,none⟩ (.slice (some ⟨g3,0,none⟩) r.st.steps.length c3)).setCell ⟨w.heap.size+1,2,none⟩ (.int .i64 ((4096 - r.st.left:Nat):Int))).drew=W8 at *
   have d0:=K6.cell (i:=0) rfl;have d1:=K6.cell (i:=1) rfl;have d2:=K6.cell (i:=2) rfl
   go_wp2_with fail
   refine bodyPost_ret (v:=.tuple #[.agg #[.bool (Ax r.st r.at_),.slice (some ⟨g3,0,none⟩) r.st.steps.length c3,.int .i64 ((4096 - r.st.left:Nat):Int)],.int .i64 0]) (by simp [results,Tryz.results59,go_sem,d0,d1,d2]) rfl ⟨F3,aY HT.o.in_ HB1.o (Ab W1 _) HK3.o HM3.o.tab.in_ HKG.o,fun _=>⟨_,rfl,HM3.o.tab.after HKG.o (fun h=>HNX.o (.inl h)),?_⟩,fun h=>absurd HZ.o h⟩
   exact ⟨kvs,K3,HM3.o.len,Bd HM3.o.row (fun g hg=>HKG.o.block g (HM3.o.gin g (HM3.o.gs g hg)) (fun e=>HNX.o (.inr (.inl ((show g=w.heap.size+1 from e)▸HM3.o.gs g hg))))),fun i x v hx hv=>(HM3.o.kid i x v hx hv).same (fun c hk=>HKG.o.block c (HM3.o.kin c hk) (fun e=>HNX.o (.inr (.inr ((show c=w.heap.size+1 from e)▸hk))))) (fun _ h=>h)⟩
 ·have hz2:(r.err != 0)=true:=by simpa using hz
  have HZ:=Aa hz
  clear hz
  go_enter Tryz.func59,Tryz.ntmps59
  go_wp2_with (first
   | (refine Ah (.tmp 4) rfl rfl rfl HX0.o ?_)
   | (go_at_call 78;refine (HRI.o _ HB0.o).mono ?_;clear HRI;rintro e W1 ⟨rfl,hb1⟩;have HB1:=Aa (Ac HB0.o hb1);have HX1:=Aa (HX0.o.below hb1);have HF1:=Aa (HF0.o.below hb1);have c0:=HC.o _ HB1.o;clear hb1 HX0 HF0)
   | (refine Ah (.tmp 4) rfl rfl rfl (HX1.o.below (Ab W1 _)) ?_)
   | (go_at_call 79;refine (HDEC.o W1 HB1.o).mono ?_;clear HDEC;rintro e W3 ⟨rfl,F3,G3,K3,hk3,hf3⟩;have HK3:=Aa hk3;obtain ⟨sv,kvs,hm⟩:=hf3;have HM3:=Aa hm;clear hk3 hm c0)
   |(go_at_call 41;refine (HCU.o W3 F3 _ HPRE.o HM3.o.tab).mono ?_;rintro e W4 ⟨rfl,F4,hk4,ht4⟩;have HK4:=Aa (HK3.o.trans (hk4.tab3 HM3.o.gin HM3.o.kin));have HT4:=Aa ht4;clear hk4 ht4
     have HLT:Hid (w.heap.size+1<W1.heap.size):=HF1.o.lt
     have HN0:Hid (¬ H3 F (fun c=>c=W1.heap.size) FP.none (w.heap.size+1)):=(fun hh=>by
      have h1:=HLT.o
      rcases hh with h | h | h
      ·have:=HT.o.in_ _ h;omega
      ·have h:w.heap.size+1=W1.heap.size:=h;omega
      ·exact h)
     have KFO:Ae W4 (w.heap.size+1) [.bool false,.slice none 0 0,.int .i64 0] 82:=(HF1.o.below (Ab W1 _)).keptF HK4.o HN0.o
     have HNX:Hid (¬ F4 (w.heap.size+1)):=(fun hh=>HN0.o (HK4.o.sub _ (by have:=HLT.o;simp;omega) (.inl hh)))
     have c60:=KFO.cell (i:=0) rfl;have c61:=KFO.cell (i:=1) rfl;have c62:=KFO.cell (i:=2) rfl;have f60:=KFO.fr 0;have f61:=KFO.fr 1;have f62:=KFO.fr 2))
  have K6:Ae (((W4.setCell ⟨w.heap.size+1,0,none⟩ (.bool false)).setCell ⟨w.heap.size+1,1,none⟩ (.slice none 0 0)).setCell ⟨w.heap.size+1,2,none⟩ (.int .i64 0)) (w.heap.size+1) [.bool false,.slice none 0 0,.int .i64 0] 82:=
   ((KFO.set 0 (.bool false)).set 1 (.slice none 0 0)).set 2 (.int .i64 0)
  have hgi:FP.in_ (He w) W4:=fun c e=>by have e:c=w.heap.size+1:=e;rw [e];exact KFO.lt
  have HKG:Hid (KeptF (He w) W4 (He w) (((W4.setCell ⟨w.heap.size+1,0,none⟩ (.bool false)).setCell ⟨w.heap.size+1,1,none⟩ (.slice none 0 0)).setCell ⟨w.heap.size+1,2,none⟩ (.int .i64 0))):=
   KeptF.setG (KeptF.setG (KeptF.setG (KeptF.refl hgi) (Nw w) _ _) (Nw w) _ _) (Nw w) _ _
  clear c60 c61 c62 f60 f61 f62 hgi
  generalize (((W4.setCell ⟨w.heap.size+1,0,none⟩ (.bool false)).setCell ⟨w.heap.size+1,1,none⟩ (.slice none 0 0)).setCell ⟨w.heap.size+1,2,none⟩ (.int .i64 0))=W8 at *
  have d0:=K6.cell (i:=0) rfl;have d1:=K6.cell (i:=1) rfl;have d2:=K6.cell (i:=2) rfl
  refine bodyPost_ret (v:=.tuple #[.agg #[.bool false,.slice none 0 0,.int .i64 0],.int .i64 r.err]) (by simp [results,Tryz.results59,go_sem,d0,d1,d2]) rfl ⟨F4,aY HT.o.in_ HB1.o (Ab W1 _) HK4.o HT4.o.in_ HKG.o,fun h=>absurd h HZ.o,fun _=>⟨rfl,HT4.o.after HKG.o HNX.o⟩⟩
end Go.Dk
end
