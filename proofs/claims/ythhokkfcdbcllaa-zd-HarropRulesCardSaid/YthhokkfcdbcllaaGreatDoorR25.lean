/- Parts of the proof: Vm, Va, Vt, Vu, Vx. -/
import Derived.Test.YthhokkfcdbcllaaGreatDoorR01
import Derived.Test.YthhokkfcdbcllaaGreatDoorR02
import Derived.Test.YthhokkfcdbcllaaGreatDoorR03
import Derived.Test.YthhokkfcdbcllaaGreatDoorR04
import Derived.Test.YthhokkfcdbcllaaGreatDoorR05
import Derived.Test.YthhokkfcdbcllaaGreatDoorR06
import Derived.Test.YthhokkfcdbcllaaGreatDoorR07
import Derived.Test.YthhokkfcdbcllaaGreatDoorR08
import Derived.Test.YthhokkfcdbcllaaGreatDoorR09
import Derived.Test.YthhokkfcdbcllaaGreatDoorR10
import Derived.Test.YthhokkfcdbcllaaGreatDoorR11
import Derived.Test.YthhokkfcdbcllaaGreatDoorR12
import Derived.Test.YthhokkfcdbcllaaGreatDoorR15
import Derived.Test.YthhokkfcdbcllaaGreatDoorR23
section
namespace Go.Dk
open Go.RowKit Go.Maps Go.MapKept
open Go.Proofs hiding intOf
structure RunM (F G K:FP) (w:World) (pf:Nat) (t:Value) (st:SR) (vis:Int) (sv:Value) (kvs:List Value):Prop where
 tab:Bn F w t st.rows
 gin:G.in_ w
 kin:K.in_ w
 ap:F.apart G
 kf:K.apart F
 kg:K.apart G
 blk:w.heap[pf]? = some (.cells #[t,sv,.int .i64 vis,.int .i64 (vis+(st.left:Int))] 154 (0,0))
 row:w.ownsRow 0 122 21 sv st.steps.length (Ih st.steps kvs)
 len:st.steps.length=kvs.length
 kid:∀ (i:Nat) (x:SS) (v:Value),st.steps[i]? = some x→kvs[i]? = some v→KidV K w v x.kids
 gp:G pf
 gs:∀ g,sv.ownBlock=some g→G g
def Jv (F G K:FP) (w:World) (pf:Nat) (t:Value) (st:SR) (vis:Int):Prop:=∃ sv kvs,RunM F G K w pf t st vis sv kvs
section
variable {F G K:FP} {w w':World} {pf:Nat} {t:Value} {st:SR} {vis:Int} {sv:Value} {kvs:List Value}
theorem RunM.in_ (h:RunM F G K w pf t st vis sv kvs):(H3 F G K).in_ w:=fun b hf=>hf.elim (h.tab.in_ b) fun hf=>hf.elim (h.gin b) (h.kin b)
theorem RunM.below (h:RunM F G K w pf t st vis sv kvs) (hb:Below w.heap.size w w'):RunM F G K w' pf t st vis sv kvs:=
 ⟨h.tab.below hb,h.gin.below hb,h.kin.below hb,h.ap,h.kf,h.kg,(hb.block _ (h.gin _ h.gp)).trans h.blk,Bd h.row fun g hg=>hb.block g (h.row.lt g hg).2,h.len,
  fun i x v hx hv=>(h.kid i x v hx hv).same (fun b hk=>hb.block b (h.kin b hk)) (fun _ h=>h),h.gp,h.gs⟩
theorem Jv.below (h:Jv F G K w pf t st vis) (hb:Below w.heap.size w w'):Jv F G K w' pf t st vis:=by
 obtain ⟨sv,kvs,h⟩:=h
 exact ⟨sv,kvs,h.below hb⟩
theorem Jv.in_ (h:Jv F G K w pf t st vis):(H3 F G K).in_ w:=by
 obtain ⟨sv,kvs,h⟩:=h
 exact h.in_
theorem RunM.tabbed {F':FP} {rows':List ND} (h:RunM F G K w pf t st vis sv kvs) (hk:KeptF F w F' w') (ht:Bn F' w' t rows'):RunM F' G K w' pf t ⟨rows',st.steps,st.left⟩ vis sv kvs:=by
 have hn:∀ b,G b→¬ F b:=fun b hg hf=>h.ap b hf hg
 exact ⟨ht,fun b hg=>Nat.lt_of_lt_of_le (h.gin b hg) hk.size,fun b hg=>Nat.lt_of_lt_of_le (h.kin b hg) hk.size,hk.apart h.gin h.ap,fun b hb hf=>h.kf b hb (hk.sub b (h.kin b hb) hf),h.kg,hk.box h.blk (hn _ h.gp),Bd h.row fun g hg=>hk.block g (h.row.lt g hg).2 (hn _ (h.gs g hg)),h.len,
  fun i x v hx hv=>(h.kid i x v hx hv).same (fun b hb=>hk.block b (h.kin b hb) (h.kf b hb)) (fun _ h=>h),h.gp,h.gs⟩
theorem RunM.more {X:FP} (h:RunM F G K w pf t st vis sv kvs) (hx:X.in_ w) (hf:X.apart F) (hg:X.apart G):RunM F G (fun b=>K b∨X b) w pf t st vis sv kvs:=
 ⟨h.tab,h.gin,fun b hb=>hb.elim (h.kin b) (hx b),h.ap,fun b hb=>hb.elim (h.kf b) (hf b),fun b hb=>hb.elim (h.kg b) (hg b),h.blk,h.row,h.len,fun i x v hx hv=>(h.kid i x v hx hv).same (fun _ _=>rfl) (fun _ h=>.inl h),h.gp,h.gs⟩
theorem RunM.set {w':World} (h:RunM F G K w pf t st vis sv kvs) (ho:Only pf w w') {l:Nat} {v:Int} (hb:w'.heap[pf]? = some (.cells #[t,sv,.int .i64 v,.int .i64 (v+(l:Int))] 154 (0,0))) :
  KeptF G w G w'∧RunM F G K w' pf t ⟨st.rows,st.steps,l⟩ v sv kvs:=by
 have hk:KeptF G w G w':=⟨ho.os,ho.tape,ho.output,Nat.le_of_eq ho.size.symm,fun _ _ h=>h,fun b hb=>by rw [ho.size];exact h.gin b hb,fun b _ hn=>ho.block b (fun e=>hn (e▸h.gp))⟩
 have hps:sv.ownBlock≠some pf:=own_ne h.row h.blk (by intro cur fr e;cases e)
 exact ⟨hk,h.tab.kept hk h.ap,hk.lt,fun b hb=>by rw [ho.size];exact h.kin b hb,h.ap,h.kf,h.kg,hb,Bd h.row fun g hg=>ho.block g (fun e=>hps (e▸hg)),h.len,fun i x v hx hv=>(h.kid i x v hx hv).same (fun b hb=>hk.block b (h.kin b hb) (h.kg b hb)) (fun _ h=>h),h.gp,h.gs⟩
theorem Vw (h:RunM F G K w pf t st vis sv kvs) (h0:0<st.left) :
  KeptF G w G (w.setCell ⟨pf,2,none⟩ (.int .i64 (vis+1)))∧RunM F G K (w.setCell ⟨pf,2,none⟩ (.int .i64 (vis+1))) pf t ⟨st.rows,st.steps,st.left - 1⟩ (vis+1) sv kvs:=by
 refine h.set (Aq w pf 2 _) ?_
 rw [Di h.blk _,show vis+1+((st.left - 1:Nat):Int)=vis+(st.left:Int) by omega]
 rfl
theorem Gk (h:RunM F G K w pf t st vis sv kvs) {i:Nat} (hi:i<st.steps.length) :
  ∃ g c,sv = .slice (some ⟨g,0,none⟩) st.steps.length c∧w.cell? ⟨g,i * 21+17,none⟩=some (.bool (Ax st i)):=by
 obtain ⟨g,c,rfl,_,hc⟩:=Ht h.row (by omega)
 refine ⟨g,c,rfl,hc _ _ ?_⟩
 have h1:st.steps[i]? = some st.steps[i]:=List.getElem?_eq_getElem hi
 have h2:kvs[i]? = some (kvs[i]'(by rw [← h.len];exact hi)):=List.getElem?_eq_getElem _
 rw [Ro _ _ i 17 _ _ h.len h1 h2 (by omega),bW,(Ez _ _ _ _ _ _).1]
 unfold Ax
 rw [h1]
 rfl
end
def Ny (F G K:FP) (w:World) (pf:Nat) (t:Value) (st:SR) (vis:Int) (r:SA) (e:Ending) (w':World):Prop:=
 e = .returned (.tuple #[.int .i64 (r.at_:Int),.int .i64 r.err])∧∃ F' G' K',KeptF (H3 F G K) w (H3 F' G' K') w'∧Jv F' G' K' w' pf t r.st (vis+((st.left - r.st.left:Nat):Int))
def xU (fuel:Nat) (pf:Nat) (t:Value):Prop:=∀ (F G K:FP) (w:World) (st:SR) (vis:Int) (s:SQ),Jv F G K w pf t st vis→InvS st→Wf st.rows s→st.left≤fuel→st.steps.length+st.left≤4096→0≤vis→vis+st.left≤4096 →
 Calls Tryz.prog 79 #[.pointer (some ⟨pf,0,none⟩),.agg (Ad s.left s.goal).toArray] w (Ny F G K w pf t st vis (Bw fuel st s))
def zG (fuel:Nat) (pf:Nat) (t:Value):Prop:=∀ (F G K:FP) (w:World) (st:SR) (vis:Int) (s:SQ),Jv F G K w pf t st vis→InvS st→Wf st.rows s→(Ak st.rows s).1=14→st.left≤fuel→st.steps.length+st.left≤4095→0≤vis→vis+st.left≤4096 →
 Calls Tryz.prog 93 #[.pointer (some ⟨pf,0,none⟩),.agg (Ad s.left s.goal).toArray] w (Ny F G K w pf t st vis (Bq (Bw fuel) s (Bj st.rows s) st []))
end Go.Dk
end
section
namespace Go.Dk
def aV (l:List SS):List (SQ × Bool):=l.map fun x=>(x.seq,x.proved)
structure RelS (a b:SR):Prop where
 rows:a.rows=b.rows
 left:a.left=b.left
 steps:aV a.steps=aV b.steps
structure RelA (a b:SA):Prop where
 err:a.err=b.err
 st:RelS a.st b.st
 told:a.err=0→Ax a.st a.at_=Ax b.st b.at_
theorem RelS.set {a b:SR} (h:RelS a b) (rows:List ND) (left:Nat):RelS ⟨rows,a.steps,left⟩ ⟨rows,b.steps,left⟩:=⟨rfl,rfl,h.steps⟩
theorem RelS.at {a b:SR} (h:RelS a b) (i:Nat):(a.steps[i]?).map (fun x=>(x.seq,x.proved))=(b.steps[i]?).map fun x=>(x.seq,x.proved):=by
 have:=congrArg (fun l=>l[i]?) h.steps
 simpa [aV] using this
theorem RelS.inv {a b:SR} (h:RelS a b) (hi:InvS a):InvS b:=by
 refine ⟨h.rows▸hi.ok,fun x hx=>?_⟩
 have hm:(x.seq,x.proved) ∈ aV a.steps:=by rw [h.steps];exact List.mem_map.2 ⟨x,hx,rfl⟩
 obtain ⟨y,hy,e⟩:=List.mem_map.1 hm
 injection e with e1 e2
 have:=hi.steps y hy
 rw [e1,e2,h.rows] at this
 exact this
theorem Kw {a b:SR} (h:RelS a b) {e:Int} (he:e≠0) (i j:Nat):RelA ⟨a,e,i⟩ ⟨b,e,j⟩:=⟨rfl,h,fun h0=>absurd h0 he⟩
theorem Oy {a b:SR} (h:RelS a b) (x y:SS) (h1:x.seq=y.seq) (h2:x.proved=y.proved):RelA (Ho a x) (Ho b y):=by
 refine ⟨rfl,⟨h.rows,h.left,?_⟩,fun _=>?_⟩
 ·simp only [Ho,aV,List.map_append,List.map_cons,List.map_nil]
  rw [h1,h2]
  exact congrArg (·++[(y.seq,y.proved)]) h.steps
 ·simp [Ho,Ax,h2]
theorem oW {st:SR} (hi:InvS st) {x y:SS} (hx:x ∈ st.steps) (hy:y ∈ st.steps) (h:x.seq=y.seq):x.proved=y.proved:=by
 obtain ⟨_,vx,rx⟩:=hi.steps x hx
 obtain ⟨_,vy,ry⟩:=hi.steps y hy
 rw [h] at vx rx
 cases ex:x.proved<;>cases ey:y.proved
 ·rfl
 ·exact (fJ (vy ey) (rx ex)).elim
 ·exact (fJ (vx ex) (ry ey)).elim
 ·rfl
theorem lM {st:SR} {s:SQ} (h:Gy st s=none):∀ x ∈ st.steps,x.seq≠s:=by
 unfold Gy at h
 rw [List.findIdx?_eq_none_iff] at h
 intro x hx e
 have:=h x hx
 simp [e] at this
theorem lN {l:List SS} {s:SQ} (h:∀ x ∈ l,x.seq≠s):Fv l s=none:=by
 cases hf:Fv l s with
 | none=>rfl
 | some i=>
  obtain ⟨x,hx,e⟩:=Qf hf
  exact absurd e (h x (List.mem_of_getElem? hx))
theorem pH {l:List SS} {s:SQ} {x:SS} (hx:x ∈ l) (e:x.seq=s):∃ i,Fv l s=some i:=by
 cases hf:Fv l s with
 | some i=>exact ⟨i,rfl⟩
 | none=>
  exfalso
  unfold Fv at hf
  rw [Option.map_eq_none_iff,List.find?_eq_none] at hf
  obtain ⟨i,hi,rfl⟩:=List.getElem_of_mem hx
  have:=hf (l[i],i) (by rw [List.mem_reverse];exact List.mk_mem_zipIdx_iff_getElem?.2 (by simp [hi]))
  simp [e] at this
theorem RelS.mem {a b:SR} (h:RelS a b) {x:SS} (hx:x ∈ a.steps):∃ y ∈ b.steps,y.seq=x.seq∧y.proved=x.proved:=by
 have hm:(x.seq,x.proved) ∈ aV b.steps:=by rw [← h.steps];exact List.mem_map.2 ⟨x,hx,rfl⟩
 obtain ⟨y,hy,e⟩:=List.mem_map.1 hm
 injection e with e1 e2
 exact ⟨y,hy,e1,e2⟩
theorem RelS.symm {a b:SR} (h:RelS a b):RelS b a:=⟨h.rows.symm,h.left.symm,h.steps.symm⟩
theorem eY {a b:SR} (h:RelS a b) (hi:InvS a) (s:SQ):(Gy a s=none∧Fv b.steps s=none)∨∃ i j,Gy a s=some i∧Fv b.steps s=some j∧Ax a i=Ax b j:=by
 cases hf:Gy a s with
 | none=>
  refine .inl ⟨rfl,lN fun y hy e=>?_⟩
  obtain ⟨x,hx,e1,_⟩:=h.symm.mem hy
  exact lM hf x hx (e1.trans e)
 | some i=>
  obtain ⟨x,hx,ex⟩:=Tv hf
  obtain ⟨y,hy,e1,e2⟩:=h.mem (List.mem_of_getElem? hx)
  obtain ⟨j,hj⟩:=pH hy (e1.trans ex)
  obtain ⟨z,hz,ez⟩:=Qf hj
  refine .inr ⟨i,j,rfl,hj,?_⟩
  have:=oW (h.inv hi) hy (List.mem_of_getElem? hz) (e1.trans (ex.trans ez.symm))
  simp only [Ax,hx,hz,Option.map_some,Option.getD_some]
  exact e2.symm.trans this
section
variable {dec dec2:SR→SQ→SA} (ih:∀ a b s,RelS a b→InvS a→Wf a.rows s→RelA (dec a s) (dec2 b s)∧((dec a s).err=0→GoodA a s (dec a s)))
include ih
theorem tQ (s:SQ) (k:Int) (main:Nat):∀ (todo:List SQ) (a b:SR) (kids kids2:List Nat),RelS a b→InvS a→(∀ p ∈ todo,Wf a.rows p) →
  RelA (Em dec s k main todo a kids) (Em dec2 s k main todo b kids2):=by
 intro todo
 induction todo with
 | nil=>
  intro a b kids kids2 h _ _
  rw [Em,Em]
  exact Oy h _ _ rfl rfl
 | cons p t ih2=>
  intro a b kids kids2 h hi hwf
  obtain ⟨hr,hg⟩:=ih a b p h hi (hwf p (by simp))
  rw [Em,Em]
  generalize dec a p=r at *
  generalize dec2 b p=r2 at *
  by_cases hz:r.err=0
  ·have hg:=hg hz
   have z1:¬ r.err≠0:=by simpa using hz
   have z2:¬ r2.err≠0:=by rw [← hr.err];exact z1
   rw [if_neg z1,if_neg z2,← hr.told hz]
   cases hpv:Ax r.st r.at_ with
   | true=>
    simp only [if_true]
    exact ih2 _ _ _ _ hr.st hg.inv fun q hq=>(hwf q (by simp [hq])).ext hg.pre
   | false=>
    simp only [Bool.false_eq_true,if_false]
    exact Oy hr.st _ _ rfl rfl
  ·rw [if_pos hz,if_pos (show r2.err≠0 by rw [← hr.err];exact hz),← hr.err]
   exact Kw hr.st hz _ _
theorem kX (s:SQ):∀ (todo:List (Int × Nat)) (a b:SR) (stuck stuck2:List Nat),RelS a b→InvS a→Wf a.rows s→(∀ c ∈ todo,IsC a.rows s c) →
  RelA (Bq dec s todo a stuck) (Bq dec2 s todo b stuck2):=by
 intro todo
 induction todo with
 | nil=>
  intro a b stuck stuck2 h _ _ _
  rw [Bq,Bq]
  exact Oy h _ _ rfl rfl
 | cons c t ih2=>
  intro a b stuck stuck2 h hi wf hc
  rw [Bq,Bq,← h.rows,← h.left]
  by_cases hz:(Af a.rows s c.1 c.2).err=0
  ·obtain ⟨o1,p1,hq⟩:=Rm hi.ok wf (hc c (by simp)) hz
   generalize Af a.rows s c.1 c.2=p at *
   simp only
   rw [if_neg (by simpa using hz),if_neg (by simpa using hz)]
   have hi1:=hi.ext o1 p1 a.left
   have h1:=h.set p.rows a.left
   have next:∀ (r r2:SA) (q:SQ),RelA r r2→GoodA ⟨p.rows,a.steps,a.left⟩ q r→RelA (Bq dec s t r.st (stuck++[r.at_])) (Bq dec2 s t r2.st (stuck2++[r2.at_])):=by
    intro r r2 q hr hg
    have hp2:a.rows <+: r.st.rows:=p1.trans hg.pre
    exact ih2 _ _ _ _ hr.st hg.inv (wf.ext hp2) fun d hd=>(hc d (by simp [hd])).ext hi.ok wf hp2
   rcases hq with ⟨q,hq,wq,_⟩ | ⟨q,q2,hq,wq,wq2,_⟩
   ·rw [hq]
    simp only
    obtain ⟨hr,hg⟩:=ih _ _ q h1 hi1 wq
    generalize dec ⟨p.rows,a.steps,a.left⟩ q=r at *
    generalize dec2 ⟨p.rows,b.steps,a.left⟩ q=r2 at *
    by_cases hz1:r.err=0
    ·have z1:¬ r.err≠0:=by simpa using hz1
     have z2:¬ r2.err≠0:=by rw [← hr.err];exact z1
     rw [if_neg z1,if_neg z2,← hr.told hz1]
     cases hpv:Ax r.st r.at_ with
     | true=>
      simp only [if_true]
      exact Oy hr.st _ _ rfl rfl
     | false=>
      simp only [Bool.false_eq_true,if_false]
      exact next r r2 q hr (hg hz1)
    ·rw [if_pos hz1,if_pos (show r2.err≠0 by rw [← hr.err];exact hz1),← hr.err]
     exact Kw hr.st hz1 _ _
   ·rw [hq]
    simp only
    obtain ⟨hr,hg⟩:=ih _ _ q h1 hi1 wq
    generalize dec ⟨p.rows,a.steps,a.left⟩ q=r at *
    generalize dec2 ⟨p.rows,b.steps,a.left⟩ q=r2 at *
    by_cases hz1:r.err=0
    ·have hg:=hg hz1
     have z1:¬ r.err≠0:=by simpa using hz1
     have z2:¬ r2.err≠0:=by rw [← hr.err];exact z1
     rw [if_neg z1,if_neg z2,← hr.told hz1]
     cases hpv:Ax r.st r.at_ with
     | true=>
      simp only [if_true]
      obtain ⟨hs,hg2⟩:=ih _ _ q2 hr.st hg.inv (wq2.ext hg.pre)
      generalize dec r.st q2=u at *
      generalize dec2 r2.st q2=u2 at *
      by_cases hz2:u.err=0
      ·have z1:¬ u.err≠0:=by simpa using hz2
       have z2:¬ u2.err≠0:=by rw [← hs.err];exact z1
       rw [if_neg z1,if_neg z2,← hs.told hz2]
       cases hpv2:Ax u.st u.at_ with
       | true=>
        simp only [if_true]
        exact Oy hs.st _ _ rfl rfl
       | false=>
        simp only [Bool.false_eq_true,if_false]
        exact Oy hs.st _ _ rfl rfl
      ·rw [if_pos hz2,if_pos (show u2.err≠0 by rw [← hs.err];exact hz2),← hs.err]
       exact Kw hs.st hz2 _ _
     | false=>
      simp only [Bool.false_eq_true,if_false]
      exact next r r2 q hr hg
    ·rw [if_pos hz1,if_pos (show r2.err≠0 by rw [← hr.err];exact hz1),← hr.err]
     exact Kw hr.st hz1 _ _
  ·simp only
   rw [if_pos hz,if_pos hz]
   exact Kw ⟨h.rows,h.left,h.steps⟩ hz _ _
end
theorem kV:∀ (fuel:Nat) (a b:SR) (s:SQ),RelS a b→InvS a→Wf a.rows s→RelA (Bw fuel a s) (Ci fuel b s):=by
 intro fuel
 induction fuel with
 | zero=>
  intro a b s h hi wf
  rw [Bw,Ci]
  rcases eY h hi s with ⟨e1,e2⟩ | ⟨i,j,e1,e2,e3⟩
  ·rw [e1,e2]
   exact Kw h (by decide) _ _
  ·rw [e1,e2]
   exact ⟨rfl,h,fun _=>e3⟩
 | succ fuel ih=>
  intro a b s h hi wf
  rw [Bw,Ci]
  rcases eY h hi s with ⟨e1,e2⟩ | ⟨i,j,e1,e2,e3⟩
  ·rw [e1,e2]
   simp only
   rw [← h.left,← h.rows]
   by_cases hl:a.left=0
   ·rw [if_pos hl,if_pos hl]
    exact Kw h (by decide) _ _
   ·rw [if_neg hl,if_neg hl]
    have hi1:InvS ⟨a.rows,a.steps,a.left - 1⟩:=hi.ext hi.ok (List.prefix_refl _) _
    have ih':∀ a b s,RelS a b→InvS a→Wf a.rows s→RelA (Bw fuel a s) (Ci fuel b s)∧((Bw fuel a s).err=0→GoodA a s (Bw fuel a s)):=
     fun a b s h hi wf=>⟨ih a b s h hi wf,Ot fuel a s hi wf⟩
    by_cases h14:(Ak a.rows s).1=14
    ·rw [if_pos h14,if_pos h14]
     exact kX ih' s _ _ _ _ _ (h.set _ _) hi1 wf fun c hc=>Zz hc
    ·rw [if_neg h14,if_neg h14]
     by_cases hz:(Af a.rows s (Ak a.rows s).1 (Ak a.rows s).2).err=0
     ·rw [if_neg (by simpa using hz),if_neg (by simpa using hz)]
      have hP:=Qk hi.ok wf h14 hz
      generalize Af a.rows s (Ak a.rows s).1 (Ak a.rows s).2=p at *
      exact tQ ih' s _ _ p.seqs _ _ _ _ (h.set _ _) (hi1.ext hP.ok hP.pre (a.left - 1)) hP.inv.wf
     ·rw [if_pos hz,if_pos hz]
      exact Kw (h.set _ _) hz _ _
  ·rw [e1,e2]
   exact ⟨rfl,h,fun _=>e3⟩
end Go.Dk
end
section
namespace Go.Dk
open Go.RowKit Go.Maps Go.MapKept
open Go.Proofs hiding intOf
def gQ (x y:Value):_root_.Go.Sem Value:=binOp .eql 86 x y
theorem kR (x y:Value):binOp .eql 86 x y=gQ x y:=rfl
theorem oN (W:World) {a b:SQ} (ha:a.left<2 ^ 1024) (hb:b.left<2 ^ 1024) (ga:a.goal<2 ^ 62) (gb:b.goal<2 ^ 62) :
  (gQ (.agg (Ad a.left a.goal).toArray) (.agg (Ad b.left b.goal).toArray)).run Tryz.prog W = .ok (.bool (decide (a=b))) W:=by
 obtain ⟨kx,hx⟩:=Qu a.left a.goal (WalkArith.wf_i64 (by omega))
 obtain ⟨ky,hy⟩:=Qu b.left b.goal (WalkArith.wf_i64 (by omega))
 obtain ⟨r,hr,hiff⟩:=run_equal_deep (P:=Tryz.prog) W (m:=4) (by omega) (by kernel_rfl) (by rw [Tryz.underlying86]) hx hy
 have e:r=decide (a=b):=by
  by_cases e:a=b
  ·subst e
   exact (hiff.2 (Option.some.inj (hx.symm.trans hy))).trans (decide_eq_true rfl).symm
  ·have:r≠true:=fun h=>e (SQ.val_inj _ _ (by
    rw [SQ.val_yes ha,SQ.val_yes hb]
    have:=hiff.1 h
    rw [← this] at hy
    exact Ti.inj hx hy))
   simp [e]
   simpa using this
 unfold gQ
 simp only [binOp]
 simp [hr,e]
theorem RunM.step {F G K:FP} {w:World} {pf:Nat} {t:Value} {st:SR} {vis:Int} {sv:Value} {kvs:List Value} (h:RunM F G K w pf t st vis sv kvs) {i:Nat} {x:SS} (hi:st.steps[i]? = some x) :
  ∃ g c,sv = .slice (some ⟨g,0,none⟩) st.steps.length c∧w.rangeAt g (i * 21) (Ad x.seq.left x.seq.goal):=by
 have hl:=(List.getElem?_eq_some_iff.1 hi).1
 obtain ⟨g,c,rfl,_,hc⟩:=Ht h.row (by omega)
 refine ⟨g,c,rfl,fun j v hj=>hc _ _ ?_⟩
 have h2:kvs[i]? = some (kvs[i]'(by rw [← h.len];exact hl)):=List.getElem?_eq_getElem _
 have hj2:=(List.getElem?_eq_some_iff.1 hj).1
 rw [Ai] at hj2
 rw [Ro _ _ i j _ _ h.len hi h2 (by omega)]
 unfold En
 rw [List.getElem?_append_left (by rw [Ai];exact hj2)]
 exact hj
theorem Sj {W:World} {b o m:Nat} {g:Int} (h:W.rangeAt b o (Ad m g)):Vy 86 W (.pointer (some ⟨b,o,none⟩)) (.agg (Ad m g).toArray):=by
 obtain ⟨d,hu,hd⟩:=fR
 exact run_loadAt_mid (P:=Tryz.prog) W b o 86 (Ad m g) d h hu hd (by rw [Ai];exact cE)
theorem Si {W W':World} {b o:Nat} {cs:List Value} (h:W.rangeAt b o cs) (hb:Below W.heap.size W W'):W'.rangeAt b o cs:=fun j v hj=>Ao hb (h j v hj)
theorem nX {A:Type} {p:A→Bool} {l:List A} {k:Nat} {y:A} (h:l[k]? = some y):(l.take (k+1)).all p=((l.take k).all p && p y):=by
 rw [List.take_add_one,h,List.all_append]
 simp
def Wg (o:Option Nat):Int:=match o with | some i=>(i:Int) | none=>-1
theorem rF {st:SR} {s:SQ} {j:Nat} {x:SS} (h:(st.steps.take j).all (fun x=>!decide (x.seq=s))=true) (hx:st.steps[j]? = some x) (e:x.seq=s):Gy st s=some j:=by
 unfold Gy
 rw [List.findIdx?_eq_some_iff_getElem]
 have hl:=(List.getElem?_eq_some_iff.1 hx).1
 refine ⟨hl,by simp [(List.getElem?_eq_some_iff.1 hx).2,e],fun i hi=>?_⟩
 have:=List.all_eq_true.1 h (st.steps[i]'(by omega)) (List.mem_iff_getElem?.2 ⟨i,by rw [List.getElem?_take,if_pos hi,List.getElem?_eq_getElem]⟩)
 simpa using this
theorem uI {st:SR} {s:SQ} (h:st.steps.all (fun x=>!decide (x.seq=s))=true):Gy st s=none:=by
 unfold Gy
 rw [List.findIdx?_eq_none_iff]
 intro x hx
 have:=List.all_eq_true.1 h x hx
 simpa using this
attribute [local go_sem ↓] Dv kR
attribute [local go_sem] Du
set_option maxRecDepth 100000 in
set_option maxHeartbeats 2000000 in
theorem Ou (F G K:FP) (w:World) (pf:Nat) (t:Value) (st:SR) (vis:Int) (h:Jv F G K w pf t st vis) (hi:InvS st) (s:SQ) (wf:Wf st.rows s) (hsl:st.steps.length<2 ^ 62) :
  Calls Tryz.prog 91 #[.pointer (some ⟨pf,0,none⟩),.agg (Ad s.left s.goal).toArray] w fun e w'=>e = .returned (.int .i64 (Wg (Gy st s)))∧Below w.heap.size w w':=by
 obtain ⟨sv,kvs,hm⟩:=h
 have hs:=Xm hi.ok wf
 have hg:s.goal<2 ^ 62:=by have:=wf.goal;have:=hi.ok.le;omega
 have HEQ:Hid (∀ (W:World) (x:SS),x ∈ st.steps→(gQ (.agg (Ad x.seq.left x.seq.goal).toArray) (.agg (Ad s.left s.goal).toArray)).run Tryz.prog W = .ok (.bool (decide (x.seq=s))) W):=fun W x hx=>by
  obtain ⟨wx,_⟩:=hi.steps x hx
  exact oN W (Xm hi.ok wx) hs (by have:=wx.goal;have:=hi.ok.le;omega) hg
 have HB0:=Aa (Ab w (.cells (Ad s.left s.goal).toArray 86))
 have HX:=Aa (Ae.new w (Ad s.left s.goal) 86)
 have HM:=Aa hm
 obtain ⟨sa,sc,rfl⟩:=Ba hm.row
 have HSL:=Aa hsl
 clear hm hi wf hs hg hsl
 go_enter Tryz.func91,Tryz.ntmps91
 go_wp2_with fail
 generalize w.alloc (.cells (Ad s.left s.goal).toArray 86)=W0 at *
 go_loopw [5] (fun u W=>∃ j:Nat,j≤st.steps.length∧u = .int .i64 (j:Int)∧(st.steps.take j).all (fun x=>!decide (x.seq=s))=true∧Below W0.heap.size W0 W) (fun u _=>st.steps.length - (intOf u).toNat)
 case atStart=>exact ⟨0,Nat.zero_le _,rfl,by simp,Below.refl _ _⟩
 case round=>
  obtain ⟨j,hj,rfl,hall,hb⟩:=hrel
  have HA:=Aa hall;have HB:=Aa (Ac HB0.o hb);have HBW:=Aa hb
  have HX1:=Aa (HX.o.below hb)
  clear hall hb
  have HM1:=Aa (HM.o.below HB.o)
  have c1:wr.cell? ⟨pf,1,none⟩=some (.slice sa st.steps.length sc):=cell_of HM1.o.blk rfl
  have hsl:=HSL.o
  by_cases hlt:j<st.steps.length
  ·obtain ⟨x,hx⟩:∃ x,st.steps[j]? = some x:=⟨_,List.getElem?_eq_getElem hlt⟩
   obtain ⟨g,c,he,hra⟩:=HM1.o.step hx
   cases he
   have hji:(j:Int)<(st.steps.length:Int):=by omega
   have HR:=Aa hra
   have hld:∀ nq,Bf 86 (wr.drewN nq) (.pointer (some ⟨w.heap.size,0,none⟩)):=fun nq=>(An (HX1.o.below (below_drewN _ nq)).loads).1
   have hlv:∀ nq,Dq 86 (wr.drewN nq) (.pointer (some ⟨w.heap.size,0,none⟩))=_:=fun nq=>(An (HX1.o.below (below_drewN _ nq)).loads).2
   have hld2:∀ nq,Bf 86 (wr.drewN nq) (.pointer (some ⟨g,j * 21,none⟩)):=fun nq=>(An (Sj (Si HR.o (below_drewN _ nq)))).1
   have hlv2:∀ nq,Dq 86 (wr.drewN nq) (.pointer (some ⟨g,j * 21,none⟩))=_:=fun nq=>(An (Sj (Si HR.o (below_drewN _ nq)))).2
   have heq:∀ W,(gQ (.agg (Ad x.seq.left x.seq.goal).toArray) (.agg (Ad s.left s.goal).toArray)).run Tryz.prog W = .ok (.bool (decide (x.seq=s))) W:=fun W=>HEQ.o W x (List.mem_of_getElem? hx)
   have HXX:=Aa hx
   clear hra hx
   by_cases hxs:x.seq=s
   ·have HF:=Aa (rF HA.o HXX.o hxs)
    have hde:decide (x.seq=s)=true:=by simpa using hxs
    rw [hde] at heq
    clear hxs hde
    go_wp2_with fail
    go_quiet (fail)
    go_wp2_with fail
    go_ret
    exact ⟨by rw [HF.o];rfl,Ac HB.o (below_drewN _ _)⟩
   ·have HS:=Aa (nX (p:=fun x:SS=>!decide (x.seq=s)) HXX.o)
    have hde:decide (x.seq=s)=false:=by simpa using hxs
    have HD:=Aa hde
    rw [hde] at heq
    clear hxs hde
    go_wp2_with fail
    go_quiet (fail)
    go_wp2_with fail
    exact ⟨⟨j+1,by omega,by go_num,by rw [HS.o,HA.o,HD.o];rfl,Ac HBW.o (below_drewN _ _)⟩,by simp [intOf];omega⟩
  ·obtain rfl:j=st.steps.length:=by omega
   have hA:=HA.o
   rw [List.take_length] at hA
   have HF:=Aa (uI hA)
   clear hA
   go_wp2_with fail
   go_ret
   exact ⟨by rw [HF.o];rfl,HB.o⟩
def zO (F G K:FP) (w:World) (pf:Nat) (t:Value) (st:SR) (vis:Int) (x:SS) (e:Ending) (w':World):Prop:=
 e = .returned (.tuple #[.int .i64 (st.steps.length:Int),.int .i64 0])∧∃ G',KeptF G w G' w'∧Jv F G' K w' pf t ⟨st.rows,st.steps++[x],st.left⟩ vis
theorem uK {F G K:FP} {w wa w4:World} {pf:Nat} {t:Value} {st:SR} {vis:Int} {a:Option Addr} {c:Nat} {kvs:List Value} {x:SS} {kv:Value} {g cap:Nat} (hm:RunM F G K w pf t st vis (.slice a st.steps.length c) kvs) (hk:KidV K w kv x.kids)
  (hba:Below w.heap.size w wa)
  (hown:w4.ownsRow 0 122 21 (.slice (some ⟨g,0,none⟩) (st.steps.length+1) cap) (st.steps.length+1) (Ih st.steps kvs++En x kv)) (hgr:wa.grownBy w4 (Value.slice a st.steps.length c).ownBlock)
  (hat:(Value.slice a st.steps.length c).ownBlock=some g∨w.heap.size≤g) (hgl:g<w4.heap.size) (hb4:w4.heap[pf]? = some (.cells #[t,.slice a st.steps.length c,.int .i64 vis,.int .i64 (vis+(st.left:Int))] 154 (0,0))) :
  ∃ G',KeptF G w G' (w4.setCell ⟨pf,1,none⟩ (.slice (some ⟨g,0,none⟩) (st.steps.length+1) cap))∧Jv F G' K (w4.setCell ⟨pf,1,none⟩ (.slice (some ⟨g,0,none⟩) (st.steps.length+1) cap)) pf t ⟨st.rows,st.steps++[x],st.left⟩ vis:=by
 have hgp:g≠pf:=fun e=>own_ne hown hb4 (by intro cur fr e;cases e) (by rw [e];rfl)
 have hsz:w.heap.size≤w4.heap.size:=Nat.le_trans hba.size hgr.size
 have hG:∀ b,b<w.heap.size→(G b∨b=g)→G b:=fun b hb h=>by
  rcases h with h | rfl
  ·exact h
  ·rcases hat with h | h
   ·exact hm.gs _ h
   ·omega
 have hK:KeptF G w (fun b=>G b∨b=g) (w4.setCell ⟨pf,1,none⟩ (.slice (some ⟨g,0,none⟩) (st.steps.length+1) cap)):=by
  refine ⟨hgr.os.trans hba.os,hgr.tape.trans hba.tape,hgr.output.trans hba.output,by simp;exact hsz,hG,fun b hb=>?_,fun b hb hn=>?_⟩
  ·rcases hb with hb | rfl
   ·have:=hm.gin b hb;simp;omega
   ·simpa using hgl
  ·rw [Below.heap_setCell _ _ _ _ (fun e=>hn (by rw [e];exact hm.gp)),hgr.block b (by have:=hba.size;omega) (fun e=>hn (hm.gs b e.symm))]
   exact hba.block b hb
 refine ⟨_,hK,.slice (some ⟨g,0,none⟩) (st.steps.length+1) cap,kvs++[kv],hm.tab.kept hK hm.ap,hK.lt,fun b hb=>Nat.lt_of_lt_of_le (hm.kin b hb) hK.size,fun b hf hg=>?_,hm.kf,fun b hb hg=>hm.kg b hb (hG b (hm.kin b hb) hg),?_,?_,?_,?_,.inl hm.gp,fun b hb=>?_⟩
 ·exact hm.ap b hf (hG b (hm.tab.in_ b hf) hg)
 ·rw [Di hb4];rfl
 ·rw [Oh _ _ _ _ hm.len,List.length_append]
  exact Bd hown fun b hb=>Below.heap_setCell _ _ _ _ (fun e=>hgp (by
   have:g=b:=by simpa [Value.ownBlock] using hb
   exact this.trans e))
 ·simp [hm.len]
 ·intro i y v hy hv
  rw [List.getElem?_append] at hy hv
  have hk2:∀ b,K b→(w4.setCell ⟨pf,1,none⟩ (.slice (some ⟨g,0,none⟩) (st.steps.length+1) cap)).heap[b]? = w.heap[b]?:=fun b hb=>hK.block b (hm.kin b hb) (hm.kg b hb)
  by_cases hi:i<st.steps.length
  ·rw [if_pos hi] at hy
   rw [if_pos (by rw [← hm.len];exact hi)] at hv
   exact (hm.kid i y v hy hv).same hk2 (fun _ h=>h)
  ·rw [if_neg hi] at hy
   rw [if_neg (by rw [← hm.len];exact hi)] at hv
   have h1:=(List.getElem?_eq_some_iff.1 hy).1
   simp at h1
   rw [h1] at hy
   rw [← hm.len,h1] at hv
   simp at hy hv
   subst hy hv
   exact hk.same hk2 (fun _ h=>h)
 ·have:g=b:=by simpa [Value.ownBlock] using hb
  exact .inr this.symm
end Go.Dk
end
section
namespace Go.Dk
open Go.RowKit Go.Maps Go.MapKept
open Go.Proofs hiding intOf
set_option maxRecDepth 100000 in
theorem wG (W:World) (s:SQ) (b:Bool) (k:Int) (n:Nat) (kids:List Nat) (ad:Option Addr) (x y:Nat):(Hk #[(0,.agg (Ad s.left s.goal).toArray),(1,.bool b),(2,.int .i64 k),(3,.int .i64 (n:Int)),(4,.slice ad x y)]).run Tryz.prog W = .ok (.agg (En ⟨s,b,k,n,kids⟩ (.slice ad x y)).toArray) W:=by
 have hsl:=Ai s.left s.goal
 have hfs:∀ (l:List (Value × Nat)) (cs:Array Value),(List.foldl (fun (cs:Array Value) (x:Value × Nat)=>cs.setIfInBounds x.2 x.1) cs l).size=cs.size:=fold_size
 unfold Hk
 simp [go_sem,Instr.build,Instr.fill,hsl,hfs]
 rw [Vn s.left s.goal _ (by decide)]
 simp [En,Ai]
attribute [local go_sem ↓] Dv aA
attribute [local go_sem] Du
set_option maxRecDepth 100000 in
set_option maxHeartbeats 2000000 in
theorem sN (F G K:FP) (w:World) (pf:Nat) (t:Value) (st:SR) (vis:Int) (h:Jv F G K w pf t st vis) (s:SQ) (pv:Bool) (k:Int) (main:Nat) (kids:List Nat) (kv:Value) (hk:KidV K w kv kids) (hsl:st.steps.length<4096) :
  Calls Tryz.prog 95 #[.pointer (some ⟨pf,0,none⟩),.agg (Ad s.left s.goal).toArray,.bool pv,.int .i64 k,.int .i64 (main:Int),kv] w (zO F G K w pf t st vis ⟨s,pv,k,main,kids⟩):=by
 obtain ⟨sv,kvs,hm⟩:=h
 have HB0:=Aa (Ab w (.cells (Ad s.left s.goal).toArray 86))
 have H0:=Aa (hm.below HB0.o)
 have HX:=Aa (Ae.new w (Ad s.left s.goal) 86)
 obtain ⟨a,c,rfl⟩:=Ba hm.row
 obtain ⟨ka,kc,rfl⟩:=hk.rd.slice
 have HK:=Aa hk
 have HM:=Aa hm
 have hb5:=fun W=>wG W s pv k main kids ka kids.length kc
 have HLS:=Aa hsl
 obtain ⟨x,hx⟩:∃ x:SS,(⟨s,pv,k,main,kids⟩:SS)=x:=⟨_,rfl⟩
 have hkx:KidV K w (.slice ka kids.length kc) x.kids:=by rw [← hx];exact hk
 have HKX:=Aa hkx
 rw [hx] at hb5 ⊢
 clear hk hm hsl hkx hx
 go_enter Tryz.func95,Tryz.ntmps95
 go_wp2_with fail
 generalize w.alloc (.cells (Ad s.left s.goal).toArray 86)=W0 at *
 have c0:W0.cell? ⟨pf,1,none⟩=some (.slice a st.steps.length c):=cell_of H0.o.blk rfl
 have hl1:Bf 86 W0.drew (.pointer (some ⟨w.heap.size,0,none⟩)):=(An (HX.o.below (below_drewN _ 1)).loads).1
 have hl2:Dq 86 W0.drew (.pointer (some ⟨w.heap.size,0,none⟩))=_:=(An (HX.o.below (below_drewN _ 1)).loads).2
 have N1:Hid ((Value.slice a st.steps.length c).ownBlock≠some pf):=own_ne H0.o.row H0.o.blk (by intro cur fr e;cases e)
 have lp:pf<W0.heap.size:=lt_of_block H0.o.blk
 have hsl2:=Ib x (.slice ka kids.length kc)
 obtain ⟨i0,hi0,hz0,hz1,hz2⟩:=info_parts jE
 go_region_law (refine step_append_lies _ rfl (.tmp 18) (.tmp 25) 80 rfl 0 122 i0 _ 21 184 Tryz.underlying80 hi0 hz0 hz1 hz2 rfl (by decide) _ st.steps.length (Ih st.steps kvs) (by simp [Act.eval];rfl) (by exact H0.o.row.alloc _) ⟨W0.heap.size,0,none⟩ 1 1 (En x (.slice ka kids.length kc)) (by simp [Act.eval]) (Ib _ _) (by rw [bD _ _ _ rfl];exact World.news_of_block (Cd _ _ rfl)) (iE x _ (bE HKX.o.rd)) (by decide) (by unfold maxLen;have:=HLS.o;omega) (by have:=HLS.o;omega) (by simp) _ rfl ?_;intro g cap w4 hown hgrow hat hlt;have hgr:W0.grownBy w4 (Value.slice a st.steps.length c).ownBlock:=Qo hgrow;have q1:=(hgr.block pf (lt_of_block H0.o.blk) (Ne.symm N1.o)).trans H0.o.blk;have q2:w4.cell? ⟨pf,1,none⟩=some (.slice a st.steps.length c):=cell_of q1 rfl;have q3:=Dt (i:=1) q1;have Q1:=Aa q1;clear q1 hgrow)
 all_goals
  as_aux_lemma=>
  have hf:=uK HM.o HKX.o HB0.o hown hgr (hat.imp id (fun e=>by have:=HB0.o.size;simp at e;omega)) hlt Q1.o
  have HF:=Aa hf
  have k1:(w4.setCell ⟨pf,1,none⟩ (.slice (some ⟨g,0,none⟩) (st.steps.length+1) cap)).cell? ⟨pf,1,none⟩=some (.slice (some ⟨g,0,none⟩) (st.steps.length+1) cap):=by
   have:=Di Q1.o (i:=1) (.slice (some ⟨g,0,none⟩) (st.steps.length+1) cap)
   exact cell_of this rfl
  clear hf hown hgr hat hlt q2 q3 Q1 c0 hl1 hl2 hsl2 lp
  generalize (w4.setCell ⟨pf,1,none⟩ (.slice (some ⟨g,0,none⟩) (st.steps.length+1) cap))=w5 at *
  go_wp2
  go_ret2
  exact ⟨by simp;unfold wrap64;have:=HLS.o;omega,HF.o⟩
end Go.Dk
end
section
namespace Go.Dk
open Go.RowKit Go.Maps Go.MapKept
open Go.Proofs hiding intOf
theorem Ic:∀ (fuel:Nat) (st:SR) (s:SQ),Room st (Bw fuel st s) 0:=by
 intro fuel
 induction fuel with
 | zero=>
  intro st s
  rw [Bw]
  cases Gy st s<;>exact ⟨Nat.le_refl _,Nat.le_refl _⟩
 | succ fuel ih=>
  intro st s
  rw [Bw]
  cases Gy st s with
  | some i=>exact ⟨Nat.le_refl _,Nat.le_refl _⟩
  | none=>
   simp only
   split
   ·exact ⟨Nat.le_refl _,Nat.le_refl _⟩
   ·rename_i hl
    split
    ·have:=Ll ih s (Bj st.rows s) ⟨st.rows,st.steps,st.left - 1⟩ []
     have h1:=this.len
     have h2:=this.left
     simp only at h1 h2
     exact ⟨by omega,by omega⟩
    ·split
     ·exact ⟨by simp only;omega,by simp only;omega⟩
     ·have:=Pi ih s (Ak st.rows s).1 (Ak st.rows s).2 (Af st.rows s (Ak st.rows s).1 (Ak st.rows s).2).seqs ⟨(Af st.rows s (Ak st.rows s).1 (Ak st.rows s).2).rows,st.steps,st.left - 1⟩ []
      have h1:=this.len
      have h2:=this.left
      simp only at h1 h2
      exact ⟨by omega,by omega⟩
theorem Zi {F G K:FP} {w w':World} {pf:Nat} {t:Value} {st:SR} {vis:Int} {r:SA} {e:Ending} (h:Jv F G K w pf t st vis) (hb:Below w.heap.size w w') (he:e = .returned (.tuple #[.int .i64 (r.at_:Int),.int .i64 r.err])) (hr:r.st=st):Ny F G K w pf t st vis r e w':=by
 refine ⟨he,F,G,K,KeptF.of_below h.in_ hb,?_⟩
 rw [hr]
 simpa using h.below hb
theorem aX {F G K F1 G1 K1:FP} {w w1:World} {pf:Nat} {t:Value} {st st1:SR} {vis vis1:Int} (hk:KeptF (H3 F G K) w (H3 F1 G1 K1) w1) (hm:Jv F1 G1 K1 w1 pf t st1 vis1) (hv:vis1=vis+((st.left - st1.left:Nat):Int)) (s:SQ) (pv:Bool) (k:Int) (main:Nat) (kids:List Nat) (kv:Value) (hsl:st1.steps.length<4096)
  (hko:Rd w1 kv kids.length 1 (Iy kids)) (hkb:∀ a m c,kv = .slice (some a) m c→a.block<w1.heap.size∧w.heap.size≤a.block∧¬ H3 F1 G1 K1 a.block) :
  Calls Tryz.prog 95 #[.pointer (some ⟨pf,0,none⟩),.agg (Ad s.left s.goal).toArray,.bool pv,.int .i64 k,.int .i64 (main:Int),kv] w1 (fun e w'=>Ny F G K w pf t st vis (Ho st1 ⟨s,pv,k,main,kids⟩) e w'∧Dp (H3 F1 G1 K1) w1 w'):=by
 obtain ⟨sv,kvs,hm⟩:=hm
 have hX1:FP.in_ (fun b=>∃ a m c,kv = .slice (some a) m c∧a.block=b) w1:=by
  rintro b ⟨a,m,c,e,rfl⟩
  exact (hkb a m c e).1
 have hmm:=hm.more hX1 (by rintro b ⟨a,m,c,e,rfl⟩ hf;exact (hkb a m c e).2.2 (.inl hf)) (by rintro b ⟨a,m,c,e,rfl⟩ hf;exact (hkb a m c e).2.2 (.inr (.inl hf)))
 refine (sN F1 G1 _ w1 pf t st1 vis1 ⟨sv,kvs,hmm⟩ s pv k main kids kv ⟨hko,fun a m c e=>.inr ⟨a,m,c,e,rfl⟩⟩ hsl).mono ?_
 rintro e w' ⟨rfl,G',hk2,hf⟩
 refine ⟨⟨rfl,F1,G',_,?_,hv▸hf⟩,_,hk2.fin3 hm.tab.in_ hm.kin⟩
 have h1:KeptF (H3 F G K) w (H3 F1 G1 (fun b=>K1 b∨∃ a m c,kv = .slice (some a) m c∧a.block=b)) w1:=by
  have:=hk.grow hX1 (by rintro b ⟨a,m,c,e,rfl⟩;exact (hkb a m c e).2.1)
  exact ⟨this.os,this.tape,this.output,this.size,fun b hb hf=>this.sub b hb (by
   rcases hf with h | h | h | h
   ·exact .inl (.inl h)
   ·exact .inl (.inr (.inl h))
   ·exact .inl (.inr (.inr h))
   ·exact .inr h),fun b hf=>this.lt b (by
   rcases hf with h | h | h | h
   ·exact .inl (.inl h)
   ·exact .inl (.inr (.inl h))
   ·exact .inl (.inr (.inr h))
   ·exact .inr h),this.block⟩
 exact h1.trans (hk2.fin3 hmm.tab.in_ hmm.kin)
theorem Zw {F G K F1 G1 K1:FP} {w w1:World} {pf:Nat} {t:Value} {st st1:SR} {vis vis1:Int} (hk:KeptF (H3 F G K) w (H3 F1 G1 K1) w1) (hm:Jv F1 G1 K1 w1 pf t st1 vis1) (hv:vis1=vis+((st.left - st1.left:Nat):Int)) (s:SQ) (pv:Bool) (k:Int) (main:Nat) (kids:List Nat) (kv:Value) (hsl:st1.steps.length<4096)
  (hko:Rd w1 kv kids.length 1 (Iy kids)) (hkb:∀ a m c,kv = .slice (some a) m c→a.block<w1.heap.size∧w.heap.size≤a.block∧¬ H3 F1 G1 K1 a.block) :
  Calls Tryz.prog 95 #[.pointer (some ⟨pf,0,none⟩),.agg (Ad s.left s.goal).toArray,.bool pv,.int .i64 k,.int .i64 (main:Int),kv] w1 (Ny F G K w pf t st vis (Ho st1 ⟨s,pv,k,main,kids⟩)):=
 (aX hk hm hv s pv k main kids kv hsl hko hkb).mono fun _ _ h=>h.1
attribute [local go_sem ↓] Dv
attribute [local go_sem] Du
set_option maxRecDepth 100000 in
set_option maxHeartbeats 2000000 in
theorem Sl (F G K:FP) (w:World) (pf:Nat) (t:Value) (st:SR) (vis:Int) (h:Jv F G K w pf t st vis) (hi:InvS st) (s:SQ) (wf:Wf st.rows s) (hsl:st.steps.length<2 ^ 62) (i:Nat) (hf:Gy st s=some i) :
  Calls Tryz.prog 79 #[.pointer (some ⟨pf,0,none⟩),.agg (Ad s.left s.goal).toArray] w (Ny F G K w pf t st vis ⟨st,0,i⟩):=by
 have HB0:=Aa (Ab w (.cells (Ad s.left s.goal).toArray 86))
 have HX:=Aa (Ae.new w (Ad s.left s.goal) 86)
 have hfd:=Ou F G K _ pf t st vis (h.below HB0.o) hi s wf hsl
 rw [hf] at hfd
 simp only [Wg] at hfd
 have HFD:=Aa hfd
 have H:=Aa h
 have h0:(0:Int)≤(i:Int):=by omega
 clear hfd h hi wf hf
 go_enter Tryz.func79,Tryz.ntmps79
 go_wp2_with (first
  | (refine Ah (.tmp 3) rfl rfl rfl HX.o ?_)
  | (go_at_call 91;refine HFD.o.mono ?_;rintro e w1 ⟨rfl,hb1⟩;have HB1:=Aa (Ac HB0.o hb1);clear hb1))
 go_ret2
 exact Zi H.o HB1.o rfl rfl
set_option maxRecDepth 100000 in
set_option maxHeartbeats 2000000 in
theorem Vd (F G K:FP) (w:World) (pf:Nat) (t:Value) (st:SR) (vis:Int) (h:Jv F G K w pf t st vis) (hi:InvS st) (s:SQ) (wf:Wf st.rows s) (hsl:st.steps.length<2 ^ 62) (hf:Gy st s=none) (hl:st.left=0) :
  Calls Tryz.prog 79 #[.pointer (some ⟨pf,0,none⟩),.agg (Ad s.left s.goal).toArray] w (Ny F G K w pf t st vis ⟨st,110,0⟩):=by
 have HB0:=Aa (Ab w (.cells (Ad s.left s.goal).toArray 86))
 have HX:=Aa (Ae.new w (Ad s.left s.goal) 86)
 have hfd:=Ou F G K _ pf t st vis (h.below HB0.o) hi s wf hsl
 rw [hf] at hfd
 simp only [Wg] at hfd
 have HFD:=Aa hfd
 have H:=Aa h
 have HL:=Aa hl
 clear hfd h hi wf hf hl
 go_enter Tryz.func79,Tryz.ntmps79
 go_wp2_with (first
  | (refine Ah (.tmp 3) rfl rfl rfl HX.o ?_)
  | (go_at_call 91;refine HFD.o.mono ?_;rintro e w1 ⟨rfl,hb1⟩;have HB1:=Aa (Ac HB0.o hb1);obtain ⟨sv,kvs,hm⟩:=H.o.below HB1.o;have c2:w1.cell? ⟨pf,2,none⟩=some (.int .i64 vis):=cell_of hm.blk rfl;have c3:w1.cell? ⟨pf,3,none⟩=some (.int .i64 vis):=(by have:=cell_of (i:=3) hm.blk rfl;rw [this,HL.o];simp);clear hb1 hm))
 go_quiet (fail)
 have hvv:vis≤vis:=Int.le_refl _
 go_wp2
 go_ret2
 exact Zi H.o (Ac HB1.o (below_drewN _ _)) rfl rfl
def Vj:Prop:=∀ (F:FP) (w:World) (t:Value) (rows:List ND) (s:SQ),Bn F w t rows→Wf rows s →
 Calls Tryz.prog 92 #[t,.agg (Ad s.left s.goal).toArray] w fun e w'=>e = .returned (.tuple #[.int .i64 (Ak rows s).1,.int .i64 ((Ak rows s).2:Int)])∧Below w.heap.size w w'
set_option maxRecDepth 100000 in
set_option maxHeartbeats 2000000 in
theorem bY (AP:Vj) (fuel:Nat) (pf:Nat) (t:Value) (HC:zG fuel pf t) (F G K:FP) (w:World) (st:SR) (vis:Int) (s:SQ) (h:Jv F G K w pf t st vis) (hi:InvS st) (wf:Wf st.rows s) (hf:Gy st s=none) (hl:0<st.left) (hfu:st.left≤fuel+1) (hroom:st.steps.length+st.left≤4096) (hv0:0≤vis) (hv:vis+st.left≤4096) (h14:(Ak st.rows s).1=14) :
  Calls Tryz.prog 79 #[.pointer (some ⟨pf,0,none⟩),.agg (Ad s.left s.goal).toArray] w (Ny F G K w pf t st vis (Bq (Bw fuel) s (Bj st.rows s) ⟨st.rows,st.steps,st.left - 1⟩ [])):=by
 have HB0:=Aa (Ab w (.cells (Ad s.left s.goal).toArray 86))
 have HX:=Aa (Ae.new w (Ad s.left s.goal) 86)
 have hfd:=Ou F G K _ pf t st vis (h.below HB0.o) hi s wf (by omega)
 rw [hf] at hfd
 simp only [Wg] at hfd
 have HFD:=Aa hfd
 have H:=Aa h
 have HI:=Aa hi;have HW:=Aa wf;have H14:=Aa h14
 obtain ⟨r,hr⟩:∃ r,Bq (Bw fuel) s (Bj st.rows s) ⟨st.rows,st.steps,st.left - 1⟩ []=r:=⟨_,rfl⟩
 have HR:Hid (r.st.left≤st.left - 1):=by rw [← hr];exact (Ll (Ic fuel) s _ _ _).left
 rw [hr]
 have HRR:=Aa hr
 have HN:Hid (0<st.left∧st.left≤fuel+1∧st.steps.length+st.left≤4096∧0≤vis∧vis+st.left≤4096):=⟨hl,hfu,hroom,hv0,hv⟩
 obtain ⟨bd,hbd⟩:∃ bd,bd=vis+(st.left:Int):=⟨_,rfl⟩
 have HBD:=Aa hbd
 have hlt:¬ bd≤vis:=by omega
 clear hr hfd h hi wf hf h14 hbd
 go_enter Tryz.func79,Tryz.ntmps79
 go_wp2_with (first
  | (refine Ah (.tmp 3) rfl rfl rfl HX.o ?_)
  | (go_at_call 91;refine HFD.o.mono ?_;rintro e w1 ⟨rfl,hb1⟩;have HB1:=Aa (Ac HB0.o hb1);have HX1:=Aa (HX.o.below hb1);obtain ⟨sv,kvs,hm⟩:=H.o.below HB1.o;have HM1:=Aa hm;have c2:w1.cell? ⟨pf,2,none⟩=some (.int .i64 vis):=cell_of hm.blk rfl;have c3:w1.cell? ⟨pf,3,none⟩=some (.int .i64 bd):=(by have:=cell_of (i:=3) hm.blk rfl;rw [this,HBD.o];rfl);clear hb1 hm))
 go_quiet (fail)
 have HM2:=Aa (HM1.o.below (below_drewN w1 nq))
 have HX2:=Aa (HX1.o.below (below_drewN w1 nq))
 have HB2:=Aa (Ac HB1.o (below_drewN w1 nq))
 clear c2 c3
 generalize w1.drewN nq=W1 at *
 have c2:W1.cell? ⟨pf,2,none⟩=some (.int .i64 vis):=cell_of HM2.o.blk rfl
 have f2:=Dt (i:=2) HM2.o.blk
 go_wp2
 have hfe:=Vw HM2.o hl
 have HK3:=Aa hfe.1
 have HM3:=Aa hfe.2
 have HX3:=Aa (HX2.o.kept2 hfe.1 (fun hg=>by have:=H.o.in_ _ (.inr (.inl hg));omega))
 clear hfe c2 f2
 generalize (W1.setCell ⟨pf,2,none⟩ (.int .i64 (vis+1)))=W2 at *
 have HKW:Hid (KeptF (H3 F G K) w (H3 F G K) W2):=(KeptF.of_below H.o.in_ HB2.o).trans (HK3.o.fin3 HM2.o.tab.in_ HM2.o.kin)
 have hcl:∀ W',Aft W2 W'→W'.cell? ⟨pf,0,none⟩=some t:=fun W' hb=>Ao hb (cell_of HM3.o.blk rfl)
 have hld:∀ W',Aft W2 W'→Bf 86 W' (.pointer (some ⟨w.heap.size,0,none⟩)):=fun W' hb=>(An (HX3.o.below hb).loads).1
 have hlv:∀ W',Aft W2 W'→Dq 86 W' (.pointer (some ⟨w.heap.size,0,none⟩))=_:=fun W' hb=>(An (HX3.o.below hb).loads).2
 have HK:Hid (∀ W',Below W2.heap.size W2 W'→Aft W2 W'):=fun W' hb=>hb
 have HD:=Aa (below_drewN W2 1)
 have HA:Hid (∀ W,Below W2.heap.size W2 W→Calls Tryz.prog 92 #[t,.agg (Ad s.left s.goal).toArray] W fun e w'=>e = .returned (.tuple #[.int .i64 14,.int .i64 ((Ak st.rows s).2:Int)])∧Below W.heap.size W w'):=fun W hb=>by
  have:=AP F W t st.rows s (HM3.o.tab.below hb) HW.o
  rw [H14.o] at this
  exact this
 go_region_held3 (fun W'=>Aft W2 W')
  ((refine HK.o _ ?_;first | exact HB3.o | exact HD.o))
  ((go_at_call 92;refine (HA.o _ HD.o).mono ?_;rintro e W3 ⟨rfl,hb3⟩;have HB3:=Aa (Ac HD.o hb3);clear hb3))
 have HX4:=Aa (HX3.o.below HB3.o)
 have HM4:Hid (Jv F G K W3 pf t ⟨st.rows,st.steps,st.left - 1⟩ (vis+1)):=⟨_,_,HM3.o.below HB3.o⟩
 have HC3:=Aa (HC F G K W3 _ (vis+1) s HM4.o (HI.o.ext HI.o.ok (List.prefix_refl _) _) HW.o H14.o (by show st.left - 1≤fuel;omega) (by show st.steps.length+(st.left - 1)≤4095;omega) (by omega) (by show vis+1+((st.left - 1:Nat):Int)≤4096;omega))
 clear hcl hld hlv
 simp only at HC3
 rw [HRR.o] at HC3
 go_wp2_with (first
  | (refine Ah (.tmp 3) rfl rfl rfl HX4.o ?_)
  | (go_at_call 93;refine HC3.o.mono ?_;rintro e W4 ⟨rfl,F4,G4,K4,hk4,hf4⟩;have HK4:=Aa hk4;have HF4:=Aa hf4;clear hk4 hf4))
 go_ret2
 refine ⟨rfl,F4,G4,K4,(HKW.o.trans (KeptF.of_below HM3.o.in_ HB3.o)).trans HK4.o,?_⟩
 have h1:=HF4.o
 have h2:=HR.o
 rw [show vis+((st.left - r.st.left:Nat):Int)=vis+1+((st.left - 1 - r.st.left:Nat):Int) by omega]
 exact h1
end Go.Dk
end
