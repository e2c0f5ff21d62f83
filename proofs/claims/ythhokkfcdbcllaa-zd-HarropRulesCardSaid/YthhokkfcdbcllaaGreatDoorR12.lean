/- Parts of the proof: Qn, Qm, Qo, Qp, Qq, Qr, Qs, Qt. -/
import Derived.Test.YthhokkfcdbcllaaGreatDoorR01
import Derived.Test.YthhokkfcdbcllaaGreatDoorR02
import Derived.Test.YthhokkfcdbcllaaGreatDoorR03
import Derived.Test.YthhokkfcdbcllaaGreatDoorR04
import Derived.Test.YthhokkfcdbcllaaGreatDoorR05
import Derived.Test.YthhokkfcdbcllaaGreatDoorR06
import Derived.Test.YthhokkfcdbcllaaGreatDoorR07
import Derived.Test.YthhokkfcdbcllaaGreatDoorR08
import Derived.Test.YthhokkfcdbcllaaGreatDoorR09
import Derived.Test.YthhokkfcdbcllaaGreatDoorR10
import Derived.Test.YthhokkfcdbcllaaGreatDoorR11
section
namespace Go.Dk
def Fv (l:List SS) (s:SQ):Option Nat:=(l.zipIdx.reverse.find? fun p=>decide (p.1.seq=s)).map (·.2)
theorem kG (l:List SS) (x:SS) (s:SQ):Fv (l++[x]) s=if x.seq=s then some l.length else Fv l s:=by
 unfold Fv
 rw [List.zipIdx_append]
 simp only [List.zipIdx_cons,List.zipIdx_nil,List.reverse_append,List.reverse_cons,List.reverse_nil,List.nil_append,List.singleton_append,List.find?_cons,Nat.zero_add]
 by_cases h:x.seq=s<;>simp [h]
theorem Qf {l:List SS} {s:SQ} {i:Nat} (h:Fv l s=some i):∃ x,l[i]? = some x∧x.seq=s:=by
 unfold Fv at h
 obtain ⟨p,hp,rfl⟩:=Option.map_eq_some_iff.1 h
 have h1:=List.mem_of_find?_eq_some hp
 have h2:=List.find?_some hp
 rw [List.mem_reverse] at h1
 obtain ⟨_,_,h3⟩:=List.mem_zipIdx h1
 exact ⟨p.1,by simpa using List.mk_mem_zipIdx_iff_getElem?.1 h1,by simpa using h2⟩
def Ci:Nat→SR→SQ→SA
 | 0,st,s=>match Fv st.steps s with
  | some i=>⟨st,0,i⟩
  | none=>⟨st,110,0⟩
 | fuel+1,st,s=>match Fv st.steps s with
  | some i=>⟨st,0,i⟩
  | none=>
   if st.left=0 then ⟨st,110,0⟩ else
   if (Ak st.rows s).1=14 then Bq (Ci fuel) s (Bj st.rows s) ⟨st.rows,st.steps,st.left - 1⟩ []
   else if (Af st.rows s (Ak st.rows s).1 (Ak st.rows s).2).err≠0 then ⟨⟨st.rows,st.steps,st.left - 1⟩,(Af st.rows s (Ak st.rows s).1 (Ak st.rows s).2).err,0⟩
   else Em (Ci fuel) s (Ak st.rows s).1 (Ak st.rows s).2 (Af st.rows s (Ak st.rows s).1 (Ak st.rows s).2).seqs ⟨(Af st.rows s (Ak st.rows s).1 (Ak st.rows s).2).rows,st.steps,st.left - 1⟩ []
theorem Ub:∀ (fuel:Nat) (st:SR) (s:SQ),InvS st→Wf st.rows s→(Ci fuel st s).err=0→GoodA st s (Ci fuel st s):=by
 intro fuel
 induction fuel with
 | zero=>
  intro st s hi wf he
  rw [Ci] at he ⊢
  cases hf:Fv st.steps s with
  | some i=>
   rw [hf] at he
   simp only at he ⊢
   obtain ⟨x,hx,e⟩:=Qf hf
   exact ⟨hi,List.prefix_refl _,x,hx,e⟩
  | none=>rw [hf] at he;cases he
 | succ fuel ih=>
  intro st s hi wf he
  rw [Ci] at he ⊢
  cases hf:Fv st.steps s with
  | some i=>
   rw [hf] at he
   simp only at he ⊢
   obtain ⟨x,hx,e⟩:=Qf hf
   exact ⟨hi,List.prefix_refl _,x,hx,e⟩
  | none=>
   rw [hf] at he
   simp only at he ⊢
   by_cases hl:st.left=0
   ·rw [if_pos hl] at he;cases he
   ·rw [if_neg hl] at he ⊢
    have hi1:InvS ⟨st.rows,st.steps,st.left - 1⟩:=hi.ext hi.ok (List.prefix_refl _) _
    by_cases h14:(Ak st.rows s).1=14
    ·rw [if_pos h14] at he ⊢
     exact (bJ ih s (Bj st.rows s) ⟨st.rows,st.steps,st.left - 1⟩ [] hi1 wf (fun c hc=>Zz hc) (bN hi.ok wf h14) he).from (List.prefix_refl _)
    ·rw [if_neg h14] at he ⊢
     by_cases hz:(Af st.rows s (Ak st.rows s).1 (Ak st.rows s).2).err=0
     ·rw [if_neg (by simpa using hz)] at he ⊢
      have hP:=Qk hi.ok wf h14 hz
      generalize Af st.rows s (Ak st.rows s).1 (Ak st.rows s).2=p at *
      have hi2:=hi1.ext hP.ok hP.pre (st.left - 1)
      exact (mT ih s _ _ p.seqs ⟨p.rows,st.steps,st.left - 1⟩ [] hi2 (wf.ext hP.pre) hP.inv.wf hP.inv.sound hP.inv.back he).from hP.pre
     ·rw [if_pos hz] at he
      exact absurd he hz
end Go.Dk
end
section
namespace Go.Dk
open Go.RowKit Go.Maps Go.MapKept
open Go.Proofs hiding intOf
def SQ.val (s:SQ):Value:=if s.left<2 ^ 1024 then .agg (Ad s.left s.goal).toArray else .agg #[.int .i64 (s.left:Int),.int .i64 (s.goal:Int)]
theorem SQ.val_yes {s:SQ} (h:s.left<2 ^ 1024):s.val = .agg (Ad s.left s.goal).toArray:=if_pos h
theorem SQ.val_inj:∀ x y:SQ,x.val=y.val→x=y:=by
 intro x y h
 obtain ⟨l,g⟩:=x
 obtain ⟨l',g'⟩:=y
 unfold SQ.val at h
 simp only at h
 by_cases h1:l<2 ^ 1024
 ·by_cases h2:l'<2 ^ 1024
  ·rw [if_pos h1,if_pos h2] at h
   have h0:Ad l g=Ad l' g':=by injection h with h;simpa using h
   unfold Ad at h0
   have h3:=List.append_inj h0 (by simp [Bg])
   have h4:=pR h1 h2 h3.1
   have h5:=h3.2
   simp at h5
   have h6:g=g':=by exact_mod_cast h5
   rw [h4,h6]
  ·rw [if_pos h1,if_neg h2] at h
   have:=congrArg (fun v=>match v with | Value.agg a=>a.size | _=>0) h
   simp [Ai] at this
 ·by_cases h2:l'<2 ^ 1024
  ·rw [if_neg h1,if_pos h2] at h
   have:=congrArg (fun v=>match v with | Value.agg a=>a.size | _=>0) h
   simp [Ai] at this
  ·rw [if_neg h1,if_neg h2] at h
   simp at h
   obtain ⟨e1,e2⟩:=h
   have e1:l=l':=by exact_mod_cast e1
   have e2:g=g':=by exact_mod_cast e2
   rw [e1,e2]
theorem Xm {rows:List ND} (ok:Ok rows) {s:SQ} (wf:Wf rows s):s.left<2 ^ 1024:=by
 apply Nat.lt_pow_two_of_testBit
 intro i hi
 cases h:s.left.testBit i with
 | false=>rfl
 | true=>
  have:=wf.left i h
  have:=ok.le
  omega
theorem Ti:Keyed Tryz.prog 86:=
 Keyed.of_law (deep_law_laid (by kernel_rfl) (m:=4) (by omega) (of_decide_eq_true (by kernel_rfl)) (by kernel_rfl) (by rw [Tryz.underlying86]))
set_option maxRecDepth 100000 in
theorem Qu (m g:Nat) (hg:(Lit.int .i64 (g:Int)).wf=true):∃ kl,keyOf Tryz.prog 86 (.agg (Ad m (g:Int)).toArray)=some kl:=by
 apply Option.isSome_iff_exists.1
 unfold keyOf
 rw [Tryz.underlying86]
 simp only
 have e1:(Program.keyType Tryz.prog 86)=true:=by kernel_rfl
 have k0:Tryz.prog.cellsOf 86=17:=by kernel_rfl
 have e2:(Value.agg (Ad m (g:Int)).toArray).formed Tryz.prog 86=true:=by
  simp [Value.formed,Tryz.underlying86,k0,Ai]
 rw [e1,e2]
 simp only [Bool.and_self,if_true]
 have e0:2<Tryz.prog.types.size:=of_decide_eq_true (by kernel_rfl)
 have e3:∃ d,Tryz.prog.types.size=d+2:=⟨Tryz.prog.types.size - 2,by omega⟩
 obtain ⟨d,hd⟩:=e3
 rw [hd]
 have k1:Tryz.prog.cellsOf 77=16:=by kernel_rfl
 have k2:Tryz.prog.cellsOf 75=1:=by kernel_rfl
 have k3:Tryz.prog.cellsOf 3=1:=by kernel_rfl
 have hw:∀ i,(Lit.int .u64 (wd m i:Int)).wf=true:=fun i=>by
  have:=Qg m i
  exact WalkArith.wf_u64 (by omega)
 have hr:List.range 16 = [0,1,2,3,4,5,6,7,8,9,10,11,12,13,14,15]:=rfl
 have hc:Ad m (g:Int) = [.int .u64 (wd m 0:Int),.int .u64 (wd m 1:Int),.int .u64 (wd m 2:Int),.int .u64 (wd m 3:Int),.int .u64 (wd m 4:Int),.int .u64 (wd m 5:Int),.int .u64 (wd m 6:Int),.int .u64 (wd m 7:Int),.int .u64 (wd m 8:Int),.int .u64 (wd m 9:Int),.int .u64 (wd m 10:Int),.int .u64 (wd m 11:Int),.int .u64 (wd m 12:Int),.int .u64 (wd m 13:Int),.int .u64 (wd m 14:Int),.int .u64 (wd m 15:Int),.int .i64 (g:Int)]:=rfl
 simp [Program.keyLits,Tryz.underlying86,Tryz.underlying77,Tryz.underlying75,Tryz.underlying3,Value.cells,hc,hr,k0,k1,k2,k3,hw,hg]
def En (x:SS) (kv:Value):List Value:=Ad x.seq.left x.seq.goal++[.bool x.proved,.int .i64 x.rule,.int .i64 (x.main:Int),kv]
theorem Ib (x:SS) (kv:Value):(En x kv).length=21:=by simp [En,Ai]
def Ih:List SS→List Value→List Value
 | x::xs,v::vs=>En x v++Ih xs vs
 | _,_=>[]
theorem Oh:∀ (xs:List SS) (vs:List Value) (x:SS) (v:Value),xs.length=vs.length→Ih (xs++[x]) (vs++[v])=Ih xs vs++En x v
 | [],[],x,v,_=>by simp [Ih]
 | y::ys,u::us,x,v,h=>by simp [Ih,Oh ys us x v (by simpa using h)]
 | [],_::_,_,_,h=>by simp at h
 | _::_,[],_,_,h=>by simp at h
theorem Ro:∀ (xs:List SS) (vs:List Value) (i j:Nat) (x:SS) (v:Value),xs.length=vs.length→xs[i]? = some x→vs[i]? = some v→j<21→(Ih xs vs)[i * 21+j]? = (En x v)[j]?
 | y::ys,u::us,0,j,x,v,_,hx,hv,hj=>by
  simp at hx hv
  subst hx hv
  simp only [Ih,Nat.zero_mul,Nat.zero_add]
  rw [List.getElem?_append_left (by rw [Ib];exact hj)]
 | y::ys,u::us,i+1,j,x,v,h,hx,hv,hj=>by
  simp only [Ih]
  rw [List.getElem?_append_right (by rw [Ib];omega),Ib,show (i+1) * 21+j - 21=i * 21+j by omega]
  exact Ro ys us i j x v (by simpa using h) (by simpa using hx) (by simpa using hv) hj
 | [],_,_,_,_,_,_,hx,_,_=>by simp at hx
 | _::_,[],_,_,_,_,h,_,_,_=>by simp at h
structure KidV (K:FP) (w:World) (v:Value) (kids:List Nat):Prop where
 rd:Rd w v kids.length 1 (ints (kids.map fun i:Nat=>(i:Int)))
 o:∀ a m c,v = .slice (some a) m c→K a.block
theorem KidV.same {K K':FP} {w w':World} {v:Value} {kids:List Nat} (h:KidV K w v kids) (hk:∀ b,K b→w'.heap[b]? = w.heap[b]?) (hs:∀ b,K b→K' b):KidV K' w' v kids:=by
 refine ⟨?_,fun a m c e=>hs _ (h.o a m c e)⟩
 obtain ⟨⟨a,c,e,h1,h2⟩,hl⟩:=h.rd
 exact ⟨⟨a,c,e,h1,fun ad ha=>⟨(h2 ad ha).1,fun j u hu=>by
  have h3:=(h2 ad ha).2 j u hu
  have h4:=hk ad.block (h.o ad _ _ (by rw [e,ha]))
  unfold World.cell? at h3 ⊢
  simp only [h4]
  exact h3⟩⟩,hl⟩
structure FinM (F G K:FP) (w:World) (pf:Nat) (t:Value) (st:SR) (vis:Int) (sv:Value) (mb:Nat) (kvs:List Value):Prop where
 tab:Cm F w t st.rows
 gin:G.in_ w
 kin:K.in_ w
 ap:F.apart G
 kf:K.apart F
 kg:K.apart G
 blk:w.heap[pf]? = some (.cells #[t,sv,.map (some mb),.int .i64 (st.left:Int),.int .i64 vis] 118 (0,0))
 row:w.ownsRow 0 122 21 sv st.steps.length (Ih st.steps kvs)
 len:st.steps.length=kvs.length
 kid:∀ (i:Nat) (x:SS) (v:Value),st.steps[i]? = some x→kvs[i]? = some v→KidV K w v x.kids
 map:TM Tryz.prog 86 SQ.val Jq w mb (Fv st.steps)
 gp:G pf
 gm:G mb
 gs:∀ g,sv.ownBlock=some g→G g
def Fin (F G K:FP) (w:World) (pf:Nat) (t:Value) (st:SR) (vis:Int):Prop:=∃ sv mb kvs,FinM F G K w pf t st vis sv mb kvs
def H3 (F G K:FP):FP:=fun b=>F b∨G b∨K b
section
variable {F G K:FP} {w w':World} {pf:Nat} {t:Value} {st:SR} {vis:Int} {sv:Value} {mb:Nat} {kvs:List Value}
theorem FinM.in_ (h:FinM F G K w pf t st vis sv mb kvs):(H3 F G K).in_ w:=fun b hf=>hf.elim (h.tab.in_ b) fun hf=>hf.elim (h.gin b) (h.kin b)
theorem FinM.below (h:FinM F G K w pf t st vis sv mb kvs) (hb:Below w.heap.size w w'):FinM F G K w' pf t st vis sv mb kvs:=
 ⟨h.tab.below hb,h.gin.below hb,h.kin.below hb,h.ap,h.kf,h.kg,(hb.block _ (h.gin _ h.gp)).trans h.blk,Bd h.row fun g hg=>hb.block g (h.row.lt g hg).2,h.len,
  fun i x v hx hv=>(h.kid i x v hx hv).same (fun b hk=>hb.block b (h.kin b hk)) (fun _ h=>h),h.map.below hb,h.gp,h.gm,h.gs⟩
theorem Fin.below (h:Fin F G K w pf t st vis) (hb:Below w.heap.size w w'):Fin F G K w' pf t st vis:=by
 obtain ⟨sv,mb,kvs,h⟩:=h
 exact ⟨sv,mb,kvs,h.below hb⟩
theorem Fin.in_ (h:Fin F G K w pf t st vis):(H3 F G K).in_ w:=by
 obtain ⟨sv,mb,kvs,h⟩:=h
 exact h.in_
theorem FinM.tabbed {F':FP} {rows':List ND} (h:FinM F G K w pf t st vis sv mb kvs) (hk:KeptF F w F' w') (ht:Cm F' w' t rows'):FinM F' G K w' pf t ⟨rows',st.steps,st.left⟩ vis sv mb kvs:=by
 have hn:∀ b,G b→¬ F b:=fun b hg hf=>h.ap b hf hg
 refine ⟨ht,fun b hg=>Nat.lt_of_lt_of_le (h.gin b hg) hk.size,fun b hg=>Nat.lt_of_lt_of_le (h.kin b hg) hk.size,hk.apart h.gin h.ap,fun b hb hf=>h.kf b hb (hk.sub b (h.kin b hb) hf),h.kg,hk.box h.blk (hn _ h.gp),Bd h.row fun g hg=>hk.block g (h.row.lt g hg).2 (hn _ (h.gs g hg)),h.len,
  fun i x v hx hv=>(h.kid i x v hx hv).same (fun b hb=>hk.block b (h.kin b hb) (h.kf b hb)) (fun _ h=>h),?_,h.gp,h.gm,h.gs⟩
 exact h.map.same (hk.block mb h.map.lt (hn _ h.gm))
theorem KeptF.tab3 {F':FP} (hk:KeptF F w F' w') (hg:G.in_ w) (hkk:K.in_ w):KeptF (H3 F G K) w (H3 F' G K) w':=
 ⟨hk.os,hk.tape,hk.output,hk.size,fun b hb hf=>hf.imp (hk.sub b hb) id,fun b hf=>hf.elim (hk.lt b) fun h=>Nat.lt_of_lt_of_le (h.elim (hg b) (hkk b)) hk.size,fun b hb hn=>hk.block b hb fun hf=>hn (.inl hf)⟩
theorem KeptF.fin3 {G':FP} (hk:KeptF G w G' w') (hf:F.in_ w) (hkk:K.in_ w):KeptF (H3 F G K) w (H3 F G' K) w':=
 ⟨hk.os,hk.tape,hk.output,hk.size,fun b hb h=>h.imp id fun h=>h.imp (hk.sub b hb) id,fun b h=>h.elim (fun h=>Nat.lt_of_lt_of_le (hf b h) hk.size) fun h=>h.elim (hk.lt b) fun h=>Nat.lt_of_lt_of_le (hkk b h) hk.size,fun b hb hn=>hk.block b hb fun h=>hn (.inr (.inl h))⟩
theorem FinM.beside {X:FP} (h:FinM F G K w pf t st vis sv mb kvs) (hk:KeptF X w X w') (hx:(H3 F G K).apart X):FinM F G K w' pf t st vis sv mb kvs:=by
 have hb:∀ b,H3 F G K b→w'.heap[b]? = w.heap[b]?:=fun b hf=>hk.block b (h.in_ b hf) (hx b hf)
 exact ⟨h.tab.kept hk (fun b hf=>hx b (.inl hf)),fun b hg=>Nat.lt_of_lt_of_le (h.gin b hg) hk.size,fun b hg=>Nat.lt_of_lt_of_le (h.kin b hg) hk.size,h.ap,h.kf,h.kg,(hb _ (.inr (.inl h.gp))).trans h.blk,Bd h.row fun g hg=>hb g (.inr (.inl (h.gs g hg))),h.len,
  fun i x v hx hv=>(h.kid i x v hx hv).same (fun b hk=>hb b (.inr (.inr hk))) (fun _ h=>h),h.map.same (hb mb (.inr (.inl h.gm))),h.gp,h.gm,h.gs⟩
theorem FinM.more {X:FP} (h:FinM F G K w pf t st vis sv mb kvs) (hx:X.in_ w) (hf:X.apart F) (hg:X.apart G):FinM F G (fun b=>K b∨X b) w pf t st vis sv mb kvs:=
 ⟨h.tab,h.gin,fun b hb=>hb.elim (h.kin b) (hx b),h.ap,fun b hb=>hb.elim (h.kf b) (hf b),fun b hb=>hb.elim (h.kg b) (hg b),h.blk,h.row,h.len,fun i x v hx hv=>(h.kid i x v hx hv).same (fun _ _=>rfl) (fun _ h=>.inl h),h.map,h.gp,h.gm,h.gs⟩
end
end Go.Dk
end
section
namespace Go.Dk
open Go.RowKit Go.Maps Go.MapKept
open Go.Proofs hiding intOf
def iY (p:Value):_root_.Go.Sem Value:=Instr.loadAt 122 p
theorem Oz (p:Value):Instr.loadAt 122 p=iY p:=rfl
theorem Lx {W:World} {p:Value} (h:Bf 122 W p):(iY p).run Tryz.prog W = .ok (Dq 122 W p) W:=by
 unfold Dq
 rw [dif_pos h]
 exact Classical.choose_spec h
theorem sX:∃ d,Tryz.prog.underlying 122=some d∧d.isRow=true:=row_of (by kernel_rfl)
theorem tN:(Tryz.prog.info? 122).map (·.size)=some 21:=by kernel_rfl
theorem jE:(Tryz.prog.info? 122).map (fun i=>(i.zero,i.size,i.bytes))=some (some (.agg #[.int .u64 0,.int .u64 0,.int .u64 0,.int .u64 0,.int .u64 0,.int .u64 0,.int .u64 0,.int .u64 0,.int .u64 0,.int .u64 0,.int .u64 0,.int .u64 0,.int .u64 0,.int .u64 0,.int .u64 0,.int .u64 0,.int .i64 0,.bool false,.int .i64 0,.int .i64 0,.slice none 0 0]),21,184):=by kernel_rfl
theorem Ae.loadsStep {W:World} {b:Nat} {x:SS} {kv:Value} {T:TypeId} (h:Ae W b (En x kv) T):Vy 122 W (.pointer (some ⟨b,0,none⟩)) (.agg (En x kv).toArray):=by
 obtain ⟨d,hu,hd⟩:=sX
 exact run_loadAt_mid (P:=Tryz.prog) W b 0 122 (En x kv) d (h.range (by simp)) hu hd (by rw [Ib];exact tN)
theorem Ae.loadsStepSeq {W:World} {b:Nat} {x:SS} {kv:Value} {T:TypeId} (h:Ae W b (En x kv) T):Vy 86 W (.pointer (some ⟨b,0,none⟩)) (.agg (Ad x.seq.left x.seq.goal).toArray):=by
 obtain ⟨d,hu,hd⟩:=fR
 refine run_loadAt_mid (P:=Tryz.prog) W b 0 86 (Ad x.seq.left x.seq.goal) d (h.range ?_) hu hd (by rw [Ai];exact cE)
 unfold En
 rw [List.drop_zero,List.take_append_of_le_length (Nat.le_refl _),List.take_of_length_le (Nat.le_refl _)]
theorem bD (x:SS) (kv:Value) (z:Array Value) (hz:z.size=21):List.foldl (fun (cs:Array Value) (x:Value × Nat)=>cs.setIfInBounds x.2 x.1) z (En x kv).zipIdx=(En x kv).toArray:=by
 rw [eW (En x kv) 0 _ (by rw [Ib];omega)]
 simp
theorem bE {v:Value} {n size:Nat} {w:World} {xs:List Value} (h:Rd w v n size xs):v.oneCell'=true:=by
 obtain ⟨⟨a,c,rfl,_⟩,_⟩:=h
 rfl
theorem iE (x:SS) (kv:Value) (h:kv.oneCell'=true):∀ y ∈ En x kv,y.oneCell'=true:=by
 intro y hy
 unfold En at hy
 rcases List.mem_append.1 hy with hy | hy
 ·exact (Array.all_eq_true_iff_forall_mem.1 (dX x.seq.left x.seq.goal)) y (by simpa using hy)
 ·simp at hy
  rcases hy with rfl | rfl | rfl | rfl<;>first | rfl | exact h
def vJ (F G K:FP) (w:World) (pf:Nat) (t:Value) (st:SR) (vis:Int) (x:SS) (e:Ending) (w':World):Prop:=
 e = .returned (.tuple #[.int .i64 (st.steps.length:Int),.int .i64 0])∧∃ G',KeptF G w G' w'∧Fin F G' K w' pf t ⟨st.rows,st.steps++[x],st.left⟩ vis
theorem pB (l:List SS) (x:SS):Fv (l++[x])=upd (Fv l) x.seq (some l.length):=by
 funext s
 rw [kG]
 by_cases h:x.seq=s
 ·subst h;rw [if_pos rfl,upd_same]
 ·rw [if_neg h,Dw _ _ (fun e=>h e.symm)]
theorem vE {F G K:FP} {w wa w2 w4:World} {pf:Nat} {t:Value} {st:SR} {vis:Int} {a:Option Addr} {c mb:Nat} {kvs:List Value} {x:SS} {kv:Value} {g cap:Nat} (hm:FinM F G K w pf t st vis (.slice a st.steps.length c) mb kvs) (hk:KidV K w kv x.kids)
  (hba:Below w.heap.size w wa) (ho:Only mb wa w2) (hmap:TM Tryz.prog 86 SQ.val Jq w2 mb (upd (Fv st.steps) x.seq (some st.steps.length)))
  (hown:w4.ownsRow 0 122 21 (.slice (some ⟨g,0,none⟩) (st.steps.length+1) cap) (st.steps.length+1) (Ih st.steps kvs++En x kv)) (hgr:w2.grownBy w4 (Value.slice a st.steps.length c).ownBlock)
  (hat:(Value.slice a st.steps.length c).ownBlock=some g∨w.heap.size≤g) (hgl:g<w4.heap.size) (hb4:w4.heap[pf]? = some (.cells #[t,.slice a st.steps.length c,.map (some mb),.int .i64 (st.left:Int),.int .i64 vis] 118 (0,0)))
  (hvm:(Value.slice a st.steps.length c).ownBlock≠some mb) (hpm:pf≠mb) :
  ∃ G',KeptF G w G' (w4.setCell ⟨pf,1,none⟩ (.slice (some ⟨g,0,none⟩) (st.steps.length+1) cap))∧Fin F G' K (w4.setCell ⟨pf,1,none⟩ (.slice (some ⟨g,0,none⟩) (st.steps.length+1) cap)) pf t ⟨st.rows,st.steps++[x],st.left⟩ vis:=by
 have hgp:g≠pf:=fun e=>own_ne hown hb4 (by intro cur fr e;cases e) (by rw [e];rfl)
 have hsz:w.heap.size≤w4.heap.size:=Nat.le_trans hba.size (Nat.le_trans (Nat.le_of_eq ho.size.symm) hgr.size)
 have hG:∀ b,b<w.heap.size→(G b∨b=g)→G b:=fun b hb h=>by
  rcases h with h | rfl
  ·exact h
  ·rcases hat with h | h
   ·exact hm.gs _ h
   ·omega
 have hK:KeptF G w (fun b=>G b∨b=g) (w4.setCell ⟨pf,1,none⟩ (.slice (some ⟨g,0,none⟩) (st.steps.length+1) cap)):=by
  refine ⟨hgr.os.trans (ho.os.trans hba.os),hgr.tape.trans (ho.tape.trans hba.tape),hgr.output.trans (ho.output.trans hba.output),by simp;exact hsz,hG,fun b hb=>?_,fun b hb hn=>?_⟩
  ·rcases hb with hb | rfl
   ·have:=hm.gin b hb;simp;omega
   ·simpa using hgl
  ·rw [Below.heap_setCell _ _ _ _ (fun e=>hn (by rw [e];exact hm.gp)),hgr.block b (by have:=hba.size;have:=ho.size;omega) (fun e=>hn (hm.gs b e.symm)),ho.block b (fun e=>hn (e▸hm.gm))]
   exact hba.block b hb
 refine ⟨_,hK,.slice (some ⟨g,0,none⟩) (st.steps.length+1) cap,mb,kvs++[kv],hm.tab.kept hK hm.ap,hK.lt,fun b hb=>Nat.lt_of_lt_of_le (hm.kin b hb) hK.size,fun b hf hg=>?_,hm.kf,fun b hb hg=>hm.kg b hb (hG b (hm.kin b hb) hg),?_,?_,?_,?_,?_,.inl hm.gp,.inl hm.gm,fun b hb=>?_⟩
 ·exact hm.ap b hf (hG b (hm.tab.in_ b hf) hg)
 ·rw [Di hb4];rfl
 ·rw [Oh _ _ _ _ hm.len,List.length_append]
  exact Bd hown fun b hb=>Below.heap_setCell _ _ _ _ (fun e=>hgp (by
   have:g=b:=by simpa [Value.ownBlock] using hb
   exact this.trans e))
 ·simp [hm.len]
 ·intro i y v hy hv
  rw [List.getElem?_append] at hy hv
  have hk2:∀ b,K b→(w4.setCell ⟨pf,1,none⟩ (.slice (some ⟨g,0,none⟩) (st.steps.length+1) cap)).heap[b]? = w.heap[b]?:=fun b hb=>hK.block b (hm.kin b hb) (hm.kg b hb)
  by_cases hi:i<st.steps.length
  ·rw [if_pos hi] at hy
   rw [if_pos (by rw [← hm.len];exact hi)] at hv
   exact (hm.kid i y v hy hv).same hk2 (fun _ h=>h)
  ·rw [if_neg hi] at hy
   rw [if_neg (by rw [← hm.len];exact hi)] at hv
   have h1:=(List.getElem?_eq_some_iff.1 hy).1
   simp at h1
   rw [h1] at hy
   rw [← hm.len,h1] at hv
   simp at hy hv
   subst hy hv
   exact hk.same hk2 (fun _ h=>h)
 ·simp only
  rw [pB]
  have h4:=hmap.same (hgr.block mb hmap.lt (fun e=>hvm e.symm))
  exact h4.same (Below.heap_setCell _ _ _ _ (fun e=>hpm e.symm))
 ·have:g=b:=by simpa [Value.ownBlock] using hb
  exact .inr this.symm
attribute [local go_sem ↓] Dv Oz
attribute [local go_sem] Du Lx
set_option maxRecDepth 100000 in
set_option maxHeartbeats 2000000 in
theorem wS (F G K:FP) (w:World) (pf:Nat) (t:Value) (st:SR) (vis:Int) (h:Fin F G K w pf t st vis) (x:SS) (kv:Value) (hx:x.seq.left<2 ^ 1024) (hg:x.seq.goal<2 ^ 62) (hk:KidV K w kv x.kids) (hsl:st.steps.length<4096) :
  Calls Tryz.prog 75 #[.pointer (some ⟨pf,0,none⟩),.agg (En x kv).toArray] w (vJ F G K w pf t st vis x):=by
 obtain ⟨sv,mb,kvs,hm⟩:=h
 have H0:=Aa (hm.below (Ab w (.cells (En x kv).toArray 122)))
 have HX:=Aa (Ae.new w (En x kv) 122)
 obtain ⟨a,c,rfl⟩:=Ba hm.row
 have HK:=Aa hk
 have HM:=Aa hm
 obtain ⟨kl,hkl⟩:=Qu x.seq.left x.seq.goal (WalkArith.wf_i64 (by omega))
 rw [← SQ.val_yes (s:=x.seq) hx] at hkl
 obtain ⟨w2,hrun,hmap,honly⟩:=TM.put (w:=(w.alloc (.cells (En x kv).toArray 122)).drew) (H0.o.map.below (below_drewN _ 1)) Ti SQ.val_inj Tryz.underlying116 hkl st.steps.length
 rw [SQ.val_yes hx] at hrun
 have c0:(w.alloc (.cells (En x kv).toArray 122)).cell? ⟨pf,1,none⟩=some (.slice a st.steps.length c):=cell_of H0.o.blk rfl
 have c1:(w.alloc (.cells (En x kv).toArray 122)).cell? ⟨pf,2,none⟩=some (.map (some mb)):=cell_of H0.o.blk rfl
 have hl1:Bf 86 (w.alloc (.cells (En x kv).toArray 122)).drew (.pointer (some ⟨w.heap.size,0,none⟩)):=(An (HX.o.below (below_drewN _ 1)).loadsStepSeq).1
 have hl2:Dq 86 (w.alloc (.cells (En x kv).toArray 122)).drew (.pointer (some ⟨w.heap.size,0,none⟩))=_:=(An (HX.o.below (below_drewN _ 1)).loadsStepSeq).2
 have HMP:=Aa hmap
 have HON:=Aa honly
 clear hm hk hkl hmap honly
 have hrun':(Instr.mapUpdate 116 (.map (some mb)) (.agg (Ad x.seq.left x.seq.goal).toArray) (.int .i64 (st.steps.length:Int))).run Tryz.prog (w.alloc (.cells (En x kv).toArray 122)).drew = .ok () w2:=hrun
 clear hrun
 go_enter Tryz.func75,Tryz.ntmps75
 go_wp2
 go_region
 go_wp2
 have hne:mb≠w.heap.size:=Nat.ne_of_lt HM.o.map.lt
 have HNE:=Aa hne
 have hnp:pf≠mb:=fun e=>by
  have h1:=HM.o.blk
  obtain ⟨l,⟨es,clock,h2,_⟩,_⟩:=HM.o.map
  rw [e,h2] at h1
  cases h1
 have HX2:Hid (Ae w2 w.heap.size (En x kv) 122):=(HON.o.block _ (Ne.symm hne)).trans (HX.o.below (below_drewN _ 1))
 have m1:w2.heap[pf]? = some (.cells #[t,.slice a st.steps.length c,.map (some mb),.int .i64 (st.left:Int),.int .i64 vis] 118 (0,0)):=(HON.o.block _ hnp).trans ((below_drewN (w.alloc (.cells (En x kv).toArray 122)) 1).block pf (lt_of_block H0.o.blk) |>.trans H0.o.blk)
 have hvm:(Value.slice a st.steps.length c).ownBlock≠some mb:=by
  obtain ⟨l,⟨es,clock,h2,_⟩,_⟩:=HM.o.map
  exact own_ne HM.o.row h2 (by intro cur fr e;cases e)
 have m2:w2.ownsRow 0 122 21 (.slice a st.steps.length c) st.steps.length (Ih st.steps kvs):=Bd H0.o.row fun g hg=>by
  exact (HON.o.block g (fun e=>hvm (e▸hg))).trans ((below_drewN (w.alloc (.cells (En x kv).toArray 122)) 1).block g (H0.o.row.lt g hg).2)
 have n1:(Value.slice a st.steps.length c).ownBlock≠some pf:=own_ne m2 m1 (by intro cur fr e;cases e)
 have N1:=Aa n1
 have d0:w2.cell? ⟨pf,1,none⟩=some (.slice a st.steps.length c):=cell_of m1 rfl
 have hl3:Bf 122 w2.drew (.pointer (some ⟨w.heap.size,0,none⟩)):=(An (HX2.o.below (below_drewN _ 1)).loadsStep).1
 have hl4:Dq 122 w2.drew (.pointer (some ⟨w.heap.size,0,none⟩))=_:=(An (HX2.o.below (below_drewN _ 1)).loadsStep).2
 have hsl2:=Ib x kv
 obtain ⟨i0,hi0,hz0,hz1,hz2⟩:=info_parts jE
 have lp:pf<w2.heap.size:=lt_of_block m1
 have M1:=Aa m1
 have M2:=Aa m2
 have HLS:Hid (st.steps.length<4096):=hsl
 have HVM:=Aa hvm
 have HPM:=Aa hnp
 clear hvm n1 m1 m2 hne hnp hl1 hl2 hrun' c0 c1 hx hg hsl
 go_region_law (refine step_append_lies _ rfl (.tmp 21) (.tmp 23) 80 rfl 0 122 i0 _ 21 184 Tryz.underlying80 hi0 hz0 hz1 hz2 rfl (by decide) _ st.steps.length (Ih st.steps kvs) (by simp [Act.eval];rfl) (by exact M2.o.alloc _) ⟨w2.heap.size,0,none⟩ 1 1 (En x kv) (by simp [Act.eval]) (Ib _ _) (by rw [bD _ _ _ rfl];exact World.news_of_block (Cd _ _ rfl)) (iE x kv (bE HK.o.rd)) (by decide) (by unfold maxLen;have:=HLS.o;omega) (by have:=HLS.o;omega) (by simp) _ rfl ?_;intro g cap w4 hown hgrow hat hlt;have hgr:w2.grownBy w4 (Value.slice a st.steps.length c).ownBlock:=Qo hgrow;have q1:=(hgr.block pf (lt_of_block M1.o) (Ne.symm N1.o)).trans M1.o;have q2:w4.cell? ⟨pf,1,none⟩=some (.slice a st.steps.length c):=cell_of q1 rfl;have q3:=Dt (i:=1) q1;have Q1:=Aa q1;clear q1 hgrow)
 all_goals
  as_aux_lemma=>
  have hf:=vE HM.o HK.o (Ac (Ab w (.cells (En x kv).toArray 122)) (below_drewN _ 1)) HON.o HMP.o hown hgr (hat.imp id (fun e=>by have:=HON.o.size;simp at this;simp at e;omega)) hlt Q1.o HVM.o HPM.o
  have HF:=Aa hf
  have k1:(w4.setCell ⟨pf,1,none⟩ (.slice (some ⟨g,0,none⟩) (st.steps.length+1) cap)).cell? ⟨pf,1,none⟩=some (.slice (some ⟨g,0,none⟩) (st.steps.length+1) cap):=by
   have:=Di Q1.o (i:=1) (.slice (some ⟨g,0,none⟩) (st.steps.length+1) cap)
   exact cell_of this rfl
  clear hf hown hgr hat hlt q2 q3 Q1 d0 hl3 hl4 lp hsl2
  generalize (w4.setCell ⟨pf,1,none⟩ (.slice (some ⟨g,0,none⟩) (st.steps.length+1) cap))=w5 at *
  go_wp2
  go_ret2
  exact ⟨by simp;unfold wrap64;have:=HLS.o;omega,HF.o⟩
end Go.Dk
end
section
namespace Go.Dk
structure Room (st:SR) (r:SA) (d:Nat):Prop where
 len:r.st.steps.length+r.st.left≤st.steps.length+st.left+d
 left:r.st.left≤st.left
theorem Ju (st:SR) (x:SS):Room st (Ho st x) 1:=⟨by simp [Ho];omega,Nat.le_refl _⟩
theorem Room.from {st st':SR} {r:SA} {d:Nat} (h:Room st' r d) (h1:st'.steps.length+st'.left≤st.steps.length+st.left) (h2:st'.left≤st.left):Room st r d:=⟨by have:=h.len;omega,Nat.le_trans h.left h2⟩
section
variable {dec:SR→SQ→SA} (D:∀ st s,Room st (dec st s) 0)
include D
theorem Pi (s:SQ) (k:Int) (main:Nat):∀ (todo:List SQ) (st:SR) (kids:List Nat),Room st (Em dec s k main todo st kids) 1:=by
 intro todo
 induction todo with
 | nil=>intro st kids;rw [Em];exact Ju _ _
 | cons p t ih=>
  intro st kids
  rw [Em]
  have hd:=D st p
  split
  ·exact ⟨by have:=hd.len;simp only;omega,hd.left⟩
  ·split
   ·exact (ih _ _).from (by have:=hd.len;omega) hd.left
   ·exact (Ju _ _).from (by have:=hd.len;omega) hd.left
theorem Ll (s:SQ):∀ (todo:List (Int × Nat)) (st:SR) (stuck:List Nat),Room st (Bq dec s todo st stuck) 1:=by
 intro todo
 induction todo with
 | nil=>intro st stuck;rw [Bq];exact Ju _ _
 | cons c t ih=>
  intro st stuck
  rw [Bq]
  simp only
  split
  ·exact ⟨by simp only;omega,Nat.le_refl _⟩
  ·cases hs:(Af st.rows s c.1 c.2).seqs with
   | nil=>exact (Ju _ _).from (by simp) (by simp)
   | cons q more=>
    simp only
    have hd:=D ⟨(Af st.rows s c.1 c.2).rows,st.steps,st.left⟩ q
    have h1:=hd.len
    have h2:=hd.left
    simp only at h1 h2
    split
    ·exact ⟨by simp only;omega,h2⟩
    ·split
     ·cases more with
      | nil=>exact (Ju _ _).from (by omega) h2
      | cons q2 m=>
       simp only
       have hd2:=D (dec ⟨(Af st.rows s c.1 c.2).rows,st.steps,st.left⟩ q).st q2
       have h3:=hd2.len
       have h4:=hd2.left
       split
       ·exact ⟨by simp only;omega,by simp only;omega⟩
       ·split
        ·exact (Ju _ _).from (by omega) (by omega)
        ·exact (Ju _ _).from (by omega) (by omega)
     ·exact (ih _ _).from (by omega) h2
end
theorem Jc:∀ (fuel:Nat) (st:SR) (s:SQ),Room st (Ci fuel st s) 0:=by
 intro fuel
 induction fuel with
 | zero=>
  intro st s
  rw [Ci]
  cases Fv st.steps s<;>exact ⟨Nat.le_refl _,Nat.le_refl _⟩
 | succ fuel ih=>
  intro st s
  rw [Ci]
  cases Fv st.steps s with
  | some i=>exact ⟨Nat.le_refl _,Nat.le_refl _⟩
  | none=>
   simp only
   split
   ·exact ⟨Nat.le_refl _,Nat.le_refl _⟩
   ·rename_i hl
    split
    ·have:=Ll ih s (Bj st.rows s) ⟨st.rows,st.steps,st.left - 1⟩ []
     have h1:=this.len
     have h2:=this.left
     simp only at h1 h2
     exact ⟨by omega,by omega⟩
    ·split
     ·exact ⟨by simp only;omega,by simp only;omega⟩
     ·have:=Pi ih s (Ak st.rows s).1 (Ak st.rows s).2 (Af st.rows s (Ak st.rows s).1 (Ak st.rows s).2).seqs ⟨(Af st.rows s (Ak st.rows s).1 (Ak st.rows s).2).rows,st.steps,st.left - 1⟩ []
      have h1:=this.len
      have h2:=this.left
      simp only at h1 h2
      exact ⟨by omega,by omega⟩
theorem Pm {rows:List ND} (_ok:Ok rows) {s:SQ} (wf:Wf rows s) (h14:(Ak rows s).1≠14):FitK rows s (Ak rows s).1 (Ak rows s).2:=by
 unfold Ak at h14 ⊢
 have key:∀ {p:Int→Bool} {x:Int × Nat},Bt rows s p=some x→(∀ k,p k=true→k≠0∧k≠2∧k≠8∧k≠9∧k≠11∧k≠12)→FitK rows s x.1 x.2:=by
  intro p x hx hp
  obtain ⟨h1,h2,h3⟩:=least_some hx
  obtain ⟨n0,n2,n8,n9,n11,n12⟩:=hp _ h3
  refine ⟨wf.left _ h1,?_⟩
  unfold Sz
  rw [if_neg n2,if_neg n8,if_neg n9,if_neg (by rintro (h | h)<;>omega)]
  simp [n0,h1,h2]
 cases h1:Bt rows s (fun k=>k == 1) with
 | some x=>rw [h1] at h14;exact key h1 (fun k hk=>by simp at hk;subst hk;decide)
 | none=>
  rw [h1] at h14
  simp only at h14 ⊢
  by_cases hg:s.left.testBit s.goal=true
  ·rw [if_pos hg]
   exact ⟨wf.goal,by simp [Sz,hg]⟩
  ·rw [if_neg hg] at h14 ⊢
   cases h2:Bt rows s (fun k=>decide (3≤k) && decide (k≤7)) with
   | some x=>rw [h2] at h14;exact key h2 (fun k hk=>by simp at hk;omega)
   | none=>
    rw [h2] at h14
    simp only at h14 ⊢
    by_cases h5:(rowAt rows s.goal).kind=5
    ·rw [if_pos h5]
     exact ⟨wf.goal,by simp [Sz,h5]⟩
    ·rw [if_neg h5] at h14 ⊢
     by_cases h3:(rowAt rows s.goal).kind=3
     ·rw [if_pos h3]
      exact ⟨wf.goal,by simp [Sz,h3]⟩
     ·rw [if_neg h3] at h14 ⊢
      cases h4:Bt rows s (fun k=>k == 10) with
      | some x=>rw [h4] at h14;exact key h4 (fun k hk=>by simp at hk;subst hk;decide)
      | none=>rw [h4] at h14;simp at h14
theorem Xh {rows:List ND} {s:SQ} (wf:Wf rows s) {c:Int × Nat} (h:IsC rows s c):FitK rows s c.1 c.2:=by
 rcases h with ⟨h1,h2,h4⟩ | ⟨h1,h2,h3⟩
 ·refine ⟨by rw [h2];exact wf.goal,?_⟩
  rcases h1 with h1 | h1<;>rw [h1,h2]<;>simp [Sz,h4]
 ·refine ⟨wf.left _ h2,?_⟩
  rw [h1]
  simp [Sz,h2,h3]
end Go.Dk
end
section
namespace Go.Dk
open Go.RowKit Go.Maps Go.MapKept
open Go.Proofs hiding intOf
structure FEnv (F G K:FP) (w:World):Prop where
 g:TabG w
 z:¬ H3 F G K 0
theorem TabG.of_block {w w':World} (h:TabG w) (e:w'.heap[0]? = w.heap[0]?):TabG w':=fun j hj=>(World.cell?_of_block e).trans (h j hj)
theorem FEnv.kept {F G K F' G' K':FP} {w w':World} (h:FEnv F G K w) (hk:KeptF (H3 F G K) w (H3 F' G' K') w'):FEnv F' G' K' w':=by
 have h0:0<w.heap.size:=World.block_lt_of_cell? _ _ (h.g 0 (by decide))
 exact ⟨h.g.of_block (hk.block 0 h0 h.z),fun hf=>h.z (hk.sub 0 h0 hf)⟩
theorem FEnv.below {F G K:FP} {w w':World} (h:FEnv F G K w) (hb:Below w.heap.size w w'):FEnv F G K w':=⟨h.g.below hb,h.z⟩
def Jh (F G K:FP) (w:World) (pf:Nat) (t:Value) (st:SR) (vis:Int) (r:SA) (e:Ending) (w':World):Prop:=
 e = .returned (.tuple #[.int .i64 (r.at_:Int),.int .i64 r.err])∧∃ F' G' K',KeptF (H3 F G K) w (H3 F' G' K') w'∧Fin F' G' K' w' pf t r.st (vis+((st.left - r.st.left:Nat):Int))
theorem bK {F G K:FP} {w w':World} {pf:Nat} {t:Value} {st:SR} {vis:Int} {r:SA} {e:Ending} (h:Fin F G K w pf t st vis) (hb:Below w.heap.size w w') (he:e = .returned (.tuple #[.int .i64 (r.at_:Int),.int .i64 r.err])) (hr:r.st=st):Jh F G K w pf t st vis r e w':=by
 refine ⟨he,F,G,K,KeptF.of_below h.in_ hb,?_⟩
 rw [hr]
 simpa using h.below hb
attribute [local go_sem ↓] Dv Oz
attribute [local go_sem] Du Lx
set_option maxRecDepth 100000 in
set_option maxHeartbeats 2000000 in
theorem Vh (F G K:FP) (w:World) (pf:Nat) (t:Value) (st:SR) (vis:Int) (h:Fin F G K w pf t st vis) (s:SQ) (hs:s.left<2 ^ 1024) (hg:s.goal<2 ^ 62) (i:Nat) (hf:Fv st.steps s=some i) :
  Calls Tryz.prog 53 #[.pointer (some ⟨pf,0,none⟩),.agg (Ad s.left s.goal).toArray] w (Jh F G K w pf t st vis ⟨st,0,i⟩):=by
 have H:=Aa h
 obtain ⟨sv,mb,kvs,hm⟩:=h
 have HB0:=Aa (Ab w (.cells (Ad s.left s.goal).toArray 86))
 have HX:=Aa (Ae.new w (Ad s.left s.goal) 86)
 have h0:=hm.below HB0.o
 obtain ⟨kl,hkl⟩:=Qu s.left s.goal (WalkArith.wf_i64 (by omega))
 rw [← SQ.val_yes (s:=s) hs] at hkl
 have hlk:∀ nq,(Instr.lookup 116 (.map (some mb)) (.agg (Ad s.left s.goal).toArray) true).run Tryz.prog ((w.alloc (.cells (Ad s.left s.goal).toArray 86)).drewN nq) = .ok (.tuple #[.int .i64 (i:Int),.bool true]) ((w.alloc (.cells (Ad s.left s.goal).toArray 86)).drewN nq):=fun nq=>by
  rw [← SQ.val_yes (s:=s) hs]
  exact TM.look_some (h0.map.below (below_drewN _ nq)) Ti SQ.val_inj Tryz.underlying116 hkl true hf
 have c2:(w.alloc (.cells (Ad s.left s.goal).toArray 86)).cell? ⟨pf,2,none⟩=some (.map (some mb)):=cell_of h0.blk rfl
 have hld:∀ nq,Bf 86 ((w.alloc (.cells (Ad s.left s.goal).toArray 86)).drewN nq) (.pointer (some ⟨w.heap.size,0,none⟩)):=fun nq=>(An (HX.o.below (below_drewN _ nq)).loads).1
 have hlv:∀ nq,Dq 86 ((w.alloc (.cells (Ad s.left s.goal).toArray 86)).drewN nq) (.pointer (some ⟨w.heap.size,0,none⟩))=_:=fun nq=>(An (HX.o.below (below_drewN _ nq)).loads).2
 clear hm h0 hkl hf
 go_enter Tryz.func53,Tryz.ntmps53
 go_wp2
 go_quiet (fail)
 go_wp2
 go_ret2
 exact bK H.o (Ac HB0.o (below_drewN _ _)) rfl rfl
set_option maxRecDepth 100000 in
set_option maxHeartbeats 2000000 in
theorem Xa (F G K:FP) (w:World) (pf:Nat) (t:Value) (st:SR) (vis:Int) (h:Fin F G K w pf t st vis) (s:SQ) (hs:s.left<2 ^ 1024) (hg:s.goal<2 ^ 62) (hf:Fv st.steps s=none) (hl:st.left=0) :
  Calls Tryz.prog 53 #[.pointer (some ⟨pf,0,none⟩),.agg (Ad s.left s.goal).toArray] w (Jh F G K w pf t st vis ⟨st,110,0⟩):=by
 have H:=Aa h
 obtain ⟨sv,mb,kvs,hm⟩:=h
 have HB0:=Aa (Ab w (.cells (Ad s.left s.goal).toArray 86))
 have HX:=Aa (Ae.new w (Ad s.left s.goal) 86)
 have h0:=hm.below HB0.o
 obtain ⟨kl,hkl⟩:=Qu s.left s.goal (WalkArith.wf_i64 (by omega))
 rw [← SQ.val_yes (s:=s) hs] at hkl
 have hz:∀ W,(zeroValue 3).run Tryz.prog W = .ok (.int .i64 0) W:=fun _=>by kernel_rfl
 have hlk:∀ nq,(Instr.lookup 116 (.map (some mb)) (.agg (Ad s.left s.goal).toArray) true).run Tryz.prog ((w.alloc (.cells (Ad s.left s.goal).toArray 86)).drewN nq) = .ok (.tuple #[.int .i64 0,.bool false]) ((w.alloc (.cells (Ad s.left s.goal).toArray 86)).drewN nq):=fun nq=>by
  rw [← SQ.val_yes (s:=s) hs]
  exact TM.look_none (h0.map.below (below_drewN _ nq)) Ti SQ.val_inj Tryz.underlying116 (hz _) hkl true hf
 have c2:(w.alloc (.cells (Ad s.left s.goal).toArray 86)).cell? ⟨pf,2,none⟩=some (.map (some mb)):=cell_of h0.blk rfl
 have hld:∀ nq,Bf 86 ((w.alloc (.cells (Ad s.left s.goal).toArray 86)).drewN nq) (.pointer (some ⟨w.heap.size,0,none⟩)):=fun nq=>(An (HX.o.below (below_drewN _ nq)).loads).1
 have hlv:∀ nq,Dq 86 ((w.alloc (.cells (Ad s.left s.goal).toArray 86)).drewN nq) (.pointer (some ⟨w.heap.size,0,none⟩))=_:=fun nq=>(An (HX.o.below (below_drewN _ nq)).loads).2
 have c3:(w.alloc (.cells (Ad s.left s.goal).toArray 86)).cell? ⟨pf,3,none⟩=some (.int .i64 0):=by
  have:=cell_of (i:=3) h0.blk rfl
  rw [this,hl];rfl
 clear hm h0 hkl hf hl hz
 go_enter Tryz.func53,Tryz.ntmps53
 go_wp2
 go_quiet (fail)
 go_wp2
 go_ret2
 exact bK H.o (Ac HB0.o (below_drewN _ _)) rfl rfl
theorem FinM.set {F G K:FP} {w w':World} {pf:Nat} {t:Value} {st:SR} {vis:Int} {sv:Value} {mb:Nat} {kvs:List Value} (h:FinM F G K w pf t st vis sv mb kvs) (ho:Only pf w w') {l:Nat} {v:Int} (hb:w'.heap[pf]? = some (.cells #[t,sv,.map (some mb),.int .i64 (l:Int),.int .i64 v] 118 (0,0))) :
  KeptF G w G w'∧FinM F G K w' pf t ⟨st.rows,st.steps,l⟩ v sv mb kvs:=by
 have hk:KeptF G w G w':=⟨ho.os,ho.tape,ho.output,Nat.le_of_eq ho.size.symm,fun _ _ h=>h,fun b hb=>by rw [ho.size];exact h.gin b hb,fun b _ hn=>ho.block b (fun e=>hn (e▸h.gp))⟩
 have hpm:mb≠pf:=fun e=>by
  have h1:=h.blk
  obtain ⟨l,⟨es,clock,h2,_⟩,_⟩:=h.map
  rw [← e,h2] at h1
  cases h1
 have hps:sv.ownBlock≠some pf:=own_ne h.row h.blk (by intro cur fr e;cases e)
 refine ⟨hk,h.tab.kept hk h.ap,hk.lt,fun b hb=>by rw [ho.size];exact h.kin b hb,h.ap,h.kf,h.kg,hb,Bd h.row fun g hg=>ho.block g (fun e=>hps (e▸hg)),h.len,fun i x v hx hv=>(h.kid i x v hx hv).same (fun b hb=>hk.block b (h.kin b hb) (h.kg b hb)) (fun _ h=>h),h.map.same (ho.block mb hpm),h.gp,h.gm,h.gs⟩
theorem We {F G K:FP} {w:World} {pf:Nat} {t:Value} {st:SR} {vis:Int} {sv:Value} {mb:Nat} {kvs:List Value} (h:FinM F G K w pf t st vis sv mb kvs) (h0:0<st.left) :
  KeptF G w G ((w.setCell ⟨pf,3,none⟩ (.int .i64 ((st.left:Int) - 1))).setCell ⟨pf,4,none⟩ (.int .i64 (vis+1)))∧FinM F G K ((w.setCell ⟨pf,3,none⟩ (.int .i64 ((st.left:Int) - 1))).setCell ⟨pf,4,none⟩ (.int .i64 (vis+1))) pf t ⟨st.rows,st.steps,st.left - 1⟩ (vis+1) sv mb kvs:=by
 refine h.set ((Aq w pf 3 _).trans (Aq _ pf 4 _)) ?_
 rw [Di (Di h.blk _),show ((st.left:Int) - 1)=((st.left - 1:Nat):Int) by omega]
 rfl
theorem Ae.kept2 {F F':FP} {W W':World} {b:Nat} {xs:List Value} {T:TypeId} (h:Ae W b xs T) (hk:KeptF F W F' W') (hn:¬ F b):Ae W' b xs T:=hk.box h hn
def nK (fuel:Nat) (pf:Nat) (t:Value):Prop:=∀ (F G K:FP) (w:World) (st:SR) (vis:Int) (s:SQ),Fin F G K w pf t st vis→FEnv F G K w→InvS st→Wf st.rows s→st.left≤fuel→st.steps.length+st.left≤4096→0≤vis→vis+st.left≤4096 →
 Calls Tryz.prog 53 #[.pointer (some ⟨pf,0,none⟩),.agg (Ad s.left s.goal).toArray] w (Jh F G K w pf t st vis (Ci fuel st s))
def xF (fuel:Nat) (pf:Nat) (t:Value):Prop:=∀ (F G K:FP) (w:World) (st:SR) (vis:Int) (s:SQ),Fin F G K w pf t st vis→FEnv F G K w→InvS st→Wf st.rows s→(Ak st.rows s).1=14→st.left≤fuel→st.steps.length+st.left≤4095→0≤vis→vis+st.left≤4096 →
 Calls Tryz.prog 73 #[.pointer (some ⟨pf,0,none⟩),.agg (Ad s.left s.goal).toArray] w (Jh F G K w pf t st vis (Bq (Ci fuel) s (Bj st.rows s) st []))
set_option maxRecDepth 100000 in
set_option maxHeartbeats 2000000 in
theorem iD (fuel:Nat) (pf:Nat) (t:Value) (HC:xF fuel pf t) (F G K:FP) (w:World) (st:SR) (vis:Int) (s:SQ) (h:Fin F G K w pf t st vis) (he:FEnv F G K w) (hi:InvS st) (wf:Wf st.rows s) (hf:Fv st.steps s=none) (hl:0<st.left) (hfu:st.left≤fuel+1) (hroom:st.steps.length+st.left≤4096) (hv0:0≤vis) (hv:vis+st.left≤4096) (h14:(Ak st.rows s).1=14) :
  Calls Tryz.prog 53 #[.pointer (some ⟨pf,0,none⟩),.agg (Ad s.left s.goal).toArray] w (Jh F G K w pf t st vis (Bq (Ci fuel) s (Bj st.rows s) ⟨st.rows,st.steps,st.left - 1⟩ [])):=by
 have hs:=Xm hi.ok wf
 have hgl:=wf.goal
 have hle:=hi.ok.le
 obtain ⟨sv,mb,kvs,hm⟩:=h
 have HB0:=Aa (Ab w (.cells (Ad s.left s.goal).toArray 86))
 have HX:=Aa (Ae.new w (Ad s.left s.goal) 86)
 have h0:=hm.below HB0.o
 obtain ⟨kl,hkl⟩:=Qu s.left s.goal (WalkArith.wf_i64 (by omega))
 rw [← SQ.val_yes (s:=s) hs] at hkl
 have hz:∀ W,(zeroValue 3).run Tryz.prog W = .ok (.int .i64 0) W:=fun _=>by kernel_rfl
 have hlk:∀ nq,(Instr.lookup 116 (.map (some mb)) (.agg (Ad s.left s.goal).toArray) true).run Tryz.prog ((w.alloc (.cells (Ad s.left s.goal).toArray 86)).drewN nq) = .ok (.tuple #[.int .i64 0,.bool false]) ((w.alloc (.cells (Ad s.left s.goal).toArray 86)).drewN nq):=fun nq=>by
  rw [← SQ.val_yes (s:=s) hs]
  exact TM.look_none (h0.map.below (below_drewN _ nq)) Ti SQ.val_inj Tryz.underlying116 (hz _) hkl true hf
 have c2:(w.alloc (.cells (Ad s.left s.goal).toArray 86)).cell? ⟨pf,2,none⟩=some (.map (some mb)):=cell_of h0.blk rfl
 have hld:∀ nq,Bf 86 ((w.alloc (.cells (Ad s.left s.goal).toArray 86)).drewN nq) (.pointer (some ⟨w.heap.size,0,none⟩)):=fun nq=>(An (HX.o.below (below_drewN _ nq)).loads).1
 have hlv:∀ nq,Dq 86 ((w.alloc (.cells (Ad s.left s.goal).toArray 86)).drewN nq) (.pointer (some ⟨w.heap.size,0,none⟩))=_:=fun nq=>(An (HX.o.below (below_drewN _ nq)).loads).2
 have hlz:(st.left == 0)=false:=by simpa using (show st.left≠0 by omega)
 have HM:=Aa hm;have HE:=Aa he;have HI:=Aa hi;have HW:=Aa wf;have H14:=Aa h14
 obtain ⟨r,hr⟩:∃ r,Bq (Ci fuel) s (Bj st.rows s) ⟨st.rows,st.steps,st.left - 1⟩ []=r:=⟨_,rfl⟩
 have HR:Hid (r.st.left≤st.left - 1):=by rw [← hr];exact (Ll (Jc fuel) s _ _ _).left
 rw [hr]
 have HRR:=Aa hr
 clear hr
 have HN:Hid (0<st.left∧st.left≤fuel+1∧st.steps.length+st.left≤4096∧0≤vis∧vis+st.left≤4096):=⟨hl,hfu,hroom,hv0,hv⟩
 have H0:=Aa h0
 clear hm h0 hkl hf hz he hi wf h14
 go_enter Tryz.func53,Tryz.ntmps53
 go_wp2
 go_quiet (fail)
 have HM1:=Aa (H0.o.below (below_drewN (w.alloc (.cells (Ad s.left s.goal).toArray 86)) nq))
 have HX1:=Aa (HX.o.below (below_drewN (w.alloc (.cells (Ad s.left s.goal).toArray 86)) nq))
 have HB1:=Aa (Ac HB0.o (below_drewN (w.alloc (.cells (Ad s.left s.goal).toArray 86)) nq))
 clear c2 hld hlv hlk
 generalize ((w.alloc (.cells (Ad s.left s.goal).toArray 86)).drewN nq)=W1 at *
 have c3:W1.cell? ⟨pf,3,none⟩=some (.int .i64 (st.left:Int)):=cell_of HM1.o.blk rfl
 have c4:W1.cell? ⟨pf,4,none⟩=some (.int .i64 vis):=cell_of HM1.o.blk rfl
 have f3:=Dt (i:=3) HM1.o.blk
 have f4:=Dt (i:=4) HM1.o.blk
 go_wp2
 have hfe:=We HM1.o hl
 have HK2:=Aa hfe.1
 have HM2:=Aa hfe.2
 have HX2:=Aa (HX1.o.kept2 hfe.1 (fun hg=>by have:=HM.o.gin _ hg;omega))
 clear hfe c3 c4 f3 f4
 generalize ((W1.setCell ⟨pf,3,none⟩ (.int .i64 ((st.left:Int) - 1))).setCell ⟨pf,4,none⟩ (.int .i64 (vis+1)))=W2 at *
 have HKW:Hid (KeptF (H3 F G K) w (H3 F G K) W2):=(KeptF.of_below HM.o.in_ HB1.o).trans (HK2.o.fin3 HM1.o.tab.in_ HM1.o.kin)
 have HE2:=Aa (HE.o.kept HKW.o)
 have hcl:∀ W',Aft W2 W'→W'.cell? ⟨pf,0,none⟩=some t:=fun W' hb=>Ao hb (cell_of HM2.o.blk rfl)
 have hld:∀ W',Aft W2 W'→Bf 86 W' (.pointer (some ⟨w.heap.size,0,none⟩)):=fun W' hb=>(An (HX2.o.below hb).loads).1
 have hlv:∀ W',Aft W2 W'→Dq 86 W' (.pointer (some ⟨w.heap.size,0,none⟩))=_:=fun W' hb=>(An (HX2.o.below hb).loads).2
 have HK:Hid (∀ W',Below W2.heap.size W2 W'→Aft W2 W'):=fun W' hb=>hb
 have HD:=Aa (below_drewN W2 1)
 have HA:Hid (∀ W,Below W2.heap.size W2 W→Calls Tryz.prog 72 #[t,.agg (Ad s.left s.goal).toArray] W fun e w'=>e = .returned (.tuple #[.int .i64 14,.int .i64 ((Ak st.rows s).2:Int),.int .i64 0])∧Below W.heap.size W w'):=fun W hb=>by
  have:=Wl 0 _ W t st.rows ((HM2.o.tab.col 0).below hb) (HE2.o.g.below hb) s HW.o
  rw [H14.o] at this
  exact this
 go_region_held3 (fun W'=>Aft W2 W')
  ((refine HK.o _ ?_;first | exact HB3.o | exact HD.o))
  ((go_at_call 72;refine (HA.o _ HD.o).mono ?_;rintro e W3 ⟨rfl,hb3⟩;have HB3:=Aa (Ac HD.o hb3);clear hb3))
 have HX3:=Aa (HX2.o.below HB3.o)
 have HM3:Hid (Fin F G K W3 pf t ⟨st.rows,st.steps,st.left - 1⟩ (vis+1)):=⟨_,_,_,HM2.o.below HB3.o⟩
 have HC3:=Aa (HC F G K W3 _ (vis+1) s HM3.o (HE2.o.below HB3.o) (HI.o.ext HI.o.ok (List.prefix_refl _) _) HW.o H14.o (by show st.left - 1≤fuel;omega) (by show st.steps.length+(st.left - 1)≤4095;omega) (by omega) (by show vis+1+((st.left - 1:Nat):Int)≤4096;omega))
 clear hcl hld hlv
 simp only at HC3
 rw [HRR.o] at HC3
 go_wp2_with (first
  | (refine Ah (.tmp 3) rfl rfl rfl HX3.o ?_)
  | (go_at_call 73;refine HC3.o.mono ?_;rintro e W4 ⟨rfl,F4,G4,K4,hk4,hf4⟩;have HK4:=Aa hk4;have HF4:=Aa hf4;clear hk4 hf4))
 go_ret2
 refine ⟨rfl,F4,G4,K4,(HKW.o.trans (KeptF.of_below HM2.o.in_ HB3.o)).trans HK4.o,?_⟩
 have h1:=HF4.o
 have h2:=HR.o
 rw [show vis+((st.left - r.st.left:Nat):Int)=vis+1+((st.left - 1 - r.st.left:Nat):Int) by omega]
 exact h1
end Go.Dk
end
section
namespace Go.Dk
open Go.RowKit Go.Maps Go.MapKept
open Go.Proofs hiding intOf
theorem Pe {rows0 rows:List ND} {a b:Int} {k:List ND→Nat→Prem} (hk:∀ r f,(k r f).err≠0→(k r f).rows=rows0) (h:(Jn rows0 rows a b k).err≠0):(Jn rows0 rows a b k).rows=rows0:=by
 unfold Jn at h ⊢
 simp only at h ⊢
 split
 ·rfl
 ·rename_i hz
  rw [if_neg hz] at h
  exact hk _ _ h
theorem Jj {rows:List ND} {s:SQ} {k:Int} {main:Nat} (h:(Af rows s k main).err≠0):(Af rows s k main).rows=rows:=by
 unfold Af at h ⊢
 simp only at h ⊢
 by_cases h3:k=3
 ·simp only [h3,if_true]
 by_cases h4:k=4
 ·simp only [h4];rfl
 by_cases h5:k=5
 ·simp only [h5];rfl
 by_cases h6:k=6
 ·subst h6
  simp only [show ¬ (6:Int)=3 by decide,show ¬ (6:Int)=4 by decide,show ¬ (6:Int)=5 by decide,if_false,if_true] at h ⊢
  exact Pe (fun r f he=>Pe (fun r f he=>by simp at he) he) h
 by_cases h7:k=7
 ·subst h7
  simp only [show ¬ (7:Int)=3 by decide,show ¬ (7:Int)=4 by decide,show ¬ (7:Int)=5 by decide,show ¬ (7:Int)=6 by decide,if_false,if_true] at h ⊢
  exact Pe (fun r f he=>Pe (fun r f he=>by simp at he) he) h
 simp only [h3,h4,h5,h6,h7,if_false] at h ⊢
 by_cases h8:k=8
 ·simp only [h8,if_true]
 by_cases h9:k=9
 ·simp only [h9];rfl
 by_cases h10:k=10
 ·simp only [h10];rfl
 by_cases h11:k=11
 ·simp only [h11];rfl
 by_cases h12:k=12
 ·simp only [h12];rfl
 by_cases h13:k=13
 ·subst h13
  simp only [show ¬ (13:Int)=8 by decide,show ¬ (13:Int)=9 by decide,show ¬ (13:Int)=10 by decide,show ¬ (13:Int)=11 by decide,show ¬ (13:Int)=12 by decide,if_false,if_true] at h ⊢
  exact Pe (fun r f he=>by simp at he) h
 simp only [h8,h9,h10,h11,h12,h13,if_false]
def Gp (m:Nat) (g:Int) (b:Bool) (k n:Int) (kv:Value):List Value:=Ad m g++[.bool b,.int .i64 k,.int .i64 n,kv]
theorem Lu (m:Nat) (g:Int) (b:Bool) (k n:Int) (kv:Value):(Gp m g b k n kv).length=21:=by simp [Gp,Ai]
theorem bW (x:SS) (kv:Value):En x kv=Gp x.seq.left x.seq.goal x.proved x.rule x.main kv:=rfl
theorem Ez (m:Nat) (g:Int) (b:Bool) (k n:Int) (kv:Value):(Gp m g b k n kv)[17]? = some (.bool b)∧(Gp m g b k n kv)[20]? = some kv:=by
 unfold Gp
 constructor<;>(rw [List.getElem?_append_right (by rw [Ai];omega),Ai];rfl)
theorem Px (m:Nat) (g:Int) (b:Bool) (k n:Int) (kv v:Value):(Gp m g b k n kv).set 20 v=Gp m g b k n v:=by
 unfold Gp
 rw [List.set_append_right _ _ (by rw [Ai];omega),Ai]
 rfl
theorem Zc (m:Nat) (g:Int) (b c:Bool) (k n:Int) (kv:Value):(Gp m g b k n kv).set 17 (.bool c)=Gp m g c k n kv:=by
 unfold Gp
 rw [List.set_append_right _ _ (by rw [Ai];omega),Ai]
 rfl
def Ni:List Value:=Gp 0 0 false 0 0 (.slice none 0 0)
theorem Zk {m:Nat} {g:Int} {b:Bool} {k n:Int} {kv:Value} (h:kv.oneCell'=true):∀ y ∈ Gp m g b k n kv,y.oneCell'=true:=by
 intro y hy
 unfold Gp at hy
 rcases List.mem_append.1 hy with hy | hy
 ·exact (Array.all_eq_true_iff_forall_mem.1 (dX m g)) y (by simpa using hy)
 ·simp at hy
  rcases hy with rfl | rfl | rfl | rfl<;>first | rfl | exact h
def Hk (parts:Array (Nat × Value)):_root_.Go.Sem Value:=Instr.build 122 parts
theorem aA (parts:Array (Nat × Value)):Instr.build 122 parts=Hk parts:=rfl
theorem Vn (m:Nat) (g:Int) (z:Array Value) (hz:17≤z.size):List.foldl (fun (cs:Array Value) (x:Value × Nat)=>cs.setIfInBounds x.2 x.1) z (Ad m g).zipIdx=(Ad m g++z.toList.drop 17).toArray:=by
 have h:=fold_at 0 (Ad m g) 0 z (by rw [Ai];omega)
 simp only [Nat.zero_add,List.take_zero,List.nil_append,Ai] at h
 exact h
set_option maxRecDepth 100000 in
theorem nJ (W:World) (m:Nat) (g:Int) (b:Bool) (k n:Int):(Hk #[(0,.agg (Ad m g).toArray),(1,.bool b),(2,.int .i64 k),(3,.int .i64 n)]).run Tryz.prog W = .ok (.agg (Gp m g b k n (.slice none 0 0)).toArray) W:=by
 have hsl:=Ai m g
 have hfs:∀ (l:List (Value × Nat)) (cs:Array Value),(List.foldl (fun (cs:Array Value) (x:Value × Nat)=>cs.setIfInBounds x.2 x.1) cs l).size=cs.size:=fold_size
 unfold Hk
 simp [go_sem,Instr.build,Instr.fill,hsl,hfs]
 rw [Vn m g _ (by decide)]
 simp [Gp,Ai]
set_option maxRecDepth 100000 in
theorem qM (W:World) (m:Nat) (g:Int) (k n:Int) (ad:Option Addr) (x y:Nat):(Hk #[(0,.agg (Ad m g).toArray),(2,.int .i64 k),(3,.int .i64 n),(4,.slice ad x y)]).run Tryz.prog W = .ok (.agg (Gp m g false k n (.slice ad x y)).toArray) W:=by
 have hsl:=Ai m g
 have hfs:∀ (l:List (Value × Nat)) (cs:Array Value),(List.foldl (fun (cs:Array Value) (x:Value × Nat)=>cs.setIfInBounds x.2 x.1) cs l).size=cs.size:=fold_size
 unfold Hk
 simp [go_sem,Instr.build,Instr.fill,hsl,hfs]
 rw [Vn m g _ (by decide)]
 simp [Gp,Ai]
set_option maxRecDepth 100000 in
theorem jF (W:World) (m:Nat) (g:Int)  : (Hk #[(0,.agg (Ad m g).toArray),(2,.int .i64 14)]).run Tryz.prog W = .ok (.agg (Gp m g false 14 0 (.slice none 0 0)).toArray) W:=by
 have hsl:=Ai m g
 have hfs:∀ (l:List (Value × Nat)) (cs:Array Value),(List.foldl (fun (cs:Array Value) (x:Value × Nat)=>cs.setIfInBounds x.2 x.1) cs l).size=cs.size:=fold_size
 unfold Hk
 simp [go_sem,Instr.build,Instr.fill,hsl,hfs]
 rw [Vn m g _ (by decide)]
 simp [Gp,Ai]
theorem uV:RowTy Tryz.prog 122 21:=⟨sX,tN⟩
section
variable {ops:Array Oper} {rest:List Oper} {o:Oper} {a:Act} {Q:Exit→Act→World→Prop} {W:World} {b m:Nat} {g:Int}
theorem Cb (x:Operand) {off:Nat} (hop:o.op = .load 86 x) (hg:o.guard=none) (hx:a.eval x = .pointer (some ⟨b,off,none⟩)) (h:W.rangeAt b off (Ad m g)) (hk:wpList Tryz.prog ops Q rest (a.put o.dst (.agg (Ad m g).toArray)) W):wpList Tryz.prog ops Q (o::rest) a W:=by
 obtain ⟨d,hu,hd⟩:=fR
 exact wpList_load_mid hg _ x hop b off hx (Ad m g) d h hu hd (by rw [Ai];exact cE) hk
theorem Ns (x:Operand) (hop:o.op = .load 122 x) (hg:o.guard=none) (hx:a.eval x = .pointer (some ⟨b,0,none⟩)) {cs:List Value} {T:TypeId} (h:Ae W b cs T) (hl:cs.length=21) (hk:wpList Tryz.prog ops Q rest (a.put o.dst (.agg cs.toArray)) W):wpList Tryz.prog ops Q (o::rest) a W:=by
 obtain ⟨d,hu,hd⟩:=sX
 exact wpList_load_mid hg _ x hop b 0 hx cs d (h.range (by simp)) hu hd (by rw [hl];exact tN) hk
theorem wp_build {parts:Array (Nat × Operand)} {v:Value} (hop:o.op = .build 122 parts) (hg:o.guard=none) (hr:(Hk (parts.map fun (i,x)=>(i,a.eval x))).run Tryz.prog W = .ok v W) (hk:wpList Tryz.prog ops Q rest (a.put o.dst v) W):wpList Tryz.prog ops Q (o::rest) a W:=by
 refine wpList_plain hg fun K hK=>?_
 unfold Oper.wp execOp
 have hr2:(Instr.build 122 (parts.map fun (i,x)=>(i,a.eval x))).run Tryz.prog W = .ok v W:=hr
 simp only [hop]
 simp only [Sem.run_bind,hr2,Result.andThen_ok,Sem.run_pure]
 exact hK _ _ hk
end
end Go.Dk
end
section
namespace Go.Dk
open Go.RowKit Go.Maps Go.MapKept
open Go.Proofs hiding intOf
attribute [local go_sem ↓] Dv Oz
attribute [local go_sem] Du Lx
set_option maxRecDepth 100000 in
set_option maxHeartbeats 2000000 in
theorem eP (fuel:Nat) (pf:Nat) (t:Value) (_HDEC:nK fuel pf t) (F G K:FP) (w:World) (st:SR) (vis:Int) (s:SQ) (h:Fin F G K w pf t st vis) (he:FEnv F G K w) (hi:InvS st) (wf:Wf st.rows s) (hf:Fv st.steps s=none) (hl:0<st.left) (hfu:st.left≤fuel+1) (hroom:st.steps.length+st.left≤4096) (hv0:0≤vis) (hv:vis+st.left≤4096) (h14:(Ak st.rows s).1≠14) (hpe:(Af st.rows s (Ak st.rows s).1 (Ak st.rows s).2).err≠0) :
  Calls Tryz.prog 53 #[.pointer (some ⟨pf,0,none⟩),.agg (Ad s.left s.goal).toArray] w (Jh F G K w pf t st vis (⟨⟨st.rows,st.steps,st.left - 1⟩,(Af st.rows s (Ak st.rows s).1 (Ak st.rows s).2).err,0⟩)):=by
 have hs:=Xm hi.ok wf
 have hgl:=wf.goal
 have hle:=hi.ok.le
 obtain ⟨sv,mb,kvs,hm⟩:=h
 have HB0:=Aa (Ab w (.cells (Ad s.left s.goal).toArray 86))
 have HX:=Aa (Ae.new w (Ad s.left s.goal) 86)
 have h0:=hm.below HB0.o
 obtain ⟨kl,hkl⟩:=Qu s.left s.goal (WalkArith.wf_i64 (by omega))
 rw [← SQ.val_yes (s:=s) hs] at hkl
 have hz:∀ W,(zeroValue 3).run Tryz.prog W = .ok (.int .i64 0) W:=fun _=>by kernel_rfl
 have hlk:∀ nq,(Instr.lookup 116 (.map (some mb)) (.agg (Ad s.left s.goal).toArray) true).run Tryz.prog ((w.alloc (.cells (Ad s.left s.goal).toArray 86)).drewN nq) = .ok (.tuple #[.int .i64 0,.bool false]) ((w.alloc (.cells (Ad s.left s.goal).toArray 86)).drewN nq):=fun nq=>by
  rw [← SQ.val_yes (s:=s) hs]
  exact TM.look_none (h0.map.below (below_drewN _ nq)) Ti SQ.val_inj Tryz.underlying116 (hz _) hkl true hf
 have c2:(w.alloc (.cells (Ad s.left s.goal).toArray 86)).cell? ⟨pf,2,none⟩=some (.map (some mb)):=cell_of h0.blk rfl
 have hld:∀ nq,Bf 86 ((w.alloc (.cells (Ad s.left s.goal).toArray 86)).drewN nq) (.pointer (some ⟨w.heap.size,0,none⟩)):=fun nq=>(An (HX.o.below (below_drewN _ nq)).loads).1
 have hlv:∀ nq,Dq 86 ((w.alloc (.cells (Ad s.left s.goal).toArray 86)).drewN nq) (.pointer (some ⟨w.heap.size,0,none⟩))=_:=fun nq=>(An (HX.o.below (below_drewN _ nq)).loads).2
 have hlz:(st.left == 0)=false:=by simpa using (show st.left≠0 by omega)
 have HM:=Aa hm;have HE:=Aa he;have HI:=Aa hi;have HW:=Aa wf;have H14:=Aa h14
 obtain ⟨r,hr⟩:∃ r:SA,(⟨⟨st.rows,st.steps,st.left - 1⟩,(Af st.rows s (Ak st.rows s).1 (Ak st.rows s).2).err,0⟩:SA)=r:=⟨_,rfl⟩
 have HR:Hid (r.st.left≤st.left - 1):=by rw [← hr];exact Nat.le_refl _
 rw [hr]
 have HRR:=Aa hr
 clear hr
 have HN:Hid (0<st.left∧st.left≤fuel+1∧st.steps.length+st.left≤4096∧0≤vis∧vis+st.left≤4096):=⟨hl,hfu,hroom,hv0,hv⟩
 have H0:=Aa h0
 obtain ⟨⟨k,main⟩,hkm⟩:∃ km,Ak st.rows s=km:=⟨_,rfl⟩
 have hk14:(k == 14)=false:=by rw [hkm] at h14;simpa using h14
 have HFIT:Hid (FitK st.rows s k main):=by have:=Pm hi.ok wf h14;rw [hkm] at this;exact this
 have HKM:=Aa hkm
 obtain ⟨p,hp⟩:∃ p,Af st.rows s k main=p:=⟨_,rfl⟩
 have HPP:=Aa hp
 have hpe2:p.err≠0∧p.rows=st.rows:=by
  rw [hkm] at hpe
  simp only at hpe
  rw [hp] at hpe
  exact ⟨hpe,by rw [← hp];exact Jj (by rw [hp];exact hpe)⟩
 have hrr:r=⟨⟨st.rows,st.steps,st.left - 1⟩,p.err,0⟩:=by rw [← HRR.o,hkm,← hp]
 have HR2:=Aa hrr
 have HPE:=Aa hpe2
 have hpz:(p.err != 0)=true:=by simpa using hpe2.1
 clear hp hpe hpe2 hrr
 clear hkm
 clear hm h0 hkl hf hz he hi wf h14
 go_enter Tryz.func53,Tryz.ntmps53
 go_wp2
 go_quiet (fail)
 have HM1:=Aa (H0.o.below (below_drewN (w.alloc (.cells (Ad s.left s.goal).toArray 86)) nq))
 have HX1:=Aa (HX.o.below (below_drewN (w.alloc (.cells (Ad s.left s.goal).toArray 86)) nq))
 have HB1:=Aa (Ac HB0.o (below_drewN (w.alloc (.cells (Ad s.left s.goal).toArray 86)) nq))
 clear c2 hld hlv hlk
 generalize ((w.alloc (.cells (Ad s.left s.goal).toArray 86)).drewN nq)=W1 at *
 have c3:W1.cell? ⟨pf,3,none⟩=some (.int .i64 (st.left:Int)):=cell_of HM1.o.blk rfl
 have c4:W1.cell? ⟨pf,4,none⟩=some (.int .i64 vis):=cell_of HM1.o.blk rfl
 have f3:=Dt (i:=3) HM1.o.blk
 have f4:=Dt (i:=4) HM1.o.blk
 go_wp2
 have hfe:=We HM1.o hl
 have HK2:=Aa hfe.1
 have HM2:=Aa hfe.2
 have HX2:=Aa (HX1.o.kept2 hfe.1 (fun hg=>by have:=HM.o.gin _ hg;omega))
 clear hfe c3 c4 f3 f4
 generalize ((W1.setCell ⟨pf,3,none⟩ (.int .i64 ((st.left:Int) - 1))).setCell ⟨pf,4,none⟩ (.int .i64 (vis+1)))=W2 at *
 have HKW:Hid (KeptF (H3 F G K) w (H3 F G K) W2):=(KeptF.of_below HM.o.in_ HB1.o).trans (HK2.o.fin3 HM1.o.tab.in_ HM1.o.kin)
 have HE2:=Aa (HE.o.kept HKW.o)
 have hcl:∀ W',Aft W2 W'→W'.cell? ⟨pf,0,none⟩=some t:=fun W' hb=>Ao hb (cell_of HM2.o.blk rfl)
 have hld:∀ W',Aft W2 W'→Bf 86 W' (.pointer (some ⟨w.heap.size,0,none⟩)):=fun W' hb=>(An (HX2.o.below hb).loads).1
 have hlv:∀ W',Aft W2 W'→Dq 86 W' (.pointer (some ⟨w.heap.size,0,none⟩))=_:=fun W' hb=>(An (HX2.o.below hb).loads).2
 have HK:Hid (∀ W',Below W2.heap.size W2 W'→Aft W2 W'):=fun W' hb=>hb
 have HD:=Aa (below_drewN W2 1)
 have HA:Hid (∀ W,Below W2.heap.size W2 W→Calls Tryz.prog 72 #[t,.agg (Ad s.left s.goal).toArray] W fun e w'=>e = .returned (.tuple #[.int .i64 k,.int .i64 (main:Int),.int .i64 0])∧Below W.heap.size W w'):=fun W hb=>by
  have:=Wl 0 _ W t st.rows ((HM2.o.tab.col 0).below hb) (HE2.o.g.below hb) s HW.o
  rw [HKM.o] at this
  exact this
 go_region_held3 (fun W'=>Aft W2 W')
  ((refine HK.o _ ?_;first | exact HB3.o | exact HD.o))
  ((go_at_call 72;refine (HA.o _ HD.o).mono ?_;rintro e W3 ⟨rfl,hb3⟩;have HB3:=Aa (Ac HD.o hb3);clear hb3))
 have HX3:=Aa (HX2.o.below HB3.o)
 have HM3:=Aa (HM2.o.below HB3.o)
 have HE3:=Aa (HE2.o.below HB3.o)
 have HKW3:=Aa (HKW.o.trans (KeptF.of_below HM2.o.in_ HB3.o))
 have HNX:Hid (¬ F w.heap.size):=fun hf=>by have:=HM.o.tab.in_ _ hf;omega
 have HNP:Hid (¬ F pf):=fun hf=>HM.o.ap _ hf HM.o.gp
 clear hcl hld hlv
 have hcl:∀ W',Dp F W3 W'→W'.cell? ⟨pf,0,none⟩=some t:=fun W' ⟨F',hk⟩=>hk.cell (cell_of HM3.o.blk rfl) HNP.o
 have hld:∀ W',Dp F W3 W'→Bf 86 W' (.pointer (some ⟨w.heap.size,0,none⟩)):=fun W' ⟨F',hk⟩=>(An (HX3.o.keptF hk HNX.o).loads).1
 have hlv:∀ W',Dp F W3 W'→Dq 86 W' (.pointer (some ⟨w.heap.size,0,none⟩))=_:=fun W' ⟨F',hk⟩=>(An (HX3.o.keptF hk HNX.o).loads).2
 have HK3:Hid (∀ W',Below W3.heap.size W3 W'→Dp F W3 W'):=fun W' hb=>⟨F,KeptF.of_below HM3.o.tab.in_ hb⟩
 have HD3:=Aa (below_drewN W3 1)
 have HPR:Hid (∀ W,Below W3.heap.size W3 W→Calls Tryz.prog 74 #[t,.agg (Ad s.left s.goal).toArray,.int .i64 k,.int .i64 (main:Int)] W (mQ F W t p)):=fun W hb=>HPP.o▸Oj F W t st.rows (HM3.o.tab.below hb) (HE3.o.g.below hb) s HW.o k main HFIT.o
 go_wp2_with fail
 go_region_held3 (fun W'=>Dp F W3 W')
  ((first | exact HKI.o | exact HK3.o _ HD3.o))
  ((go_at_call 74;refine (HPR.o _ HD3.o).mono ?_;rintro e W4 ⟨v,F4,rfl,hk4,ht4,hs4⟩;have HK4:=Aa ((KeptF.of_below HM3.o.tab.in_ HD3.o).trans hk4);have HKI:Hid (Dp F W3 W4):=⟨F4,HK4.o⟩;have HT4:=Aa ht4;have HS4:=Aa hs4;clear hk4 ht4 hs4))
 clear hcl hld hlv HA HPR
 have HM4:=Aa (HM3.o.tabbed HK4.o HT4.o)
 have HKW4:=Aa (HKW3.o.trans (HK4.o.tab3 HM3.o.gin HM3.o.kin))
 have HX4:=Aa (HX3.o.keptF HK4.o HNX.o)
 go_wp2_with fail
 go_ret2
 rw [HR2.o]
 refine ⟨rfl,F4,G,K,HKW4.o,?_⟩
 have h1:=HPE.o.2
 have h2:=HM4.o
 rw [show vis+((st.left - (st.left - 1):Nat):Int)=vis+1 by omega]
 rw [h1] at h2
 exact ⟨_,_,_,h2⟩
end Go.Dk
end
section
namespace Go.Dk
open Go.RowKit Go.Maps Go.MapKept
open Go.Proofs hiding intOf
theorem jK:∀ (l:List SQ) (j:Nat) (h:j<l.length),(((l.flatMap fun s=>Ad s.left s.goal)).drop (j * 17)).take 17=Ad l[j].left l[j].goal
 | a::l,0,_=>by
  rw [Nat.zero_mul,List.drop_zero,List.flatMap_cons]
  exact List.take_left' (Ai _ _)
 | a::l,j+1,h=>by
  have:=jK l j (by simpa using h)
  rw [List.flatMap_cons,show (j+1) * 17=(Ad a.left a.goal).length+j * 17 by rw [Ai];omega,← List.drop_drop,List.drop_left]
  simpa using this
theorem Ae.seqAt {W:World} {b:Nat} {l:List SQ} {T:TypeId} (h:Ae W b (l.flatMap fun s=>Ad s.left s.goal) T) {j:Nat} (hj:j<l.length):W.rangeAt b (j * 17) (Ad l[j].left l[j].goal):=
 h.range (by rw [Ai];exact jK l j hj)
def Iy (kids:List Nat):List Value:=ints (kids.map fun i:Nat=>(i:Int))
theorem Ov (kids:List Nat) (i:Nat):Iy (kids++[i])=Iy kids++[.int .i64 (i:Int)]:=by simp [Iy,ints]
structure KidO (B:Nat) (H:FP) (W:World) (kv:Value) (kids:List Nat):Prop where
 own:W.ownsRow B 3 1 kv kids.length (Iy kids)
 nk:∀ g,kv.ownBlock=some g→¬ H g
structure Loc (H:FP) (B x3 xb:Nat) (s:SQ) (k:Int) (main:Nat) (ad:Option Addr) (seqs:List SQ) (kids:List Nat) (kv:Value) (W:World):Prop where
 b3:Ae W x3 (Ad s.left s.goal) 86
 bx:Ae W xb (Gp s.left s.goal true k main kv) 122
 ko:KidO B H W kv kids
 bs:seqs = []∨∃ b,ad=some ⟨b,0,none⟩∧Ae W b (seqs.flatMap fun s=>Ad s.left s.goal) 86∧¬ H b
 n3:¬ H x3
 nx:¬ H xb
 lo:B≤xb
theorem KidO.step {B:Nat} {H H':FP} {W W':World} {kv:Value} {kids:List Nat} (h:KidO B H W kv kids) (hk:KeptF H W H' W'):KidO B H' W' kv kids:=
 ⟨hk.own h.own h.nk,fun g hg hf=>h.nk g hg (hk.sub g (h.own.lt g hg).2 hf)⟩
theorem Loc.step {H H':FP} {B x3 xb:Nat} {s:SQ} {k:Int} {main:Nat} {ad:Option Addr} {seqs:List SQ} {kids:List Nat} {kv:Value} {W W':World} (h:Loc H B x3 xb s k main ad seqs kids kv W) (hk:KeptF H W H' W'):Loc H' B x3 xb s k main ad seqs kids kv W':=by
 refine ⟨h.b3.keptF hk h.n3,h.bx.keptF hk h.nx,h.ko.step hk,?_,fun hf=>h.n3 (hk.sub _ h.b3.lt hf),fun hf=>h.nx (hk.sub _ h.bx.lt hf),h.lo⟩
 rcases h.bs with hs | ⟨b,h1,h2,h3⟩
 ·exact .inl hs
 ·exact .inr ⟨b,h1,h2.keptF hk h3,fun hf=>h3 (hk.sub _ h2.lt hf)⟩
theorem Vx {W:World} {b c:Nat} {xs ys:List Value} {T U:TypeId} (h:Ae W b xs T) (g:Ae W c ys U) (hT:T≠U):b≠c:=fun e=>by
 have h1:W.heap[b]? = some (.cells xs.toArray T (0,0)):=h
 have h2:W.heap[c]? = some (.cells ys.toArray U (0,0)):=g
 rw [e,h2] at h1
 simp at h1
 exact hT h1.2.symm
theorem Eg {W w1:World} {B o:Nat} {v v':Value} {tmp:Obj} (hgrow:(W.alloc tmp).grownBy w1 v.ownBlock) {b:Nat} (hb:b<W.heap.size) (h1:v.ownBlock≠some b) (h2:b≠B):(w1.setCell ⟨B,o,none⟩ v').heap[b]? = W.heap[b]?:=by
 rw [Below.heap_setCell _ _ _ _ h2,hgrow.block b (by simp;omega) (fun e=>h1 e.symm)]
 exact Below.heap_alloc _ _ _ hb
theorem Loc.app {H:FP} {B x3 xb:Nat} {s:SQ} {k:Int} {main:Nat} {ad:Option Addr} {seqs:List SQ} {kids:List Nat} {kv:Value} {W w1:World} (h:Loc H B x3 xb s k main ad seqs kids kv W) (hH:H.in_ W) {v':Value} {i:Nat} {tmp:Obj}
  (hown:w1.ownsRow B 3 1 v' (kids.length+1) (Iy kids++[.int .i64 (i:Int)])) (hg:(W.alloc tmp).grownBy w1 kv.ownBlock) (hat:v'.ownBlock=kv.ownBlock∨v'.ownBlock=some (W.alloc tmp).heap.size) :
  Ae w1 xb (Gp s.left s.goal true k main kv) 122∧Loc H B x3 xb s k main ad seqs (kids++[i]) v' (w1.setCell ⟨xb,20,none⟩ v') ∧
   KeptF (fun b=>b=xb∨kv.ownBlock=some b) W (fun b=>b=xb∨kv.ownBlock=some b) (w1.setCell ⟨xb,20,none⟩ v')∧Below B W (w1.setCell ⟨xb,20,none⟩ v'):=by
 have nkx:kv.ownBlock≠some xb:=Cj h.bx (by decide) h.ko.own
 have nk3:kv.ownBlock≠some x3:=Cj h.b3 (by decide) h.ko.own
 have n3x:x3≠xb:=Vx h.b3 h.bx (by decide)
 have hb1:Ae w1 xb (Gp s.left s.goal true k main kv) 122:=(hg.block xb (by simp;have:=h.bx.lt;omega) (fun e=>nkx e.symm)).trans ((Below.heap_alloc _ _ _ h.bx.lt).trans h.bx)
 have hsz:W.heap.size≤w1.heap.size:=by have:=hg.size;simp at this;omega
 have hB:B≤W.heap.size:=Nat.le_trans h.lo (Nat.le_of_lt h.bx.lt)
 have hnv:v'.ownBlock≠some xb:=Cj hb1 (by decide) hown
 refine ⟨hb1,⟨?_,?_,⟨?_,fun g hg' hf=>?_⟩,?_,h.n3,h.nx,h.lo⟩,⟨?_,?_,?_,by simp;omega,fun _ _ h=>h,fun b hb=>?_,fun b hb hn=>?_⟩,?_⟩
 ·exact (Eg hg h.b3.lt nk3 n3x).trans h.b3
 ·have:=hb1.set 20 v'
  rw [Px] at this
  exact this
 ·rw [List.length_append,Ov]
  exact Bd hown fun g hg'=>Below.heap_setCell _ _ _ _ (fun e=>hnv (by rw [hg',e]))
 ·rcases hat with e | e
  ·exact h.ko.nk g (e▸hg') hf
  ·rw [e] at hg'
   cases hg'
   have:=hH _ hf
   simp at this
   omega
 ·rcases h.bs with hs | ⟨b,h1,h2,h3⟩
  ·exact .inl hs
  ·exact .inr ⟨b,h1,(Eg hg h2.lt (Cj h2 (by decide) h.ko.own) (Vx h2 h.bx (by decide))).trans h2,h3⟩
 ·exact hg.os
 ·exact hg.tape
 ·exact hg.output
 ·rcases hb with rfl | hb
  ·have:=hb1.lt;simpa using this
  ·have:=(h.ko.own.lt b hb).2;simp;omega
 ·exact Eg hg hb (fun e=>hn (.inr e)) (fun e=>hn (.inl e))
 ·refine ⟨hg.os,hg.tape,hg.output,by simp;exact hsz,fun b hb=>?_⟩
  refine Eg hg (by omega) (fun e=>?_) (fun e=>by have:=h.lo;omega)
  have:=(h.ko.own.lt b e).1
  omega
theorem KeptF.grow {H H1:FP} {w w1:World} (h:KeptF H w H1 w1) {X:FP} (hx:X.in_ w1) (hn:∀ b,X b→w.heap.size≤b):KeptF H w (fun b=>H1 b∨X b) w1:=
 ⟨h.os,h.tape,h.output,h.size,fun b hb hf=>hf.elim (h.sub b hb) (fun hf=>by have:=hn b hf;omega),fun b hf=>hf.elim (h.lt b) (hx b),h.block⟩
theorem KeptF.thenNew {H H1:FP} {w w1 w2:World} (h:KeptF H w H1 w1) (g:Below w.heap.size w1 w2) (hs:∀ b,H1 b→b<w2.heap.size):KeptF H w H1 w2:=
 ⟨g.os.trans h.os,g.tape.trans h.tape,g.output.trans h.output,Nat.le_trans h.size g.size,h.sub,hs,fun b hb hn=>(g.block b hb).trans (h.block b hb hn)⟩
theorem Uo {F G K F1 G1 K1:FP} {w w1:World} {pf:Nat} {t:Value} {st st1:SR} {vis vis1:Int} (hk:KeptF (H3 F G K) w (H3 F1 G1 K1) w1) (hm:Fin F1 G1 K1 w1 pf t st1 vis1) (hv:vis1=vis+((st.left - st1.left:Nat):Int)) (x:SS) (kv:Value) (hx:x.seq.left<2 ^ 1024) (hg:x.seq.goal<2 ^ 62) (hsl:st1.steps.length<4096)
  (hko:Rd w1 kv x.kids.length 1 (Iy x.kids)) (hkb:∀ a m c,kv = .slice (some a) m c→a.block<w1.heap.size∧w.heap.size≤a.block∧¬ H3 F1 G1 K1 a.block) :
  Calls Tryz.prog 75 #[.pointer (some ⟨pf,0,none⟩),.agg (En x kv).toArray] w1 (Jh F G K w pf t st vis (Ho st1 x)):=by
 obtain ⟨sv,mb,kvs,hm⟩:=hm
 have hX1:FP.in_ (fun b=>∃ a m c,kv = .slice (some a) m c∧a.block=b) w1:=by
  rintro b ⟨a,m,c,e,rfl⟩
  exact (hkb a m c e).1
 have hmm:=hm.more hX1 (by rintro b ⟨a,m,c,e,rfl⟩ hf;exact (hkb a m c e).2.2 (.inl hf)) (by rintro b ⟨a,m,c,e,rfl⟩ hf;exact (hkb a m c e).2.2 (.inr (.inl hf)))
 refine (wS F1 G1 _ w1 pf t st1 vis1 ⟨sv,mb,kvs,hmm⟩ x kv hx hg ⟨hko,fun a m c e=>.inr ⟨a,m,c,e,rfl⟩⟩ hsl).mono ?_
 rintro e w' ⟨rfl,G',hk2,hf⟩
 refine ⟨rfl,F1,G',_,?_,hv▸hf⟩
 have h1:KeptF (H3 F G K) w (H3 F1 G1 (fun b=>K1 b∨∃ a m c,kv = .slice (some a) m c∧a.block=b)) w1:=by
  have:=hk.grow hX1 (by rintro b ⟨a,m,c,e,rfl⟩;exact (hkb a m c e).2.1)
  exact ⟨this.os,this.tape,this.output,this.size,fun b hb hf=>this.sub b hb (by
   rcases hf with h | h | h | h
   ·exact .inl (.inl h)
   ·exact .inl (.inr (.inl h))
   ·exact .inl (.inr (.inr h))
   ·exact .inr h),fun b hf=>this.lt b (by
   rcases hf with h | h | h | h
   ·exact .inl (.inl h)
   ·exact .inl (.inr (.inl h))
   ·exact .inl (.inr (.inr h))
   ·exact .inr h),this.block⟩
 exact h1.trans (hk2.fin3 hmm.tab.in_ hmm.kin)
theorem Js {F G K:FP} {w:World} {pf:Nat} {t:Value} {st:SR} {vis:Int} {sv:Value} {mb:Nat} {kvs:List Value} (h:FinM F G K w pf t st vis sv mb kvs) {i:Nat} (hi:i<st.steps.length) :
  ∃ g c,sv = .slice (some ⟨g,0,none⟩) st.steps.length c∧w.cell? ⟨g,i * 21+17,none⟩=some (.bool (Ax st i)):=by
 obtain ⟨g,c,rfl,_,hc⟩:=Ht h.row (by omega)
 refine ⟨g,c,rfl,hc _ _ ?_⟩
 have h1:st.steps[i]? = some st.steps[i]:=List.getElem?_eq_getElem hi
 have h2:kvs[i]? = some (kvs[i]'(by rw [← h.len];exact hi)):=List.getElem?_eq_getElem _
 rw [Ro _ _ i 17 _ _ h.len h1 h2 (by omega),bW,(Ez _ _ _ _ _ _).1]
 unfold Ax
 rw [h1]
 rfl
end Go.Dk
end
