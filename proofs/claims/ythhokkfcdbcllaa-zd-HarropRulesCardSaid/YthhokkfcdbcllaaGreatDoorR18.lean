/- Parts of the proof: Sg, M, Ed, Ee, S, Ma, Yf, Sh, Ha, Sm, Zf, Hb, Hc. -/
import Derived.Deep.Slices
import Derived.Lib.SmallJoins
import Derived.SizedLaws
import Derived.ChangeMaps5
import Derived.Deep.RegionHeld3
import Derived.Deep.MidRow
import Derived.Outline
import Derived.IntWalk
import Derived.BigQuiet
import Derived.Deep.QuietTactic
import Derived.StringKeys
import Derived.Maps.Keyed
import Derived.Test.YthhokkfcdbcllaaGreatDoorR01
import Derived.Test.YthhokkfcdbcllaaGreatDoorR02
import Derived.Test.YthhokkfcdbcllaaGreatDoorR03
import Derived.Test.YthhokkfcdbcllaaGreatDoorR04
import Derived.Test.YthhokkfcdbcllaaGreatDoorR05
import Derived.Test.YthhokkfcdbcllaaGreatDoorR06
import Derived.Test.YthhokkfcdbcllaaGreatDoorR07
import Derived.Test.YthhokkfcdbcllaaGreatDoorR08
import Derived.Test.YthhokkfcdbcllaaGreatDoorR09
import Derived.Test.YthhokkfcdbcllaaGreatDoorR10
import Derived.Test.YthhokkfcdbcllaaGreatDoorR11
import Derived.Test.YthhokkfcdbcllaaGreatDoorR12
import Derived.Test.YthhokkfcdbcllaaGreatDoorR13
import Derived.Test.YthhokkfcdbcllaaGreatDoorR14
import Derived.Test.YthhokkfcdbcllaaGreatDoorR15
section
namespace Go.Dk
def pAt (of:OfF) (rows:List ND) (k:Nat) (img:Nat→Int):Put:=
 of rows k (rowAt rows k) (if 3≤(rowAt rows k).kind then img (rowAt rows k).l.toNat else 0) (if 3≤(rowAt rows k).kind then img (rowAt rows k).r.toNat else 0)
theorem Nk (of:OfF) (k:Nat) (t:List Nat) (rows:List ND) (img:Nat→Int):Gm of (k::t) rows img=if (pAt of rows k img).err=0 then Gm of t (pAt of rows k img).rows (fun x=>if x=k then (pAt of rows k img).id else img x) else ((pAt of rows k img).rows,img,(pAt of rows k img).err):=rfl
theorem Tt (of:OfF):∀ (l t:List Nat) (rows:List ND) (img:Nat→Int) (r:List ND) (i:Nat→Int),Gm of l rows img=(r,i,0)→Gm of (l++t) rows img=Gm of t r i
 | [],t,rows,img,r,i,h=>by
  simp only [Gm,Prod.mk.injEq] at h
  obtain ⟨rfl,rfl,_⟩:=h
  rfl
 | k::l,t,rows,img,r,i,h=>by
  rw [List.cons_append,Nk]
  rw [Nk] at h
  by_cases hz:(pAt of rows k img).err=0
  ·rw [if_pos hz] at h ⊢
   exact Tt of l t _ _ r i h
  ·rw [if_neg hz] at h
   simp only [Prod.mk.injEq] at h
   exact absurd h.2.2 hz
theorem jG {of:OfF} {l:List Nat} {k:Nat} {rows r:List ND} {img i:Nat→Int} (h:Gm of l rows img=(r,i,0)) (hz:(pAt of r k i).err=0):Gm of (l++[k]) rows img=((pAt of r k i).rows,(fun x=>if x=k then (pAt of r k i).id else i x),0):=by
 rw [Tt of l [k] rows img r i h,Nk,if_pos hz];rfl
theorem gB {of:OfF} {l t:List Nat} {k:Nat} {rows r:List ND} {img i:Nat→Int} (h:Gm of l rows img=(r,i,0)) (hz:(pAt of r k i).err≠0):(Gm of (l++k::t) rows img).2.2=(pAt of r k i).err:=by
 rw [Tt of l (k::t) rows img r i h,Nk,if_neg hz]
theorem Tm {l:List Nat} {j k:Nat} (h:l[j]? = some k):l.take (j+1)=l.take j++[k]:=by rw [List.take_add_one,h];rfl
theorem rJ {l:List Nat} {j k:Nat} (h:l[j]? = some k):l=l.take j++k::l.drop (j+1):=by
 obtain ⟨hl,e⟩:=List.getElem?_eq_some_iff.1 h
 conv=>lhs;rw [← List.take_append_drop j l]
 rw [List.drop_eq_getElem_cons hl,e]
theorem Zr {of:OfF} {rows r:List ND} {id j k:Nat} {i:Nat→Int} (hk:(below rows id)[j]? = some k) (h:Gm of ((below rows id).take j) rows (fun _=>0)=(r,i,0)) (hz:(pAt of r k i).err≠0):Iw of rows id=⟨rows,0,(pAt of r k i).err⟩:=by
 have:=gB (t:=(below rows id).drop (j+1)) h hz
 rw [← rJ hk] at this
 unfold Iw
 simp only [this]
 rw [if_neg hz]
theorem pE {of:OfF} {rows r:List ND} {id:Nat} {i:Nat→Int} (h:Gm of (below rows id) rows (fun _=>0)=(r,i,0)):Iw of rows id=⟨r,i id,0⟩:=by
 unfold Iw
 simp only [h,if_true]
def Xu (img:Nat→Int) (done:List Nat) (x:Nat):Option Int:=if x ∈ done then some (img x) else none
theorem uM {img:Nat→Int} {done:List Nat} {x:Nat} (h:x ∈ done):(Xu img done x).getD 0=img x:=by unfold Xu;rw [if_pos h];rfl
def Jw:OfF:=fun rows k n l r=>if n.kind<3 then ⟨rows,k,0⟩ else put rows ⟨n.kind,ByteArray.empty,l,r⟩
theorem Qj (named:ByteArray→Option Int) (rows:List ND) (k:Nat) (n:ND) (l r:Int):Jo named rows k n l r=if n.kind=1∧(named n.name).isSome=true then ⟨rows,(named n.name).getD 0,0⟩ else Jw rows k n l r:=by
 unfold Jo Jw
 by_cases h3:n.kind<3
 ·rw [if_pos h3,if_pos h3]
  by_cases h1:n.kind=1
  ·rw [if_pos h1]
   cases hn:named n.name with
   | none=>simp
   | some f=>simp [h1]
  ·rw [if_neg h1,if_neg (fun h=>h1 h.1)]
 ·rw [if_neg h3,if_neg h3,if_neg (by omega)]
def sH (of:OfF):Prop:=∀ rows k n l r,rows <+: (of rows k n l r).rows
theorem cI:sH Jw:=fun rows k n l r=>by
 unfold Jw
 split
 ·exact List.prefix_refl _
 ·exact Dl _ _
theorem jJ (named:ByteArray→Option Int):sH (Jo named):=fun rows k n l r=>by
 rw [Qj]
 split
 ·exact List.prefix_refl _
 ·exact cI _ _ _ _ _
structure HY where
 name:ByteArray
 form:Int
deriving DecidableEq
def Ep (by':List HY) (s:ByteArray):Option Int:=(by'.find? fun h=>decide (h.name=s)).map (·.form)
theorem fL {l:List HY} {h:HY} (hn:Ep l h.name=none) (s:ByteArray):Ep (l++[h]) s=if s=h.name then some h.form else Ep l s:=by
 unfold Ep at *
 rw [List.find?_append]
 by_cases e:s=h.name
 ·subst e
  simp only [Option.map_eq_none_iff] at hn
  rw [hn]
  simp
 ·rw [if_neg e]
  cases hf:l.find? (fun h=>decide (h.name=s)) with
  | some x=>rfl
  | none=>
   have:¬ h.name=s:=fun e2=>e e2.symm
   simp [this]
theorem Xb {l:List HY} {s:ByteArray} {f:Int} (h:Ep l s=some f):∃ x ∈ l,x.name=s∧x.form=f:=by
 unfold Ep at h
 obtain ⟨x,hx,rfl⟩:=Option.map_eq_some_iff.1 h
 exact ⟨x,List.mem_of_find?_eq_some hx,by simpa using List.find?_some hx,rfl⟩
theorem gX {l:List HY} {s:ByteArray}:Ep l s=none↔∀ x ∈ l,x.name≠s:=by
 unfold Ep
 rw [Option.map_eq_none_iff,List.find?_eq_none]
 simp
def hyB (rows:List ND) (by':List HY):Bool:=by'.all fun h=>hasB rows.length h.form
def Tq (by':List HY):Bool:=!decide ((by'.map (·.name)).Nodup)
def Nb (by':List HY):Bool:=by'.all fun h=>word h.name
noncomputable def Eh (rows:List ND) (id:Int) (by':List HY):Put:=
 if hasB rows.length id=false∨hyB rows by'=false then ⟨rows,0,31⟩
 else if Tq by'=true then ⟨rows,0,70⟩
 else if Nb by'=false then ⟨rows,0,32⟩
 else Iw (Jo (Ep by')) rows id.toNat
theorem Yb {l:List HY} {h:HY} (hd:(l.map (·.name)).Nodup):((l++[h]).map (·.name)).Nodup↔Ep l h.name=none:=by
 rw [gX,List.map_append,List.nodup_append]
 simp only [List.map_cons,List.map_nil,List.nodup_cons,List.not_mem_nil,not_false_eq_true,List.nodup_nil,and_self,true_and,hd,List.mem_map,List.mem_singleton,ne_eq]
 constructor
 ·intro hh x hx e;exact hh x.name ⟨x,hx,rfl⟩ _ rfl e
 ·rintro hh a ⟨x,hx,rfl⟩ b rfl e;exact hh x hx e
theorem Yu {l:List HY} (k:Nat) (h:(l.map (·.name)).Nodup):((l.take k).map (·.name)).Nodup:=by
 rw [List.map_take];exact h.sublist (List.take_sublist _ _)
theorem yC (rows:List ND) (n:ND):0≤(put rows n).id:=by
 unfold put
 split
 ·exact Int.le_refl _
 ·split
  ·exact Int.natCast_nonneg _
  ·split
   ·exact Int.le_refl _
   ·exact Int.natCast_nonneg _
theorem oJ (rows:List ND) (k:Nat) (n:ND) (l r:Int):0≤(Jw rows k n l r).id:=by
 unfold Jw
 split
 ·exact Int.natCast_nonneg _
 ·exact yC _ _
theorem uS {named:ByteArray→Option Int} (hb:∀ s f,named s=some f→0≤f) (rows:List ND) (k:Nat) (n:ND) (l r:Int) (_hl:0≤l) (_hr:0≤r):0≤(Jo named rows k n l r).id:=by
 rw [Qj]
 split
 ·cases hn:named n.name with
  | none=>simp
  | some f=>exact hb _ _ hn
 ·exact oJ _ _ _ _ _
end Go.Dk
end
section
namespace Go.Dk
open Go.RowKit Go.Maps Go.MapKept Go.ChangeShapes Go.WideShapes Go.Deep
open Go.Proofs hiding intOf
structure NDin (n:ND):Prop where
 nm:n.name.size≤maxLen
 k:(Lit.int .i64 n.kind).wf=true
 l:(Lit.int .i64 n.l).wf=true
 r:(Lit.int .i64 n.r).wf=true
theorem pN {α:Type} [Inhabited α] {n:Nat} {p:Nat→α→Prop} (h:∀ i,i<n→∃ x,p i x):∃ f:Nat→α,∀ i,i<n→p i (f i):=choose_lt h
theorem mO {α:Type} {f:α→List Value} {s:Nat} (hf:∀ a,(f a).length=s):∀ (l:List α) (j:Nat) (u:Value),(l.flatMap f)[j]? = some u→∃ i k a,j=i * s+k∧k<s∧l[i]? = some a∧(f a)[k]? = some u
 | [],j,u,h=>by simp at h
 | a::l,j,u,h=>by
  rw [List.flatMap_cons] at h
  by_cases hj:j<s
  ·rw [List.getElem?_append_left (by rw [hf];exact hj)] at h
   exact ⟨0,j,a,by simp,hj,rfl,h⟩
  ·rw [List.getElem?_append_right (by rw [hf];omega),hf] at h
   obtain ⟨i,k,b,e,hk,h1,h2⟩:=mO hf l _ u h
   exact ⟨i+1,k,b,by rw [Nat.add_mul];omega,hk,by simpa using h1,h2⟩
instance:Inhabited ND:=⟨⟨0,⟨#[]⟩,0,0⟩⟩
section
variable {H:Type} {enc:TypeId × Value→H} {w:World} {base:Nat} {spare:Nat→Bool} {held:Bool}
set_option maxRecDepth 100000 in
theorem qZ {fuel:Nat} {cs:List Value} {x:DataW H × List MemPlace} (h:DataW.trod enc Tryz.prog w base spare held fuel 31 cs=some x):∃ n:ND,cs=n.cells∧NDin n∧x.2 = []:=by
 obtain ⟨y0,y1,y2,y3,m,rfl,hl,h0,h1,h2,h3⟩:=Go.Joins.trod_struct4 Tryz.underlying31 h
 have hc:Tryz.prog.cellsOf 31=4:=by kernel_rfl
 rw [hc] at hl
 match cs,hl with
 | [c0,c1,c2,c3],_=>
  obtain ⟨k,e0,rfl,w0⟩:=DataW.trod_int (Tryz.underlying29) h0
  obtain ⟨s,e1,rfl,w1⟩:=DataW.trod_string (Tryz.underlying9) h1
  obtain ⟨l,e2,rfl,w2⟩:=DataW.trod_int (Tryz.underlying3) h2
  obtain ⟨r,e3,rfl,w3⟩:=DataW.trod_int (Tryz.underlying3) h3
  have k1:Tryz.prog.cellsOf 3=1:=by kernel_rfl
  have k2:Tryz.prog.cellsOf 9=1:=by kernel_rfl
  have k3:Tryz.prog.cellsOf 29=1:=by kernel_rfl
  simp only [k1,k2,k3] at e0 e1 e2 e3
  refine ⟨⟨k,s,l,r⟩,?_,⟨w1,w0,w2,w3⟩,rfl⟩
  simp at e0 e1 e2 e3
  subst e0 e1 e2 e3
  rfl
set_option maxRecDepth 100000 in
theorem bH {α:Type} [Inhabited α] {te ts:TypeId} (cells:α→List Value) (In:α→Prop) (s:Nat) (hs:0<s) (hlen:∀ a,(cells a).length=s) (hc:Tryz.prog.cellsOf te=s) (ht:Tryz.prog.underlying ts=some (.slice te))
  (hop:∀ (fuel:Nat) (cs:List Value) (x:DataW H × List MemPlace),DataW.trod enc Tryz.prog w base spare held fuel te cs=some x→∃ a,cs=cells a∧In a)
  {v:Value} {r:Go.Reach} {b0:Nat} {d:DataW H} {p:List MemPlace} (hv:Value.okWide Tryz.prog w r b0 ts v) (h:DataW.Trod enc Tryz.prog w base spare held ts v d p) :
  ∃ rows:List α,Rd w v rows.length s (rows.flatMap cells)∧rows.length≤maxLen∧(∀ n ∈ rows,In n)∧∀ B,(∀ m ∈ d.weights Tryz.prog ts,m≤B)→rows.length * Tryz.prog.bytesOf te≤B:=by
 obtain ⟨a,len,cap,rfl⟩:=okWide_slice ht hv
 obtain ⟨fuel,hf⟩:=h
 have hfl:∀ l:List α,(l.flatMap cells).length=l.length * s:=by
  intro l
  induction l with
  | nil=>simp
  | cons a t ih=>rw [List.flatMap_cons,List.length_append,ih,hlen,List.length_cons,Nat.add_mul];omega
 rcases open_slice ht hf with ⟨hcs,hdp⟩ | ⟨x,l,c,m,n,D,Pl,hcs,_,hl,hm,hmm,hx,hi⟩
 ·simp [Value.cells] at hcs
  obtain ⟨rfl,rfl,rfl⟩:=hcs
  obtain ⟨rfl,rfl⟩:=Prod.mk.inj hdp
  exact ⟨[],⟨⟨none,0,rfl,fun _=>⟨rfl,rfl⟩,fun _ h=>by cases h⟩,by simp⟩,by simp,by simp,by simp⟩
 ·simp [Value.cells] at hcs
  obtain ⟨rfl,rfl,rfl⟩:=hcs
  have hlm:len≤m:=by rw [hmm];split<;>omega
  obtain ⟨f,hF⟩:=pN (α:=α) (n:=len) (p:=fun i nd=>w.cells? base (x.add (i * s)) s=some (cells nd)∧In nd) (fun i hil=>by
   obtain ⟨cs',h1,h2⟩:=hi i (by omega)
   rw [hc] at h1
   obtain ⟨nd,e,hn⟩:=hop _ _ _ h2
   exact ⟨nd,by rw [← e];exact h1,hn⟩)
  have hll:((List.range len).map f).length=len:=by simp
  refine ⟨(List.range len).map f,⟨⟨some x,cap,by rw [hll],fun h=>by (cases h),fun ad ha=>?_⟩,hfl _⟩,by rw [hll];omega,?_,?_⟩
  ·cases ha
   have hs':len≠0→x.spot=none:=by
    intro h0
    obtain ⟨_,_,hat⟩:=World.cells?_some (hF 0 (by omega)).1
    have:=hat 0 hs
    rw [Nat.zero_mul,add_add,List.getElem?_eq_getElem (by rw [hlen];exact hs)] at this
    obtain ⟨b,o,sp⟩:=x
    cases sp with
    | none=>rfl
    | some s=>
     exfalso
     unfold Addr.add World.cell? at this
     simp at this
     split at this<;>simp at this
   refine ⟨fun h=>hs' (by rwa [hll] at h),fun j u hu=>?_⟩
   obtain ⟨i,k,nd,rfl,hk,h1,h2⟩:=mO (s:=s) hlen _ _ _ hu
   have hil:i<len:=by
    have:=(List.getElem?_eq_some_iff.1 h1).1
    rw [hll] at this;exact this
   rw [List.getElem?_map,List.getElem?_range hil] at h1
   simp only [Option.map_some,Option.some.injEq] at h1
   subst h1
   obtain ⟨_,_,hat⟩:=World.cells?_some (hF i hil).1
   have:=hat k hk
   rw [h2,add_add] at this
   rw [← this]
   congr 1
   have hs':=hs' (by omega)
   obtain ⟨b,o,sp⟩:=x
   simp only at hs'
   subst hs'
   unfold Addr.add
   split<;>simp_all
  ·intro n hn
   obtain ⟨i,hi',rfl⟩:=List.mem_map.1 hn
   exact (hF i (List.mem_range.1 hi')).2
  ·intro B hB
   rw [(Prod.mk.inj hx).1] at hB
   have:=hB ((((List.range len).map D).length+((List.range (m - len)).map fun j=>D (len+j)).length) * Tryz.prog.bytesOf te) (by simp [DataW.weights,ht])
   simp only [List.length_map,List.length_range] at this ⊢
   exact Nat.le_trans (Nat.mul_le_mul_right _ (by omega)) this
set_option maxRecDepth 100000 in
theorem open_nodes {v:Value} {r:Go.Reach} {b0:Nat} {d:DataW H} {p:List MemPlace} (hv:Value.okWide Tryz.prog w r b0 22 v) (h:DataW.Trod enc Tryz.prog w base spare held 22 v d p) :
  ∃ rows:List ND,Rd w v rows.length 4 (As rows)∧rows.length≤maxLen∧(∀ n ∈ rows,NDin n)∧∀ B,(∀ m ∈ d.weights Tryz.prog 22,m≤B)→rows.length * 40≤B:=by
 have hby:Tryz.prog.bytesOf 31=40:=by kernel_rfl
 have:=bH (te:=31) ND.cells NDin 4 (by decide) (fun _=>rfl) (by kernel_rfl) Tryz.underlying22 (fun _ _ _ h=>by obtain ⟨n,e,hn,_⟩:=qZ h;exact ⟨n,e,hn⟩) hv h
 rw [hby] at this
 exact this
def xB (z:Int):Prop:=(Lit.int .i64 z).wf=true
theorem qT (zs:List Int):zs.flatMap (fun z=>[Value.int .i64 z])=ints zs:=by
 induction zs with
 | nil=>rfl
 | cons a t ih=>rw [List.flatMap_cons,ih];rfl
set_option maxRecDepth 100000 in
theorem open_intsR {v:Value} {r:Go.Reach} {b0:Nat} {d:DataW H} {p:List MemPlace} (hv:Value.okWide Tryz.prog w r b0 23 v) (h:DataW.Trod enc Tryz.prog w base spare held 23 v d p) :
  ∃ zs:List Int,Rd w v zs.length 1 (ints zs)∧zs.length≤maxLen∧(∀ z ∈ zs,xB z)∧∀ B,(∀ m ∈ d.weights Tryz.prog 23,m≤B)→zs.length * 8≤B:=by
 have hby:Tryz.prog.bytesOf 3=8:=by kernel_rfl
 have:=bH (te:=3) (fun z=>[Value.int .i64 z]) xB 1 (by decide) (fun _=>rfl) (by kernel_rfl) Tryz.underlying23 (fun _ _ _ h=>by obtain ⟨z,e,_,hw⟩:=DataW.trod_int Tryz.underlying3 h;exact ⟨z,e,hw⟩) hv h
 rw [hby] at this
 simp only [qT] at this
 exact this
end
theorem sized_arg {H:Type} {P:Program} {ts:List TypeId} {ds:List (DataW H)} {j:Nat} {t:TypeId} {d:DataW H} (h:(DataW.weightsEach P ts ds).all (·≤reachBytes)=true) (ht:ts[j]? = some t) (hd:ds[j]? = some d):∀ m ∈ d.weights P t,m≤140737488355328:=fun m hm=>by
 have:=List.all_eq_true.1 h m (DataW.weights_mem_each ht hd m hm)
 have h2:m≤reachBytes:=by simpa using this
 have:reachBytes≤140737488355328:=by decide
 omega
end Go.Dk
end
section
namespace Go.Dk
open Go.RowKit Go.Maps Go.MapKept
open Go.Proofs hiding intOf
def Hw:List ND→List ND→Int
 | _,[]=>0
 | acc,n::r=>if (put acc n).err≠0 then (put acc n).err else if (put acc n).id≠(acc.length:Int) then 31 else Hw (acc++[n]) r
theorem Vl {acc:List ND} {n:ND} (_ok:Ok acc) (he:(put acc n).err=0) (hi:(put acc n).id=(acc.length:Int)):(put acc n).rows=acc++[n]:=by
 unfold put at *
 split at he
 ·rename_i hf;simp only at he;exact absurd he hf
 ·rename_i hf
  rw [if_neg hf] at hi ⊢
  cases hx:acc.idxOf? n with
  | some i=>
   rw [hx] at hi
   simp only at hi
   have:=(List.getElem?_eq_some_iff.1 (Ks hx)).1
   omega
  | none=>
   rw [hx] at hi he
   simp only at hi he ⊢
   split at he
   ·cases he
   ·rename_i hl;rw [if_neg hl]
theorem Zn {rows:List ND} {i:Nat} {n:ND} (hi:rows[i]? = some n):Hw (rows.take i) (rows.drop i)=if (put (rows.take i) n).err≠0 then (put (rows.take i) n).err else if (put (rows.take i) n).id≠((rows.take i).length:Int) then 31 else Hw (rows.take (i+1)) (rows.drop (i+1)):=by
 have hl:=(List.getElem?_eq_some_iff.1 hi).1
 have e:rows.drop i=n::rows.drop (i+1):=by
  rw [List.drop_eq_getElem_cons hl,(List.getElem?_eq_some_iff.1 hi).2]
 have e2:rows.take (i+1)=rows.take i++[n]:=by rw [List.take_add_one,hi];rfl
 rw [e,Hw,e2]
theorem Vb {w:World} {v:Value} {rows:List ND} (h:Rd w v rows.length 4 (As rows)) {i:Nat} {n:ND} (hi:rows[i]? = some n) :
  ∃ b o c,v = .slice (some ⟨b,o,none⟩) rows.length c∧w.cell? ⟨b,o+i * 4,none⟩=some (.int .i64 n.kind)∧w.cell? ⟨b,o+i * 4+1,none⟩=some (.string n.name)∧w.cell? ⟨b,o+i * 4+2,none⟩=some (.int .i64 n.l)∧w.cell? ⟨b,o+i * 4+3,none⟩=some (.int .i64 n.r):=by
 have hl:=(List.getElem?_eq_some_iff.1 hi).1
 obtain ⟨b,o,c,rfl,hc⟩:=h.some (by omega)
 have e:∀ j,o+(i * 4+j)=o+i * 4+j:=fun j=>by omega
 exact ⟨b,o,c,rfl,hc _ _ (Bm rows i n hi 0 (by omega)),by rw [← e];exact hc _ _ (Bm rows i n hi 1 (by omega)),by rw [← e];exact hc _ _ (Bm rows i n hi 2 (by omega)),by rw [← e];exact hc _ _ (Bm rows i n hi 3 (by omega))⟩
def iK (T:Nat→Own→World→Value→List ND→Prop) (k:Nat) (ow:Own) (w:World) (rows:List ND) (e:Ending) (w':World):Prop:=
 ∃ v',e = .returned (.tuple #[v',.int .i64 (Hw [] rows)])∧Below w.heap.size w w'∧(Hw [] rows=0→∃ ow',Kept k ow w ow' w'∧T k ow' w' v' rows)∧(Hw [] rows≠0→v' = .pointer none)
structure FromI (T:Nat→Own→World→Value→List ND→Prop) (w W:World) (t:Value) (rows:List ND) (i:Nat):Prop where
 ex:∃ ow',T 1 ow' W t (rows.take i)∧Kept 1 (owC w) w ow' W
 eq:Hw [] rows=Hw (rows.take i) (rows.drop i)
theorem FromI.bel {T:Nat→Own→World→Value→List ND→Prop} {w W:World} {t:Value} {rows:List ND} {i:Nat} (h:FromI T w W t rows i):Below w.heap.size w W:=by
 obtain ⟨⟨ow',_,hk⟩,_⟩:=h
 exact Ky hk
theorem aT {T:Nat→Own→World→Value→List ND→Prop} (rec:∀ {k k2:Nat} {ow ow2:Own} {w:World} {t:Value} {rows:List ND},T k ow w t rows→(∀ b,ow b=k→ow2 b=k2)→T k2 ow2 w t rows)
  {w W:World} {t:Value} {rows:List ND} (h:FromI T w W t rows rows.length) (k:Nat) (ow:Own):Hw [] rows=0∧∃ ow',Kept k ow w ow' W∧T k ow' W t rows:=by
 have hb:=h.bel
 obtain ⟨⟨ow',ht,hk⟩,he⟩:=h
 rw [List.take_length] at ht
 refine ⟨by rw [he];simp [Hw],fun b=>if b<w.heap.size then ow b else k,(hb.kept_ow).recolour (fun b hb=>by simp [hb]),rec ht fun b hb'=>?_⟩
 by_cases hl:b<w.heap.size
 ·have:=hk.own b hl
  rw [hb'] at this
  simp [owC,hl] at this
 ·simp [hl]
set_option maxRecDepth 100000 in
set_option maxHeartbeats 400000 in
theorem Ww (k:Nat) (ow:Own) (w:World) (v:Value) (rows:List ND) (hn:∀ n ∈ rows,n.name.size≤maxLen) (hr:Rd w v rows.length 4 (As rows)) (hm:rows.length≤maxLen) :
  Calls Tryz.prog 23 #[v] w (iK RTab k ow w rows):=by
 unfold maxLen at hm
 have HR:=Aa hr
 have HN:=Aa hn
 obtain ⟨a,c,rfl⟩:=hr.slice
 have h0:FromI RTab w (w.alloc (.cells #[.slice none 0 0] 33)) (.pointer (some ⟨w.heap.size,0,none⟩)) rows 0:=by
  refine ⟨⟨owC w,⟨w.heap.size,.slice none 0 0,rfl,heap_alloc_new w _,.inl (World.ownsRow_nil _ _ _ _),Ok.nil,by simp [owC],fun g h=>by simp [Value.ownBlock] at h⟩,(Ab w _).kept_ow⟩,rfl⟩
 have H0:=Aa h0
 clear hr hn h0
 go_enter Tryz.func23,Tryz.ntmps23
 go_wp2
 go_loopw [5,6,7] (fun i _ _ W=>∃ j:Nat,j≤rows.length∧i = .int .i64 j∧FromI RTab w W (.pointer (some ⟨w.heap.size,0,none⟩)) rows j) (fun i _ _ _=>rows.length - (intOf i).toNat)
 case atStart=>exact ⟨0,Nat.zero_le _,rfl,H0.o⟩
 case round=>
  obtain ⟨j,hj,rfl,hI⟩:=hrel
  have HI:=Aa hI
  by_cases hlt:j<rows.length
  ·obtain ⟨n,hx⟩:∃ n,rows[j]? = some n:=⟨_,List.getElem?_eq_getElem hlt⟩
   obtain ⟨b,o,c',hv,d0,d1,d2,d3⟩:=Vb (HR.o.below hI.bel) hx
   cases hv
   obtain ⟨ow1,ht1,hk1⟩:=hI.ex
   have hstep:=Zn hx
   have hlen:(rows.take j).length=j:=by simp;omega
   have hnm:n.name.size≤maxLen:=HN.o n (List.mem_of_getElem? hx)
   have HT1:=Aa ht1;have HK1:=Aa hk1;have HX:=Aa hx;have HS:=Aa hstep;have HL:=Aa hlen
   obtain ⟨kd,nm,l,r⟩:=n
   clear hI ht1 hk1 hx hstep hlen
   by_cases he:(put (rows.take j) ⟨kd,nm,l,r⟩).err=0
   ·by_cases hi:(put (rows.take j) ⟨kd,nm,l,r⟩).id=(j:Int)
    ·have HE:=Aa he;have HID:=Aa hi
     go_wp2_with (go_at_call 42;refine (Qa 1 _ _ _ _ HT1.o _ _ _ _ hnm).mono ?_;rintro e w2 ⟨rfl,ow2,hk2,ht2⟩)
     refine ⟨⟨j+1,by omega,by go_num,⟨ow2,?_,HK1.o.trans hk2⟩,?_⟩,by simp [intOf];omega⟩
     ·have e2:rows.take (j+1)=rows.take j++[⟨kd,nm,l,r⟩]:=by rw [List.take_add_one,HX.o];rfl
      rw [e2,← Vl HT1.o.ok HE.o (by rw [HID.o,HL.o])]
      exact ht2
     ·rw [HI.o.eq,HS.o,if_neg (by simp [HE.o]),if_neg (by rw [HID.o,HL.o];simp)]
    ·have hb:((put (rows.take j) ⟨kd,nm,l,r⟩).id != (j:Int))=true:=by simp [hi]
     have HF:Hid (Hw [] rows=31):=by rw [Hid,HI.o.eq,HS.o,if_neg (by simp [he]),if_pos (by rw [HL.o];exact hi)]
     go_wp2_with (go_at_call 42;refine (Qa 1 _ _ _ _ HT1.o _ _ _ _ hnm).mono ?_;rintro e w2 ⟨rfl,ow2,hk2,ht2⟩)
     go_ret2
     refine ⟨.pointer none,by rw [HF.o];rfl,Ky (HK1.o.trans hk2),(by rw [HF.o];intro h;cases h),fun _=>rfl⟩
   ·have hb:((put (rows.take j) ⟨kd,nm,l,r⟩).err != 0)=true:=by simp [he]
    have HF:Hid (Hw [] rows=(put (rows.take j) ⟨kd,nm,l,r⟩).err):=by rw [Hid,HI.o.eq,HS.o,if_pos he]
    have HE:=Aa he
    clear he
    go_wp2_with (go_at_call 42;refine (Qa 1 _ _ _ _ HT1.o _ _ _ _ hnm).mono ?_;rintro e w2 ⟨rfl,ow2,hk2,ht2⟩)
    go_ret2
    refine ⟨.pointer none,by rw [HF.o];rfl,Ky (HK1.o.trans hk2),(by rw [HF.o];intro h;exact absurd h HE.o),fun _=>rfl⟩
  ·have hjl:j=rows.length:=by omega
   subst hjl
   obtain ⟨f1,f2⟩:=aT (fun h hc=>h.recolour hc) hI k ow
   have HF1:=Aa f1;have HF2:=Aa f2
   clear hI f1 f2
   go_wp2
   go_ret2
   refine ⟨_,by rw [HF1.o];rfl,HI.o.bel,fun _=>HF2.o,fun h=>absurd HF1.o h⟩
set_option maxRecDepth 100000 in
set_option maxHeartbeats 400000 in
theorem fU (k:Nat) (ow:Own) (w:World) (v:Value) (rows:List ND) (hn:∀ n ∈ rows,n.name.size≤maxLen) (hr:Rd w v rows.length 4 (As rows)) (hm:rows.length≤maxLen) :
  Calls Tryz.prog 24 #[v] w (iK Tab k ow w rows):=by
 unfold maxLen at hm
 have HR:=Aa hr
 have HN:=Aa hn
 obtain ⟨a,c,rfl⟩:=hr.slice
 clear hr hn
 go_enter Tryz.func24,Tryz.ntmps24
 go_wp2_with (go_at_call 43;refine (new_any 1 (owC w) w).mono ?_;rintro e w1 ⟨tc,ow1,rfl,ht1,hk1,hb1⟩)
 have H0:Hid (FromI Tab w w1 tc rows 0):=⟨⟨ow1,by simpa using ht1,hk1⟩,rfl⟩
 clear ht1 hk1 hb1
 go_loopw [5,6,7,8,12] (fun _ _ _ _ i W=>∃ j:Nat,j≤rows.length∧i = .int .i64 j∧FromI Tab w W tc rows j) (fun _ _ _ _ i _=>rows.length - (intOf i).toNat)
 case atStart=>exact ⟨0,Nat.zero_le _,rfl,H0.o⟩
 case round=>
  obtain ⟨j,hj,rfl,hI⟩:=hrel
  have HI:=Aa hI
  by_cases hlt:j<rows.length
  ·obtain ⟨n,hx⟩:∃ n,rows[j]? = some n:=⟨_,List.getElem?_eq_getElem hlt⟩
   obtain ⟨b,o,c',hv,d0,d1,d2,d3⟩:=Vb (HR.o.below hI.bel) hx
   cases hv
   obtain ⟨ow1,ht1,hk1⟩:=hI.ex
   have hstep:=Zn hx
   have hlen:(rows.take j).length=j:=by simp;omega
   have hnm:n.name.size≤maxLen:=HN.o n (List.mem_of_getElem? hx)
   have HT1:=Aa (ht1.below (Ab wr (.cells #[.int .i64 n.kind,.string n.name,.int .i64 n.l,.int .i64 n.r] 31)))
   have HK1:=Aa (hk1.trans (Ab wr (.cells #[.int .i64 n.kind,.string n.name,.int .i64 n.l,.int .i64 n.r] 31)).kept_ow);have HX:=Aa hx;have HS:=Aa hstep;have HL:=Aa hlen
   obtain ⟨kd,nm,l,r⟩:=n
   clear hI ht1 hk1 hx hstep hlen
   by_cases he:(put (rows.take j) ⟨kd,nm,l,r⟩).err=0
   ·by_cases hi:(put (rows.take j) ⟨kd,nm,l,r⟩).id=(j:Int)
    ·have HE:=Aa he;have HID:=Aa hi
     go_wp2_with (go_at_call 44;refine (put_any 1 _ _ _ _ HT1.o _ _ _ _ hnm).mono ?_;rintro e w2 ⟨rfl,ow2,hk2,ht2⟩)
     refine ⟨⟨j+1,by omega,by go_num,⟨ow2,?_,HK1.o.trans hk2⟩,?_⟩,by simp [intOf];omega⟩
     ·have e2:rows.take (j+1)=rows.take j++[⟨kd,nm,l,r⟩]:=by rw [List.take_add_one,HX.o];rfl
      rw [e2,← Vl HT1.o.ok HE.o (by rw [HID.o,HL.o])]
      exact ht2
     ·rw [HI.o.eq,HS.o,if_neg (by simp [HE.o]),if_neg (by rw [HID.o,HL.o];simp)]
    ·have hb:((put (rows.take j) ⟨kd,nm,l,r⟩).id != (j:Int))=true:=by simp [hi]
     have HF:Hid (Hw [] rows=31):=by rw [Hid,HI.o.eq,HS.o,if_neg (by simp [he]),if_pos (by rw [HL.o];exact hi)]
     go_wp2_with (go_at_call 44;refine (put_any 1 _ _ _ _ HT1.o _ _ _ _ hnm).mono ?_;rintro e w2 ⟨rfl,ow2,hk2,ht2⟩)
     go_ret2
     refine ⟨.pointer none,by rw [HF.o];rfl,Ky (HK1.o.trans hk2),(by rw [HF.o];intro h;cases h),fun _=>rfl⟩
   ·have hb:((put (rows.take j) ⟨kd,nm,l,r⟩).err != 0)=true:=by simp [he]
    have hb':((put (rows.take j) ⟨kd,nm,l,r⟩).err == 0)=false:=by simp [he]
    have HF:Hid (Hw [] rows=(put (rows.take j) ⟨kd,nm,l,r⟩).err):=by rw [Hid,HI.o.eq,HS.o,if_pos he]
    have HE:=Aa he
    clear he
    go_wp2_with (go_at_call 44;refine (put_any 1 _ _ _ _ HT1.o _ _ _ _ hnm).mono ?_;rintro e w2 ⟨rfl,ow2,hk2,ht2⟩)
    go_ret2
    refine ⟨.pointer none,by rw [HF.o];rfl,Ky (HK1.o.trans hk2),(by rw [HF.o];intro h;exact absurd h HE.o),fun _=>rfl⟩
  ·have hjl:j=rows.length:=by omega
   subst hjl
   obtain ⟨f1,f2⟩:=aT (fun h hc=>h.recolour hc) hI k ow
   have HF1:=Aa f1;have HF2:=Aa f2
   clear hI f1 f2
   go_wp2
   go_ret2
   refine ⟨_,by rw [HF1.o];rfl,HI.o.bel,fun _=>HF2.o,fun h=>absurd HF1.o h⟩
end Go.Dk
end
section
namespace Go.Dk
open Go.RowKit Go.Maps Go.MapKept
open Go.Proofs hiding intOf
set_option maxRecDepth 100000 in
set_option maxHeartbeats 400000 in
theorem gP (w:World) (v u:Value) (xs ys:List ND) (hm:xs.length≤maxLen) (hx:Rd w v xs.length 4 (As xs)) (hy:Rd w u ys.length 4 (As ys)) :
  Calls Tryz.prog 37 #[v,u] w fun e w'=>e = .returned (.bool (decide (xs=ys)))∧Below w.heap.size w w':=by
 unfold maxLen at hm
 obtain ⟨a,c,rfl⟩:=hx.slice
 obtain ⟨a',c',rfl⟩:=hy.slice
 have HX:=Aa hx;have HY:=Aa hy
 clear hx hy
 by_cases hnm:xs.length=ys.length
 ·have HNM:=Aa hnm
  have hb0:((xs.length:Int) != (ys.length:Int))=false:=by simp [hnm]
  clear hnm
  go_enter Tryz.func37,Tryz.ntmps37
  go_wp2
  go_loopw [5] (fun i W=>∃ k:Nat,k≤xs.length∧i = .int .i64 k∧xs.take k=ys.take k∧Below w.heap.size w W) (fun i _=>xs.length - (intOf i).toNat)
  case atStart=>exact ⟨0,Nat.zero_le _,rfl,rfl,Below.refl _ _⟩
  case round=>
   obtain ⟨k,hk,rfl,ht,hb⟩:=hrel
   have HT:=Aa ht
   clear ht
   by_cases hlt:k<xs.length
   ·have hlt':k<ys.length:=by rw [← HNM.o];exact hlt
    obtain ⟨x,hxx⟩:∃ x,xs[k]? = some x:=⟨_,List.getElem?_eq_getElem hlt⟩
    obtain ⟨y,hyy⟩:∃ y,ys[k]? = some y:=⟨_,List.getElem?_eq_getElem hlt'⟩
    obtain ⟨b,o,c1,e1,d0,d1,d2,d3⟩:=Vb (HX.o.below hb) hxx
    obtain ⟨b',o',c1',e1',f0,f1,f2,f3⟩:=Vb (HY.o.below hb) hyy
    cases e1;cases e1'
    have hq:=fun W=>yE W x y
    have HZ:=Aa hxx;have HZ':=Aa hyy
    have hki:(k:Int)<(xs.length:Int):=by omega
    have hki':(k:Int)<(ys.length:Int):=by omega
    clear hxx hyy
    by_cases hzz:x=y
    ·have hd:decide (x=y)=true:=by simp [hzz]
     have HZZ:=Aa hzz
     clear hzz
     go_wp2
     go_quiet (fail)
     go_wp2
     exact ⟨⟨k+1,by omega,by go_num,by rw [List.take_add_one,List.take_add_one,HT.o,HZ.o,HZ'.o,HZZ.o],hb.trans ((below_drewN wr nq).mono hb.size)⟩,by simp [intOf];omega⟩
    ·have hd:decide (x=y)=false:=by simp [hzz]
     have HNE:Hid (decide (xs=ys)=false):=by
      rw [Hid,decide_eq_false_iff_not]
      intro e;subst e
      have h1:=HZ.o;have h2:=HZ'.o
      rw [h1] at h2;cases h2;exact hzz rfl
     clear hzz
     go_wp2
     go_quiet (fail)
     go_wp2
     go_ret
     exact ⟨Ce HNE.o.symm,hb.trans ((below_drewN wr nq).mono hb.size)⟩
   ·have HEQ:Hid (decide (xs=ys)=true):=by
     rw [Hid,decide_eq_true_eq]
     have:=HT.o
     rwa [List.take_of_length_le (by omega),List.take_of_length_le (by rw [← HNM.o];omega)] at this
    go_wp2
    go_ret
    exact ⟨Ce HEQ.o.symm,hb⟩
 ·have hb:((xs.length:Int) != (ys.length:Int))=true:=by simp;omega
  have HNE:Hid (decide (xs=ys)=false):=by
   rw [Hid,decide_eq_false_iff_not]
   intro e;subst e;exact hnm rfl
  go_enter Tryz.func37,Tryz.ntmps37
  go_wp2
  go_ret
  exact ⟨Ce HNE.o.symm,Below.refl _ _⟩
def tD (rows:List ND) (w:World) (e:Ending) (w':World):Prop:=∃ v',e = .returned v'∧Rd w' v' rows.length 4 (As rows)∧Below w.heap.size w w'
theorem qO (k:Nat) (ow:Own) (w:World) (t:Value) (rows:List ND) (h:Tab k ow w t rows):Calls Tryz.prog 38 #[t] w (tD rows w):=
 (sE k ow w t rows h).mono fun _ _ ⟨v',h1,h2,h3⟩=>⟨v',h1,Hv h2,h3⟩
set_option maxRecDepth 100000 in
set_option maxHeartbeats 400000 in
theorem sD (k k2:Nat) (ow ow2:Own) (w:World) (t r:Value) (rows:List ND) (h:Tab k ow w t rows) (h2:RTab k2 ow2 w r rows) :
  Calls Tryz.prog 19 #[t,r] w fun e w'=>e = .returned (.bool true)∧Below w.heap.size w w':=by
 have hle:=h.ok.le
 have H:=Aa h
 obtain ⟨rb,v,rfl,ht⟩:=h2
 obtain ⟨a,c,rfl⟩:=ht.hr.slice
 have c5:w.cell? ⟨rb,0,none⟩=some (.slice a rows.length c):=cell_of ht.hp rfl
 have HT:=Aa ht
 have lr:=lt_of_block ht.hp
 clear h ht
 go_enter Tryz.func19,Tryz.ntmps19
 go_wp2_with fail
 go_region_held3 (fun w'=>w'.cell? ⟨rb,0,none⟩=some (.slice a rows.length c)) (first | assumption)
  (first
   | (go_at_call 38;refine (qO k ow w.drew _ rows (H.o.below (Below.refl _ w).drew)).mono ?_;rintro e w1 ⟨v',rfl,hrd1,hb1⟩;have hb1':Below w.heap.size w w1:=(Below.refl _ w).drew.trans hb1;have c6:w1.cell? ⟨rb,0,none⟩=some (.slice a rows.length c):=(hb1'.cell (p:=⟨rb,0,none⟩) lr).trans c5)
   | (go_at_call 37;refine (gP _ _ _ rows rows (by unfold maxLen;omega) hrd1 (HT.o.below hb1').hr.rd).mono ?_;rintro e w2 ⟨rfl,hb2⟩;have hb2':Below w.heap.size w w2:=Ac hb1' hb2;have c7:w2.cell? ⟨rb,0,none⟩=some (.slice a rows.length c):=(hb2'.cell (p:=⟨rb,0,none⟩) lr).trans c5)
   | (go_at_call 31;refine (len_any k ow _ _ rows (H.o.below hb2')).mono ?_;rintro e w3 ⟨rfl,rfl⟩))
 all_goals
  go_wp2
  go_ret
  exact ⟨by simp,by assumption⟩
end Go.Dk
end
section
namespace Go.Dk
open Go.RowKit Go.Maps Go.MapKept
open Go.Proofs hiding intOf
def hr1:List ND:=[⟨1,⟨#[112]⟩,0,0⟩]
def hr2:List ND:=[⟨1,⟨#[112]⟩,0,0⟩,⟨1,⟨#[113]⟩,0,0⟩]
theorem hp2:put hr1 ⟨1,⟨#[113]⟩,0,0⟩=⟨hr2,1,0⟩:=by kernel_rfl
end Go.Dk
end
section
namespace Go.Dk
open Go.RowKit Go.Maps Go.MapKept
open Go.Proofs hiding intOf
theorem Tab.ptr {k:Nat} {ow:Own} {w:World} {t:Value} {rows:List ND} (h:Tab k ow w t rows):∃ pb,t = .pointer (some ⟨pb,0,none⟩):=by
 obtain ⟨pb,mb,v,e,_⟩:=h;exact ⟨pb,e⟩
end Go.Dk
end
section
namespace Go.Dk
open Go.RowKit Go.Maps Go.MapKept
open Go.Proofs hiding intOf
def yG (of:ND→Int→Int→Int) (rows:List ND) (done:List Nat) (x:Nat):Option Int:=if x ∈ done then some (val of rows x) else none
def cV (x:Int):Value:=.int .i64 x
theorem TM.look_int {w:World} {b:Nat} {f:Nat→Option Int} (h:TM Tryz.prog 3 Jq cV w b f) (x:Nat) (hx:x≤9223372036854775807) :
  (Instr.lookup 150 (.map (some b)) (.int .i64 (x:Int)) false).run Tryz.prog w = .ok (.int .i64 ((f x).getD 0)) w:=by
 cases hf:f x with
 | none=>exact h.look_none Hz Ek Tryz.underlying150 (dO _) (Qh x hx) false hf
 | some v=>exact h.look_some Hz Ek Tryz.underlying150 (Qh x hx) false hf
structure FoldI (of:ND→Int→Int→Int) (rows:List ND) (i mb:Nat) (w2 W:World) (k:Nat):Prop where
 g:w2.grownBy W (some mb)
 m:TM Tryz.prog 3 Jq cV W mb (yG of rows ((below rows i).take k))
theorem grown_below {w w':World} (h:Below w.heap.size w w') {r:Option Nat}:w.grownBy w' r:=⟨h.os,h.tape,h.output,h.size,fun k hk _=>h.block k hk⟩
theorem FoldI.below {of:ND→Int→Int→Int} {rows:List ND} {i mb:Nat} {w2 W W':World} {k:Nat} (h:FoldI of rows i mb w2 W k) (hb:Below W.heap.size W W'):FoldI of rows i mb w2 W' k:=
 ⟨h.g.trans (grown_below hb),h.m.below hb⟩
end Go.Dk
end
section
namespace Go.Dk
open Go.RowKit Go.Maps Go.MapKept
open Go.Proofs hiding intOf
theorem Ew.from {k:Nat} {ow:Own} {w w1:World} {t:Value} {p:Put} {e:Ending} {w':World} (hb:Below w.heap.size w w1) (h:Ew k ow w1 t p e w'):Ew k ow w t p e w':=by
 obtain ⟨he,ow',hk,ht⟩:=h
 exact ⟨he,ow',hb.kept_ow.trans hk,ht⟩
set_option maxRecDepth 100000 in
theorem mI (k:Nat) (ow:Own) (w:World) (t:Value) (rows:List ND) (h:Tab k ow w t rows) (a:Int) (ha:hasB rows.length a=false):Calls Tryz.prog 45 #[t,.int .i64 a] w fun e w'=>e = .returned (.tuple #[.int .i64 0,.int .i64 31])∧w=w':=by
 have H:=Aa h
 clear h
 go_enter Tryz.func45,Tryz.ntmps45
 go_wp2_with (first | (go_at_call 46;refine (Dz k ow _ _ rows H.o).mono ?_;rintro e w' ⟨rfl,rfl⟩) | (go_at_call 47;refine (Nr k ow _ _ rows H.o _).mono ?_;rintro e w' ⟨rfl,rfl⟩))
 go_ret2
 exact ⟨rfl,rfl⟩
def Fa (rows:List ND) (zs:List Int):Int:=if (zs.all fun z=>hasB rows.length z)=true then 0 else 31
theorem Wt {rows:List ND} {zs:List Int} (h:(zs.all fun z=>hasB rows.length z)=true):Fa rows zs=0:=by unfold Fa;rw [if_pos h]
theorem Vo {rows:List ND} {zs:List Int} {k:Nat} {z:Int} (h:zs[k]? = some z) (hb:hasB rows.length z=false):Fa rows zs=31:=by
 unfold Fa
 rw [if_neg]
 intro hall
 have:=List.all_eq_true.1 hall z (List.mem_of_getElem? h)
 rw [hb] at this;cases this
theorem Yd {p:Int→Bool} {l:List Int} {k:Nat} {y:Int} (h:l[k]? = some y):(l.take (k+1)).all p=((l.take k).all p && p y):=by
 rw [List.take_add_one,h];simp
theorem Dx {n:Nat} {i:Int} (h:hasB n i=true):∃ x:Nat,i=(x:Int)∧x<n:=by
 unfold hasB at h;simp at h;exact ⟨i.toNat,by omega,by omega⟩
set_option maxRecDepth 100000 in
set_option maxHeartbeats 800000 in
theorem kL (k:Nat) (ow:Own) (w:World) (t v:Value) (rows:List ND) (zs:List Int) (h:Tab k ow w t rows) (hv:Rd w v zs.length 1 (ints zs)) (hl:zs.length≤9223372036854775807) :
  Calls Tryz.prog 54 #[t,v] w fun e w'=>e = .returned (.int .i64 (Fa rows zs))∧Below w.heap.size w w':=by
 have H:=Aa h
 have HV:=Aa hv
 obtain ⟨va,vc,rfl⟩:=hv.slice
 have HN:Hid (hasB rows.length (-1)=false):=by simp [Hid,hasB]
 clear h hv
 go_enter Tryz.func54,Tryz.ntmps54
 go_wp2_with (go_at_call 45;refine (mI k ow _ _ rows H.o _ HN.o).mono ?_;rintro e w' ⟨rfl,rfl⟩)
 go_loopw [21] (fun u W=>∃ j:Nat,j≤zs.length∧u = .int .i64 (j:Int)∧((zs.take j).all fun z=>hasB rows.length z)=true∧Below w.heap.size w W) (fun u _=>zs.length - (intOf u).toNat)
 case atStart=>exact ⟨0,Nat.zero_le _,rfl,by simp,Below.refl _ _⟩
 case round=>
  obtain ⟨j,hj,rfl,hall,hb⟩:=hrel
  have HA:=Aa hall;have HB:=Aa hb
  clear hall hb
  by_cases hlt:j<zs.length
  ·obtain ⟨b,o,c1,z,he,hc1,hzk⟩:=ints_at (HV.o.below HB.o) hlt
   cases he
   have HZ:=Aa hzk
   have hji:(j:Int)<(zs.length:Int):=by omega
   clear hzk
   cases hz:hasB rows.length z with
   | true=>
    have HS:=Aa (Yd (p:=fun z=>hasB rows.length z) HZ.o)
    have HZT:=Aa hz
    obtain ⟨x,rfl,hx⟩:=Dx hz
    have HR:=Aa (Am hx)
    clear hz
    go_wp2_with (go_at_call 27;refine (Jl k ow _ _ _ (H.o.below HB.o) _ _ HR.o).mono ?_;rintro e w4 ⟨rfl,hb4⟩;have HB4:=Aa (Ac HB.o hb4);clear hb4)
    exact ⟨⟨j+1,by omega,by go_num,by rw [HS.o,HA.o,HZT.o];rfl,Ac HB4.o (Ab _ _)⟩,by simp [intOf];omega⟩
   | false=>
    have HE:=Aa (Vo HZ.o hz)
    go_wp2_with (go_at_call 27;refine (dF k ow _ _ _ (H.o.below HB.o) _ hz).mono ?_;rintro e w4 ⟨rfl,hb4⟩;have HB4:=Aa (Ac HB.o hb4);clear hb4)
    go_ret
    exact ⟨Hr HE.o.symm,Ac HB4.o (Ab _ _)⟩
  ·obtain rfl:j=zs.length:=by omega
   have hA:=HA.o
   rw [List.take_length] at hA
   have HE:=Aa (Wt hA)
   clear hA
   go_wp2_with fail
   go_ret
   exact ⟨Hr HE.o.symm,HB.o⟩
set_option maxRecDepth 100000 in
set_option maxHeartbeats 800000 in
theorem bC (ow:Own) (w:World) (t:Value) (rows:List ND) (h:Tab 1 ow w t rows) (k:Nat) (kd a b l r:Int) (nm:ByteArray) :
  Calls Tryz.prog 58 #[t,.int .i64 (k:Int),.agg #[.int .i64 kd,.string nm,.int .i64 a,.int .i64 b],.int .i64 l,.int .i64 r] w (Ew 1 ow w t (Jw rows k ⟨kd,nm,a,b⟩ l r)):=by
 have H:Hid (∀ o,Tab 1 ow (w.alloc o) t rows):=fun o=>h.below (Ab _ _)
 clear h
 by_cases hk:kd<3
 ·have HE:Hid (Jw rows k ⟨kd,nm,a,b⟩ l r=⟨rows,k,0⟩):=by unfold Hid Jw;rw [if_pos hk]
  go_enter Tryz.func58,Tryz.ntmps58
  go_wp2_with fail
  go_ret2
  rw [HE.o]
  exact ⟨rfl,ow,(Ab _ _).kept_ow,H.o _⟩
 ·have HE:Hid (Jw rows k ⟨kd,nm,a,b⟩ l r=put rows ⟨kd,⟨#[]⟩,l,r⟩):=by unfold Hid Jw;rw [if_neg hk];rfl
  go_enter Tryz.func58,Tryz.ntmps58
  go_wp2_with fail
  refine (put_any 1 ow _ _ rows (H.o _) kd l r _ Zy).mono ?_
  rintro e w1 ⟨rfl,hq⟩
  have HQ:=Aa hq
  clear hq
  go_wp2_with fail
  go_ret2
  rw [HE.o]
  obtain ⟨ow1,hk1,ht1⟩:=HQ.o
  exact ⟨rfl,ow1,(Ab _ _).kept_ow.trans hk1,ht1⟩
abbrev vT:=Own→World→Prop
def bO (E:vT):Prop:=∀ c,(c=1∨c=3)→∀ ow w ow' w',E ow w→Kept c ow w ow' w'→E ow' w'
structure AnW (E:vT) (of:OfF) (ow:Own) (w:World) (t:Value) (rows:List ND) (id mb:Nat) (v2:Value) (j:Nat) (ow':Own) (W:World) (rowsj:List ND) (img:Nat→Int):Prop where
 kp:Kept 1 ow w ow' W
 tab:Tab 1 ow' W t rowsj
 mp:TM Tryz.prog 3 Jq cV W mb (Xu img ((below rows id).take j))
 st:Gm of ((below rows id).take j) rows (fun _=>0)=(rowsj,img,0)
 pre:rows <+: rowsj
 nn:∀ x,0≤img x
 zz:∀ x,x ∉ (below rows id).take j→img x=0
 cm:ow' mb=3
 lm:w.heap.size≤mb
 own:W.ownsRow w.heap.size 3 1 v2 (below rows id).length (ints (Ey (below rows id)))
 co:∀ g,v2.ownBlock=some g→ow' g≠1
 cn:v2.ownBlock≠some mb
 env:E ow' W
section
variable {E:vT} {of:OfF} {ow ow':Own} {w W W':World} {t v2:Value} {rows rowsj:List ND} {id mb j:Nat} {img:Nat→Int}
theorem nZ {c:Nat} {ow ow':Own} {w w':World} {base n:Nat} {e:TypeId} {size:Nat} {v:Value} {xs:List Value} (h:w.ownsRow base e size v n xs) (hk:Kept c ow w ow' w') (hc:∀ g,v.ownBlock=some g→ow g≠c):w'.ownsRow base e size v n xs:=by
 refine ⟨h.1,?_⟩
 rcases h.2 with hn | ⟨g,cap,cur,rfl,hb,hg,rest⟩
 ·exact .inl hn
 ·exact .inr ⟨g,cap,cur,rfl,hb,(hk.block g (lt_of_block hg) (hc g rfl)).trans hg,rest⟩
theorem Ip {w w':World} {base n:Nat} {e:TypeId} {size:Nat} {v:Value} {xs:List Value} (h:w.ownsRow base e size v n xs) (hb:Below w.heap.size w w'):w'.ownsRow base e size v n xs:=
 h.kept (row:=none) ⟨hb.os,hb.tape,hb.output,hb.size,fun j hj _=>hb.block j hj⟩ (by cases v.ownBlock<;>simp)
theorem AnW.later (hE:bO E) (h:AnW E of ow w t rows id mb v2 j ow' W rowsj img) (hb:Below W.heap.size W W'):AnW E of ow w t rows id mb v2 j ow' W' rowsj img:=
 ⟨h.kp.trans hb.kept_ow,h.tab.below hb,h.mp.below hb,h.st,h.pre,h.nn,h.zz,h.cm,h.lm,Ip h.own hb,h.co,h.cn,hE 1 (.inl rfl) _ _ _ _ h.env hb.kept_ow⟩
theorem AnW.next (hE:bO E) (h:AnW E of ow w t rows id mb v2 j ow' W rowsj img) {k:Nat} (hk:(below rows id)[j]? = some k) {ow2:Own} {W2 W6:World} {p:Put} (hp:pAt of rowsj k img=p) (hz:p.err=0) (hnn:0≤p.id) (hpre:rowsj <+: p.rows)
  (hk2:Kept 1 ow' W ow2 W2) (ht:Tab 1 ow2 W2 t p.rows) (hm:TM Tryz.prog 3 Jq cV W6 mb (upd (Xu img ((below rows id).take j)) k (some p.id))) (ho:Only mb W2 W6) :
  AnW E of ow w t rows id mb v2 (j+1) ow2 W6 p.rows (fun x=>if x=k then p.id else img x):=by
 have hml:=h.mp.lt
 have cm2:ow2 mb=3:=by rw [hk2.own mb hml];exact h.cm
 have ko:Kept 3 ow2 W2 ow2 W6:=ho.kept cm2
 have ke:Kept 1 ow w ow2 W6:=by
  have k1:=h.kp.trans hk2
  refine ⟨ko.os.trans k1.os,ko.tape.trans k1.tape,ko.output.trans k1.output,Nat.le_trans k1.size ko.size,k1.own,fun b hb hc=>?_⟩
  exact (ho.block b (by have:=h.lm;omega)).trans (k1.block b hb hc)
 have hown2:=nZ h.own hk2 h.co
 have he2:=hE 1 (.inl rfl) _ _ _ _ h.env hk2
 refine ⟨ke,ht.kept ko (by decide),?_,?_,h.pre.trans hpre,?_,?_,cm2,h.lm,?_,?_,h.cn,?_⟩
 ·have e:upd (Xu img ((below rows id).take j)) k (some p.id)=Xu (fun x=>if x=k then p.id else img x) ((below rows id).take (j+1)):=by
   funext x
   rw [Tm hk]
   unfold Xu
   by_cases e:x=k
   ·subst e;rw [upd_same];simp
   ·rw [Dw _ _ e];simp [e]
  rw [← e];exact hm
 ·rw [Tm hk,jG h.st (by rw [hp];exact hz),hp]
 ·intro x
  by_cases e:x=k
  ·simp only [e,if_true];exact hnn
  ·simp only [e,if_false];exact h.nn x
 ·intro x hx
  rw [Tm hk] at hx
  simp only [List.mem_append,List.mem_singleton,not_or] at hx
  simp only [hx.2,if_false]
  exact h.zz x hx.1
 ·exact hown2.kept ho.grown (.inr h.cn)
 ·intro g hg
  have:=(h.own.lt g hg).2
  rw [hk2.own g this];exact h.co g hg
 ·exact hE 3 (.inr rfl) _ _ _ _ he2 ko
theorem AnW.get (h:AnW E of ow w t rows id mb v2 j ow' W rowsj img) (x:Nat):(Xu img ((below rows id).take j) x).getD 0=img x:=by
 by_cases e:x ∈ (below rows id).take j
 ·exact uM e
 ·unfold Xu;rw [if_neg e,h.zz x e];rfl
theorem AnW.fail (h:AnW E of ow w t rows id mb v2 j ow' W rowsj img) {ow2:Own} {W2 W6:World} {rows2:List ND} (hk2:Kept 1 ow' W ow2 W2) (ht:Tab 1 ow2 W2 t rows2) (ho:Only mb W2 W6):Kept 1 ow w ow2 W6∧Tab 1 ow2 W6 t rows2:=by
 have hml:=h.mp.lt
 have cm2:ow2 mb=3:=by rw [hk2.own mb hml];exact h.cm
 have ko:Kept 3 ow2 W2 ow2 W6:=ho.kept cm2
 have k1:=h.kp.trans hk2
 exact ⟨⟨ko.os.trans k1.os,ko.tape.trans k1.tape,ko.output.trans k1.output,Nat.le_trans k1.size ko.size,k1.own,fun b hb hc=>(ho.block b (by have:=h.lm;omega)).trans (k1.block b hb hc)⟩,ht.kept ko (by decide)⟩
theorem AnW.start (hE:bO E) (h:Tab 1 ow w t rows) (hEw:E ow w) {w2:World} (hb:Below w.heap.size w w2) (hown:w2.ownsRow w.heap.size 3 1 v2 (below rows id).length (ints (Ey (below rows id)))) :
  AnW E of ow w t rows id w2.heap.size v2 0 (fun b=>if b<w.heap.size then ow b else if b=w2.heap.size then 3 else 0) (w2.alloc (.map #[] 0)) rows (fun _=>0):=by
 have hb2:=Ac hb (Ab w2 (.map #[] 0))
 have hr:∀ c,Kept c ow w (fun b=>if b<w.heap.size then ow b else if b=w2.heap.size then 3 else 0) (w2.alloc (.map #[] 0)):=fun c=>hb2.kept_ow.recolour (fun b hb=>by simp [hb])
 have hs:=hb.size
 have e0:Xu (fun _=>0) ((below rows id).take 0)=fun _=>none:=by funext x;simp [Xu]
 refine ⟨hr 1,h.kept (hr 2) (by decide),?_,by simp [Gm],List.prefix_refl _,fun _=>Int.le_refl _,fun _ _=>rfl,?_,hs,Ip hown (Ab _ _),?_,?_,hE 1 (.inl rfl) _ _ _ _ hEw (hr 1)⟩
 ·rw [e0];exact TM.made _ _ _ _ _
 ·simp only [if_true];rw [if_neg (by omega)]
 ·intro g hg
  have:=hown.lt g hg
  rw [if_neg (by omega),if_neg (by omega)];decide
 ·intro e
  have:=hown.lt _ e
  omega
end
theorem Qv {a b:List ND} (h:a <+: b):b.take a.length=a:=by
 obtain ⟨s,rfl⟩:=h;simp
end Go.Dk
end
section
namespace Go.Dk
open Go.RowKit Go.Maps Go.MapKept Go.Shelf
open Go.Proofs hiding intOf
def Ji (w:World) (v:Value) (zss:List (List Int)):Prop:=∃ xs:List Value,Rd w v zss.length 1 xs∧∀ (i:Nat) (zs:List Int) (x:Value),zss[i]? = some zs→xs[i]? = some x→Rd w x zs.length 1 (ints zs)∧zs.length≤9223372036854775807
theorem Ji.at {w:World} {v:Value} {zss:List (List Int)} (h:Ji w v zss) {j:Nat} (hj:j<zss.length) :
  ∃ b o c x zs,v = .slice (some ⟨b,o,none⟩) zss.length c∧w.cell? ⟨b,o+j,none⟩=some x∧zss[j]? = some zs∧Rd w x zs.length 1 (ints zs)∧zs.length≤9223372036854775807:=by
 obtain ⟨xs,hr,hx⟩:=h
 have hl:xs.length=zss.length:=by have:=hr.len;simpa using this
 obtain ⟨b,o,c,rfl,hc⟩:=hr.some (by omega)
 have h1:zss[j]? = some zss[j]:=List.getElem?_eq_getElem hj
 have h2:xs[j]? = some (xs[j]'(by omega)):=List.getElem?_eq_getElem _
 have h3:=hx j _ _ h1 h2
 exact ⟨b,o,c,_,_,rfl,hc j _ h2,h1,h3.1,h3.2⟩
theorem Ji.below {w w':World} {v:Value} {zss:List (List Int)} (h:Ji w v zss) (hb:Below w.heap.size w w'):Ji w' v zss:=by
 obtain ⟨xs,hr,hx⟩:=h
 exact ⟨xs,hr.below hb,fun i zs x h1 h2=>⟨(hx i zs x h1 h2).1.below hb,(hx i zs x h1 h2).2⟩⟩
theorem lF {rows:List ND} {zss:List (List Int)} {zs:List Int} {z:Int} {j k:Nat} (h1:zss[j]? = some zs) (h2:zs[k]? = some z) (hb:hasB rows.length z=false):Fa rows zss.flatten=31:=by
 have hm:z ∈ zss.flatten:=List.mem_flatten.2 ⟨zs,List.mem_of_getElem? h1,List.mem_of_getElem? h2⟩
 obtain ⟨i,hi⟩:=List.getElem?_of_mem hm
 exact Vo hi hb
theorem oK {zss:List (List Int)} {zs:List Int} {j:Nat} (h:zss[j]? = some zs):(zss.take (j+1)).flatten=(zss.take j).flatten++zs:=by
 rw [List.take_add_one,h];simp
set_option maxRecDepth 100000 in
set_option maxHeartbeats 1600000 in
theorem Gu (k:Nat) (ow:Own) (w:World) (t v:Value) (rows:List ND) (zss:List (List Int)) (h:Tab k ow w t rows) (hv:Ji w v zss) (hl:zss.length≤9223372036854775807) :
  Calls Tryz.prog 25 #[t,v] w fun e w'=>e = .returned (.int .i64 (Fa rows zss.flatten))∧Below w.heap.size w w':=by
 have H:=Aa h
 have HV:=Aa hv
 obtain ⟨va,vc,rfl⟩:∃ va vc,v = .slice va zss.length vc:=by obtain ⟨xs,hr,_⟩:=hv;exact hr.slice
 have HN:Hid (hasB rows.length (-1)=false):=by simp [Hid,hasB]
 clear h hv
 go_enter Tryz.func25,Tryz.ntmps25
 go_wp2_with (go_at_call 45;refine (mI k ow _ _ rows H.o _ HN.o).mono ?_;rintro e w' ⟨rfl,rfl⟩)
 go_loopw [23] (fun u W=>∃ j:Nat,j≤zss.length∧u = .int .i64 (j:Int)∧((zss.take j).flatten.all fun z=>hasB rows.length z)=true∧Below w.heap.size w W) (fun u _=>zss.length - (intOf u).toNat)
 case atStart=>exact ⟨0,Nat.zero_le _,rfl,by simp,Below.refl _ _⟩
 case round=>
  obtain ⟨j,hj,rfl,hall,hb⟩:=hrel
  have HA:=Aa hall;have HB:=Aa hb
  clear hall hb
  by_cases hlt:j<zss.length
  ·obtain ⟨b,o,c1,x,zs,he,hc1,hzk,hrd,hlen⟩:=(HV.o.below HB.o).at hlt
   cases he
   have HZ:=Aa hzk;have HRD:=Aa hrd
   have hji:(j:Int)<(zss.length:Int):=by omega
   obtain ⟨xa,xc,rfl⟩:=hrd.slice
   have HF:=Aa (oK hzk)
   clear hzk hrd
   go_wp2_with fail
   obtain ⟨wo,rfl⟩:∃ wo:World,wo=wr:=⟨_,rfl⟩
   go_loopw [29] (fun u W=>∃ i:Nat,i≤zs.length∧u = .int .i64 (i:Int)∧((zs.take i).all fun z=>hasB rows.length z)=true∧Below wo.heap.size wo W) (fun u _=>zs.length - (intOf u).toNat)
   case atStart=>exact ⟨0,Nat.zero_le _,rfl,by simp,Below.refl _ _⟩
   case round=>
    obtain ⟨i,hi,rfl,hall,hb⟩:=hrel
    have HA2:=Aa hall;have HB2:=Aa hb
    clear hall hb
    by_cases hlt2:i<zs.length
    ·obtain ⟨b2,o2,c2,z,he,hc2,hzi⟩:=ints_at (HRD.o.below HB2.o) hlt2
     cases he
     have HZI:=Aa hzi
     have hii:(i:Int)<(zs.length:Int):=by omega
     clear hzi
     cases hz:hasB rows.length z with
     | true=>
      have HS:=Aa (Yd (p:=fun z=>hasB rows.length z) HZI.o)
      have HZT:=Aa hz
      obtain ⟨x,rfl,hx⟩:=Dx hz
      have HR:=Aa (Am hx)
      clear hz
      go_wp2_with (go_at_call 27;refine (Jl k ow _ _ _ (H.o.below (Ac HB.o HB2.o)) _ _ HR.o).mono ?_;rintro e w4 ⟨rfl,hb4⟩;have HB4:=Aa (Ac HB2.o hb4);clear hb4)
      exact ⟨⟨i+1,by omega,by go_num,by rw [HS.o,HA2.o,HZT.o];rfl,Ac HB4.o (Ab _ _)⟩,by simp [intOf];omega⟩
     | false=>
      have HE:=Aa (lF (rows:=rows) HZ.o HZI.o hz)
      go_wp2_with (go_at_call 27;refine (dF k ow _ _ _ (H.o.below (Ac HB.o HB2.o)) _ hz).mono ?_;rintro e w4 ⟨rfl,hb4⟩;have HB4:=Aa (Ac HB.o (Ac HB2.o hb4));clear hb4)
      go_ret
      exact ⟨Hr HE.o.symm,Ac HB4.o (Ab _ _)⟩
    ·obtain rfl:i=zs.length:=by omega
     have hA:=HA2.o
     rw [List.take_length] at hA
     have HAA:Hid (((zss.take (j+1)).flatten.all fun z=>hasB rows.length z)=true):=by
      unfold Hid;rw [HF.o,List.all_append,HA.o,hA];rfl
     clear hA
     go_wp2_with fail
     exact ⟨⟨j+1,by omega,by go_num,HAA.o,Ac HB.o HB2.o⟩,by simp [intOf];omega⟩
  ·obtain rfl:j=zss.length:=by omega
   have hA:=HA.o
   rw [List.take_length] at hA
   have HE:=Aa (Wt hA)
   clear hA
   go_wp2_with fail
   go_ret
   exact ⟨Hr HE.o.symm,HB.o⟩
end Go.Dk
end
section
namespace Go.Dk
def zI (rows:List ND) (N:ByteArray→Option Int) (σ:ByteArray→Option Fm):Prop:=∀ s v,N s=some v→∃ i:Nat,v=(i:Int)∧i<rows.length∧(σ s).getD (.atom s)=Av rows i
abbrev Yy:=Nat × Nat→Option Unit
abbrev Xp:=ByteArray→Option Int
def Good (rows:List ND) (S:Yy) (N:Xp) (q g:Nat):Prop:=
 q<rows.length∧g<rows.length∧((rowAt rows q).kind=1→N (rowAt rows q).name=some (g:Int)) ∧
  ((rowAt rows q).kind≠1→(rowAt rows q).kind=(rowAt rows g).kind∧(3≤(rowAt rows q).kind→S ((rowAt rows q).l.toNat,(rowAt rows g).l.toNat)=some ()∧S ((rowAt rows q).r.toNat,(rowAt rows g).r.toNat)=some ()))
structure FitY (rows:List ND) (p f:Nat) (S:Yy) (N:Xp) (S':Yy) (N':Xp):Prop where
 moreS:∀ x,S x=some ()→S' x=some ()
 moreN:∀ s v,N s=some v→N' s=some v
 self:S' (p,f)=some ()
 shut:∀ q g,S' (q,g)=some ()→S (q,g)=some ()∨(Good rows S' N' q g∧Reach rows p q)
 only:∀ s v,N' s=some v→N s=some v∨∃ q,Reach rows p q∧(rowAt rows q).kind=1∧(rowAt rows q).name=s∧q<rows.length
structure Fit (rows:List ND) (p f:Nat) (S:Yy) (N:Xp) (S':Yy) (N':Xp) (b:Bool):Prop where
 yes:b=true→FitY rows p f S N S' N'
 all:∀ σ,zI rows N σ→sub σ (Av rows p)=Av rows f→b=true∧zI rows N' σ
theorem cO {κ ν:Type} {f:κ→Option ν} {x y:κ} {v:Option ν} {u:ν} (h:upd f x v y=some u):(y=x∧v=some u)∨(y≠x∧f y=some u):=by
 by_cases e:y=x
 ·subst e;rw [upd_same] at h;exact .inl ⟨rfl,h⟩
 ·rw [Dw _ _ e] at h;exact .inr ⟨e,h⟩
theorem uA {κ:Type} {f:κ→Option Unit} {x y:κ} (h:f y=some ()):upd f x (some ()) y=some ():=by
 by_cases e:y=x
 ·subst e;exact upd_same _ _ _
 ·rw [Dw _ _ e];exact h
def mU (N:Xp) (s:ByteArray) (f:Nat):Bool:=match N s with | none=>true | some v=>v == (f:Int)
theorem Fit.atom {rows:List ND} (ok:Ok rows) {p f:Nat} {S:Yy} {N:Xp} (hp:p<rows.length) (hf:f<rows.length) (hk:(rowAt rows p).kind=1) :
  Fit rows p f S N (upd S (p,f) (some ())) (upd N (rowAt rows p).name (some (f:Int))) (mU N (rowAt rows p).name f):=by
 have hrow:=Am hp
 have ht:Av rows p = .atom (rowAt rows p).name:=Rw hrow hk
 generalize rowAt rows p=n at *
 have e0:rowAt rows p=n:=sC hrow
 refine ⟨fun hb=>⟨fun x=>uA,fun s v hs=>?_,upd_same _ _ _,fun q g hq=>?_,fun s v hs=>?_⟩,fun σ hc he=>?_⟩
 ·by_cases e:s=n.name
  ·subst e
   rw [upd_same]
   unfold mU at hb
   rw [hs] at hb
   simp only [beq_iff_eq] at hb
   rw [hb]
  ·rw [Dw _ _ e];exact hs
 ·rcases cO hq with ⟨e,_⟩ | ⟨_,h⟩
  ·cases e
   exact .inr ⟨⟨hp,hf,fun _=>by rw [e0];exact upd_same _ _ _,fun h=>absurd (e0▸hk) h⟩,.refl _⟩
  ·exact .inl h
 ·rcases cO hs with ⟨e,_⟩ | ⟨_,h⟩
  ·exact .inr ⟨p,.refl _,by rw [e0];exact hk,by rw [e0];exact e.symm,hp⟩
  ·exact .inl h
 ·rw [ht] at he
  simp only [sub] at he
  have hb:mU N n.name f=true:=by
   unfold mU
   cases hN:N n.name with
   | none=>rfl
   | some v=>
    obtain ⟨i,rfl,hi,h2⟩:=hc _ _ hN
    have:=Ve ok hi hf (h2.symm.trans he)
    simp [this]
  refine ⟨hb,fun s v hs=>?_⟩
  rcases cO hs with ⟨rfl,e⟩ | ⟨_,h⟩
  ·cases e;exact ⟨f,rfl,hf,he⟩
  ·exact hc s v h
theorem vH {rows:List ND} (ok:Ok rows) {p f:Nat} (hp:p<rows.length) (hf:f<rows.length) (hk:3≤(rowAt rows p).kind) (he:(rowAt rows p).kind=(rowAt rows f).kind) {σ:ByteArray→Option Fm} (h:sub σ (Av rows p)=Av rows f) :
  sub σ (Av rows (rowAt rows p).l.toNat)=Av rows (rowAt rows f).l.toNat∧sub σ (Av rows (rowAt rows p).r.toNat)=Av rows (rowAt rows f).r.toNat:=by
 have h1:=Jf ok (Am hp) hk
 have h2:=Jf ok (Am hf) (by omega)
 have hk5:=ok.kindsP (Am hp)
 rw [h1,h2] at h
 generalize rowAt rows p=n at *
 generalize rowAt rows f=m at *
 generalize Av rows n.l.toNat=a at *
 generalize Av rows n.r.toNat=b at *
 generalize Av rows m.l.toNat=c at *
 generalize Av rows m.r.toNat=d at *
 unfold Dy at h
 rw [← he] at h
 have h3:n.kind=3∨n.kind=4∨n.kind=5:=by omega
 rcases h3 with h3 | h3 | h3<;>rw [h3] at h<;>simpa [sub] using h
theorem Fit.first {rows:List ND} (ok:Ok rows) {p f:Nat} {S S2 S':Yy} {N N2 N':Xp} (hp:p<rows.length) (hf:f<rows.length) (hk:3≤(rowAt rows p).kind) (he:(rowAt rows p).kind=(rowAt rows f).kind)
  (h1:Fit rows (rowAt rows p).l.toNat (rowAt rows f).l.toNat (upd S (p,f) (some ())) N S2 N2 false):Fit rows p f S N S' N' false:=
 ⟨fun h=>(by cases h),fun σ hc hs=>by have:=(h1.all σ hc (vH ok hp hf hk he hs).1).1;cases this⟩
end Go.Dk
end
section
namespace Go.Dk
structure ValidP (rows:List ND) (id:Int) (l:List HY):Prop where
 has:hasB rows.length id=true
 forms:hyB rows l=true
 once:Tq l=false
 words:Nb l=true
theorem mB {rows:List ND} {id:Int} {l:List HY} (h:ValidP rows id l):Eh rows id l=Iw (Jo (Ep l)) rows id.toNat:=by
 unfold Eh
 rw [if_neg (by simp [h.has,h.forms]),if_neg (by simp [h.once]),if_neg (by simp [h.words])]
theorem oG {rows:List ND} {id:Int} {l:List HY} (he:(Eh rows id l).err=0):ValidP rows id l:=by
 unfold Eh at he
 split at he
 ·cases he
 ·rename_i h1
  split at he
  ·cases he
  ·rename_i h2
   split at he
   ·cases he
   ·rename_i h3
    refine ⟨?_,?_,?_,?_⟩
    ·cases h:hasB rows.length id
     ·exact absurd (.inl h) h1
     ·rfl
    ·cases h:hyB rows l
     ·exact absurd (.inr h) h1
     ·rfl
    ·simpa using h2
    ·simpa using h3
theorem wV {rows:List ND} {l:List HY} (h:hyB rows l=true):∀ s f,Ep l s=some f→hasB rows.length f=true:=fun s f hf=>by
 obtain ⟨x,hx,_,rfl⟩:=Xb hf
 exact List.all_eq_true.1 h x hx
theorem vK {n:Nat} {i:Int} (h:hasB n i=true):i.toNat<n∧(i.toNat:Int)=i:=by
 unfold hasB at h;simp at h;omega
theorem fB {rows:List ND} (ok:Ok rows) {id:Int} {l:List HY} (he:(Eh rows id l).err=0):mW rows (Eh rows id l) (sub (sig (Ep l) rows) (Av rows id.toNat)):=by
 have hv:=oG he
 rw [mB hv] at he ⊢
 exact pC ok (oR ok (wV hv.forms)) (vK hv.has).1 he
end Go.Dk
end
section
namespace Go.Dk
def dY:Fm→Bool
 | .atom _=>true
 | .bot=>true
 | .and a b=>dY a && dY b
 | .or _ _=>false
 | .imp _ b=>dY b
def Ee (rows:List ND) (i:Nat):Bool:=dY (Av rows i)
theorem Wp {rows:List ND} (ok:Ok rows) {i:Nat} {n:ND} (hi:rows[i]? = some n) (h3:n.kind≠3) (h5:n.kind≠5):Ee rows i = !decide (n.kind=4):=by
 rcases Gh ok hi with ⟨s,rfl,ht,_⟩ | ⟨rfl,ht⟩ | ⟨l,r,_,_,⟨rfl,ht⟩ | ⟨rfl,ht⟩ | ⟨rfl,ht⟩⟩
 ·simp [Ee,ht,dY]
 ·simp [Ee,ht,dY]
 ·exact absurd rfl h3
 ·simp [Ee,ht,dY]
 ·exact absurd rfl h5
theorem jA {rows:List ND} (ok:Ok rows) {i:Nat} {n:ND} (hi:rows[i]? = some n) (h3:n.kind=3):Ee rows i=(Ee rows n.l.toNat && Ee rows n.r.toNat):=by
 unfold Ee
 rw [Jf ok hi (by omega)]
 simp [Dy,h3,dY]
theorem jL {rows:List ND} (ok:Ok rows) {i:Nat} {n:ND} (hi:rows[i]? = some n) (h5:n.kind=5):Ee rows i=Ee rows n.r.toNat:=by
 unfold Ee
 rw [Jf ok hi (by omega)]
 simp [Dy,h5,dY]
def Bi (zs:List Int):List Nat:=zs.map Int.toNat
def Xt (rows:List ND) (ns:List Nat) (g:Nat):SA:=Ci 4096 ⟨rows,[],4096⟩ ⟨Df ns,g⟩
def Hf (rows:List ND) (ns:List Nat) (g:Nat):Int:=if (Xt rows ns g).err=0 then 0 else 110
def Gz (rows:List ND) (ns:List Nat) (g:Nat):Bool:=decide ((Xt rows ns g).err=0) && Ax (Xt rows ns g).st (Xt rows ns g).at_
theorem aE (ns:List Nat) (m i:Nat):(ns.foldl (fun m n=>m ||| 1 <<< n) m).testBit i=(m.testBit i || decide (i ∈ ns)):=by
 induction ns generalizing m with
 | nil=>simp
 | cons a t ih=>
  rw [List.foldl_cons,ih,Nat.testBit_or,Nat.one_shiftLeft,Nat.testBit_two_pow]
  by_cases e:a=i
  ·subst e;simp
  ·have e2:¬ i=a:=fun h=>e h.symm
   simp [e,e2]
theorem bX (ns:List Nat) (i:Nat):(Df ns).testBit i=decide (i ∈ ns):=by
 unfold Df;rw [aE];simp
def ctx (rows:List ND) (ns:List Nat):FS:=fun f=>∃ n ∈ ns,Av rows n=f
theorem AZ (rows:List ND) (ns:List Nat):gam rows (Df ns)=ctx rows ns:=by
 funext f
 unfold gam ctx
 simp [bX]
theorem mN {rows:List ND} {ns:List Nat} {g:Nat} (hn:∀ n ∈ ns,n<rows.length) (hg:g<rows.length):Wf rows ⟨Df ns,g⟩:=
 ⟨fun i hi=>by rw [bX] at hi;exact hn i (by simpa using hi),hg⟩
theorem BE {rows:List ND} (ok:Ok rows) (b:Nat):InvS ⟨rows,[],b⟩:=⟨ok,fun x hx=>by cases hx⟩
theorem AU {rows:List ND} (ok:Ok rows) {ns:List Nat} {g:Nat} (hn:∀ n ∈ ns,n<rows.length) (hg:g<rows.length) {b:Nat} {r:SA} (hr:Ci b ⟨rows,[],b⟩ ⟨Df ns,g⟩=r) (he:r.err=0) :
  (Ax r.st r.at_=true→Fz (ctx rows ns) (Av rows g))∧(Ax r.st r.at_=false→Fj (ctx rows ns) (Av rows g)):=by
 subst hr
 have wf:=mN hn hg
 have h:=Ub b ⟨rows,[],b⟩ ⟨Df ns,g⟩ (BE ok b) wf he
 have ht:=h.told
 rw [Ia wf h.pre,If wf h.pre] at ht
 unfold Gj Fb at ht
 simp only [AZ] at ht
 exact ht
theorem BJ {rows:List ND} (ok:Ok rows) {ns:List Nat} {g:Nat} (hn:∀ n ∈ ns,n<rows.length) (hg:g<rows.length) (h:Gz rows ns g=true):Fz (ctx rows ns) (Av rows g):=by
 unfold Gz at h
 simp only [Bool.and_eq_true,decide_eq_true_eq] at h
 exact (AU ok hn hg rfl h.1).1 h.2
theorem BK {rows:List ND} (ok:Ok rows) {ns:List Nat} {g:Nat} (hn:∀ n ∈ ns,n<rows.length) (hg:g<rows.length) (he:Hf rows ns g=0) (h:Gz rows ns g=false):Fj (ctx rows ns) (Av rows g):=by
 have h0:(Xt rows ns g).err=0:=by
  unfold Hf at he
  split at he
  ·assumption
  ·cases he
 unfold Gz at h
 rw [h0] at h
 have h2:Ax (Xt rows ns g).st (Xt rows ns g).at_=false:=by simpa using h
 exact (AU ok hn hg rfl h0).2 h2
theorem Gl (rows:List ND) (ns:List Nat) (g:Nat):Hf rows ns g=0∨Hf rows ns g=110:=by
 unfold Hf;split
 ·exact .inl rfl
 ·exact .inr rfl
def Gq (rows:List ND) (zs:List Int) (goal:Int):Int × Int:=
 if Fa rows (zs++[goal])≠0 then (0,31)
 else if (rowAt rows goal.toNat).kind≠4 then (0,270)
 else if (zs.all fun z=>Ee rows z.toNat)=false then (0,270)
 else if Hf rows (Bi zs) goal.toNat≠0 then (0,110)
 else if Gz rows (Bi zs) goal.toNat=false then (0,2)
 else if Hf rows (Bi zs) (rowAt rows goal.toNat).l.toNat≠0 then (0,110)
 else if Gz rows (Bi zs) (rowAt rows goal.toNat).l.toNat=true then ((rowAt rows goal.toNat).l,0)
 else if Hf rows (Bi zs) (rowAt rows goal.toNat).r.toNat≠0 then (0,110)
 else ((rowAt rows goal.toNat).r,0)
structure MK where
 rows:List ND
 e:Int
def Dm (m:MK) (n:ND):MK:=if m.e≠0 then m else ⟨(put m.rows n).rows,(put m.rows n).err⟩
def Ei (m:MK) (n:ND):Int:=if m.e≠0 then 0 else (put m.rows n).id
def nd2 (k a b:Int):ND:=⟨k,⟨#[]⟩,a,b⟩
def Kv:List (Int × Int)→MK→List Int→MK × List Int
 | [],m,l=>(m,l)
 | p::t,m,l=>Kv t (Dm m (nd2 5 p.1 p.2)) (l++[Ei m (nd2 5 p.1 p.2)])
def Uu:List Int→MK→Int→MK × Int
 | [],m,x=>(m,x)
 | y::t,m,x=>Uu t (Dm m (nd2 3 x y)) (Ei m (nd2 3 x y))
def zD (m:MK):MK × Int:=
 (Dm (Dm m (nd2 2 0 0)) (nd2 5 (Ei m (nd2 2 0 0)) (Ei m (nd2 2 0 0))),Ei (Dm m (nd2 2 0 0)) (nd2 5 (Ei m (nd2 2 0 0)) (Ei m (nd2 2 0 0))))
def Ss:List Int→MK→MK × Int
 | [],m=>zD m
 | x::t,m=>Uu t m x
def Hn (all:Int):List Int→MK→List Int→MK × List Int
 | [],m,l=>(m,l)
 | g::t,m,l=>Hn all t (Dm m (nd2 5 all g)) (l++[Ei m (nd2 5 all g)])
structure VR where
 rows:List ND
 prem:Int
 parts:List Int
 err:Int
def Tc (rows:List ND) (ab:List (Int × Int)) (goals:List Int) (c d:Int):MK × Int × List Int:=
 let i:=Kv ab ⟨rows,0⟩ []
 let a:=Ss i.2 i.1
 let m1:=Dm a.1 (nd2 4 c d)
 let o:=Ei a.1 (nd2 4 c d)
 let m2:=Dm m1 (nd2 5 a.2 o)
 let p:=Ei m1 (nd2 5 a.2 o)
 let q:=Hn a.2 goals m2 []
 (q.1,p,q.2)
def Ej (rows:List ND) (a b:List Int) (c d:Int):VR:=
 if Fa rows (a++b++[c,d])≠0 then ⟨rows,0,[],31⟩
 else if a.length≠b.length∨8<a.length then ⟨rows,0,[],270⟩
 else if (Tc rows (a.zip b) (a++[c,d]) c d).1.e≠0 then ⟨rows,0,[],(Tc rows (a.zip b) (a++[c,d]) c d).1.e⟩
 else ⟨(Tc rows (a.zip b) (a++[c,d]) c d).1.rows,(Tc rows (a.zip b) (a++[c,d]) c d).2.1,(Tc rows (a.zip b) (a++[c,d]) c d).2.2,0⟩
def IdT (rows:List ND) (z:Int) (T:Fm):Prop:=∃ i:Nat,z=(i:Int)∧i<rows.length∧Av rows i=T
theorem IdT.ext {rows rows':List ND} {z:Int} {T:Fm} (h:IdT rows z T) (hp:rows <+: rows'):IdT rows' z T:=by
 obtain ⟨i,rfl,h1,h2⟩:=h
 exact ⟨i,rfl,Nat.lt_of_lt_of_le h1 (Bh hp),by rw [Br hp h1];exact h2⟩
theorem IdT.of_has {rows:List ND} {z:Int} (h:hasB rows.length z=true):IdT rows z (Av rows z.toNat):=by
 obtain ⟨i,rfl,h1⟩:=Dx h
 exact ⟨i,rfl,h1,by simp⟩
structure MkTo (m m':MK):Prop where
 e:m'.e=0→m.e=0
 pre:m.rows <+: m'.rows
 ok:Ok m.rows→Ok m'.rows
theorem MkTo.refl (m:MK):MkTo m m:=⟨id,List.prefix_refl _,id⟩
theorem MkTo.trans {a b c:MK} (h:MkTo a b) (g:MkTo b c):MkTo a c:=⟨fun e=>h.e (g.e e),h.pre.trans g.pre,fun o=>g.ok (h.ok o)⟩
theorem Ff (m:MK) (n:ND):MkTo m (Dm m n):=by
 unfold Dm
 split
 ·exact MkTo.refl m
 ·rename_i h
  exact ⟨fun _=>by simpa using h,Dl _ _,fun o=>o.put _⟩
theorem Ls {m:MK} (ok:Ok m.rows) {k:Int} (hk:k=3∨k=4∨k=5) {x y:Int} {X Y:Fm} (hx:IdT m.rows x X) (hy:IdT m.rows y Y) (he:(Dm m (nd2 k x y)).e=0) :
  IdT (Dm m (nd2 k x y)).rows (Ei m (nd2 k x y)) (Dy (nd2 k 0 0) X Y):=by
 have h0:=(Ff m _).e he
 obtain ⟨i,rfl,hi,rfl⟩:=hx
 obtain ⟨j,rfl,hj,rfl⟩:=hy
 unfold Dm at he ⊢
 unfold Ei
 rw [if_neg (by simpa using h0)] at he ⊢
 rw [if_neg (by simpa using h0)]
 obtain ⟨q,h1,h2,h3⟩:=nE ok hk hi hj he
 refine ⟨q,h1,h2,h3.trans ?_⟩
 rcases hk with rfl | rfl | rfl<;>simp [Dy,nd2]
theorem nV {m:MK} (_ok:Ok m.rows) (he:(Dm m (nd2 2 0 0)).e=0):IdT (Dm m (nd2 2 0 0)).rows (Ei m (nd2 2 0 0)) .bot:=by
 have h0:=(Ff m _).e he
 unfold Dm at he ⊢
 unfold Ei
 rw [if_neg (by simpa using h0)] at he ⊢
 rw [if_neg (by simpa using h0)]
 obtain ⟨q,h1,h2,_⟩:=rK he
 exact ⟨q,h1,(List.getElem?_eq_some_iff.1 h2).1,iT h2 rfl⟩
inductive All2 {α β:Type} (R:α→β→Prop):List α→List β→Prop
 | nil:All2 R [] []
 | cons {a:α} {b:β} {l:List α} {m:List β}:R a b→All2 R l m→All2 R (a::l) (b::m)
theorem All2.imp {α β:Type} {R S:α→β→Prop} (h:∀ a b,R a b→S a b) {l:List α} {m:List β} (g:All2 R l m):All2 S l m:=by
 induction g with
 | nil=>exact .nil
 | cons a _ ih=>exact .cons (h _ _ a) ih
abbrev Ox (rows:List ND):List Int→List Fm→Prop:=All2 (IdT rows)
theorem Ox.ext {rows rows':List ND} {zs:List Int} {ts:List Fm} (h:Ox rows zs ts) (hp:rows <+: rows'):Ox rows' zs ts:=by
 exact All2.imp (fun _ _ x=>x.ext hp) h
theorem Ox.snoc {rows:List ND} {zs:List Int} {ts:List Fm} {z:Int} {t:Fm} (h:Ox rows zs ts) (g:IdT rows z t):Ox rows (zs++[z]) (ts++[t]):=by
 induction h with
 | nil=>exact .cons g .nil
 | cons a _ ih=>exact .cons a ih
theorem Vk:∀ (ps:List (Int × Int)) (m:MK) (l:List Int),MkTo m (Kv ps m l).1
 | [],m,_=>MkTo.refl m
 | _p::t,m,_l=>(Ff m _).trans (Vk t _ _)
theorem dK:∀ (ys:List Int) (m:MK) (x:Int),MkTo m (Uu ys m x).1
 | [],m,_=>MkTo.refl m
 | _y::t,m,_x=>(Ff m _).trans (dK t _ _)
theorem hU:∀ (ys:List Int) (m:MK),MkTo m (Ss ys m).1
 | [],m=>(Ff m _).trans (Ff _ _)
 | _::t,m=>dK t m _
theorem Rn (all:Int):∀ (ys:List Int) (m:MK) (l:List Int),MkTo m (Hn all ys m l).1
 | [],m,_=>MkTo.refl m
 | _y::t,m,_l=>(Ff m _).trans (Rn all t _ _)
theorem bM:∀ (ps:List (Int × Int)) (m:MK) (l:List Int) (ts:List Fm) (pts:List (Fm × Fm)),Ok m.rows→All2 (fun p t=>IdT m.rows p.1 t.1∧IdT m.rows p.2 t.2) ps pts→Ox m.rows l ts→(Kv ps m l).1.e=0 →
  Ox (Kv ps m l).1.rows (Kv ps m l).2 (ts++pts.map fun t=>.imp t.1 t.2)
 | [],m,l,ts,pts,_,h,hl,_=>by cases h;simpa [Kv] using hl
 | p::t,m,l,ts,pts,ok,h,hl,he=>by
  cases h with
  | cons hp ht=>
   rename_i T Ts
   have h1:=(Vk t (Dm m (nd2 5 p.1 p.2)) (l++[Ei m (nd2 5 p.1 p.2)])).e he
   have hto:=Ff m (nd2 5 p.1 p.2)
   have hi:=Ls ok (.inr (.inr rfl)) hp.1 hp.2 h1
   have:=bM t (Dm m (nd2 5 p.1 p.2)) (l++[Ei m (nd2 5 p.1 p.2)]) (ts++[.imp T.1 T.2]) Ts (hto.ok ok) (All2.imp (fun _ _ x=>⟨x.1.ext hto.pre,x.2.ext hto.pre⟩) ht) ((hl.ext hto.pre).snoc (by simpa [Dy,nd2] using hi)) he
   simpa [Kv] using this
theorem hZ:∀ (ys:List Int) (m:MK) (x:Int) (X:Fm) (ts:List Fm),Ok m.rows→IdT m.rows x X→Ox m.rows ys ts→(Uu ys m x).1.e=0→IdT (Uu ys m x).1.rows (Uu ys m x).2 (ts.foldl .and X)
 | [],m,x,X,ts,_,hx,h,_=>by cases h;simpa [Uu] using hx
 | y::t,m,x,X,ts,ok,hx,h,he=>by
  cases h with
  | cons hy ht=>
   rename_i T Ts
   have h1:=(dK t (Dm m (nd2 3 x y)) (Ei m (nd2 3 x y))).e he
   have hto:=Ff m (nd2 3 x y)
   have hi:=Ls ok (.inl rfl) hx hy h1
   have:=hZ t (Dm m (nd2 3 x y)) (Ei m (nd2 3 x y)) (.and X T) Ts (hto.ok ok) (by simpa [Dy,nd2] using hi) (Ox.ext ht hto.pre) he
   simpa [Uu] using this
def Zv:List Fm→Fm
 | []=>.imp .bot .bot
 | x::t=>t.foldl .and x
theorem pM (ys:List Int) (m:MK) (ts:List Fm) (ok:Ok m.rows) (h:Ox m.rows ys ts) (he:(Ss ys m).1.e=0):IdT (Ss ys m).1.rows (Ss ys m).2 (Zv ts):=by
 cases h with
 | nil=>
  simp only [Ss,zD] at he ⊢
  have h1:=(Ff (Dm m (nd2 2 0 0)) _).e he
  have hb:=nV ok h1
  have:=Ls ((Ff m _).ok ok) (k:=5) (.inr (.inr rfl)) hb hb he
  simpa [Dy,nd2,Zv] using this
 | cons hy ht=>exact hZ _ m _ _ _ ok hy ht he
theorem Yk (all:Int) (A:Fm):∀ (ys:List Int) (m:MK) (l:List Int) (ts gs:List Fm),Ok m.rows→IdT m.rows all A→Ox m.rows ys gs→Ox m.rows l ts→(Hn all ys m l).1.e=0 →
  Ox (Hn all ys m l).1.rows (Hn all ys m l).2 (ts++gs.map (.imp A))
 | [],m,l,ts,gs,_,_,h,hl,_=>by cases h;simpa [Hn] using hl
 | y::t,m,l,ts,gs,ok,ha,h,hl,he=>by
  cases h with
  | cons hy ht=>
   rename_i T Ts
   have h1:=(Rn all t (Dm m (nd2 5 all y)) (l++[Ei m (nd2 5 all y)])).e he
   have hto:=Ff m (nd2 5 all y)
   have hi:=Ls ok (.inr (.inr rfl)) ha hy h1
   have:=Yk all A t (Dm m (nd2 5 all y)) (l++[Ei m (nd2 5 all y)]) (ts++[.imp A T]) Ts (hto.ok ok) (ha.ext hto.pre) (Ox.ext ht hto.pre) ((hl.ext hto.pre).snoc (by simpa [Dy,nd2] using hi)) he
   simpa [Hn] using this
theorem zU (M:KM) (w:M.W):∀ (ts:List Fm) (X:Fm),frc M w (ts.foldl .and X)↔frc M w X∧∀ t ∈ ts,frc M w t
 | [],X=>by simp
 | t::ts,X=>by
  rw [List.foldl_cons,zU M w ts]
  simp only [frc,List.mem_cons,forall_eq_or_imp,and_assoc]
theorem BA (M:KM) (w:M.W) (ts:List Fm):frc M w (Zv ts)↔∀ t ∈ ts,frc M w t:=by
 cases ts with
 | nil=>simp [Zv,frc]
 | cons x t=>simp only [Zv,zU,List.mem_cons,forall_eq_or_imp]
theorem AK (σ:ByteArray→Option Fm):∀ (ts:List Fm) (X:Fm),sub σ (ts.foldl .and X)=(ts.map (sub σ)).foldl .and (sub σ X)
 | [],_=>rfl
 | t::ts,X=>by rw [List.foldl_cons,AK σ ts];rfl
theorem BC (σ:ByteArray→Option Fm) (ts:List Fm):sub σ (Zv ts)=Zv (ts.map (sub σ)):=by
 cases ts with
 | nil=>rfl
 | cons x t=>exact AK σ t x
structure VisOk (rows:List ND) (r:VR) (ab:List (Fm × Fm)) (C D:Fm):Prop where
 ok:Ok r.rows
 pre:rows <+: r.rows
 prem:IdT r.rows r.prem (.imp (Zv (ab.map fun p=>.imp p.1 p.2)) (.or C D))
 parts:Ox r.rows r.parts ((ab.map (·.1)++[C,D]).map (.imp (Zv (ab.map fun p=>.imp p.1 p.2))))
theorem mS {rows:List ND}:∀ {zs:List Int},(∀ z ∈ zs,hasB rows.length z=true)→Ox rows zs (zs.map fun z=>Av rows z.toNat)
 | [],_=>.nil
 | z::t,h=>.cons (IdT.of_has (h z (by simp))) (mS fun x hx=>h x (by simp [hx]))
theorem fA {rows:List ND} {zs:List Int} (h:Fa rows zs=0):∀ z ∈ zs,hasB rows.length z=true:=by
 unfold Fa at h
 split at h
 ·rename_i h1;exact List.all_eq_true.1 h1
 ·cases h
theorem bI {rows:List ND} (ok:Ok rows) {a b:List Int} {c d:Int} (he:(Ej rows a b c d).err=0) :
  VisOk rows (Ej rows a b c d) ((a.zip b).map fun p=>(Av rows p.1.toNat,Av rows p.2.toNat)) (Av rows c.toNat) (Av rows d.toNat)∧a.length=b.length∧a.length≤8∧Fa rows (a++b++[c,d])=0:=by
 unfold Ej at he ⊢
 by_cases h1:Fa rows (a++b++[c,d])=0
 case neg=>rw [if_pos h1] at he;cases he
 rw [if_neg (by simpa using h1)] at he ⊢
 by_cases h2:a.length≠b.length∨8<a.length
 case pos=>rw [if_pos h2] at he;cases he
 rw [if_neg h2] at he ⊢
 by_cases h3:(Tc rows (a.zip b) (a++[c,d]) c d).1.e=0
 case neg=>rw [if_pos h3] at he;exact absurd he h3
 rw [if_neg (by simpa using h3)]
 have hall:=fA h1
 have hlen:a.length=b.length:=by omega
 refine ⟨?_,hlen,by omega,h1⟩
 have hz:∀ z ∈ a++[c,d],hasB rows.length z=true:=fun z hz=>hall z (by simp at hz ⊢;rcases hz with h | h | h<;>simp [h])
 have hp:All2 (fun (p:Int × Int) (t:Fm × Fm)=>IdT rows p.1 t.1∧IdT rows p.2 t.2) (a.zip b) ((a.zip b).map fun p=>(Av rows p.1.toNat,Av rows p.2.toNat)):=by
  have hm:∀ p ∈ a.zip b,hasB rows.length p.1=true∧hasB rows.length p.2=true:=fun p hp=>by
   have:=List.of_mem_zip hp
   exact ⟨hall _ (by simp [this.1]),hall _ (by simp [this.2])⟩
  revert hm
  generalize a.zip b=ps
  intro hm
  induction ps with
  | nil=>exact .nil
  | cons p t ih=>exact .cons ⟨IdT.of_has (hm p (by simp)).1,IdT.of_has (hm p (by simp)).2⟩ (ih fun q hq=>hm q (by simp [hq]))
 unfold Tc at h3 ⊢
 simp only at h3 ⊢
 generalize hi:Kv (a.zip b) ⟨rows,0⟩ []=i at *
 generalize hc:Ss i.2 i.1=x at *
 generalize hm1:Dm x.1 (nd2 4 c d)=m1 at *
 generalize ho:Ei x.1 (nd2 4 c d)=o at *
 generalize hm2:Dm m1 (nd2 5 x.2 o)=m2 at *
 generalize hpr:Ei m1 (nd2 5 x.2 o)=p at *
 have t5:MkTo m2 (Hn x.2 (a++[c,d]) m2 []).1:=Rn _ _ _ _
 have t4:MkTo m1 m2:=by rw [← hm2];exact Ff _ _
 have t3:MkTo x.1 m1:=by rw [← hm1];exact Ff _ _
 have t2:MkTo i.1 x.1:=by rw [← hc];exact hU _ _
 have t1:MkTo ⟨rows,0⟩ i.1:=by rw [← hi];exact Vk _ _ _
 have e2:=t5.e h3;have e1:=t4.e e2;have ex:=t3.e e1;have ei:=t2.e ex
 have o1:=t1.ok ok;have o2:=t2.ok o1;have o3:=t3.ok o2;have o4:=t4.ok o3
 have s1:Ox i.1.rows i.2 (((a.zip b).map fun p=>(Av rows p.1.toNat,Av rows p.2.toNat)).map fun t=>.imp t.1 t.2):=by
  have:=bM (a.zip b) ⟨rows,0⟩ [] [] _ ok hp .nil (by rw [hi];exact ei)
  rw [hi] at this;simpa using this
 have s2:=pM i.2 i.1 _ o1 s1 (by rw [hc];exact ex)
 rw [hc] at s2
 have p03:=(t1.pre.trans t2.pre)
 have hcd:∀ z,z=c∨z=d→IdT x.1.rows z (Av rows z.toNat):=fun z hz'=>(IdT.of_has (hz z (by simp;rcases hz' with h | h<;>simp [h]))).ext p03
 have s3:=Ls o2 (k:=4) (.inr (.inl rfl)) (hcd c (.inl rfl)) (hcd d (.inr rfl)) (by rw [hm1];exact e1)
 rw [hm1,ho] at s3
 have s4:=Ls o3 (k:=5) (.inr (.inr rfl)) (s2.ext t3.pre) s3 (by rw [hm2];exact e2)
 rw [hm2,hpr] at s4
 have s5:=Yk x.2 _ (a++[c,d]) m2 [] [] _ o4 ((s2.ext t3.pre).ext t4.pre) ((mS hz).ext (p03.trans (t3.pre.trans t4.pre))) .nil h3
 refine ⟨t5.ok o4,p03.trans (t3.pre.trans (t4.pre.trans t5.pre)),by simpa [Dy,nd2] using s4.ext t5.pre,?_⟩
 have hzip:(a.zip b).map (fun p=>Av rows p.1.toNat)=a.map fun z=>Av rows z.toNat:=by
  have:(a.zip b).map Prod.fst=a:=List.map_fst_zip (by omega)
  calc (a.zip b).map (fun p=>Av rows p.1.toNat)=((a.zip b).map Prod.fst).map (fun z=>Av rows z.toNat):=by rw [List.map_map];rfl
   _=_:=by rw [this]
 simp only [List.nil_append,List.map_append,List.map_map,List.map_cons,List.map_nil,Function.comp_def] at s5 ⊢
 have h4:(a.zip b).map (fun p=>Fm.imp (Zv ((a.zip b).map fun p=>Fm.imp (Av rows p.1.toNat) (Av rows p.2.toNat))) (Av rows p.1.toNat))=a.map fun z=>Fm.imp (Zv ((a.zip b).map fun p=>Fm.imp (Av rows p.1.toNat) (Av rows p.2.toNat))) (Av rows z.toNat):=by
  have:=congrArg (List.map (Fm.imp (Zv ((a.zip b).map fun p=>Fm.imp (Av rows p.1.toNat) (Av rows p.2.toNat))))) hzip
  simpa [List.map_map,Function.comp_def] using this
 rw [h4]
 exact s5
theorem AS (σ:ByteArray→Option Fm) (ab:List (Fm × Fm)) (C D:Fm) (h:Fz (fun _=>False) (sub σ (.imp (Zv (ab.map fun p=>.imp p.1 p.2)) (.or C D))))
  (hr:∀ T ∈ (ab.map (·.1)++[C,D]).map (.imp (Zv (ab.map fun p=>.imp p.1 p.2))),Fj (fun _=>False) (sub σ T)):False:=by
 have hs:∀ X,sub σ (.imp (Zv (ab.map fun p=>.imp p.1 p.2)) X) = .imp (Zv ((ab.map fun p=>(sub σ p.1,sub σ p.2)).map fun p=>.imp p.1 p.2)) (sub σ X):=fun X=>by
  simp only [sub,BC,List.map_map,Function.comp_def]
 rw [hs] at h
 refine BL (ab:=ab.map fun p=>(sub σ p.1,sub σ p.2)) (all:=Zv ((ab.map fun p=>(sub σ p.1,sub σ p.2)).map fun p=>.imp p.1 p.2)) (c:=sub σ C) (d:=sub σ D) ?_ (by simpa [sub] using h) ?_ ?_ ?_
 ·intro M w
  rw [BA]
  constructor
  ·intro h p hp
   exact h _ (List.mem_map.2 ⟨p,hp,rfl⟩)
  ·intro h t ht
   obtain ⟨p,hp,rfl⟩:=List.mem_map.1 ht
   exact h p hp
 ·intro p hp
  obtain ⟨q,hq,rfl⟩:=List.mem_map.1 hp
  have:=hr (.imp (Zv (ab.map fun p=>.imp p.1 p.2)) q.1) (List.mem_map.2 ⟨q.1,by simp;exact .inl ⟨q.2,hq⟩,rfl⟩)
  rw [hs] at this
  exact this
 ·have:=hr (.imp (Zv (ab.map fun p=>.imp p.1 p.2)) C) (List.mem_map.2 ⟨C,by simp,rfl⟩)
  rw [hs] at this
  exact this
 ·have:=hr (.imp (Zv (ab.map fun p=>.imp p.1 p.2)) D) (List.mem_map.2 ⟨D,by simp,rfl⟩)
  rw [hs] at this
  exact this
end Go.Dk
end
section
namespace Go.Dk
open Go.RowKit Go.Maps Go.MapKept Go.Shelf
open Go.Proofs hiding intOf
def wZ (b:Bool):Value:=.agg #[.bool b]
theorem vX (w:World):(zeroValue 68).run Tryz.prog w = .ok (wZ false) w:=by kernel_rfl
structure HEnv (F:FP) (w:World) (kb tb fb mb:Nat) (t:Value) (rows:List ND):Prop where
 ck:w.cell? ⟨kb,0,none⟩=some (.map (some mb))
 ct:w.cell? ⟨tb,0,none⟩=some t
 cf:w.cell? ⟨fb,0,none⟩=some (.func (.func 26) #[] #[.pointer (some ⟨kb,0,none⟩),.pointer (some ⟨tb,0,none⟩),.pointer (some ⟨fb,0,none⟩)])
 tab:Cm F w t rows
 nF:¬ F mb
 nk:kb≠mb
 nt:tb≠mb
 nf:fb≠mb
def yZ (rows:List ND) (f:Nat→Option Bool):Prop:=∀ x b,f x=some b→b=Ee rows x
structure HI (F:FP) (w:World) (kb tb fb mb:Nat) (t:Value) (rows:List ND) (f:Nat→Option Bool):Prop where
 env:HEnv F w kb tb fb mb t rows
 map:TM Tryz.prog 3 Jq wZ w mb f
 ok:yZ rows f
section
variable {F:FP} {w w':World} {kb tb fb mb:Nat} {t:Value} {rows:List ND} {f f':Nat→Option Bool}
theorem HEnv.keep (h:HEnv F w kb tb fb mb t rows) {M M':FP} (hk:KeptF M w M' w') (hM:∀ b,M b→b=mb):HEnv F w' kb tb fb mb t rows:=
 ⟨hk.cell h.ck (fun e=>h.nk (hM _ e)),hk.cell h.ct (fun e=>h.nt (hM _ e)),hk.cell h.cf (fun e=>h.nf (hM _ e)),h.tab.kept hk (fun b hf hm=>h.nF (hM b hm▸hf)),h.nF,h.nk,h.nt,h.nf⟩
theorem HI.below (h:HI F w kb tb fb mb t rows f) (hb:Below w.heap.size w w'):HI F w' kb tb fb mb t rows f:=
 ⟨h.env.keep (M:=FP.none) (KeptF.of_below (fun _ h=>h.elim) hb) (fun _ h=>h.elim),h.map.below hb,h.ok⟩
theorem HI.put (h:HI F w kb tb fb mb t rows f) {x:Nat} (hm:TM Tryz.prog 3 Jq wZ w' mb (upd f x (some (Ee rows x)))) (ho:Only mb w w'):HI F w' kb tb fb mb t rows (upd f x (some (Ee rows x))):=by
 refine ⟨h.env.keep (M:=fun b=>b=mb) (M':=fun b=>b=mb) ⟨ho.os,ho.tape,ho.output,by rw [ho.size];exact Nat.le_refl _,fun _ _ h=>h,fun b e=>by rw [e,ho.size];exact h.map.lt,fun b _ hn=>ho.block b hn⟩ (fun _ h=>h),hm,fun y b hy=>?_⟩
 by_cases e:y=x
 ·subst e;rw [upd_same] at hy;cases hy;rfl
 ·rw [Dw _ _ e] at hy;exact h.ok y b hy
end
structure Wrote (mb:Nat) (w w':World):Prop where
 os:w'.os=w.os
 tape:w'.tape=w.tape
 output:w'.output=w.output
 size:w.heap.size≤w'.heap.size
 block:∀ b,b<w.heap.size→b≠mb→w'.heap[b]? = w.heap[b]?
theorem Wrote.of_below {mb:Nat} {w w':World} (h:Below w.heap.size w w'):Wrote mb w w':=⟨h.os,h.tape,h.output,h.size,fun b hb _=>h.block b hb⟩
theorem Wrote.of_only {mb:Nat} {w w':World} (h:Only mb w w'):Wrote mb w w':=⟨h.os,h.tape,h.output,by rw [h.size];exact Nat.le_refl _,fun b _ hn=>h.block b hn⟩
theorem Wrote.trans {mb:Nat} {w w1 w2:World} (h:Wrote mb w w1) (g:Wrote mb w1 w2):Wrote mb w w2:=
 ⟨g.os.trans h.os,g.tape.trans h.tape,g.output.trans h.output,Nat.le_trans h.size g.size,fun b hb hn=>(g.block b (Nat.lt_of_lt_of_le hb h.size) hn).trans (h.block b hb hn)⟩
theorem Wrote.below {mb:Nat} {w w':World} (h:Wrote mb w w') {B:Nat} (hB:B≤w.heap.size) (hm:B≤mb):Below B w w':=
 ⟨h.os,h.tape,h.output,h.size,fun b hb=>h.block b (by omega) (by omega)⟩
theorem Wrote.boxed {mb:Nat} {w w':World} (h:Wrote mb w w') {b:Nat} {n:ND} (hx:Boxed w b n) (hn:b≠mb):Boxed w' b n:=by
 have hb:=h.block b (World.block_lt_of_cell? _ _ hx.c0) hn
 exact ⟨(World.cell?_of_block hb).trans hx.c0,(World.cell?_of_block hb).trans hx.c1,(World.cell?_of_block hb).trans hx.c2,(World.cell?_of_block hb).trans hx.c3⟩
def sK (F:FP) (w:World) (kb tb fb mb:Nat) (t:Value) (rows:List ND) (id:Nat) (e:Ending) (w':World):Prop:=
 ∃ f',e = .returned (.bool (Ee rows id))∧HI F w' kb tb fb mb t rows f'∧Wrote mb w w'
theorem Lt {F:FP} {w w':World} {kb tb fb mb:Nat} {t:Value} {rows:List ND} {id:Nat} {b:Bool} {f':Nat→Option Bool} (hb:b=Ee rows id) (h:HI F w' kb tb fb mb t rows f') (hw:Wrote mb w w') :
 sK F w kb tb fb mb t rows id (.returned (.bool b)) w':=⟨f',by rw [hb],h,hw⟩
set_option maxRecDepth 100000 in
set_option maxHeartbeats 4000000 in
theorem vB (F:FP) (kb tb fb mb:Nat) (t:Value) (rows:List ND) (id:Nat):∀ (w:World) (f:Nat→Option Bool),id<rows.length→HI F w kb tb fb mb t rows f →
  Calls Tryz.prog 26 #[.int .i64 (id:Int),.pointer (some ⟨kb,0,none⟩),.pointer (some ⟨tb,0,none⟩),.pointer (some ⟨fb,0,none⟩)] w (sK F w kb tb fb mb t rows id):=by
 induction id using Nat.strongRecOn with
 | _ id ih=>
  intro w f hid h
  have hok:=h.env.tab.ok
  have hle:=hok.le
  have hkey:=Qh id (by omega)
  have ck:=h.env.ck
  cases h0:f id with
  | some b=>
   have hl:(Instr.lookup 66 (.map (some mb)) (.int .i64 (id:Int)) true).run Tryz.prog w = .ok (.tuple #[.agg #[.bool b],.bool true]) w:=h.map.look_some Hz Ek Tryz.underlying66 hkey true h0
   have HI0:=Aa h
   have HB:Hid (b=Ee rows id):=h.ok _ _ h0
   have HL:Hid (mb<w.heap.size):=h.map.lt
   clear h hkey ih h0 hok
   go_enter Tryz.func26,Tryz.ntmps26
   go_wp2_with fail
   go_ret
   exact Lt HB.o (HI0.o.below (Ab _ _)) (Wrote.of_below (Ab _ _))
  | none=>
   have hl:(Instr.lookup 66 (.map (some mb)) (.int .i64 (id:Int)) true).run Tryz.prog w = .ok (.tuple #[.agg #[.bool false],.bool false]) w:=h.map.look_none Hz Ek Tryz.underlying66 (vX _) hkey true h0
   have HI0:=Aa (h.below (Ab w (.cells #[.bool false] 68)))
   have HK:=Aa hkey
   have IH:=Aa ih
   have OK:=Aa hok
   have HR:=Aa (Am hid)
   have HID:=Aa hid
   have HL:Hid (mb<w.heap.size):=h.map.lt
   have ct:=HI0.o.env.ct
   clear h hkey ih h0 hok
   go_enter Tryz.func26,Tryz.ntmps26
   go_wp2_with fail
   refine (Jl 0 (Vi F 0) _ _ _ (HI0.o.env.tab.col 0) _ _ HR.o).mono ?_
   rintro e w2 ⟨rfl,hb2⟩
   generalize hx:rowAt rows id=x at *
   have HX:=Aa hx
   have HI2:=Aa (HI0.o.below (Ac hb2 (Ab w2 (.cells #[.int .i64 x.kind,.string x.name,.int .i64 x.l,.int .i64 x.r] 31))))
   have HBX:Hid (Boxed (w2.alloc (.cells #[.int .i64 x.kind,.string x.name,.int .i64 x.l,.int .i64 x.r] 31)) w2.heap.size x):=Gx w2 x _
   have HW2:Hid (Wrote mb w (w2.alloc (.cells #[.int .i64 x.kind,.string x.name,.int .i64 x.l,.int .i64 x.r] 31))):=Wrote.of_below (Ac (Ab _ _) (Ac hb2 (Ab _ _)))
   have HNE:Hid (w2.heap.size≠mb):=by have:=HL.o;have:=hb2.size;simp at this;unfold Hid;omega
   have cf:=HI2.o.env.cf
   have ck2:=HI2.o.env.ck
   obtain ⟨x0,x1,x2,x3⟩:=HBX.o
   clear hb2 ck ct hx hl
   by_cases h3:x.kind=3
   ·as_aux_lemma=>
    have g3:(x.kind == 3)=true:=by simpa using h3
    have pp:=OK.o.parts HR.o (by omega)
    have HV:=Aa (jA OK.o HR.o h3)
    clear h3
    obtain ⟨xk,xn,xl,xr⟩:=x
    simp only at *
    obtain ⟨l,rfl⟩:=Int.eq_ofNat_of_zero_le pp.1.1
    obtain ⟨r,rfl⟩:=Int.eq_ofNat_of_zero_le pp.2.1
    simp only [Int.toNat_natCast] at HV
    have HLR:Hid (l<id∧r<id∧l<rows.length∧r<rows.length):=by have:=HID.o;unfold Hid;omega
    clear pp
    go_wp2_with fail
    refine (IH.o l HLR.o.1 _ _ HLR.o.2.2.1 HI2.o).mono ?_
    rintro e w5 ⟨f5,rfl,hI5,hw5⟩
    have HI5:=Aa hI5
    have HW5:=Aa (HW2.o.trans hw5)
    have cf5:=hI5.env.cf
    have ck5:=hI5.env.ck
    obtain ⟨y0,y1,y2,y3⟩:=hw5.boxed HBX.o HNE.o
    simp only at y0 y1 y2 y3
    clear hI5 hw5 cf ck2
    cases hl:Ee rows l with
    | false=>
     have HBB:Hid (false=Ee rows id):=by unfold Hid;rw [HV.o,hl];rfl
     clear hl
     go_wp2_with (at_mapUpdate;refine La HI5.o.map Hz Ek rfl (.tmp 50) (.tmp 51) (.tmp 53) 66 68 rfl Tryz.underlying66 rfl id rfl (Ee rows id) (by rw [← HBB.o];rfl) HK.o ?_;intro w7 hm7 ho7;have HI7:=Aa (HI5.o.put hm7 ho7);have HW7:=Aa (HW5.o.trans (Wrote.of_only ho7));clear hm7 ho7)
     go_ret
     exact Lt HBB.o HI7.o HW7.o
    | true=>
     go_wp2_with fail
     refine (IH.o r HLR.o.2.1 _ _ HLR.o.2.2.2 HI5.o).mono ?_
     rintro e w6 ⟨f6,rfl,hI6,hw6⟩
     have HI6:=Aa hI6
     have HW6:=Aa (HW5.o.trans hw6)
     have ck6:=hI6.env.ck
     have HBB:Hid (Ee rows r=Ee rows id):=by unfold Hid;rw [HV.o,hl];rfl
     clear hI6 hw6 hl cf5 ck5 y0 y1 y2 y3
     go_wp2_with (at_mapUpdate;refine La HI6.o.map Hz Ek rfl (.tmp 50) (.tmp 51) (.tmp 53) 66 68 rfl Tryz.underlying66 rfl id rfl (Ee rows id) (by rw [← HBB.o];rfl) HK.o ?_;intro w7 hm7 ho7;have HI7:=Aa (HI6.o.put hm7 ho7);have HW7:=Aa (HW6.o.trans (Wrote.of_only ho7));clear hm7 ho7)
     go_ret
     exact Lt HBB.o HI7.o HW7.o
   ·by_cases h5:x.kind=5
    ·as_aux_lemma=>
     have g3:(x.kind == 3)=false:=by simpa using h3
     have g5:(x.kind == 5)=true:=by simpa using h5
     have pp:=OK.o.parts HR.o (by omega)
     have HV:=Aa (jL OK.o HR.o h5)
     clear h3 h5
     obtain ⟨xk,xn,xl,xr⟩:=x
     simp only at *
     obtain ⟨r,rfl⟩:=Int.eq_ofNat_of_zero_le pp.2.1
     simp only [Int.toNat_natCast] at HV
     have HLR:Hid (r<id∧r<rows.length):=by have:=HID.o;unfold Hid;omega
     clear pp
     go_wp2_with fail
     refine (IH.o r HLR.o.1 _ _ HLR.o.2 HI2.o).mono ?_
     rintro e w6 ⟨f6,rfl,hI6,hw6⟩
     have HI6:=Aa hI6
     have HW6:=Aa (HW2.o.trans hw6)
     have ck6:=hI6.env.ck
     have HBB:Hid (Ee rows r=Ee rows id):=HV.o.symm
     clear hI6 hw6 cf ck2 x0 x1 x2 x3
     go_wp2_with (at_mapUpdate;refine La HI6.o.map Hz Ek rfl (.tmp 50) (.tmp 51) (.tmp 53) 66 68 rfl Tryz.underlying66 rfl id rfl (Ee rows id) (by rw [← HBB.o];rfl) HK.o ?_;intro w7 hm7 ho7;have HI7:=Aa (HI6.o.put hm7 ho7);have HW7:=Aa (HW6.o.trans (Wrote.of_only ho7));clear hm7 ho7)
     go_ret
     exact Lt HBB.o HI7.o HW7.o
    ·as_aux_lemma=>
     have g3:(x.kind == 3)=false:=by simpa using h3
     have g5:(x.kind == 5)=false:=by simpa using h5
     have HB4:=Aa (Wp OK.o HR.o h3 h5)
     clear h3 h5
     obtain ⟨xk,xn,xl,xr⟩:=x
     simp only at *
     by_cases h4:xk=4
     ·have HBB:Hid (false=Ee rows id):=by unfold Hid;rw [HB4.o,h4];rfl
      have g4:(xk != 4)=false:=by simpa using h4
      clear h4
      go_wp2_with (at_mapUpdate;refine La HI2.o.map Hz Ek rfl (.tmp 50) (.tmp 51) (.tmp 53) 66 68 rfl Tryz.underlying66 rfl id rfl (Ee rows id) (by rw [← HBB.o];rfl) HK.o ?_;intro w7 hm7 ho7;have HI7:=Aa (HI2.o.put hm7 ho7);have HW7:=Aa (HW2.o.trans (Wrote.of_only ho7));clear hm7 ho7)
      go_ret
      exact Lt HBB.o HI7.o HW7.o
     ·have HBB:Hid (true=Ee rows id):=by unfold Hid;rw [HB4.o];simp [h4]
      have g4:(xk != 4)=true:=by simpa using h4
      clear h4
      go_wp2_with (at_mapUpdate;refine La HI2.o.map Hz Ek rfl (.tmp 50) (.tmp 51) (.tmp 53) 66 68 rfl Tryz.underlying66 rfl id rfl (Ee rows id) (by rw [← HBB.o];rfl) HK.o ?_;intro w7 hm7 ho7;have HI7:=Aa (HI2.o.put hm7 ho7);have HW7:=Aa (HW2.o.trans (Wrote.of_only ho7));clear hm7 ho7)
      go_ret
      exact Lt HBB.o HI7.o HW7.o
theorem rdH (w:World) {b:Nat} (hb:b=w.heap.size) (cs:Array Value) (e:TypeId) {n size:Nat} {xs:List Value} (h:cs.toList=xs) (hl:xs.length=n * size):Rd (w.alloc (.cells cs e)) (.slice (some ⟨b,0,none⟩) n n) n size xs:=hb▸Oa w cs e h hl
theorem tM {w:World} {v a:Value} {zs:List Int} (h:Rd w v 1 1 [a]) (ha:Rd w a zs.length 1 (ints zs)) (hl:zs.length≤9223372036854775807):Ji w v [zs]:=by
 refine ⟨[a],h,fun i zs' x h1 h2=>?_⟩
 match i,h1,h2 with
 | 0,h1,h2=>
  simp only [List.getElem?_cons_zero,Option.some.injEq] at h1 h2
  subst h1;subst h2
  exact ⟨ha,hl⟩
 | i+1,h1,h2=>simp at h1
theorem yV {w:World} {v a b:Value} {zs ys:List Int} (h:Rd w v 2 1 [a,b]) (ha:Rd w a zs.length 1 (ints zs)) (hl:zs.length≤9223372036854775807) (hb:Rd w b ys.length 1 (ints ys)) (hm:ys.length≤9223372036854775807):Ji w v [zs,ys]:=by
 refine ⟨[a,b],h,fun i zs' x h1 h2=>?_⟩
 match i,h1,h2 with
 | 0,h1,h2=>
  simp only [List.getElem?_cons_zero,Option.some.injEq] at h1 h2
  subst h1;subst h2
  exact ⟨ha,hl⟩
 | 1,h1,h2=>
  simp only [List.getElem?_cons_succ,List.getElem?_cons_zero,Option.some.injEq] at h1 h2
  subst h1;subst h2
  exact ⟨hb,hm⟩
 | i+2,h1,h2=>simp at h1
theorem yB {w:World} {v a b c:Value} {zs ys xs:List Int} (h:Rd w v 3 1 [a,b,c]) (ha:Rd w a zs.length 1 (ints zs)) (hl:zs.length≤9223372036854775807) (hb:Rd w b ys.length 1 (ints ys)) (hm:ys.length≤9223372036854775807) (hc:Rd w c xs.length 1 (ints xs)) (hn:xs.length≤9223372036854775807):Ji w v [zs,ys,xs]:=by
 refine ⟨[a,b,c],h,fun i zs' x h1 h2=>?_⟩
 match i,h1,h2 with
 | 0,h1,h2=>
  simp only [List.getElem?_cons_zero,Option.some.injEq] at h1 h2
  subst h1;subst h2
  exact ⟨ha,hl⟩
 | 1,h1,h2=>
  simp only [List.getElem?_cons_succ,List.getElem?_cons_zero,Option.some.injEq] at h1 h2
  subst h1;subst h2
  exact ⟨hb,hm⟩
 | 2,h1,h2=>
  simp only [List.getElem?_cons_succ,List.getElem?_cons_zero,Option.some.injEq] at h1 h2
  subst h1;subst h2
  exact ⟨hc,hn⟩
 | i+3,h1,h2=>simp at h1
def isP (rows:List ND) (id:Int):Bool × Int:=if hasB rows.length id=true then (Ee rows id.toNat,0) else (false,31)
theorem vG (rows:List ND) (id:Int):Fa rows [[id]].flatten=if hasB rows.length id=true then 0 else 31:=by simp [Fa]
structure IsF (w w3:World) (pb:Nat) (id:Int):Prop where
 bel:Below w.heap.size w w3
 c0:w3.cell? ⟨w.heap.size,0,none⟩=some (.pointer (some ⟨pb,0,none⟩))
 ls:Ji w3 (.slice (some ⟨w.heap.size+1+1,0,none⟩) 1 1) [[id]]
 sz:w.heap.size<w3.heap.size
theorem sB (w:World) (pb:Nat) (id:Int):IsF w (((w.alloc (.cells #[.pointer (some ⟨pb,0,none⟩)] 24)).alloc (.cells #[.int .i64 id] 3)).alloc (.cells #[.slice (some ⟨w.heap.size+1,0,none⟩) 1 1] 23)) pb id:=
 ⟨Ac (Ac (Ab _ _) (Ab _ _)) (Ab _ _),
  ((World.cell?_alloc_lt _ _ _ (by simp;omega)).trans (World.cell?_alloc_lt _ _ _ (by simp))).trans (World.cell?_alloc_at _ _ _ _ rfl),
  tM (rdH _ (by simp) _ _ rfl rfl) ((rdH (n:=1) (size:=1) (w.alloc (.cells #[.pointer (some ⟨pb,0,none⟩)] 24)) (b:=w.heap.size+1) (by simp) #[.int .i64 id] 3 rfl rfl).below (Ab _ _)) (by simp),
  by simp;omega⟩
theorem sY {F:FP} {w4:World} {tb:Nat} {t:Value} {rows:List ND} (h:Cm F w4 t rows) (ht:w4.cell? ⟨tb,0,none⟩=some t) :
  HI F (((w4.alloc (.map #[] 0)).alloc (.cells #[.map (some w4.heap.size)] 66)).alloc (.cells #[.func (.func 26) #[] #[.pointer (some ⟨w4.heap.size+1,0,none⟩),.pointer (some ⟨tb,0,none⟩),.pointer (some ⟨w4.heap.size+1+1,0,none⟩)]] 28))
   (w4.heap.size+1) tb (w4.heap.size+1+1) w4.heap.size t rows (fun _=>none):=by
 have hb:=Ac (Ac (Ab w4 (.map #[] 0)) (Ab _ (.cells #[.map (some w4.heap.size)] 66))) (Ab _ (.cells #[.func (.func 26) #[] #[.pointer (some ⟨w4.heap.size+1,0,none⟩),.pointer (some ⟨tb,0,none⟩),.pointer (some ⟨w4.heap.size+1+1,0,none⟩)]] 28))
 have hl:=World.block_lt_of_cell? _ _ ht
 simp only at hl
 refine ⟨⟨(World.cell?_alloc_lt _ _ _ (by simp)).trans (World.cell?_alloc_at _ _ _ _ (by simp)),(hb.cell hl).trans ht,World.cell?_alloc_at _ _ _ _ (by simp),h.below hb,fun hf=>by have:=h.in_ _ hf;omega,by omega,by omega,by omega⟩,?_,fun _ _ h=>by cases h⟩
 exact ((TM.made Tryz.prog 3 Jq wZ w4).below (Ab _ _)).below (Ab _ _)
set_option maxRecDepth 100000 in
set_option maxHeartbeats 2000000 in
theorem lC (F:FP) (w:World) (t:Value) (rows:List ND) (h:Cm F w t rows) (id:Int) :
  Calls Tryz.prog 11 #[t,.int .i64 id] w fun e w'=>e = .returned (.tuple #[.bool (isP rows id).1,.int .i64 (isP rows id).2])∧Below w.heap.size w w':=by
 obtain ⟨pb,rfl⟩:∃ pb,t = .pointer (some ⟨pb,0,none⟩):=by obtain ⟨pb,_,_,e,_⟩:=h.col 0;exact ⟨pb,e⟩
 have H:=Aa h
 have HLE:=Aa (vG rows id)
 have HFR:=Aa (sB w pb id)
 clear h
 cases hb:hasB rows.length id with
 | true=>
  have HP:Hid (isP rows id=(Ee rows id.toNat,0)):=by unfold Hid isP;rw [hb];rfl
  rw [hb,if_pos rfl] at HLE
  obtain ⟨n,rfl,hn⟩:=Dx hb
  have HN:=Aa hn
  clear hb hn
  rw [HP.o]
  go_enter Tryz.func11,Tryz.ntmps11
  go_wp2_with fail
  generalize (((w.alloc (.cells #[.pointer (some ⟨pb,0,none⟩)] 24)).alloc (.cells #[.int .i64 (n:Int)] 3)).alloc (.cells #[.slice (some ⟨w.heap.size+1,0,none⟩) 1 1] 23))=w3 at *
  refine (Gu 0 _ _ _ _ rows [[(n:Int)]] ((H.o.col 0).below HFR.o.bel) HFR.o.ls (by simp)).mono ?_
  rintro e w4 ⟨rfl,hb4⟩
  rw [HLE.o]
  have HB4:=Aa (Ac HFR.o.bel hb4)
  have HC0:Hid (w4.cell? ⟨w.heap.size,0,none⟩=some (.pointer (some ⟨pb,0,none⟩))):=(hb4.cell HFR.o.sz).trans HFR.o.c0
  have HS4:Hid (w.heap.size<w4.heap.size):=by have:=hb4.size;have:=HFR.o.sz;unfold Hid;omega
  clear hb4
  have hmm:=@run_makeMap Tryz.prog
  go_wp2_with fail
  refine (vB F _ _ _ _ _ rows n _ _ HN.o (sY (H.o.below HB4.o) HC0.o)).mono ?_
  rintro e w8 ⟨f8,rfl,hI8,hw8⟩
  have HB8:Hid (Below w.heap.size w w8):=by
   have h1:=hw8.below (B:=w.heap.size) (by have:=HS4.o;simp;omega) (by have:=HS4.o;omega)
   exact HB4.o.trans ((Ac (Ac (Ab _ _) (Ab _ _)) (Ab _ _)).mono (Nat.le_of_lt HS4.o) |>.trans h1)
  clear hI8 hw8 hmm
  go_wp2_with fail
  go_ret2
  exact ⟨rfl,HB8.o⟩
 | false=>
  have HP:Hid (isP rows id=(false,31)):=by unfold Hid isP;rw [hb];rfl
  rw [hb,if_neg (by simp)] at HLE
  clear hb
  rw [HP.o]
  go_enter Tryz.func11,Tryz.ntmps11
  go_wp2_with fail
  generalize (((w.alloc (.cells #[.pointer (some ⟨pb,0,none⟩)] 24)).alloc (.cells #[.int .i64 id] 3)).alloc (.cells #[.slice (some ⟨w.heap.size+1,0,none⟩) 1 1] 23))=w3 at *
  refine (Gu 0 _ _ _ _ rows [[id]] ((H.o.col 0).below HFR.o.bel) HFR.o.ls (by simp)).mono ?_
  rintro e w4 ⟨rfl,hb4⟩
  rw [HLE.o]
  have HB4:=Aa (Ac HFR.o.bel hb4)
  clear hb4
  go_wp2_with fail
  go_ret2
  exact ⟨rfl,HB4.o⟩
end Go.Dk
end
