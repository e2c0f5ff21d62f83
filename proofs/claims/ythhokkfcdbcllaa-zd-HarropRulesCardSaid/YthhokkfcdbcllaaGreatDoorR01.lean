/- Parts of the proof: A, Pu, D, W, F. -/
import Derived.WalkKit
import Derived.Maps.Own
import Derived.Maps.OwnSet
import Derived.Lib.Hide
import Derived.WalkSpells
import Derived.WalkLawsBesides
import Derived.Maps.AppendAt
import Derived.Laws.AppendOwnNone
import Derived.Deep.AppendLies
import Derived.Test.YthhokkfcdbcllaaGreatDoorProg
import Derived.BigQuiet
import Derived.Deep.QuietTactic
import Derived.KernelRfl
import Derived.DeepKeys4
import Derived.Sort.WalkA
theorem Go.RowKit.Hid.o {p:Prop} (h:Go.RowKit.Hid p):p:=h
theorem Go.Dk.Aa {p:Prop} (h:p):Go.RowKit.Hid p:=h
section
namespace Go.Dk
open Go.RowKit Go.Maps Go.MapKept
abbrev Own:=Nat→Nat
structure Kept (k:Nat) (ow:Own) (w:World) (ow':Own) (w':World):Prop where
 os:w'.os=w.os
 tape:w'.tape=w.tape
 output:w'.output=w.output
 size:w.heap.size≤w'.heap.size
 own:∀ b,b<w.heap.size→ow' b=ow b
 block:∀ b,b<w.heap.size→ow b≠k→w'.heap[b]? = w.heap[b]?
theorem Kept.refl (k:Nat) (ow:Own) (w:World):Kept k ow w ow w:=⟨rfl,rfl,rfl,Nat.le_refl _,fun _ _=>rfl,fun _ _ _=>rfl⟩
theorem Kept.trans {k:Nat} {o1 o2 o3:Own} {w1 w2 w3:World} (h:Kept k o1 w1 o2 w2) (g:Kept k o2 w2 o3 w3):Kept k o1 w1 o3 w3:=
 ⟨g.os.trans h.os,g.tape.trans h.tape,g.output.trans h.output,Nat.le_trans h.size g.size,
  fun b hb=>(g.own b (Nat.lt_of_lt_of_le hb h.size)).trans (h.own b hb),
  fun b hb hk=>(g.block b (Nat.lt_of_lt_of_le hb h.size) (by rw [h.own b hb];exact hk)).trans (h.block b hb hk)⟩
theorem Kept.of_below {k:Nat} {ow:Own} {w w':World} (h:Below w.heap.size w w'):Kept k ow w ow w':=
 ⟨h.os,h.tape,h.output,h.size,fun _ _=>rfl,fun b hb _=>h.block b hb⟩
theorem Kept.recolour {k:Nat} {ow ow' ow'':Own} {w w':World} (h:Kept k ow w ow' w') (g:∀ b,b<w.heap.size→ow'' b=ow b):Kept k ow w ow'' w':=
 ⟨h.os,h.tape,h.output,h.size,g,h.block⟩
theorem Ac {w w1 w2:World} (h:Below w.heap.size w w1) (g:Below w1.heap.size w1 w2):Below w.heap.size w w2:=h.trans (g.mono h.size)
theorem Ab (w:World) (o:Obj):Below w.heap.size w (w.alloc o):=(Below.refl _ _).alloc (Nat.le_refl _) o
theorem below_drewN (w:World) (n:Nat):Below w.heap.size w (w.drewN n):=⟨rfl,rfl,rfl,Nat.le_refl _,fun _ _=>rfl⟩
theorem _root_.Go.RowKit.Below.kept_ow {w w':World} (h:Below w.heap.size w w') {k:Nat} {ow:Own}:Kept k ow w ow w':=Kept.of_below h
theorem Kept.below {k:Nat} {ow ow':Own} {w w':World} {B:Nat} (h:Kept k ow w ow' w') (hB:B≤w.heap.size) (hz:∀ b,b<B→ow b≠k):Below B w w':=
 ⟨h.os,h.tape,h.output,h.size,fun b hb=>h.block b (Nat.lt_of_lt_of_le hb hB) (hz b hb)⟩
theorem cell_of {w:World} {b i:Nat} {cs:Array Value} {t:TypeId} {fr:Nat × Nat} {v:Value} (h:w.heap[b]? = some (.cells cs t fr)) (hi:cs[i]? = some v):w.cell? ⟨b,i,none⟩=some v:=by
 simp [World.cell?,h,hi]
theorem Dt {w:World} {b i:Nat} {cs:Array Value} {t:TypeId} (h:w.heap[b]? = some (.cells cs t (0,0))):w.frozen? ⟨b,i,none⟩=false:=by
 simp [World.frozen?,h]
theorem lt_of_block {w:World} {b:Nat} {o:Obj} (h:w.heap[b]? = some o):b<w.heap.size:=(Array.getElem?_eq_some_iff.1 h).1
theorem Tu {w w':World} {row:Option Nat} {ow:Own} {k:Nat} (hg:w.grownBy w' row) (h:∀ g,row=some g→ow g=k):Kept k ow w ow w':=
 ⟨hg.os,hg.tape,hg.output,hg.size,fun _ _=>rfl,fun b hb hk=>hg.block b hb (fun e=>hk (h b e.symm))⟩
theorem Jb (w:World) {a:Addr} {ow:Own} {k:Nat} (h:ow a.block=k) (u:Value):Kept k ow w ow (w.setCell a u):=
 ⟨rfl,rfl,rfl,by simp,fun _ _=>rfl,fun b _ hk=>Below.heap_setCell _ _ _ _ (fun e=>hk (by rw [e];exact h))⟩
theorem Qo {w w':World} {o:Obj} {row:Option Nat} (hg:(w.alloc o).drew.grownBy w' row):w.grownBy w' row:=
 World.grownBy.trans (World.grownBy_alloc w o row) ⟨hg.os,hg.tape,hg.output,hg.size,hg.block⟩
theorem qX (w:World) (ow:Own) (k:Nat):Kept k ow w ow w.drew:=⟨rfl,rfl,rfl,Nat.le_refl _,fun _ _=>rfl,fun _ _ _=>rfl⟩
theorem own_ne {w:World} {base:Nat} {e:TypeId} {size:Nat} {v:Value} {n:Nat} {xs:List Value} (h:w.ownsRow base e size v n xs) {b:Nat} {o:Obj} (hb:w.heap[b]? = some o) (ho:∀ cur fr,o≠.cells cur e fr):v.ownBlock≠some b:=by
 intro hk
 rcases h.2 with ⟨rfl,_⟩ | ⟨g,cap,cur,rfl,_,hg,_⟩
 ·simp [Value.ownBlock] at hk
 ·have:g=b:=by simpa [Value.ownBlock] using hk
  subst this
  rw [hb] at hg
  cases hg
  exact ho _ _ rfl
theorem Di {w:World} {b i:Nat} {cs:Array Value} {t:TypeId} {fr:Nat × Nat} (h:w.heap[b]? = some (.cells cs t fr)) (u:Value):(w.setCell ⟨b,i,none⟩ u).heap[b]? = some (.cells (cs.setIfInBounds i u) t fr):=by
 simp [World.setCell,Array.getElem?_modify,h]
def KV (P:Program) (k:TypeId) (w:World) (b:Nat) (l:List (Value × Value)):Prop:=
 ∃ es clock,w.heap[b]? = some (.map es clock)∧Stamped es clock∧(es.toList.map fun e=>(e.key,e.val))=l∧∀ e ∈ es.toList,∃ q,keyOf P k e.key=some q
theorem KV.lt {P:Program} {k:TypeId} {w:World} {b:Nat} {l:List (Value × Value)} (h:KV P k w b l):b<w.heap.size:=by
 obtain ⟨es,clock,hb,_⟩:=h
 exact lt_of_block hb
theorem KV.same {P:Program} {k:TypeId} {w w':World} {b:Nat} {l:List (Value × Value)} (h:KV P k w b l) (e:w'.heap[b]? = w.heap[b]?):KV P k w' b l:=by
 obtain ⟨es,clock,hb,r⟩:=h
 exact ⟨es,clock,e.trans hb,r⟩
theorem KV.made (P:Program) (k:TypeId) (w:World):KV P k (w.alloc (.map #[] 0)) w.heap.size []:=
 ⟨#[],0,(heap_alloc w _).1,stamped_empty 0,rfl,by simp⟩
def TM {κ ν:Type} (P:Program) (k:TypeId) (ek:κ→Value) (ev:ν→Value) (w:World) (b:Nat) (f:κ→Option ν):Prop:=
 ∃ l:List (κ × ν),KV P k w b (l.map fun p=>(ek p.1,ev p.2))∧(l.map (·.1)).Nodup∧∀ x v,f x=some v↔(x,v) ∈ l
section
variable {κ ν:Type} {P:Program} {k:TypeId} {ek:κ→Value} {ev:ν→Value} {w:World} {b:Nat} {f:κ→Option ν}
theorem TM.lt (h:TM P k ek ev w b f):b<w.heap.size:=by obtain ⟨l,h,_⟩:=h;exact h.lt
theorem TM.same {w':World} (h:TM P k ek ev w b f) (e:w'.heap[b]? = w.heap[b]?):TM P k ek ev w' b f:=by
 obtain ⟨l,h,r⟩:=h
 exact ⟨l,h.same e,r⟩
theorem TM.made (P:Program) (k:TypeId) (ek:κ→Value) (ev:ν→Value) (w:World):TM P k ek ev (w.alloc (.map #[] 0)) w.heap.size (fun _=>none):=
 ⟨[],KV.made P k w,by simp,by simp⟩
theorem TM.below {w':World} (h:TM P k ek ev w b f) (hb:Below w.heap.size w w'):TM P k ek ev w' b f:=h.same (hb.block b h.lt)
theorem TM.kept {w':World} {ow ow':Own} {c:Nat} (h:TM P k ek ev w b f) (hb:Kept c ow w ow' w') (hc:ow b≠c):TM P k ek ev w' b f:=h.same (hb.block b h.lt hc)
theorem TM.find (h:TM P k ek ev w b f) (K:Keyed P k) (inj:∀ x y,ek x=ek y→x=y) {x:κ} {kl:Lit} (hkey:keyOf P k (ek x)=some kl) :
  ∃ es clock,w.heap[b]? = some (.map es clock)∧(((Instr.findKey k (ek x) es.toList).run P w = .ok none w∧f x=none) ∨
   ∃ j v,(Instr.findKey k (ek x) es.toList).run P w = .ok (some (j,ev v)) w∧f x=some v):=by
 obtain ⟨l,⟨es,clock,hb,hs,hl,hk⟩,hnd,hf⟩:=h
 refine ⟨es,clock,hb,?_⟩
 rcases K.find w hkey es.toList hk with ⟨h1,h2⟩ | ⟨j,e0,h1,h2,h3⟩
 ·refine .inl ⟨h1,?_⟩
  cases hx:f x with
  | none=>rfl
  | some v=>
   have hm:=(hf x v).1 hx
   have:(ek x,ev v) ∈ es.toList.map (fun e=>(e.key,e.val)):=by rw [hl];exact List.mem_map.2 ⟨(x,v),hm,rfl⟩
   obtain ⟨e,he,e1⟩:=List.mem_map.1 this
   simp only [Prod.mk.injEq] at e1
   exact absurd e1.1 (h2 e he)
 ·have hm:(e0.key,e0.val) ∈ l.map (fun p=>(ek p.1,ev p.2)):=by rw [← hl];exact List.mem_map.2 ⟨e0,List.mem_of_getElem? h2,rfl⟩
  obtain ⟨⟨y,v⟩,hy,e1⟩:=List.mem_map.1 hm
  simp only [Prod.mk.injEq] at e1
  have:y=x:=inj _ _ (e1.1.trans h3)
  subst this
  refine .inr ⟨j,v,?_,(hf _ _).2 hy⟩
  rw [h1,e1.2]
theorem TM.look_none (h:TM P k ek ev w b f) (K:Keyed P k) (inj:∀ x y,ek x=ek y→x=y) {t e:TypeId} (ht:P.underlying t=some (.map k e)) {z:Value} (hz:(zeroValue e).run P w = .ok z w)
  {x:κ} {kl:Lit} (hkey:keyOf P k (ek x)=some kl) (c:Bool) (hx:f x=none):(Instr.lookup t (.map (some b)) (ek x) c).run P w = .ok (if c then .tuple #[z,.bool false] else z) w:=by
 obtain ⟨es,clock,hb,h1 | ⟨j,v,h1,h2⟩⟩:=h.find K inj hkey
 ·simp [Instr.lookup,run_underlying ht,MapKept.run_getObj_map hb,K.check w _ hkey,h1.1,hz,Result.andThen]
 ·rw [hx] at h2;cases h2
theorem TM.look_some (h:TM P k ek ev w b f) (K:Keyed P k) (inj:∀ x y,ek x=ek y→x=y) {t e:TypeId} (ht:P.underlying t=some (.map k e))
  {x:κ} {kl:Lit} (hkey:keyOf P k (ek x)=some kl) (c:Bool) {v:ν} (hx:f x=some v):(Instr.lookup t (.map (some b)) (ek x) c).run P w = .ok (if c then .tuple #[ev v,.bool true] else ev v) w:=by
 obtain ⟨es,clock,hb,h1 | ⟨j,v',h1,h2⟩⟩:=h.find K inj hkey
 ·rw [hx] at h1;cases h1.2
 ·rw [hx] at h2
  cases h2
  simp [Instr.lookup,run_underlying ht,MapKept.run_getObj_map hb,K.check w _ hkey,h1,Result.andThen]
def setB (w:World) (b:Nat) (o:Obj):World:={ w with heap:=w.heap.setIfInBounds b o }
theorem Ph {w:World} {b:Nat} {o:Obj} (hb:b<w.heap.size):(setB w b o).heap[b]? = some o:=by simp [setB,hb]
theorem Tn {w:World} {b c:Nat} {o:Obj} (hc:c≠b):(setB w b o).heap[c]? = w.heap[c]?:=by
 simp only [setB,Array.getElem?_setIfInBounds]
 rw [if_neg (Ne.symm hc)]
open Classical in
noncomputable def upd {κ ν:Type} (f:κ→Option ν) (x:κ) (v:Option ν):κ→Option ν:=fun y=>if y=x then v else f y
theorem upd_same {κ ν:Type} (f:κ→Option ν) (x:κ) (v:Option ν):upd f x v x=v:=by simp [upd]
theorem Dw {κ ν:Type} (f:κ→Option ν) {x y:κ} (v:Option ν) (h:y≠x):upd f x v y=f y:=by simp [upd,h]
structure Only (b:Nat) (w w':World):Prop where
 os:w'.os=w.os
 tape:w'.tape=w.tape
 output:w'.output=w.output
 size:w'.heap.size=w.heap.size
 block:∀ c,c≠b→w'.heap[c]? = w.heap[c]?
theorem Rr (w:World) (b:Nat) (o:Obj):Only b w (setB w b o):=⟨rfl,rfl,rfl,by simp [setB],fun _ h=>Tn h⟩
theorem Only.kept {b:Nat} {w w':World} (h:Only b w w') {ow:Own} {k:Nat} (hk:ow b=k):Kept k ow w ow w':=
 ⟨h.os,h.tape,h.output,by rw [h.size];exact Nat.le_refl _,fun _ _=>rfl,fun c _ hc=>h.block c (fun e=>hc (e▸hk))⟩
theorem Only.below {b:Nat} {w w':World} (h:Only b w w') {B:Nat} (hB:B≤b):Below B w w':=
 ⟨h.os,h.tape,h.output,by rw [h.size];exact Nat.le_refl _,fun c hc=>h.block c (by omega)⟩
theorem TM.put (h:TM P k ek ev w b f) (K:Keyed P k) (inj:∀ x y,ek x=ek y→x=y) {t e:TypeId} (ht:P.underlying t=some (.map k e)) {x:κ} {kl:Lit} (hkey:keyOf P k (ek x)=some kl) (v:ν) :
  ∃ w',(Instr.mapUpdate t (.map (some b)) (ek x) (ev v)).run P w = .ok () w'∧TM P k ek ev w' b (upd f x (some v))∧Only b w w':=by
 obtain ⟨l,⟨es,clock,hb,hs,hl,hk⟩,hnd,hf⟩:=h
 have hbl:=lt_of_block hb
 rcases K.find w hkey es.toList hk with ⟨h1,h2⟩ | ⟨j,e0,h1,h2,h3⟩
 ·have hnot:∀ v',(x,v') ∉ l:=fun v' hv'=>by
   have:(ek x,ev v') ∈ es.toList.map (fun e=>(e.key,e.val)):=by rw [hl];exact List.mem_map.2 ⟨(x,v'),hv',rfl⟩
   obtain ⟨e,he,e1⟩:=List.mem_map.1 this
   simp only [Prod.mk.injEq] at e1
   exact h2 e he e1.1
  refine ⟨setB w b (.map (es.push ⟨ek x,ev v,clock⟩) (clock+1)),?_,⟨l++[(x,v)],⟨_,_,Ph hbl,stamped_push hs h2,?_,?_⟩,?_,?_⟩,Rr _ _ _⟩
  ·simp [Instr.mapUpdate,run_underlying ht,MapKept.run_getObj_map hb,K.check w false hkey,h1,MapKept.run_setObj_map _ hb,Result.andThen,setB]
  ·simp [hl]
  ·intro e he
   simp only [Array.toList_push,List.mem_append,List.mem_singleton] at he
   rcases he with he | rfl
   ·exact hk e he
   ·exact ⟨_,hkey⟩
  ·simp only [List.map_append,List.map_cons,List.map_nil]
   refine List.nodup_append.2 ⟨hnd,by simp,?_⟩
   intro a ha c hc e1
   simp only [List.mem_singleton] at hc
   subst hc;subst e1
   obtain ⟨⟨y,u⟩,hy,rfl⟩:=List.mem_map.1 ha
   exact hnot u hy
  ·intro y u
   by_cases e1:y=x
   ·subst e1
    rw [upd_same]
    constructor
    ·intro h;cases h;simp
    ·intro h
     simp only [List.mem_append,List.mem_singleton,Prod.mk.injEq,true_and] at h
     rcases h with h | h
     ·exact absurd h (hnot u)
     ·rw [h]
   ·rw [Dw _ _ e1,hf]
    simp [e1]
 ·have hj:es[j]? = some e0:=by simpa using h2
  have hjl:j<es.toList.length:=(List.getElem?_eq_some_iff.1 h2).1
  have hlj:∃ u0,l[j]? = some (x,u0):=by
   have:(es.toList.map (fun e=>(e.key,e.val)))[j]? = some (e0.key,e0.val):=by simp [h2]
   rw [hl,List.getElem?_map] at this
   cases hlj:l[j]? with
   | none=>simp [hlj] at this
   | some p=>
    simp only [hlj,Option.map_some,Option.some.injEq,Prod.mk.injEq] at this
    exact ⟨p.2,by rw [← inj _ _ (this.1.trans h3)]⟩
  obtain ⟨u0,hlj⟩:=hlj
  have hjl':j<l.length:=(List.getElem?_eq_some_iff.1 hlj).1
  have hkeyf:∀ e',es[j]? = some e'→({ e' with key:=ek x,val:=ev v }:MapEntry).key=e'.key:=fun e' he'=>by rw [hj] at he';cases he';exact h3.symm
  have hlist:(es.modify j (fun e'=>{ e' with key:=ek x,val:=ev v })).toList=es.toList.set j { e0 with key:=ek x,val:=ev v }:=by rw [Array.toList_modify,Go.ChangeMaps.modify_eq_set _ _ _ _ h2]
  refine ⟨setB w b (.map (es.modify j (fun e'=>{ e' with key:=ek x,val:=ev v })) clock),?_,⟨l.set j (x,v),⟨_,_,Ph hbl,stamped_modify hs _ _ (fun _ _=>rfl) (fun e' _ he'=>hkeyf e' he'),?_,?_⟩,?_,?_⟩,Rr _ _ _⟩
  ·simp [Instr.mapUpdate,run_underlying ht,MapKept.run_getObj_map hb,K.check w false hkey,h1,hj,h3,K.stays w hkey,MapKept.run_setObj_map _ hb,Result.andThen,setB]
  ·rw [hlist,List.map_set,hl,List.map_set]
  ·intro e he
   rw [hlist] at he
   rcases List.mem_or_eq_of_mem_set he with he | rfl
   ·exact hk e he
   ·exact ⟨_,hkey⟩
  ·rw [List.map_set]
   have:(l.map (·.1)).set j x=l.map (·.1):=by
    apply List.ext_getElem?
    intro i
    rw [List.getElem?_set]
    split
    ·rename_i e1;subst e1
     have:=(List.getElem?_eq_some_iff.1 hlj).2
     simp [hjl',this]
    ·rfl
   rw [this];exact hnd
  ·intro y u
   have hset:(y,u) ∈ l.set j (x,v)↔(y=x∧u=v)∨(y≠x∧(y,u) ∈ l):=by
    constructor
    ·intro hm
     obtain ⟨i,hi⟩:=List.mem_iff_getElem?.1 hm
     rw [List.getElem?_set] at hi
     split at hi
     ·rename_i e1
      subst e1
      simp only [Option.some.injEq,Prod.mk.injEq] at hi
      exact .inl ⟨hi.1.symm,hi.2.symm⟩
     ·rename_i hne
      refine .inr ⟨fun e1=>hne ?_,List.mem_of_getElem? hi⟩
      subst e1
      have a1:(l.map (·.1))[i]? = some y:=by simp [hi]
      have a2:(l.map (·.1))[j]? = some y:=by simp [hlj]
      have il:=(List.getElem?_eq_some_iff.1 a1).1
      have jl:=(List.getElem?_eq_some_iff.1 a2).1
      exact ((List.getElem_inj hnd (h₀:=jl) (h₁:=il)).1 ((List.getElem?_eq_some_iff.1 a2).2.trans (List.getElem?_eq_some_iff.1 a1).2.symm))
    ·rintro (⟨rfl,rfl⟩ | ⟨hne,hm⟩)
     ·exact List.mem_iff_getElem?.2 ⟨j,by simp [hjl']⟩
     ·obtain ⟨i,hi⟩:=List.mem_iff_getElem?.1 hm
      refine List.mem_iff_getElem?.2 ⟨i,?_⟩
      rw [List.getElem?_set]
      split
      ·rename_i e1;subst e1;rw [hlj] at hi;cases hi;exact absurd rfl hne
      ·exact hi
   rw [hset]
   by_cases e1:y=x
   ·subst e1
    rw [upd_same]
    constructor
    ·intro h;cases h;exact .inl ⟨rfl,rfl⟩
    ·rintro (⟨_,rfl⟩ | ⟨h,_⟩)
     ·rfl
     ·exact absurd rfl h
   ·rw [Dw _ _ e1,hf]
    constructor
    ·intro h;exact .inr ⟨e1,h⟩
    ·rintro (⟨h,_⟩ | ⟨_,h⟩)
     ·exact absurd h e1
     ·exact h
theorem TM.del (h:TM P k ek ev w b f) (K:Keyed P k) (inj:∀ x y,ek x=ek y→x=y) {t e:TypeId} (ht:P.underlying t=some (.map k e)) {x:κ} {kl:Lit} (hkey:keyOf P k (ek x)=some kl) (ty:TypeId) :
  ∃ w',(Builtin.delete_ #[t,k] ty #[.map (some b),ek x]).run P w = .ok (.tuple #[]) w'∧TM P k ek ev w' b (upd f x none)∧Only b w w':=by
 obtain ⟨l,⟨es,clock,hb,hs,hl,hk⟩,hnd,hf⟩:=h
 have hbl:=lt_of_block hb
 rcases K.find w hkey es.toList hk with ⟨h1,h2⟩ | ⟨j,e0,h1,h2,h3⟩
 ·have hnot:∀ v',(x,v') ∉ l:=fun v' hv'=>by
   have:(ek x,ev v') ∈ es.toList.map (fun e=>(e.key,e.val)):=by rw [hl];exact List.mem_map.2 ⟨(x,v'),hv',rfl⟩
   obtain ⟨e,he,e1⟩:=List.mem_map.1 this
   simp only [Prod.mk.injEq] at e1
   exact h2 e he e1.1
  refine ⟨setB w b (.map es clock),?_,⟨l,⟨_,_,Ph hbl,hs,hl,hk⟩,hnd,?_⟩,Rr _ _ _⟩
  ·simp [Builtin.delete_,run_underlying ht,MapKept.run_getObj_map hb,K.check w _ hkey,h1,MapKept.run_setObj_map _ hb,Result.andThen,setB]
  ·intro y u
   by_cases e1:y=x
   ·subst e1;rw [upd_same];simp [hnot u]
   ·rw [Dw _ _ e1,hf]
 ·have hjl:j<es.toList.length:=(List.getElem?_eq_some_iff.1 h2).1
  have hjs:j<es.size:=by simpa using hjl
  have hsub:(es.eraseIdxIfInBounds j).toList=es.toList.eraseIdx j:=by
   unfold Array.eraseIdxIfInBounds
   rw [dif_pos hjs]
   simp
  have hlj:∃ u0,l[j]? = some (x,u0):=by
   have:(es.toList.map (fun e=>(e.key,e.val)))[j]? = some (e0.key,e0.val):=by simp [h2]
   rw [hl,List.getElem?_map] at this
   cases hlj:l[j]? with
   | none=>simp [hlj] at this
   | some p=>
    simp only [hlj,Option.map_some,Option.some.injEq,Prod.mk.injEq] at this
    exact ⟨p.2,by rw [← inj _ _ (this.1.trans h3)]⟩
  obtain ⟨u0,hlj⟩:=hlj
  refine ⟨setB w b (.map (es.eraseIdxIfInBounds j) clock),?_,⟨l.eraseIdx j,⟨_,_,Ph hbl,stamped_erase hs j,?_,?_⟩,?_,?_⟩,Rr _ _ _⟩
  ·simp [Builtin.delete_,run_underlying ht,MapKept.run_getObj_map hb,K.check w _ hkey,h1,MapKept.run_setObj_map _ hb,Result.andThen,setB]
  ·rw [hsub,Go.ChangeMaps.map_eraseIdx,hl,Go.ChangeMaps.map_eraseIdx]
  ·intro e he
   rw [hsub] at he
   exact hk e ((List.eraseIdx_sublist _ _).subset he)
  ·rw [Go.ChangeMaps.map_eraseIdx]
   exact hnd.sublist (List.eraseIdx_sublist _ _)
  ·intro y u
   have hset:(y,u) ∈ l.eraseIdx j↔y≠x∧(y,u) ∈ l:=by
    rw [List.mem_eraseIdx_iff_getElem?]
    constructor
    ·rintro ⟨i,hne,hi⟩
     refine ⟨fun e1=>hne ?_,List.mem_of_getElem? hi⟩
     subst e1
     have a1:(l.map (·.1))[i]? = some y:=by simp [hi]
     have a2:(l.map (·.1))[j]? = some y:=by simp [hlj]
     have il:=(List.getElem?_eq_some_iff.1 a1).1
     have jl:=(List.getElem?_eq_some_iff.1 a2).1
     exact ((List.getElem_inj hnd (h₀:=il) (h₁:=jl)).1 ((List.getElem?_eq_some_iff.1 a1).2.trans (List.getElem?_eq_some_iff.1 a2).2.symm))
    ·rintro ⟨hne,hm⟩
     obtain ⟨i,hi⟩:=List.mem_iff_getElem?.1 hm
     refine ⟨i,fun e1=>?_,hi⟩
     subst e1;rw [hlj] at hi;cases hi;exact hne rfl
   rw [hset]
   by_cases e1:y=x
   ·subst e1;rw [upd_same];simp
   ·rw [Dw _ _ e1,hf];simp [e1]
theorem La {ops:Array Oper} {rest:List Oper} {o:Oper} {a:Act} {Q:Exit→Act→World→Prop}
  (h:TM P k ek ev w b f) (K:Keyed P k) (inj:∀ x y,ek x=ek y→x=y) (hg:o.guard=none) (m x v:Operand) (t e:TypeId) (hop:o.op=Op.mapUpdate t m x v) (ht:P.underlying t=some (.map k e))
  (hm:a.eval m = .map (some b)) (y:κ) (hx:a.eval x=ek y) (u:ν) (hv:a.eval v=ev u) {kl:Lit} (hkey:keyOf P k (ek y)=some kl)
  (hK:∀ w',TM P k ek ev w' b (upd f y (some u))→Only b w w'→wpList P ops Q rest (a.put o.dst undef) w'):wpList P ops Q (o::rest) a w:=by
 obtain ⟨w',hrun,h1,h2⟩:=h.put K inj ht hkey u
 refine wpList_plain hg fun C hC=>?_
 have:(execOp a.eval o).run P w = .ok .skip w':=by
  simp [execOp,hop,hm,hx,hv,hrun,Result.andThen]
 simp only [Oper.wp,this,Oper.upon_skip]
 exact hC _ _ (hK w' h1 h2)
end
structure Rd (w:World) (v:Value) (n size:Nat) (xs:List Value):Prop where
 shape:∃ a c,v = .slice a n c∧(a=none→n=0∧c=0)∧∀ ad,a=some ad→(n≠0→ad.spot=none)∧∀ j u,xs[j]? = some u→w.cell? ⟨ad.block,ad.off+j,none⟩=some u
 len:xs.length=n * size
theorem Rd.below {w w':World} {v:Value} {n size:Nat} {xs:List Value} (h:Rd w v n size xs) (hb:Below w.heap.size w w'):Rd w' v n size xs:=by
 obtain ⟨⟨a,c,e,h1,h2⟩,hl⟩:=h
 refine ⟨⟨a,c,e,h1,fun ad ha=>⟨(h2 ad ha).1,fun j u hu=>?_⟩⟩,hl⟩
 have hc:=(h2 ad ha).2 j u hu
 exact (hb.cell (World.block_lt_of_cell? w _ hc)).trans hc
theorem Hv {w:World} {base:Nat} {e:TypeId} {size:Nat} {v:Value} {n:Nat} {xs:List Value} (h:w.ownsRow base e size v n xs):Rd w v n size xs:=by
 refine ⟨?_,h.1⟩
 rcases h.2 with ⟨rfl,rfl⟩ | ⟨g,cap,cur,rfl,_⟩
 ·exact ⟨none,0,rfl,fun _=>⟨rfl,rfl⟩,fun _ h=>by cases h⟩
 ·refine ⟨_,cap,rfl,fun h=>by (cases h),fun ad ha=>?_⟩
  cases ha
  refine ⟨fun _=>rfl,fun j u hu=>?_⟩
  have:=h.cells (g:=g) rfl j u hu
  rw [show (⟨g,0,none⟩:Addr).add j=⟨g,j,none⟩ by unfold Addr.add;split<;>simp_all] at this
  simpa using this
theorem Rd.some {w:World} {v:Value} {n size:Nat} {xs:List Value} (h:Rd w v n size xs) (hn:0<n):∃ b o c,v = .slice (some ⟨b,o,none⟩) n c∧∀ j u,xs[j]? = some u→w.cell? ⟨b,o+j,none⟩=some u:=by
 obtain ⟨⟨a,c,rfl,h1,h2⟩,hl⟩:=h
 cases a with
 | none=>have:=(h1 rfl).1;omega
 | some ad=>
  obtain ⟨b,o,s⟩:=ad
  obtain ⟨h3,h4⟩:=h2 _ rfl
  have h3:=h3 (by omega)
  simp only at h3
  subst h3
  exact ⟨b,o,c,rfl,h4⟩
theorem Rd.slice {w:World} {v:Value} {n size:Nat} {xs:List Value} (h:Rd w v n size xs):∃ a c,v = .slice a n c:=by
 obtain ⟨⟨a,c,e,_⟩,_⟩:=h;exact ⟨a,c,e⟩
theorem By {P:Program} {w:World} {ops:Array Oper} {rest:List Oper} {o:Oper} {a:Act} {Q:Exit→Act→World→Prop} (hgd:o.guard=none) (s x:Operand) (t:TypeId)
  (ho:o.op = .call { callee:=.builtin .append,args:=#[s,x],argTypes:=#[t,t] })
  (base:Nat) (e:TypeId) (z:Value) (size bytes:Nat) (ht:P.underlying t=some (.slice e)) (hinfo:(P.info? e).map (fun i=>(i.zero,i.size,i.bytes))=some (some z,size,bytes)) (hzs:z.cells.size=size) (hsz:0<size) (hby:0<bytes)
  (v:Value) (n:Nat) (xs:List Value) (hs:a.eval s=v) (hown:w.ownsRow base e size v n xs)
  (u:Value) (m:Nat) (ys:List Value) (hx:a.eval x=u) (hrd:Rd w u m size ys) (h1:∀ y ∈ ys,y.oneCell'=true)
  (hbytes:(n+m) * bytes≤140737488355328) (hbase:base≤w.heap.size)
  (h:∀ v' w',w'.ownsRow base e size v' (n+m) (xs++ys)→w.grownBy w' v.ownBlock→(v'.ownBlock=v.ownBlock∨v'.ownBlock=some w.heap.size)→(v' = .slice none 0 0↔v = .slice none 0 0∧m=0)→wpList P ops Q rest (a.put o.dst v') w') :
  wpList P ops Q (o::rest) a w:=by
 obtain ⟨i,hi,hzz⟩:=Option.map_eq_some_iff.1 hinfo
 simp only [Prod.mk.injEq] at hzz
 obtain ⟨hz0,hz1,hz2⟩:=hzz
 obtain ⟨⟨a',c,rfl,h2,h3⟩,hl⟩:=hrd
 have h63:n+m≤maxLen:=by
  have:=Nat.le_mul_of_pos_right (n+m) hby
  unfold maxLen;omega
 cases a' with
 | none=>
  obtain ⟨rfl,rfl⟩:=h2 rfl
  have:ys = []:=List.eq_nil_of_length_eq_zero (by rw [hl];omega)
  subst this
  exact wpList_append_own_none hgd s x t ho base e i size ht hi v n xs hs hown hx (h v w (by simpa using hown) ⟨rfl,rfl,rfl,Nat.le_refl _,fun _ _ _=>rfl⟩ (.inl rfl) (by simp))
 | some ad=>
  obtain ⟨h4,h5⟩:=h3 _ rfl
  refine wpList_append_own_at w hgd s x t ho base e i z size bytes ht hi hz0 hz1 hz2 hzs hsz v n xs hs hown ad m c ys hx hl ?_ h1 h63 hbytes hbase ?_
  ·intro j y hy
   have:=h5 j y hy
   have h6:=h4 (by rintro rfl;rw [Nat.zero_mul] at hl;have:=(List.getElem?_eq_some_iff.1 hy).1;omega)
   obtain ⟨b,o',sp⟩:=ad
   simp only at h6
   subst h6
   unfold Addr.add
   split
   ·rename_i hj;subst hj;exact this
   ·exact this
  ·intro v' w' g1 g2 g3 g4
   exact h v' w' g1 g2 g4 g3
end Go.Dk
end
section
namespace Go.Dk
structure ND where
 kind:Int
 name:ByteArray
 l:Int
 r:Int
deriving DecidableEq
def Eu (c:UInt8):Bool:=(97≤c && c≤122) || (65≤c && c≤90)
def Jp (c:UInt8):Bool:=Eu c || (48≤c && c≤57) || c == 95 || c == 39
def Ie:List (List UInt8):=
 [[97,98,111,114,116],[99,97,115,101],[102,97,108,115,101],[102,115,116],[102,117,110],[105,110],[105,110,108],[105,110,114],[108,101,116],[111,102],[115,110,100],[116,114,117,101]]
def sO (l:List UInt8):Bool:=
 match l with
 | []=>false
 | c::t=>Eu c && t.all Jp && decide (l.length≤31) && !Ie.contains l
def word (s:ByteArray):Bool:=sO s.data.toList
theorem oL {s:ByteArray} (h:word s=true):1≤s.size∧s.size≤31:=by
 unfold word sO at h
 have hs:s.data.toList.length=s.size:=by simp
 split at h
 ·cases h
 ·rename_i c t e
  simp only [Bool.and_eq_true,decide_eq_true_eq] at h
  have h1:=h.1.2
  have h2:=congrArg List.length e
  simp only [List.length_cons] at h2
  rw [hs] at h1 h2
  omega
def hasB (n:Nat) (i:Int):Bool:=decide (0≤i) && decide (i<(n:Int))
def fits (m:Nat) (n:ND):Int:=
 if n.kind=1 then (if n.l≠0∨n.r≠0 then 31 else if word n.name=true then 0 else 32)
 else if n.kind=2 then (if n.name.size≠0∨n.l≠0∨n.r≠0 then 31 else 0)
 else if n.kind=3∨n.kind=4∨n.kind=5 then (if n.name.size≠0∨hasB m n.l=false∨hasB m n.r=false then 31 else 0)
 else 31
structure Put where
 rows:List ND
 id:Int
 err:Int
def put (rows:List ND) (n:ND):Put:=
 if fits rows.length n≠0 then ⟨rows,0,fits rows.length n⟩
 else match rows.idxOf? n with
  | some i=>⟨rows,i,0⟩
  | none=>if 1024≤rows.length then ⟨rows,0,30⟩ else ⟨rows++[n],rows.length,0⟩
def yY (s:ByteArray):ND:=⟨1,s,0,0⟩
def zM:ND:=⟨2,ByteArray.empty,0,0⟩
def yJ (k l r:Int):ND:=⟨k,ByteArray.empty,l,r⟩
structure Ok (rows:List ND):Prop where
 le:rows.length≤1024
 nodup:rows.Nodup
 fit:∀ i n,rows[i]? = some n→fits i n=0
theorem Ok.nil:Ok []:=⟨by simp,by simp,by simp⟩
theorem Vm {m:Nat} {n:ND} (h:fits m n=0):n.name.size≤31∧(1≤n.kind∧n.kind≤5)∧(0≤n.l∧(n.l<m∨n.l=0))∧(0≤n.r∧(n.r<m∨n.r=0)):=by
 unfold fits at h
 split at h
 ·split at h
  ·cases h
  ·rename_i h1 h2
   split at h
   ·rename_i h3
    have:=oL h3
    omega
   ·cases h
 ·split at h
  ·split at h
   ·cases h
   ·omega
  ·split at h
   ·split at h
    ·cases h
    ·rename_i h1 h2 h3 h4
     simp only [not_or,hasB,Bool.and_eq_false_iff,decide_eq_false_iff_not,not_or,Classical.not_not] at h4
     omega
   ·cases h
theorem Ok.snoc {rows:List ND} (h:Ok rows) {n:ND} (hf:fits rows.length n=0) (hn:rows.idxOf? n=none) (hl:¬ 1024≤rows.length):Ok (rows++[n]):=by
 refine ⟨by simp;omega,?_,?_⟩
 ·refine List.nodup_append.2 ⟨h.nodup,by simp,?_⟩
  intro a ha b hb e
  simp only [List.mem_singleton] at hb
  subst hb;subst e
  exact (List.idxOf?_eq_none_iff.1 hn) ha
 ·intro i m hi
  rcases Nat.lt_trichotomy i rows.length with h1 | h1 | h1
  ·rw [List.getElem?_append_left h1] at hi;exact h.fit i m hi
  ·subst h1;simp at hi;subst hi;exact hf
  ·rw [List.getElem?_eq_none (by simp;omega)] at hi;cases hi
theorem Ok.put {rows:List ND} (h:Ok rows) (n:ND):Ok (put rows n).rows:=by
 unfold Dk.put
 split
 ·exact h
 ·rename_i hf
  simp only [Classical.not_not] at hf
  split
  ·exact h
  ·rename_i hn
   split
   ·exact h
   ·rename_i hl;exact h.snoc hf hn hl
theorem Ok.take {rows:List ND} (h:Ok rows) (k:Nat):Ok (rows.take k):=by
 refine ⟨by simp;have:=h.le;omega,h.nodup.sublist (List.take_sublist _ _),?_⟩
 intro i n hi
 rw [List.getElem?_take] at hi
 split at hi
 ·exact h.fit i n hi
 ·cases hi
theorem eQ (rows:List ND) (n:ND):(put rows n).rows=rows∨((put rows n).rows=rows++[n]∧(put rows n).id=rows.length∧(put rows n).err=0∧fits rows.length n=0∧n ∉ rows∧rows.length<1024):=by
 unfold put
 split
 ·exact .inl rfl
 ·rename_i hf
  simp only [Classical.not_not] at hf
  split
  ·exact .inl rfl
  ·rename_i hn
   split
   ·exact .inl rfl
   ·rename_i hl;exact .inr ⟨rfl,rfl,rfl,hf,List.idxOf?_eq_none_iff.1 hn,by omega⟩
theorem iC (rows:List ND) (n x:ND) (hn:rows.idxOf? n=none):(rows++[n]).idxOf? x=if x=n then some rows.length else rows.idxOf? x:=by
 have hn':=List.idxOf?_eq_none_iff.1 hn
 unfold List.idxOf?
 rw [List.findIdx?_append]
 by_cases h:x=n
 ·subst h
  rw [if_pos rfl]
  have:List.findIdx? (· == x) rows=none:=hn
  rw [this]
  simp
 ·rw [if_neg h]
  have:List.findIdx? (· == x) [n]=none:=by simp [List.findIdx?_cons];exact fun e=>h e.symm
  rw [this]
  simp
def aL (rows:List ND) (n j:Nat) (x:ND):Option Nat:=(rows.idxOf? x).bind fun i=>if n≤i∧i<n+j then none else some i
theorem pZ (rows:List ND) (n:Nat):aL rows n 0=fun x=>rows.idxOf? x:=by
 funext x
 unfold aL
 cases rows.idxOf? x with
 | none=>rfl
 | some i=>simp
theorem Md {rows:List ND} (h:rows.Nodup) {i:Nat} {x:ND} (hi:rows[i]? = some x):rows.idxOf? x=some i:=by
 obtain ⟨hl,e⟩:=List.getElem?_eq_some_iff.1 hi
 unfold List.idxOf?
 rw [List.findIdx?_eq_some_iff_getElem]
 refine ⟨hl,by simp [e],?_⟩
 intro j hj
 simp only [beq_iff_eq]
 intro e2
 have:=(List.getElem_inj h (h₀:=by omega) (h₁:=hl)).1 (e2.trans e.symm)
 omega
theorem Ks {rows:List ND} {i:Nat} {x:ND} (h:rows.idxOf? x=some i):rows[i]? = some x:=by
 unfold List.idxOf? at h
 rw [List.findIdx?_eq_some_iff_getElem] at h
 obtain ⟨hl,e,_⟩:=h
 rw [List.getElem?_eq_getElem hl]
 simp only [beq_iff_eq] at e
 rw [e]
theorem tP {rows:List ND} (h:rows.Nodup) (n:Nat) (hn:n≤rows.length):aL rows n (rows.length - n)=fun x=>(rows.take n).idxOf? x:=by
 funext x
 unfold aL
 cases hi:rows.idxOf? x with
 | none=>
  simp only [Option.bind_none]
  refine (List.idxOf?_eq_none_iff.2 fun hm=>?_).symm
  exact (List.idxOf?_eq_none_iff.1 hi) (List.mem_of_mem_take hm)
 | some i=>
  have hg:=Ks hi
  have hl:=(List.getElem?_eq_some_iff.1 hg).1
  simp only [Option.bind_some]
  by_cases h1:i<n
  ·rw [if_neg (by omega)]
   exact (Md (h.sublist (List.take_sublist _ _)) (by rw [List.getElem?_take,if_pos h1];exact hg)).symm
  ·rw [if_pos (by omega)]
   refine (List.idxOf?_eq_none_iff.2 fun hm=>?_).symm
   obtain ⟨j,hj⟩:=List.mem_iff_getElem?.1 hm
   rw [List.getElem?_take] at hj
   split at hj
   ·have:=Md h hj
    rw [hi] at this
    cases this
    omega
   ·cases hj
end Go.Dk
namespace Go.Dk
inductive Reach (rows:List ND):Nat→Nat→Prop
 | refl (i:Nat):Reach rows i i
 | left {i j:Nat} {n:ND}:rows[i]? = some n→3≤n.kind→Reach rows n.l.toNat j→Reach rows i j
 | right {i j:Nat} {n:ND}:rows[i]? = some n→3≤n.kind→Reach rows n.r.toNat j→Reach rows i j
theorem Ok.parts {rows:List ND} (h:Ok rows) {i:Nat} {n:ND} (hi:rows[i]? = some n) (hk:3≤n.kind):(0≤n.l∧n.l<i)∧(0≤n.r∧n.r<i):=by
 have hf:=h.fit i n hi
 unfold fits at hf
 split at hf
 ·omega
 ·split at hf
  ·omega
  ·split at hf
   ·split at hf
    ·cases hf
    ·rename_i h1 h2 h3 h4
     simp only [not_or,hasB,Bool.and_eq_false_iff,decide_eq_false_iff_not,not_or,Classical.not_not] at h4
     omega
   ·cases hf
theorem Reach.le {rows:List ND} (h:Ok rows) {i j:Nat} (hr:Reach rows i j):j≤i:=by
 induction hr with
 | refl=>exact Nat.le_refl _
 | left h1 h2 _ ih=>have:=h.parts h1 h2;omega
 | right h1 h2 _ ih=>have:=h.parts h1 h2;omega
theorem Reach.trans {rows:List ND} {i j k:Nat} (h1:Reach rows i j) (h2:Reach rows j k):Reach rows i k:=by
 induction h1 with
 | refl=>exact h2
 | left a b _ ih=>exact .left a b (ih h2)
 | right a b _ ih=>exact .right a b (ih h2)
open Classical in
noncomputable def below (rows:List ND) (i:Nat):List Nat:=(List.range (i+1)).filter fun j=>decide (Reach rows i j)
theorem Jt {rows:List ND} (h:Ok rows) {i j:Nat}:j ∈ below rows i↔Reach rows i j:=by
 unfold below
 simp only [List.mem_filter,List.mem_range,decide_eq_true_eq]
 exact ⟨fun h=>h.2,fun hr=>⟨Nat.lt_succ_of_le (hr.le h),hr⟩⟩
theorem Nc (rows:List ND) (i:Nat):(below rows i).Pairwise (· < ·):=by
 unfold below
 exact List.Pairwise.filter _ List.pairwise_lt_range
theorem below_le (rows:List ND) (i:Nat):(below rows i).length≤i+1:=by
 unfold below
 exact Nat.le_trans (List.length_filter_le _ _) (by simp)
def Ey (l:List Nat):List Int:=l.map Int.ofNat
theorem kD {rows:List ND} (h:Ok rows) {i:Nat} {l:List Nat} (hd:l.Nodup) (hm:∀ j,j ∈ l↔Reach rows i j):(Ey l).mergeSort (fun x y=>decide (x≤y))=Ey (below rows i):=by
 have hp:l.Perm (below rows i):=by
  refine (List.perm_ext_iff_of_nodup hd ((Nc rows i).imp (fun h=>Nat.ne_of_lt h))).2 fun j=>?_
  rw [hm,Jt h]
 have hp':((Ey l).mergeSort (fun x y=>decide (x≤y))).Perm (Ey (below rows i)):=(List.mergeSort_perm _ _).trans (hp.map Int.ofNat)
 refine List.Perm.eq_of_pairwise (le:=fun x y:Int=>x≤y) (fun a b _ _ h1 h2=>Int.le_antisymm h1 h2) ?_ ?_ hp'
 ·have:=List.pairwise_mergeSort (le:=fun x y:Int=>decide (x≤y)) (fun a b c h1 h2=>by simp at *;omega) (fun a b=>by simp;omega) (Ey l)
  exact this.imp (fun h=>by simpa using h)
 ·unfold Ey
  rw [List.pairwise_map]
  exact (Nc rows i).imp (fun h=>by simp;omega)
end Go.Dk
namespace Go.Dk
end Go.Dk
namespace Go.Dk
def MC:Int:=1099511627776
section
variable {α:Type} [Inhabited α]
def Jk (of:ND→α→α→α):List ND→List α→List α
 | [],acc=>acc
 | n::t,acc=>Jk of t (acc++[of n (acc.getD n.l.toNat default) (acc.getD n.r.toNat default)])
def vals (of:ND→α→α→α) (rows:List ND):List α:=Jk of rows []
theorem kB (of:ND→α→α→α) (rows:List ND) (n:ND) (acc:List α) :
  Jk of (rows++[n]) acc=Jk of rows acc++[of n ((Jk of rows acc).getD n.l.toNat default) ((Jk of rows acc).getD n.r.toNat default)]:=by
 induction rows generalizing acc with
 | nil=>rfl
 | cons a t ih=>simp only [List.cons_append,Jk,ih]
theorem vals_snoc (of:ND→α→α→α) (rows:List ND) (n:ND):vals of (rows++[n])=vals of rows++[of n ((vals of rows).getD n.l.toNat default) ((vals of rows).getD n.r.toNat default)]:=kB _ _ _ _
theorem eB (of:ND→α→α→α) (rows:List ND) (acc:List α):(Jk of rows acc).length=acc.length+rows.length:=by
 induction rows generalizing acc with
 | nil=>simp [Jk]
 | cons a t ih=>simp only [Jk,ih];simp;omega
theorem vals_length (of:ND→α→α→α) (rows:List ND):(vals of rows).length=rows.length:=by simp [vals,eB]
theorem Wu (of:ND→α→α→α) (rows:List ND) (j:Nat):vals of (rows.take j)=(vals of rows).take j:=by
 induction j with
 | zero=>simp [vals,Jk]
 | succ j ih=>
  by_cases h:j<rows.length
  ·rw [List.take_succ_eq_append_getElem h,vals_snoc,ih]
   have hs:∀ m,(vals of (rows.take (j+1)++rows.drop (j+1))).take m=(vals of rows).take m:=by simp
   clear hs
   have key:∀ (t:List ND) (acc:List α),∃ s,Jk of t acc=acc++s:=by
    intro t
    induction t with
    | nil=>intro acc;exact ⟨[],by simp [Jk]⟩
    | cons a t ih=>intro acc;obtain ⟨s,hs⟩:=ih (acc++[of a (acc.getD a.l.toNat default) (acc.getD a.r.toNat default)]);exact ⟨[of a (acc.getD a.l.toNat default) (acc.getD a.r.toNat default)]++s,by rw [Jk,hs,List.append_assoc]⟩
   have app:∀ (a b:List ND) (acc:List α),Jk of (a++b) acc=Jk of b (Jk of a acc):=by
    intro a
    induction a with
    | nil=>intro b acc;rfl
    | cons x a ih=>intro b acc;simp only [List.cons_append,Jk,ih]
   have e1:vals of rows=Jk of (rows.drop (j+1)) (vals of (rows.take (j+1))):=by
    unfold vals;rw [← app,List.take_append_drop]
   obtain ⟨s,hs⟩:=key (rows.drop (j+1)) (vals of (rows.take (j+1)))
   rw [hs] at e1
   have hl:(vals of (rows.take (j+1))).length=j+1:=by rw [vals_length];simp;omega
   have e2:(vals of rows).take (j+1)=vals of (rows.take (j+1)):=by rw [e1,List.take_append_of_le_length (by omega),List.take_of_length_le (by omega)]
   rw [e2,List.take_succ_eq_append_getElem h,vals_snoc,ih]
  ·rw [List.take_of_length_le (by omega),List.take_of_length_le (by rw [vals_length];omega)]
def val (of:ND→α→α→α) (rows:List ND) (i:Nat):α:=(vals of rows).getD i default
theorem fF (of:ND→α→α→α) (rows:List ND) {i:Nat} {n:ND} (hi:rows[i]? = some n) :
  (vals of rows)[i]? = some (of n (((vals of rows).take i).getD n.l.toNat default) (((vals of rows).take i).getD n.r.toNat default)):=by
 have hl:=(List.getElem?_eq_some_iff.1 hi).1
 have h1:(vals of rows).take (i+1)=vals of (rows.take (i+1)):=(Wu _ _ _).symm
 rw [List.take_succ_eq_append_getElem hl,vals_snoc,Wu] at h1
 have h2:((vals of rows).take (i+1))[i]? = (vals of rows)[i]?:=by simp
 rw [← h2,h1]
 have hlen:((vals of rows).take i).length=i:=by rw [List.length_take,vals_length];omega
 rw [List.getElem?_append_right (by omega),hlen]
 have:rows[i]=n:=(List.getElem?_eq_some_iff.1 hi).2
 simp [this]
theorem getD_take {l:List α} {i j:Nat} (h:j<i):(l.take i).getD j default=l.getD j default:=by
 simp [List.getD,h]
theorem vN {of:ND→α→α→α} {rows:List ND} (ok:Ok rows) {i:Nat} {n:ND} (hi:rows[i]? = some n) (hk:3≤n.kind):val of rows i=of n (val of rows n.l.toNat) (val of rows n.r.toNat):=by
 have:=fF of rows hi
 obtain ⟨h1,h2⟩:=ok.parts hi hk
 unfold val
 rw [List.getD,this,Option.getD_some,getD_take (by omega),getD_take (by omega)]
theorem dU {of:ND→α→α→α} {rows:List ND} (ho:∀ n l r l' r',n.kind<3→of n l r=of n l' r') {i:Nat} {n:ND} (hi:rows[i]? = some n) (hk:n.kind<3) (x y:α):val of rows i=of n x y:=by
 have:=fF of rows hi
 unfold val
 rw [List.getD,this,Option.getD_some];exact ho _ _ _ _ _ hk
end
def zB (x:Int):Int:=if MC<x then MC else x
def zL (n:ND) (l r:Int):Int:=if n.kind<3 then 1 else if n.kind=3 then zB (2+l+r) else zB (1+l+r)
end Go.Dk
namespace Go.Dk
def rowAt (rows:List ND) (i:Nat):ND:=rows.getD i ⟨0,ByteArray.empty,0,0⟩
theorem sC {rows:List ND} {i:Nat} {n:ND} (h:rows[i]? = some n):rowAt rows i=n:=by simp [rowAt,List.getD,h]
theorem Am {rows:List ND} {i:Nat} (h:i<rows.length):rows[i]? = some (rowAt rows i):=by simp [rowAt,List.getD,List.getElem?_eq_getElem h]
theorem lD {rows:List ND} {i j:Nat} (h:Reach rows i j) {n:ND} (hj:rows[j]? = some n) (hk:3≤n.kind):Reach rows i n.l.toNat∧Reach rows i n.r.toNat:=
 ⟨h.trans (.left hj hk (.refl _)),h.trans (.right hj hk (.refl _))⟩
end Go.Dk
namespace Go.Dk
def Ku:List Int→List Int→List Int
 | [],_=>[]
 | x::a,b=>if x ∈ b then Ku a (b.erase x) else x::Ku a b
end Go.Dk
namespace Go.Dk
theorem dP (a:List Int) (x:Int):∀ b:List Int,Ku (a++[x]) b=Ku a b++(if a.count x<b.count x then [] else [x]):=by
 induction a with
 | nil=>
  intro b
  simp only [List.nil_append,Ku,List.count_nil,List.count_pos_iff]
 | cons y a ih=>
  intro b
  simp only [List.cons_append,Ku]
  by_cases hy:y ∈ b
  ·rw [if_pos hy,if_pos hy,ih]
   have hc:b.count x=(y::b.erase y).count x:=(List.perm_cons_erase hy).count_eq x
   have h1:(a.count x<(b.erase y).count x)↔((y::a).count x<b.count x):=by
    rw [hc,List.count_cons,List.count_cons];omega
   simp only [h1]
  ·rw [if_neg hy,if_neg hy,ih,List.cons_append]
   by_cases e:y=x
   ·subst e
    rw [List.count_eq_zero.2 hy,if_neg (by omega),if_neg (by omega)]
   ·rw [List.count_cons_of_ne e]
def Na (v:Int):List Int→List Bool→Nat
 | x::b,m::ms=>Na v b ms+if m=true∧x=v then 1 else 0
 | _,_=>0
theorem Uc (v:Int):∀ (b:List Int) (ms:List Bool) (k:Nat) (x:Int),b[k]? = some x→ms[k]? = some false→Na v b (ms.set k true)=Na v b ms+if x=v then 1 else 0
 | [],_,k,_,h,_=>by simp at h
 | _::_,[],k,_,_,h=>by simp at h
 | y::b,m::ms,0,x,h1,h2=>by
  simp at h1 h2
  subst h1 h2
  simp [Na]
 | y::b,m::ms,k+1,x,h1,h2=>by
  simp only [List.getElem?_cons_succ] at h1 h2
  simp only [List.set_cons_succ,Na,Uc v b ms k x h1 h2]
  omega
theorem bV (v:Int):∀ (b:List Int) (ms:List Bool),Na v b ms≤b.count v
 | [],ms=>by cases ms<;>simp [Na]
 | x::b,[]=>by simp [Na]
 | x::b,m::ms=>by
  have:=bV v b ms
  simp only [Na,List.count_cons]
  by_cases e:x=v
  ·simp only [e,and_true,beq_self_eq_true,if_true];split<;>omega
  ·have e2:(x == v)=false:=by simpa using e
   simp only [e,and_false,if_false,e2]
   simpa using this
theorem qF (v:Int) (b:List Int) (ms:List Bool) (k:Nat) (h1:b[k]? = some v) (h2:ms[k]? = some false):Na v b ms<b.count v:=by
 have:=Uc v b ms k v h1 h2
 have h3:=bV v b (ms.set k true)
 rw [this,if_pos rfl] at h3
 omega
structure Used (a b:List Int) (i:Nat) (ms:List Bool):Prop where
 len:ms.length=b.length
 cnt:∀ v,Na v b ms=min ((a.take i).count v) (b.count v)
theorem kM {a:List Int} {i:Nat} {x:Int} (h:a[i]? = some x) (v:Int):(a.take (i+1)).count v=(a.take i).count v+if x=v then 1 else 0:=by
 rw [List.take_add_one,h]
 simp only [Option.toList_some,List.count_append,List.count_singleton]
 by_cases e:x=v<;>simp [e]
theorem Used.take {a b:List Int} {i k:Nat} {ms:List Bool} {x:Int} (h:Used a b i ms) (hx:a[i]? = some x) (hk:b[k]? = some x) (hm:ms[k]? = some false):Used a b (i+1) (ms.set k true)∧Ku (a.take (i+1)) b=Ku (a.take i) b:=by
 have h1:=qF x b ms k hk hm
 have h2:=h.cnt x
 refine ⟨⟨by simpa using h.len,fun v=>?_⟩,?_⟩
 ·rw [Uc v b ms k x hk hm,h.cnt,kM hx]
  by_cases e:x=v
  ·subst e;simp only [if_true];omega
  ·simp [e]
 ·rw [List.take_add_one,hx]
  simp only [Option.toList_some]
  rw [dP,if_pos (by omega),List.append_nil]
end Go.Dk
namespace Go.Dk
inductive Fm
 | atom (s:ByteArray)
 | bot
 | and (a b:Fm)
 | or (a b:Fm)
 | imp (a b:Fm)
deriving DecidableEq,Inhabited
def Dy (n:ND) (l r:Fm):Fm:=
 if n.kind=1 then .atom n.name else if n.kind=2 then .bot else if n.kind=3 then .and l r else if n.kind=4 then .or l r else if n.kind=5 then .imp l r else .bot
theorem Vu (n:ND) (l r l' r':Fm) (h:n.kind<3):Dy n l r=Dy n l' r':=by
 have h3:¬ n.kind=3:=by omega
 have h4:¬ n.kind=4:=by omega
 have h5:¬ n.kind=5:=by omega
 simp [Dy,h3,h4,h5]
abbrev Av (rows:List ND) (i:Nat):Fm:=val Dy rows i
theorem Ok.kindsP {rows:List ND} (h:Ok rows) {i:Nat} {n:ND} (hi:rows[i]? = some n):1≤n.kind∧n.kind≤5:=(Vm (h.fit i n hi)).2.1
theorem Ok.row {rows:List ND} (h:Ok rows) {i:Nat} {n:ND} (hi:rows[i]? = some n) :
  (n.kind=1∧n.l=0∧n.r=0∧word n.name=true)∨(n=⟨2,ByteArray.empty,0,0⟩) ∨
   ((n.kind=3∨n.kind=4∨n.kind=5)∧n.name=ByteArray.empty∧0≤n.l∧n.l<i∧0≤n.r∧n.r<i):=by
 have hf:=h.fit i n hi
 have ez:∀ s:ByteArray,s.size=0→s=ByteArray.empty:=fun s hs=>by
  cases s with
  | mk d=>have:d = #[]:=Array.eq_empty_of_size_eq_zero hs;rw [this];rfl
 unfold fits at hf
 split at hf
 ·rename_i h1
  left
  split at hf
  ·cases hf
  ·rename_i h2
   split at hf
   ·rename_i h3;exact ⟨h1,by omega,by omega,h3⟩
   ·cases hf
 ·rename_i h1
  split at hf
  ·rename_i h2
   right;left
   split at hf
   ·cases hf
   ·rename_i h3
    obtain ⟨k,nm,l,r⟩:=n
    simp only [not_or,Classical.not_not] at h2 h3
    obtain ⟨a,rfl,rfl⟩:=h3
    subst h2
    rw [ez nm a]
  ·split at hf
   ·rename_i h3
    right;right
    split at hf
    ·cases hf
    ·rename_i h4
     simp only [not_or,hasB,Bool.and_eq_false_iff,decide_eq_false_iff_not,Classical.not_not] at h4
     exact ⟨h3,ez _ h4.1,by omega,by omega,by omega,by omega⟩
   ·cases hf
theorem Rw {rows:List ND} {i:Nat} {n:ND} (hi:rows[i]? = some n) (hk:n.kind=1):Av rows i = .atom n.name:=by
 rw [Av,dU Vu hi (by omega) .bot .bot];simp [Dy,hk]
theorem iT {rows:List ND} {i:Nat} {n:ND} (hi:rows[i]? = some n) (hk:n.kind=2):Av rows i = .bot:=by
 rw [Av,dU Vu hi (by omega) .bot .bot];simp [Dy,hk]
theorem Jf {rows:List ND} (ok:Ok rows) {i:Nat} {n:ND} (hi:rows[i]? = some n) (hk:3≤n.kind):Av rows i=Dy n (Av rows n.l.toNat) (Av rows n.r.toNat):=vN ok hi hk
def Fm.kind:Fm→Int
 | .atom _=>1
 | .bot=>2
 | .and _ _=>3
 | .or _ _=>4
 | .imp _ _=>5
theorem Xe (n:ND) (h:1≤n.kind∧n.kind≤5) (l r:Fm):(Dy n l r).kind=n.kind:=by
 unfold Dy
 by_cases h1:n.kind=1
 ·simp [h1,Fm.kind]
 ·by_cases h2:n.kind=2
  ·simp [h2,Fm.kind]
  ·by_cases h3:n.kind=3
   ·simp [h3,Fm.kind]
   ·by_cases h4:n.kind=4
    ·simp [h4,Fm.kind]
    ·have h5:n.kind=5:=by omega
     simp [h5,Fm.kind]
theorem Vt {rows:List ND} (ok:Ok rows) {i:Nat} {n:ND} (hi:rows[i]? = some n):(Av rows i).kind=n.kind:=by
 have hk:=ok.kindsP hi
 by_cases h:3≤n.kind
 ·rw [Jf ok hi h];exact Xe n hk _ _
 ·rw [Av,dU Vu hi (by omega) .bot .bot];exact Xe n hk _ _
theorem lI {k:Int} (hk:k=3∨k=4∨k=5) {n m:ND} (hn:n.kind=k) (hm:m.kind=k) {a b c d:Fm} (h:Dy n a b=Dy m c d):a=c∧b=d:=by
 unfold Dy at h
 rw [hn,hm] at h
 rcases hk with rfl | rfl | rfl<;>simpa using h
theorem Ve {rows:List ND} (ok:Ok rows) {i j:Nat} (hi:i<rows.length) (hj:j<rows.length) (h:Av rows i=Av rows j):i=j:=by
 induction i using Nat.strongRecOn generalizing j with
 | _ i ih=>
  have ni:=List.getElem?_eq_getElem hi
  have nj:=List.getElem?_eq_getElem hj
  generalize rows[i]=n at ni
  generalize rows[j]=m at nj
  have hk:n.kind=m.kind:=by rw [← Vt ok ni,← Vt ok nj,h]
  suffices hs:n=m by
   subst hs
   exact (List.getElem_inj ok.nodup (h₀:=hi) (h₁:=hj)).1 ((List.getElem?_eq_some_iff.1 ni).2.trans (List.getElem?_eq_some_iff.1 nj).2.symm)
  rcases ok.row ni with ⟨a1,a2,a3,_⟩ | a1 | ⟨a1,a2,a3,a4,a5,a6⟩
  ·rcases ok.row nj with ⟨b1,b2,b3,_⟩ | b1 | ⟨b1,_⟩
   ·rw [Rw ni a1,Rw nj b1] at h
    obtain ⟨nk,nn,nl,nr⟩:=n
    obtain ⟨mk,mn,ml,mr⟩:=m
    simp only [Fm.atom.injEq] at *
    subst h a2 a3 b2 b3 hk
    rfl
   ·rw [b1] at hk;simp only at hk;omega
   ·omega
  ·rcases ok.row nj with ⟨b1,b2,b3,_⟩ | b1 | ⟨b1,_⟩
   ·rw [a1] at hk;simp only at hk;omega
   ·rw [a1,b1]
   ·rw [a1] at hk;simp only at hk;omega
  ·rcases ok.row nj with ⟨b1,_⟩ | b1 | ⟨b1,b2,b3,b4,b5,b6⟩
   ·omega
   ·rw [b1] at hk;simp only at hk;omega
   ·rw [Jf ok ni (by omega),Jf ok nj (by omega)] at h
    obtain ⟨h1,h2⟩:=lI (k:=n.kind) (by omega) rfl hk.symm h
    have e1:=ih n.l.toNat (by omega) (by omega) (j:=m.l.toNat) (by omega) h1
    have e2:=ih n.r.toNat (by omega) (by omega) (j:=m.r.toNat) (by omega) h2
    obtain ⟨nk,nn,nl,nr⟩:=n
    obtain ⟨mk,mn,ml,mr⟩:=m
    simp only at *
    subst hk a2 b2
    have:nl=ml:=by omega
    have:nr=mr:=by omega
    simp_all
theorem uE {rows s:List ND} {i:Nat} (hi:i<rows.length):Av (rows++s) i=Av rows i:=by
 unfold Av val
 have h:vals Dy rows=(vals Dy (rows++s)).take rows.length:=by rw [← Wu];simp
 rw [h]
 simp [List.getD,hi]
theorem Br {rows rows':List ND} (h:rows <+: rows') {i:Nat} (hi:i<rows.length):Av rows' i=Av rows i:=by
 obtain ⟨s,rfl⟩:=h;exact uE hi
theorem Dl (rows:List ND) (n:ND):rows <+: (put rows n).rows:=by
 rcases eQ rows n with h | ⟨h,_⟩
 ·rw [h];exact List.prefix_refl _
 ·rw [h];exact ⟨[n],rfl⟩
theorem rK {rows:List ND} {n:ND} (he:(put rows n).err=0):∃ k:Nat,(put rows n).id=(k:Int)∧(put rows n).rows[k]? = some n∧fits rows.length n=0:=by
 unfold put at he ⊢
 split
 ·rename_i hf
  rw [if_pos hf] at he
  exact absurd he hf
 ·rename_i hf
  rw [if_neg hf] at he
  simp only [Classical.not_not] at hf
  cases hi:rows.idxOf? n with
  | some i=>exact ⟨i,rfl,Ks hi,hf⟩
  | none=>
   simp only [hi] at he
   simp only
   split
   ·rename_i hl;rw [if_pos hl] at he;cases he
   ·exact ⟨rows.length,rfl,by simp,hf⟩
theorem Gh {rows:List ND} (ok:Ok rows) {i:Nat} {n:ND} (hi:rows[i]? = some n):(∃ s,n=⟨1,s,0,0⟩∧Av rows i = .atom s∧word s=true)∨(n=⟨2,ByteArray.empty,0,0⟩∧Av rows i = .bot) ∨
  ∃ l r:Nat,l<i∧r<i∧((n=⟨3,ByteArray.empty,l,r⟩∧Av rows i = .and (Av rows l) (Av rows r))∨(n=⟨4,ByteArray.empty,l,r⟩∧Av rows i = .or (Av rows l) (Av rows r))∨(n=⟨5,ByteArray.empty,l,r⟩∧Av rows i = .imp (Av rows l) (Av rows r))):=by
 rcases ok.row hi with ⟨a1,a2,a3,a4⟩ | a1 | ⟨a1,a2,a3,a4,a5,a6⟩
 ·left
  refine ⟨n.name,?_,Rw hi a1,a4⟩
  obtain ⟨nk,nn,nl,nr⟩:=n
  simp only at *;subst a1 a2 a3;rfl
 ·right;left
  exact ⟨a1,iT hi (by rw [a1])⟩
 ·right;right
  have ht:=Jf ok hi (by omega)
  refine ⟨n.l.toNat,n.r.toNat,by omega,by omega,?_⟩
  obtain ⟨nk,nn,nl,nr⟩:=n
  simp only at *
  obtain ⟨l,rfl⟩:=Int.eq_ofNat_of_zero_le a3
  obtain ⟨r,rfl⟩:=Int.eq_ofNat_of_zero_le a5
  subst a2
  rcases a1 with rfl | rfl | rfl
  ·left;exact ⟨rfl,by rw [ht];simp [Dy]⟩
  ·right;left;exact ⟨rfl,by rw [ht];simp [Dy]⟩
  ·right;right;exact ⟨rfl,by rw [ht];simp [Dy]⟩
theorem nE {rows:List ND} (ok:Ok rows) {k:Int} (hk:k=3∨k=4∨k=5) {l r:Nat} (hl:l<rows.length) (hr:r<rows.length) (he:(put rows ⟨k,ByteArray.empty,l,r⟩).err=0) :
  ∃ i:Nat,(put rows ⟨k,ByteArray.empty,l,r⟩).id=(i:Int)∧i<(put rows ⟨k,ByteArray.empty,l,r⟩).rows.length∧Av (put rows ⟨k,ByteArray.empty,l,r⟩).rows i=Dy ⟨k,ByteArray.empty,l,r⟩ (Av rows l) (Av rows r):=by
 obtain ⟨i,h1,h2,h3⟩:=rK he
 refine ⟨i,h1,(List.getElem?_eq_some_iff.1 h2).1,?_⟩
 rw [Jf (ok.put _) h2 (by simp only;omega)]
 simp only [Int.toNat_natCast]
 rw [Br (Dl _ _) hl,Br (Dl _ _) hr]
end Go.Dk
namespace Go.Dk
abbrev OfF:=List ND→Nat→ND→Int→Int→Put
def Gm (of:OfF):List Nat→List ND→(Nat→Int)→List ND × (Nat→Int) × Int
 | [],rows,img=>(rows,img,0)
 | k::t,rows,img=>
  let n:=rowAt rows k
  let p:=of rows k n (if 3≤n.kind then img n.l.toNat else 0) (if 3≤n.kind then img n.r.toNat else 0)
  if p.err=0 then Gm of t p.rows (fun x=>if x=k then p.id else img x) else (p.rows,img,p.err)
noncomputable def Iw (of:OfF) (rows:List ND) (id:Nat):Put:=
 let q:=Gm of (below rows id) rows (fun _=>0)
 if q.2.2=0 then ⟨q.1,q.2.1 id,0⟩ else ⟨rows,0,q.2.2⟩
def mW (rows:List ND) (p:Put) (T:Fm):Prop:=Ok p.rows∧rows <+: p.rows∧∃ i:Nat,p.id=(i:Int)∧i<p.rows.length∧Av p.rows i=T
theorem Rb {rows:List ND} (ok:Ok rows) {k:Nat} (hk:k<rows.length) {T:Fm} (ht:Av rows k=T):mW rows ⟨rows,k,0⟩ T:=⟨ok,List.prefix_refl _,k,rfl,hk,ht⟩
theorem Om {rows:List ND} (ok:Ok rows) {kd:Int} (hk:kd=3∨kd=4∨kd=5) {l r:Nat} (hl:l<rows.length) (hr:r<rows.length) (he:(put rows ⟨kd,ByteArray.empty,l,r⟩).err=0) :
  mW rows (put rows ⟨kd,ByteArray.empty,l,r⟩) (Dy ⟨kd,ByteArray.empty,l,r⟩ (Av rows l) (Av rows r)):=by
 obtain ⟨i,a,b,c⟩:=nE ok hk hl hr he
 exact ⟨ok.put _,Dl _ _,i,a,b,c⟩
structure Sem (of:OfF) (F:Fm→Fm) (rows0:List ND):Prop where
 img:∀ rows k l r,Ok rows→rows0 <+: rows→k<rows0.length→(3≤(rowAt rows0 k).kind→l<rows.length∧r<rows.length∧Av rows l=F (Av rows0 (rowAt rows0 k).l.toNat)∧Av rows r=F (Av rows0 (rowAt rows0 k).r.toNat)) →
  (of rows k (rowAt rows0 k) (if 3≤(rowAt rows0 k).kind then (l:Int) else 0) (if 3≤(rowAt rows0 k).kind then (r:Int) else 0)).err=0 →
  mW rows (of rows k (rowAt rows0 k) (if 3≤(rowAt rows0 k).kind then (l:Int) else 0) (if 3≤(rowAt rows0 k).kind then (r:Int) else 0)) (F (Av rows0 k))
theorem Jd {rows rows':List ND} (h:rows <+: rows') {i:Nat} (hi:i<rows.length):rowAt rows' i=rowAt rows i:=by
 obtain ⟨s,rfl⟩:=h
 simp [rowAt,List.getD,List.getElem?_append_left hi]
theorem Bh {rows rows':List ND} (h:rows <+: rows'):rows.length≤rows'.length:=h.length_le
structure AnI (F:Fm→Fm) (rows0 rows:List ND) (img:Nat→Int) (done:Nat→Prop):Prop where
 ok:Ok rows
 pre:rows0 <+: rows
 img:∀ x,done x→x<rows0.length→∃ i:Nat,img x=(i:Int)∧i<rows.length∧Av rows i=F (Av rows0 x)
theorem Zo {of:OfF} {F:Fm→Fm} {rows0:List ND} (ok0:Ok rows0) (hs:Sem of F rows0):∀ (todo:List Nat) (rows:List ND) (img:Nat→Int) (done:Nat→Prop),AnI F rows0 rows img done →
  (∀ k ∈ todo,k<rows0.length)→todo.Pairwise (· < ·)→(∀ k ∈ todo,3≤(rowAt rows0 k).kind→(done (rowAt rows0 k).l.toNat∨(rowAt rows0 k).l.toNat ∈ todo)∧(done (rowAt rows0 k).r.toNat∨(rowAt rows0 k).r.toNat ∈ todo)) →
  (Gm of todo rows img).2.2=0→AnI F rows0 (Gm of todo rows img).1 (Gm of todo rows img).2.1 (fun x=>done x∨x ∈ todo)
 | [],rows,img,done,h,_,_,_,_=>by
  refine ⟨h.ok,h.pre,fun x hx hl=>h.img x (hx.resolve_right (by simp)) hl⟩
 | k::t,rows,img,done,h,hlt,hp,hd,he=>by
  have hp':=List.pairwise_cons.1 hp
  have hk:=hlt k (by simp)
  have hrow:rowAt rows k=rowAt rows0 k:=Jd h.pre hk
  have parts:3≤(rowAt rows0 k).kind→∃ l r:Nat,img (rowAt rows0 k).l.toNat=(l:Int)∧img (rowAt rows0 k).r.toNat=(r:Int)∧l<rows.length∧r<rows.length∧Av rows l=F (Av rows0 (rowAt rows0 k).l.toNat)∧Av rows r=F (Av rows0 (rowAt rows0 k).r.toNat):=by
   intro h3
   obtain ⟨p1,p2⟩:=ok0.parts (Am hk) h3
   obtain ⟨d1,d2⟩:=hd k (by simp) h3
   have notin:∀ x,x<k→x ∉ k::t:=by
    intro x hx hm
    rcases List.mem_cons.1 hm with rfl | hm
    ·omega
    ·have:=hp'.1 x hm;omega
   obtain ⟨l,a1,a2,a3⟩:=h.img _ (d1.resolve_right (notin _ (by omega))) (by omega)
   obtain ⟨r,b1,b2,b3⟩:=h.img _ (d2.resolve_right (notin _ (by omega))) (by omega)
   exact ⟨l,r,a1,b1,a2,b2,a3,b3⟩
  obtain ⟨l,r,hlr⟩:∃ l r:Nat,(if 3≤(rowAt rows0 k).kind then img (rowAt rows0 k).l.toNat else 0)=(if 3≤(rowAt rows0 k).kind then (l:Int) else 0)∧(if 3≤(rowAt rows0 k).kind then img (rowAt rows0 k).r.toNat else 0)=(if 3≤(rowAt rows0 k).kind then (r:Int) else 0) ∧
    (3≤(rowAt rows0 k).kind→l<rows.length∧r<rows.length∧Av rows l=F (Av rows0 (rowAt rows0 k).l.toNat)∧Av rows r=F (Av rows0 (rowAt rows0 k).r.toNat)):=by
   by_cases h3:3≤(rowAt rows0 k).kind
   ·obtain ⟨l,r,a,b,c⟩:=parts h3
    exact ⟨l,r,by rw [if_pos h3,if_pos h3,a],by rw [if_pos h3,if_pos h3,b],fun _=>c⟩
   ·exact ⟨0,0,by rw [if_neg h3,if_neg h3],by rw [if_neg h3,if_neg h3],fun h=>absurd h h3⟩
  obtain ⟨e1,e2,e3⟩:=hlr
  have hI:=hs.img rows k l r h.ok h.pre hk e3
  unfold Gm at he ⊢
  simp only [hrow,e1,e2] at he ⊢
  generalize of rows k (rowAt rows0 k) (if 3≤(rowAt rows0 k).kind then (l:Int) else 0) (if 3≤(rowAt rows0 k).kind then (r:Int) else 0)=p at *
  by_cases hz:p.err=0
  ·rw [if_pos hz] at he ⊢
   obtain ⟨o1,o2,i,o3,o4,o5⟩:=hI hz
   have:=Zo ok0 hs t p.rows (fun x=>if x=k then p.id else img x) (fun x=>done x∨x=k) ⟨o1,h.pre.trans o2,fun x hx hl=>?_⟩ (fun x hx=>hlt x (by simp [hx])) hp'.2 (fun x hx h3=>?_) he
   ·refine ⟨this.ok,this.pre,fun x hx hl=>this.img x ?_ hl⟩
    rcases hx with hx | hx
    ·exact .inl (.inl hx)
    ·rcases List.mem_cons.1 hx with rfl | hx
     ·exact .inl (.inr rfl)
     ·exact .inr hx
   ·by_cases e:x=k
    ·subst e
     rw [if_pos rfl]
     exact ⟨i,o3,o4,o5⟩
    ·rw [if_neg e]
     obtain ⟨j,a,b,c⟩:=h.img x (hx.resolve_right e) hl
     exact ⟨j,a,Nat.lt_of_lt_of_le b (Bh o2),by rw [Br o2 b,c]⟩
   ·obtain ⟨a,b⟩:=hd x (by simp [hx]) h3
    have conv:∀ y,(done y∨y ∈ k::t)→((done y∨y=k)∨y ∈ t):=by
     intro y hy
     rcases hy with hy | hy
     ·exact .inl (.inl hy)
     ·rcases List.mem_cons.1 hy with rfl | hy
      ·exact .inl (.inr rfl)
      ·exact .inr hy
    exact ⟨conv _ a,conv _ b⟩
  ·rw [if_neg hz] at he
   exact absurd he hz
theorem iI {rows:List ND} (ok:Ok rows) {id k:Nat} (hid:id<rows.length) (hk:k ∈ below rows id) (h3:3≤(rowAt rows k).kind):(rowAt rows k).l.toNat ∈ below rows id∧(rowAt rows k).r.toNat ∈ below rows id:=by
 have hr:=(Jt ok).1 hk
 have hx:=hr.le ok
 obtain ⟨a,b⟩:=lD hr (Am (by omega)) h3
 exact ⟨(Jt ok).2 a,(Jt ok).2 b⟩
theorem pC {of:OfF} {F:Fm→Fm} {rows:List ND} (ok:Ok rows) (hs:Sem of F rows) {id:Nat} (hid:id<rows.length) (he:(Iw of rows id).err=0) :
  Ok (Iw of rows id).rows∧rows <+: (Iw of rows id).rows∧∃ i:Nat,(Iw of rows id).id=(i:Int)∧i<(Iw of rows id).rows.length∧Av (Iw of rows id).rows i=F (Av rows id):=by
 unfold Iw at he ⊢
 simp only at he ⊢
 by_cases hz:(Gm of (below rows id) rows (fun _=>0)).2.2=0
 ·rw [if_pos hz]
  have:=Zo ok hs (below rows id) rows (fun _=>0) (fun _=>False) ⟨ok,List.prefix_refl _,fun _ h=>h.elim⟩ (fun k hk=>by have:=((Jt ok).1 hk).le ok;omega) (Nc rows id) (fun k hk h3=>by
   obtain ⟨a,b⟩:=iI ok hid hk h3;exact ⟨.inr a,.inr b⟩) hz
  obtain ⟨i,a,b,c⟩:=this.img id (.inr ((Jt ok).2 (.refl _))) hid
  exact ⟨this.ok,this.pre,i,a,b,c⟩
 ·rw [if_neg hz] at he
  exact absurd he hz
def sub (σ:ByteArray→Option Fm):Fm→Fm
 | .atom s=>(σ s).getD (.atom s)
 | .bot=>.bot
 | .and a b=>.and (sub σ a) (sub σ b)
 | .or a b=>.or (sub σ a) (sub σ b)
 | .imp a b=>.imp (sub σ a) (sub σ b)
theorem AH (f:Fm):sub (fun _=>none) f=f:=by
 induction f with
 | atom s=>rfl
 | bot=>rfl
 | and a b iha ihb=>simp only [sub,iha,ihb]
 | or a b iha ihb=>simp only [sub,iha,ihb]
 | imp a b iha ihb=>simp only [sub,iha,ihb]
def Jo (named:ByteArray→Option Int):OfF:=fun rows k n l r=>
 if n.kind<3 then (if n.kind=1 then ⟨rows,(named n.name).getD k,0⟩ else ⟨rows,k,0⟩) else put rows ⟨n.kind,ByteArray.empty,l,r⟩
def sig (named:ByteArray→Option Int) (rows:List ND) (s:ByteArray):Option Fm:=(named s).map fun f=>Av rows f.toNat
theorem oR {named:ByteArray→Option Int} {rows0:List ND} (ok0:Ok rows0) (hn:∀ s f,named s=some f→hasB rows0.length f=true):Sem (Jo named) (sub (sig named rows0)) rows0:=by
 refine ⟨fun rows k l r ok hp hk h3 he=>?_⟩
 have hrow:=Am hk
 generalize hN:rowAt rows0 k=n at *
 rcases Gh ok0 hrow with ⟨s,rfl,ht,hw⟩ | ⟨rfl,ht⟩ | ⟨x,y,hx,hy,ht⟩
 ·simp only [Jo]
  simp only [show (1:Int)<3 by decide,if_true,ht,sub,sig]
  cases hns:named s with
  | none=>exact Rb ok (Nat.lt_of_lt_of_le hk (Bh hp)) (by rw [Br hp hk,ht];rfl)
  | some f=>
   have:=hn s f hns
   simp only [hasB,Bool.and_eq_true,decide_eq_true_eq] at this
   obtain ⟨i,rfl⟩:=Int.eq_ofNat_of_zero_le this.1
   have hi:i<rows0.length:=by omega
   exact Rb ok (Nat.lt_of_lt_of_le hi (Bh hp)) (by rw [Br hp hi];rfl)
 ·simp only [Jo]
  simp only [show (2:Int)<3 by decide,if_true,show ¬ (2:Int)=1 by decide,if_false,ht,sub]
  exact Rb ok (Nat.lt_of_lt_of_le hk (Bh hp)) (by rw [Br hp hk,ht])
 ·rcases ht with ⟨rfl,ht⟩ | ⟨rfl,ht⟩ | ⟨rfl,ht⟩
  ·simp [Jo] at he h3 ⊢
   have:=Om ok (.inl rfl) h3.1 h3.2.1 he
   rw [h3.2.2.1,h3.2.2.2] at this
   rw [ht];simpa [Dy,sub] using this
  ·simp [Jo] at he h3 ⊢
   have:=Om ok (.inr (.inl rfl)) h3.1 h3.2.1 he
   rw [h3.2.2.1,h3.2.2.2] at this
   rw [ht];simpa [Dy,sub] using this
  ·simp [Jo] at he h3 ⊢
   have:=Om ok (.inr (.inr rfl)) h3.1 h3.2.1 he
   rw [h3.2.2.1,h3.2.2.2] at this
   rw [ht];simpa [Dy,sub] using this
end Go.Dk
namespace Go.Dk
def eH:Fm:=.imp .bot .bot
def rU (k:Int) (l r:Fm):Fm:=
 if k=3 then (if l = .bot∨r = .bot then .bot else if l=eH then r else if r=eH∨l=r then l else .and l r)
 else if k=4 then (if l=eH∨r=eH then eH else if l = .bot then r else if r = .bot∨l=r then l else .or l r)
 else (if l = .bot∨r=eH∨l=r then eH else if l=eH then r else .imp l r)
inductive HS:Fm→Prop
 | atom (s:ByteArray):HS (.atom s)
 | bot:HS .bot
 | and {a b:Fm}:HS a→HS b→rU 3 a b = .and a b→HS (.and a b)
 | or {a b:Fm}:HS a→HS b→rU 4 a b = .or a b→HS (.or a b)
 | imp {a b:Fm}:HS a→HS b→rU 5 a b = .imp a b→HS (.imp a b)
end Go.Dk
end
section
namespace Go.Dk
open Go.RowKit Go.Maps Go.MapKept
open Go.Proofs (Tryz.prog)
open Go.Proofs hiding intOf
def ND.val (n:ND):Value:=.agg #[.int .i64 n.kind,.string n.name,.int .i64 n.l,.int .i64 n.r]
def ND.cells (n:ND):List Value:=[.int .i64 n.kind,.string n.name,.int .i64 n.l,.int .i64 n.r]
def As (rows:List ND):List Value:=rows.flatMap ND.cells
def Jq (i:Nat):Value:=.int .i64 (i:Int)
theorem ND.val_inj:∀ x y:ND,x.val=y.val→x=y:=by
 intro x y h
 cases x;cases y
 simp only [ND.val,Value.agg.injEq,Array.mk.injEq,List.cons.injEq,Value.int.injEq,Value.string.injEq,true_and,and_true] at h
 simp [h]
structure TabAt (k:Nat) (ow:Own) (w:World) (pb mb:Nat) (v:Value) (rows:List ND):Prop where
 hp:w.heap[pb]? = some (.cells #[v,.map (some mb)] 108 (0,0))
 hr:w.ownsRow 0 31 4 v rows.length (As rows)
 hm:TM Tryz.prog 31 ND.val Jq w mb (fun n=>rows.idxOf? n)
 ok:Ok rows
 cp:ow pb=k
 cm:ow mb=k
 cr:∀ g,v.ownBlock=some g→ow g=k
def Tab (k:Nat) (ow:Own) (w:World) (t:Value) (rows:List ND):Prop:=
 ∃ pb mb v,t = .pointer (some ⟨pb,0,none⟩)∧TabAt k ow w pb mb v rows
theorem TabAt.below {k:Nat} {ow:Own} {w w':World} {pb mb:Nat} {v:Value} {rows:List ND} (h:TabAt k ow w pb mb v rows) (hb:Below w.heap.size w w'):TabAt k ow w' pb mb v rows:=
 ⟨(hb.block pb (lt_of_block h.hp)).trans h.hp,h.hr.kept (row:=none) ⟨hb.os,hb.tape,hb.output,hb.size,fun j hj _=>hb.block j hj⟩ (by cases v.ownBlock<;>simp),h.hm.below hb,h.ok,h.cp,h.cm,h.cr⟩
theorem TabAt.kept {k c:Nat} {ow ow':Own} {w w':World} {pb mb:Nat} {v:Value} {rows:List ND} (h:TabAt k ow w pb mb v rows) (hb:Kept c ow w ow' w') (hc:k≠c):TabAt k ow' w' pb mb v rows:=by
 have l1:=lt_of_block h.hp
 refine ⟨(hb.block pb l1 (by rw [h.cp];exact hc)).trans h.hp,?_,h.hm.kept hb (by rw [h.cm];exact hc),h.ok,(hb.own _ l1).trans h.cp,(hb.own _ h.hm.lt).trans h.cm,?_⟩
 ·refine ⟨h.hr.1,?_⟩
  rcases h.hr.2 with hn | ⟨g,cap,cur,rfl,hbg,hg,rest⟩
  ·exact .inl hn
  ·exact .inr ⟨g,cap,cur,rfl,hbg,(hb.block g (lt_of_block hg) (by rw [h.cr g rfl];exact hc)).trans hg,rest⟩
 ·intro g hg
  have:=(h.hr.lt g hg).2
  exact (hb.own g this).trans (h.cr g hg)
theorem Tab.below {k:Nat} {ow:Own} {w w':World} {t:Value} {rows:List ND} (h:Tab k ow w t rows) (hb:Below w.heap.size w w'):Tab k ow w' t rows:=by
 obtain ⟨pb,mb,v,rfl,h⟩:=h
 exact ⟨pb,mb,v,rfl,h.below hb⟩
theorem Tab.kept {k c:Nat} {ow ow':Own} {w w':World} {t:Value} {rows:List ND} (h:Tab k ow w t rows) (hb:Kept c ow w ow' w') (hc:k≠c):Tab k ow' w' t rows:=by
 obtain ⟨pb,mb,v,rfl,h⟩:=h
 exact ⟨pb,mb,v,rfl,h.kept hb hc⟩
theorem Tab.ok {k:Nat} {ow:Own} {w:World} {t:Value} {rows:List ND} (h:Tab k ow w t rows):Ok rows:=by
 obtain ⟨pb,mb,v,_,h⟩:=h;exact h.ok
theorem Rq:Keyed Tryz.prog 31:=
 Keyed.of_law (deep_law_laid (by kernel_rfl) (m:=3) (by omega) (of_decide_eq_true (by kernel_rfl)) (by kernel_rfl) (by rw [Tryz.underlying31]))
theorem Mc:(Tryz.prog.info? 31).map (fun i=>(i.zero,i.size,i.bytes))=some (some (.agg #[.int .i64 0,.string ByteArray.empty,.int .i64 0,.int .i64 0]),4,40):=by kernel_rfl
theorem Ba {w:World} {base n:Nat} {e:TypeId} {size:Nat} {v:Value} {xs:List Value} (h:w.ownsRow base e size v n xs):∃ a c,v = .slice a n c:=by
 rcases h.2 with ⟨rfl,rfl⟩ | ⟨g,cap,cur,rfl,_⟩
 ·exact ⟨none,0,rfl⟩
 ·exact ⟨_,cap,rfl⟩
theorem Cd (w:World) (o:Obj) {n:Nat} (h:n=w.heap.size):(w.alloc o).heap[n]? = some o:=by
 subst h;exact heap_alloc_new w o
theorem Jy {s:ByteArray}:s.toList = []↔s.size=0:=by
 rw [ByteArray.toList_eq]
 constructor
 ·intro h
  have:s.data.toList.length=0:=by rw [h];rfl
  simpa using this
 ·intro h
  exact List.eq_nil_of_length_eq_zero (by simpa using h)
theorem Ce {a b:Bool} (h:a=b):Ending.returned (.bool a) = .returned (.bool b):=by rw [h]
theorem Hr {k:IntKind} {a b:Int} (h:a=b):Ending.returned (.int k a) = .returned (.int k b):=by rw [h]
end Go.Dk
end
section
namespace Go.Dk
open Go.RowKit Go.Maps Go.MapKept
open Go.Proofs hiding intOf
set_option maxRecDepth 100000 in
theorem eC (s:ByteArray) (w:World):Calls Tryz.prog 76 #[.string s] w fun e w'=>e = .returned (.bool (Ie.contains s.data.toList))∧w=w':=by
 go_enter Tryz.func76,Tryz.ntmps76
 go_wp2
 all_goals (go_ret;exact ⟨Ce (by rw [← ByteArray.toList_eq];simp_all [Ie]),rfl⟩)
def Of (l:List UInt8):Bool:=match l with | []=>true | c::t=>Eu c && t.all Jp
theorem Wj (l:List UInt8) (c:UInt8):Of (l++[c])=(Of l && (if l = [] then Eu c else Jp c)):=by
 cases l with
 | nil=>simp [Of]
 | cons a t=>simp [Of,List.all_append,Bool.and_assoc]
theorem take_snoc (s:ByteArray) (k:Nat) (h:k<s.size):s.data.toList.take (k+1)=s.data.toList.take k++[s[k]]:=by
 rw [List.take_succ_eq_append_getElem (by simpa using h)];rfl
theorem take_nil (s:ByteArray) (k:Nat) (h:k<s.size):s.data.toList.take k = []↔k=0:=by
 have:s.data.toList.length=s.size:=by simp
 rw [List.take_eq_nil_iff]
 constructor
 ·rintro (h1 | h1)
  ·exact h1
  ·rw [h1] at this;simp at this;omega
 ·exact .inl
theorem Yw (p:Int→Bool→Bool→Prop) (h:∀ n:Fin 256,p (n.val:Int) (Eu (UInt8.ofNat n.val)) (Jp (UInt8.ofNat n.val))) (c:UInt8):p (c.toNat:Int) (Eu c) (Jp c):=by
 have:=h ⟨c.toNat,c.toNat_lt⟩
 simpa using this
theorem tO (c:UInt8):(Eu c=true∧97≤bits .or .u8 (c.toNat:Int) 32∧bits .or .u8 (c.toNat:Int) 32≤122)∨(Eu c=false∧bits .or .u8 (c.toNat:Int) 32<97)∨(Eu c=false∧122<bits .or .u8 (c.toNat:Int) 32∧decide (bits .or .u8 (c.toNat:Int) 32≤122)=false):=
 Yw (fun n a _=>(a=true∧97≤bits .or .u8 n 32∧bits .or .u8 n 32≤122)∨(a=false∧bits .or .u8 n 32<97)∨(a=false∧122<bits .or .u8 n 32∧decide (bits .or .u8 n 32≤122)=false)) (by decide +kernel) c
theorem Zj (c:UInt8) (h:Eu c=false) :
  (Jp c=true∧((c.toNat:Int) != 95)=false)∨(Jp c=true∧((c.toNat:Int) != 95)=true∧((c.toNat:Int) != 39)=false)∨(Jp c=true∧((c.toNat:Int) != 95)=true∧((c.toNat:Int) != 39)=true∧48≤(c.toNat:Int)∧(c.toNat:Int)≤57) ∨
  (Jp c=false∧((c.toNat:Int) != 95)=true∧((c.toNat:Int) != 39)=true∧(c.toNat:Int)<48)∨(Jp c=false∧((c.toNat:Int) != 95)=true∧((c.toNat:Int) != 39)=true∧57<(c.toNat:Int)):=
 Yw (fun n a b=>a=false→(b=true∧(n != 95)=false)∨(b=true∧(n != 95)=true∧(n != 39)=false)∨(b=true∧(n != 95)=true∧(n != 39)=true∧48≤n∧n≤57) ∨
  (b=false∧(n != 95)=true∧(n != 39)=true∧n<48)∨(b=false∧(n != 95)=true∧(n != 39)=true∧57<n)) (by decide +kernel) c h
theorem kJ {l:List UInt8} {k:Nat} (h:Of (l.take k)=false):Of l=false:=by
 cases l with
 | nil=>simp [Of] at h
 | cons a t=>
  cases k with
  | zero=>simp [Of] at h
  | succ k=>
   simp only [List.take_succ_cons,Of,Bool.and_eq_false_iff,List.all_eq_false] at h ⊢
   rcases h with h | ⟨x,hx,h⟩
   ·exact .inl h
   ·exact .inr ⟨x,List.mem_of_mem_take hx,h⟩
theorem Nl (s:ByteArray):word s=(Of s.data.toList && decide (1≤s.size) && decide (s.size≤31) && !Ie.contains s.data.toList):=by
 have hs:s.data.toList.length=s.size:=by simp
 unfold word sO Of
 rw [← hs]
 cases s.data.toList with
 | nil=>simp
 | cons c t=>simp
theorem Qe {s:ByteArray} {k:Nat} (h:Of (s.data.toList.take k)=false):word s=false:=by rw [Nl,kJ h];simp
set_option maxRecDepth 100000 in
set_option maxHeartbeats 400000 in
theorem Yj (s:ByteArray) (w:World) (hs:s.size≤maxLen):Calls Tryz.prog 55 #[.string s] w fun e w'=>e = .returned (.bool (word s))∧w=w':=by
 unfold maxLen at hs
 go_enter Tryz.func55,Tryz.ntmps55
 go_wp2
 go_loop [9] (fun i=>∃ k:Nat,k≤s.size∧i = .int .i64 k∧Of (s.data.toList.take k)=true) (fun i=>s.size - (intOf i).toNat)
 case atStart=>exact ⟨0,Nat.zero_le _,rfl,rfl⟩
 case round=>
  obtain ⟨k,hk,rfl,hp⟩:=hrel
  by_cases hlt:k<s.size
  ·have hsn:=Wj (s.data.toList.take k) s[k]
   rw [← take_snoc s k hlt,hp,Bool.true_and] at hsn
   have htn:=take_nil s k hlt
   have HS:Hid (Of (s.data.toList.take (k+1))=if s.data.toList.take k = [] then Eu s[k] else Jp s[k]):=hsn
   have HT:Hid (s.data.toList.take k = []↔k=0):=htn
   clear hsn htn hp
   rcases tO s[k] with ⟨hl,h1,h2⟩ | ⟨hl,h1⟩ | ⟨hl,h1,h1d⟩
   ·have HL:Hid (Eu s[k]=true):=hl
    clear hl
    go_wp2
    go_round
    case rel=>exact ⟨k+1,by omega,by go_num,by rw [HS.o];split<;>simp [Jp,HL.o]⟩
    case measure=>simp [intOf];omega
   all_goals
    by_cases h0:k=0
    ·subst h0
     have HL:Hid (word s=false):=Qe (k:=0+1) (by rw [HS.o];simp [hl])
     clear hl
     go_wp2
     go_ret
     exact ⟨Ce HL.o.symm,rfl⟩
    ·have hk0:((k:Int) == 0)=false:=by simp;omega
     rcases Zj _ hl with ⟨hw,h3⟩ | ⟨hw,h3,h4⟩ | ⟨hw,h3,h4,h5,h6⟩ | ⟨hw,h3,h4,h5⟩ | ⟨hw,h3,h4,h5⟩
     iterate 3
      ·have HL:Hid (Jp s[k]=true):=hw
       clear hw hl
       go_wp2
       go_round
       case rel=>exact ⟨k+1,by omega,by go_num,by rw [HS.o,if_neg (fun h=>h0 (HT.o.1 h))];exact HL.o⟩
       case measure=>simp [intOf];omega
     all_goals
      have HL:Hid (word s=false):=Qe (k:=k+1) (by rw [HS.o,if_neg (fun h=>h0 (HT.o.1 h))];exact hw)
      clear hw hl
      go_wp2
      go_ret
      exact ⟨Ce HL.o.symm,rfl⟩
  ·have HP:Hid (Of s.data.toList=true):=by rw [List.take_of_length_le (by simp;omega)] at hp;exact hp
   clear hp
   have hkk:k=s.size:=by omega
   have HK:Hid (k=s.size):=hkk
   clear hkk
   have hd:s.data.toList.length=s.size:=by simp
   have HD:=Aa hd;clear hd
   by_cases h1:s.size=0
   ·have he:s.toList = []:=by rw [ByteArray.toList_eq];exact List.eq_nil_of_length_eq_zero (by rw [HD.o];exact h1)
    have HL:Hid (word s=false):=by rw [Nl,h1];simp [Hid]
    clear h1
    go_wp2
    go_ret
    exact ⟨Ce HL.o.symm,rfl⟩
   ·have he:s.toList.isEmpty=false:=by
     rw [ByteArray.toList_eq]
     cases hx:s.data.toList with
     | nil=>have:=HD.o;rw [hx] at this;exact absurd this.symm h1
     | cons _ _=>rfl
    have he':¬ s.toList = []:=by intro h;rw [h] at he;cases he
    by_cases h2:s.size≤31
    ·have HL:Hid (word s = !Ie.contains s.data.toList):=by rw [Nl,HP.o];simp [Hid,h2];intro;omega
     go_wp2_with (go_at_call 76;refine (eC _ _).mono ?_;rintro e w' ⟨rfl,rfl⟩)
     go_ret
     exact ⟨Ce (by rw [HL.o];simp),rfl⟩
    ·have HL:Hid (word s=false):=by rw [Nl];simp [Hid,h2]
     go_wp2
     go_ret
     exact ⟨Ce HL.o.symm,rfl⟩
end Go.Dk
end
section
namespace Go.Dk
open Go.RowKit Go.Maps Go.MapKept
open Go.Proofs hiding intOf
set_option maxRecDepth 100000 in
theorem Dz (k:Nat) (ow:Own) (w:World) (t:Value) (rows:List ND) (h:Tab k ow w t rows) :
  Calls Tryz.prog 46 #[t] w fun e w'=>e = .returned (.bool true)∧w=w':=by
 obtain ⟨pb,mb,v,rfl,⟨hb,_⟩⟩:=h
 have c1:w.cell? ⟨pb,1,none⟩=some (.map (some mb)):=cell_of hb rfl
 clear hb
 have hn:=fun w=>run_neq_map_nil (P:=Tryz.prog) w 106 _ _ (some mb) Tryz.underlying106
 go_enter Tryz.func46,Tryz.ntmps46
 go_wp2
 go_ret
 exact ⟨rfl,rfl⟩
set_option maxRecDepth 100000 in
theorem Nr (k:Nat) (ow:Own) (w:World) (t:Value) (rows:List ND) (h:Tab k ow w t rows) (i:Int) :
  Calls Tryz.prog 47 #[t,.int .i64 i] w fun e w'=>e = .returned (.bool (hasB rows.length i))∧w=w':=by
 obtain ⟨pb,mb,v,rfl,⟨hb,hr,_⟩⟩:=h
 obtain ⟨a,c,rfl⟩:=Ba hr
 have c0:w.cell? ⟨pb,0,none⟩=some (.slice a rows.length c):=cell_of hb rfl
 clear hb hr
 by_cases h0:0≤i
 ·by_cases h1:i<(rows.length:Int)
  ·go_enter Tryz.func47,Tryz.ntmps47
   go_wp2
   go_ret
   exact ⟨Ce (by simp [hasB,h0,h1]),rfl⟩
  ·go_enter Tryz.func47,Tryz.ntmps47
   go_wp2
   go_ret
   exact ⟨Ce (by simp [hasB,h0,h1]),rfl⟩
 ·go_enter Tryz.func47,Tryz.ntmps47
  go_wp2
  go_ret
  exact ⟨Ce (by simp [hasB];omega),rfl⟩
set_option maxRecDepth 100000 in
theorem new_any (k:Nat) (ow:Own) (w:World) :
  Calls Tryz.prog 43 #[] w fun e w'=>∃ t ow',e = .returned t∧Tab k ow' w' t []∧Kept k ow w ow' w'∧Below w.heap.size w w':=by
 have hmm:=@run_makeMap Tryz.prog
 go_enter Tryz.func43,Tryz.ntmps43
 go_wp2
 go_ret
 refine ⟨_,fun b=>if b<w.heap.size then ow b else k,rfl,⟨w.heap.size+1,w.heap.size,.slice none 0 0,rfl,⟨?_,World.ownsRow_nil _ _ _ _,?_,Ok.nil,by simp;omega,by simp,by simp [Value.ownBlock]⟩⟩,?_,?_⟩
 ·exact Cd _ _ (by simp)
 ·exact (TM.made _ _ _ _ w).same (heap_alloc_old _ _ (by simp))
 ·exact (Kept.of_below (ow:=ow) (Ac (Ab _ _) (Ab _ _))).recolour (by intro b hb;simp [hb])
 ·exact Ac (Ab _ _) (Ab _ _)
set_option maxRecDepth 100000 in
set_option maxHeartbeats 400000 in
theorem fits_any (k:Nat) (ow:Own) (w:World) (t:Value) (rows:List ND) (h:Tab k ow w t rows) (kd l r:Int) (nm:ByteArray) (hn:nm.size≤maxLen) :
  Calls Tryz.prog 66 #[t,.agg #[.int .i64 kd,.string nm,.int .i64 l,.int .i64 r]] w fun e w'=>e = .returned (.int .i64 (fits rows.length ⟨kd,nm,l,r⟩))∧Below w.heap.size w w':=by
 by_cases h1:kd=1
 ·subst h1
  by_cases h2:l=0
  ·subst h2
   by_cases h3:r=0
   ·subst h3
    cases h4:word nm with
    | true=>
     go_enter Tryz.func66,Tryz.ntmps66
     go_wp2_with (go_at_call 55;refine (Yj _ _ hn).mono ?_;rintro e w' ⟨rfl,rfl⟩)
     go_ret
     exact ⟨Hr (by simp [fits,h4]),Ab _ _⟩
    | false=>
     go_enter Tryz.func66,Tryz.ntmps66
     go_wp2_with (go_at_call 55;refine (Yj _ _ hn).mono ?_;rintro e w' ⟨rfl,rfl⟩)
     go_ret
     exact ⟨Hr (by simp [fits,h4]),Ab _ _⟩
   ·have hb:(r != 0)=true:=by simp [h3]
    go_enter Tryz.func66,Tryz.ntmps66
    go_wp2
    go_ret
    exact ⟨Hr (by simp [fits,h3]),Ab _ _⟩
  ·have hb:(l != 0)=true:=by simp [h2]
   go_enter Tryz.func66,Tryz.ntmps66
   go_wp2
   go_ret
   exact ⟨Hr (by simp [fits,h2]),Ab _ _⟩
 ·by_cases h2:kd=2
  ·subst h2
   go_enter Tryz.func66,Tryz.ntmps66
   go_wp2
   all_goals (go_ret;exact ⟨Hr (by simp_all [fits,Jy]),Ab _ _⟩)
  ·by_cases h3:kd=3∨kd=4∨kd=5
   ·have hm:fits rows.length ⟨kd,nm,l,r⟩=if nm.size≠0∨hasB rows.length l=false∨hasB rows.length r=false then 31 else 0:=by
     unfold fits;rw [if_neg h1,if_neg h2,if_pos h3]
    have HM:=Aa hm;clear hm
    have hT:∀ o,Tab k ow (w.alloc o) t rows:=fun o=>h.below (Ab _ _)
    have HT:=Aa hT;clear hT
    cases h4:nm.toList.isEmpty with
    | false=>
     have h4':¬ nm.toList = []:=by intro h;rw [h] at h4;cases h4
     have H5:Hid (¬ nm.size=0):=fun e=>h4' (Jy.2 e)
     rcases h3 with rfl | rfl | rfl
     all_goals
      go_enter Tryz.func66,Tryz.ntmps66
      go_wp2
      go_ret
      exact ⟨Hr (by rw [HM.o,if_pos (.inl H5.o)]),Ab _ _⟩
    | true=>
     have h4':nm.toList = []:=by simpa using h4
     have H5:Hid (nm.size=0):=Jy.1 h4'
     clear h4'
     cases h5:hasB rows.length l with
     | false=>
      have H6:Hid (hasB rows.length l=false):=h5
      rcases h3 with rfl | rfl | rfl
      all_goals
       go_enter Tryz.func66,Tryz.ntmps66
       go_wp2_with (go_at_call 47;refine (Nr k ow _ _ rows (HT.o _) _).mono ?_;rintro e w' ⟨rfl,rfl⟩)
       go_ret
       exact ⟨Hr (by rw [HM.o,if_pos (.inr (.inl H6.o))]),Ab _ _⟩
     | true=>
      have H6:Hid (hasB rows.length l=true):=h5
      cases h7:hasB rows.length r with
      | false=>
       have H8:Hid (hasB rows.length r=false):=h7
       rcases h3 with rfl | rfl | rfl
       all_goals
        go_enter Tryz.func66,Tryz.ntmps66
        go_wp2_with (go_at_call 47;refine (Nr k ow _ _ rows (HT.o _) _).mono ?_;rintro e w' ⟨rfl,rfl⟩)
        go_ret
        exact ⟨Hr (by rw [HM.o,if_pos (.inr (.inr H8.o))]),Ab _ _⟩
      | true=>
       have H8:Hid (hasB rows.length r=true):=h7
       rcases h3 with rfl | rfl | rfl
       all_goals
        go_enter Tryz.func66,Tryz.ntmps66
        go_wp2_with (go_at_call 47;refine (Nr k ow _ _ rows (HT.o _) _).mono ?_;rintro e w' ⟨rfl,rfl⟩)
        go_ret
        exact ⟨Hr (by rw [HM.o,if_neg (by rw [H5.o,H6.o,H8.o];simp)]),Ab _ _⟩
   ·have ha:¬ kd=3:=fun e=>h3 (.inl e)
    have hb:¬ kd=4:=fun e=>h3 (.inr (.inl e))
    have hc:¬ kd=5:=fun e=>h3 (.inr (.inr e))
    have HM:Hid (fits rows.length ⟨kd,nm,l,r⟩=31):=by unfold fits;rw [Hid,if_neg h1,if_neg h2,if_neg h3]
    go_enter Tryz.func66,Tryz.ntmps66
    go_wp2
    go_ret
    exact ⟨Hr (by rw [HM.o]),Ab _ _⟩
end Go.Dk
end
