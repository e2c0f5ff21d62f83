/- Parts of the proof: K, L, Qd, Qe, Qf. -/
import Derived.Laws.EntriesVeiled
import Derived.Test.YthhokkfcdbcllaaGreatDoorR01
import Derived.Test.YthhokkfcdbcllaaGreatDoorR02
import Derived.Test.YthhokkfcdbcllaaGreatDoorR03
import Derived.Test.YthhokkfcdbcllaaGreatDoorR04
import Derived.Test.YthhokkfcdbcllaaGreatDoorR05
import Derived.Test.YthhokkfcdbcllaaGreatDoorR06
import Derived.Test.YthhokkfcdbcllaaGreatDoorR07
import Derived.Test.YthhokkfcdbcllaaGreatDoorR08
import Derived.Test.YthhokkfcdbcllaaGreatDoorR09
section
namespace Go.Dk
open Go.RowKit Go.Maps Go.MapKept
open Go.Proofs hiding intOf
theorem Ek:∀ x y:Nat,Jq x=Jq y→x=y:=by
 intro x y h
 simp only [Jq,Value.int.injEq,true_and] at h
 omega
theorem Hz:Keyed Tryz.prog 3:=int_keyed Tryz.underlying3
theorem Qh (i:Nat) (h:i≤9223372036854775807):keyOf Tryz.prog 3 (Jq i)=some (.int .i64 (i:Int)):=keyOf_int_mk Tryz.underlying3 (wf64 (by omega))
theorem dO (w:World):(zeroValue 3).run Tryz.prog w = .ok (.int .i64 0) w:=by kernel_rfl
def wO (_:Unit):Value:=.int .i64 1
abbrev uX (w:World) (b:Nat) (f:Nat→Option Unit):Prop:=TM Tryz.prog 3 Jq wO w b f
structure Env (w:World) (ib tb db mb pb mt:Nat) (v:Value) (rows:List ND):Prop where
 hi:w.heap[ib]? = some (.cells #[.map (some mb)] 150 (0,0))
 ht:w.heap[tb]? = some (.cells #[.pointer (some ⟨pb,0,none⟩)] 24 (0,0))
 hd:w.heap[db]? = some (.cells #[.func (.func 88) #[] #[.pointer (some ⟨ib,0,none⟩),.pointer (some ⟨tb,0,none⟩),.pointer (some ⟨db,0,none⟩)]] 168 (0,0))
 hp:w.heap[pb]? = some (.cells #[v,.map (some mt)] 108 (0,0))
 hr:w.ownsRow 0 31 4 v rows.length (As rows)
 ok:Ok rows
theorem Env.step {w w':World} {ib tb db mb pb mt:Nat} {v:Value} {rows:List ND} {f:Nat→Option Unit} (h:Env w ib tb db mb pb mt v rows) (hm:uX w mb f) (hg:w.grownBy w' (some mb)):Env w' ib tb db mb pb mt v rows:=by
 obtain ⟨_,⟨es,clock,hes,_⟩,_⟩:=hm
 have ne:∀ {b:Nat} {cs:Array Value} {t:TypeId} {fr:Nat × Nat},w.heap[b]? = some (.cells cs t fr)→w'.heap[b]? = some (.cells cs t fr):=fun {b cs t fr} hb=>
  (hg.block b (lt_of_block hb) (fun e=>by cases e;rw [hes] at hb;cases hb)).trans hb
 refine ⟨ne h.hi,ne h.ht,ne h.hd,ne h.hp,⟨h.hr.1,?_⟩,h.ok⟩
 rcases h.hr.2 with h1 | ⟨g,cap,cur,rfl,hb,hg',r⟩
 ·exact .inl h1
 ·exact .inr ⟨g,cap,cur,rfl,hb,ne hg',r⟩
theorem _root_.Go.Dk.Only.grown {b:Nat} {w w':World} (h:Only b w w'):w.grownBy w' (some b):=
 ⟨h.os,h.tape,h.output,by rw [h.size];exact Nat.le_refl _,fun k _ hk=>h.block k (fun e=>hk (by rw [e]))⟩
structure EnvC (w:World) (ib tb db mb pb g c len:Nat) (i:Nat) (n:ND):Prop where
 c1:w.cell? ⟨ib,0,none⟩=some (.map (some mb))
 c2:w.cell? ⟨tb,0,none⟩=some (.pointer (some ⟨pb,0,none⟩))
 c3:w.cell? ⟨db,0,none⟩=some (.func (.func 88) #[] #[.pointer (some ⟨ib,0,none⟩),.pointer (some ⟨tb,0,none⟩),.pointer (some ⟨db,0,none⟩)])
 c4:w.cell? ⟨pb,0,none⟩=some (.slice (some ⟨g,0,none⟩) len c)
 d0:w.cell? ⟨g,i * 4,none⟩=some (.int .i64 n.kind)
 d1:w.cell? ⟨g,i * 4+1,none⟩=some (.string n.name)
 d2:w.cell? ⟨g,i * 4+2,none⟩=some (.int .i64 n.l)
 d3:w.cell? ⟨g,i * 4+3,none⟩=some (.int .i64 n.r)
 l3:db<w.heap.size
theorem Env.cells {w:World} {ib tb db mb pb mt g c:Nat} {rows:List ND} (h:Env w ib tb db mb pb mt (.slice (some ⟨g,0,none⟩) rows.length c) rows) {i:Nat} {n:ND} (hi:rows[i]? = some n):EnvC w ib tb db mb pb g c rows.length i n:=by
 have hl:=(List.getElem?_eq_some_iff.1 hi).1
 obtain ⟨g',c',hv,hg,hc⟩:=Ht h.hr (by omega)
 cases hv
 exact ⟨cell_of h.hi rfl,cell_of h.ht rfl,cell_of h.hd rfl,cell_of h.hp rfl,hc _ _ (Bm rows i n hi 0 (by omega)),hc _ _ (Bm rows i n hi 1 (by omega)),hc _ _ (Bm rows i n hi 2 (by omega)),hc _ _ (Bm rows i n hi 3 (by omega)),lt_of_block h.hd⟩
theorem Env.below {w w':World} {ib tb db mb pb mt:Nat} {v:Value} {rows:List ND} (h:Env w ib tb db mb pb mt v rows) (hb:Below w.heap.size w w'):Env w' ib tb db mb pb mt v rows:=by
 have ne:∀ {b:Nat} {o:Obj},w.heap[b]? = some o→w'.heap[b]? = some o:=fun {b o} hx=>(hb.block b (lt_of_block hx)).trans hx
 refine ⟨ne h.hi,ne h.ht,ne h.hd,ne h.hp,⟨h.hr.1,?_⟩,h.ok⟩
 rcases h.hr.2 with h1 | ⟨g,cap,cur,rfl,hb,hg',r⟩
 ·exact .inl h1
 ·exact .inr ⟨g,cap,cur,rfl,hb,ne hg',r⟩
structure Down (rows:List ND) (i:Nat) (f f':Nat→Option Unit):Prop where
 more:∀ j,f j=some ()→f' j=some ()
 self:f' i=some ()
 only:∀ j,f' j=some ()→f j=some ()∨Reach rows i j
 shut:∀ j n,f' j=some ()→f j=none→rows[j]? = some n→3≤n.kind→f' n.l.toNat=some ()∧f' n.r.toNat=some ()
theorem Down.same {rows:List ND} {i:Nat} {f:Nat→Option Unit} (h:f i=some ()):Down rows i f f:=
 ⟨fun _ h=>h,h,fun _ h=>.inl h,fun j n h1 h2=>by rw [h1] at h2;cases h2⟩
theorem Pv (x:Option Unit):x=none∨x=some ():=by cases x with | none=>exact .inl rfl | some u=>exact .inr rfl
theorem Down.leaf {rows:List ND} {i:Nat} {n:ND} {f:Nat→Option Unit} (hi:rows[i]? = some n) (hk:¬ 3≤n.kind):Down rows i f (upd f i (some ())):=by
 refine ⟨fun j hj=>?_,upd_same _ _ _,fun j hj=>?_,fun j m h1 h2 h3 h4=>?_⟩
 ·by_cases e:j=i
  ·subst e;exact upd_same _ _ _
  ·rw [Dw _ _ e];exact hj
 ·by_cases e:j=i
  ·subst e;exact .inr (.refl _)
  ·rw [Dw _ _ e] at hj;exact .inl hj
 ·by_cases e:j=i
  ·subst e;rw [hi] at h3;cases h3;exact absurd h4 hk
  ·rw [Dw _ _ e] at h1;rw [h1] at h2;cases h2
theorem Down.node {rows:List ND} {i:Nat} {n:ND} {f f1 f2:Nat→Option Unit} (hi:rows[i]? = some n) (hk:3≤n.kind) (h1:Down rows n.l.toNat (upd f i (some ())) f1) (h2:Down rows n.r.toNat f1 f2):Down rows i f f2:=by
 have up:∀ j,f j=some ()→upd f i (some ()) j=some ():=fun j hj=>by
  by_cases e:j=i
  ·subst e;exact upd_same _ _ _
  ·rw [Dw _ _ e];exact hj
 refine ⟨fun j hj=>h2.more j (h1.more j (up j hj)),h2.more _ (h1.more _ (upd_same _ _ _)),fun j hj=>?_,fun j m a b c d=>?_⟩
 ·rcases h2.only j hj with h | h
  ·rcases h1.only j h with h | h
   ·by_cases e:j=i
    ·subst e;exact .inr (.refl _)
    ·rw [Dw _ _ e] at h;exact .inl h
   ·exact .inr (.left hi hk h)
  ·exact .inr (.right hi hk h)
 ·rcases Pv (f1 j) with h | h
  ·exact h2.shut j m a h c d
  ·by_cases e:j=i
   ·subst e
    rw [hi] at c;cases c
    exact ⟨h2.more _ h1.self,h2.self⟩
   ·have:=h1.shut j m h (by rw [Dw _ _ e];exact b) c d
    exact ⟨h2.more _ this.1,h2.more _ this.2⟩
theorem Down.all {rows:List ND} {i:Nat} {f:Nat→Option Unit} (h:Down rows i (fun _=>none) f) (j:Nat):f j=some ()↔Reach rows i j:=by
 constructor
 ·intro hj
  rcases h.only j hj with h | h
  ·cases h
  ·exact h
 ·intro hr
  have:∀ a b,Reach rows a b→f a=some ()→f b=some ():=by
   intro a b hab
   induction hab with
   | refl=>exact fun h=>h
   | left a1 a2 _ ih=>exact fun ha=>ih (h.shut _ _ ha rfl a1 a2).1
   | right a1 a2 _ ih=>exact fun ha=>ih (h.shut _ _ ha rfl a1 a2).2
  exact this _ _ hr h.self
set_option maxRecDepth 100000 in
set_option maxHeartbeats 400000 in
theorem rC (ib tb db mb pb mt:Nat) (v:Value) (rows:List ND) (i:Nat):∀ (w:World) (f:Nat→Option Unit),i<rows.length→Env w ib tb db mb pb mt v rows→uX w mb f →
  Calls Tryz.prog 88 #[.int .i64 (i:Int),.pointer (some ⟨ib,0,none⟩),.pointer (some ⟨tb,0,none⟩),.pointer (some ⟨db,0,none⟩)] w fun e w'=>e = .returned (.tuple #[])∧∃ f',w.grownBy w' (some mb)∧uX w' mb f'∧Down rows i f f':=by
 induction i using Nat.strongRecOn with
 | _ i ih=>
  intro w f hi hE hm
  have hle:=hE.ok.le
  obtain ⟨n,hn⟩:∃ n,rows[i]? = some n:=⟨_,List.getElem?_eq_getElem hi⟩
  have c1:w.cell? ⟨ib,0,none⟩=some (.map (some mb)):=cell_of hE.hi rfl
  have hkey:=Qh i (by omega)
  rcases Pv (f i) with h0 | h0
  ·have hl:(Instr.lookup 150 (.map (some mb)) (.int .i64 (i:Int)) false).run Tryz.prog w = .ok (.int .i64 0) w:=hm.look_none Hz Ek Tryz.underlying150 (dO _) hkey false h0
   obtain ⟨kd,nm,l,r⟩:=n
   have HE:=Aa hE
   have HM:=Aa hm
   have HK:=Aa hkey
   have HN:=Aa hn
   have H0:=Aa h0
   have IH:=Aa ih
   obtain ⟨g,c',rfl,hg,_⟩:=Ht hE.hr (by omega)
   clear hE hm hkey hn h0 ih
   by_cases hk:3≤kd
   ·obtain ⟨⟨p1,p2⟩,p3,p4⟩:=HE.o.ok.parts HN.o hk
    simp only at p1 p2 p3 p4
    obtain ⟨x,rfl⟩:=Int.eq_ofNat_of_zero_le p1
    obtain ⟨y,rfl⟩:=Int.eq_ofNat_of_zero_le p3
    go_enter Tryz.func88,Tryz.ntmps88
    go_wp2_with (at_mapUpdate;refine La HM.o Hz Ek rfl (.tmp 10) (.tmp 11) _ 150 3 rfl Tryz.underlying150 rfl i rfl () rfl HK.o ?_;intro w2 hm2 ho2;have hE2:=HE.o.step HM.o ho2.grown;obtain ⟨c1',c2,c3,c4,d0,d1,d2,d3,l3⟩:=hE2.cells HN.o;have HE2:=Aa hE2;have HM2:=Aa hm2;have HO2:=Aa ho2;clear hE2 hm2 ho2)
    have hE3:=HE2.o.below (Ab w2 (.cells #[.int .i64 kd,.string nm,.int .i64 (x:Int),.int .i64 (y:Int)] 31))
    have hM3:=HM2.o.below (Ab w2 (.cells #[.int .i64 kd,.string nm,.int .i64 (x:Int),.int .i64 (y:Int)] 31))
    refine (IH.o x (by omega) _ _ (by omega) hE3 hM3).mono ?_
    rintro e w4 ⟨rfl,f1,hg4,hm4,hd4⟩
    have hE4:=hE3.step hM3 hg4
    have c3':=hE4.cells HN.o |>.c3
    have c9:w4.cell? ⟨w2.heap.size,3,none⟩=some (.int .i64 (y:Int)):=hg4.cell (a:=⟨w2.heap.size,3,none⟩) (World.cell?_alloc_at _ _ _ _ rfl) (by have:=HM2.o.lt;intro e;cases e;simp at this)
    have HE4:=Aa hE4;have HM4:=Aa hm4;have HD4:=Aa hd4;have HG4:=Aa hg4
    clear hE4 hm4 hd4 hg4 hE3 hM3 c1' c2 c3 c4 d0 d1 d2 d3
    go_wp2_with fail
    refine (IH.o y (by omega) _ _ (by omega) HE4.o HM4.o).mono ?_
    rintro e w5 ⟨rfl,f2,hg5,hm5,hd5⟩
    have hfin:w.grownBy w5 (some mb):=((HO2.o.grown.trans (World.grownBy_alloc w2 _ _)).trans HG4.o).trans hg5
    have HF:=Aa hfin;have HM5:=Aa hm5;have HD5:=Aa hd5
    clear hg5 hm5 hd5 hfin
    go_wp2
    go_end0
    exact ⟨rfl,f2,HF.o,HM5.o,Down.node HN.o hk HD4.o HD5.o⟩
   ·have HD:=Aa (Down.leaf (f:=f) HN.o hk)
    go_enter Tryz.func88,Tryz.ntmps88
    go_wp2_with (at_mapUpdate;refine La HM.o Hz Ek rfl (.tmp 10) (.tmp 11) _ 150 3 rfl Tryz.underlying150 rfl i rfl () rfl HK.o ?_;intro w2 hm2 ho2;have hE2:=HE.o.step HM.o ho2.grown;obtain ⟨c1',c2,c3,c4,d0,d1,d2,d3,l3⟩:=hE2.cells HN.o;have HE2:=Aa hE2;have HM2:=Aa hm2;have HO2:=Aa ho2;clear hE2 hm2 ho2)
    go_end0
    exact ⟨rfl,HO2.o.grown.trans (World.grownBy_alloc w2 _ _),upd f i (some ()),HM2.o.below (Ab _ _),HD.o⟩
  ·have hl:(Instr.lookup 150 (.map (some mb)) (.int .i64 (i:Int)) false).run Tryz.prog w = .ok (.int .i64 1) w:=hm.look_some Hz Ek Tryz.underlying150 hkey false h0
   have HD:=Aa (Down.same (rows:=rows) h0)
   have HM:=Aa hm
   clear hm hE ih h0 hkey
   go_enter Tryz.func88,Tryz.ntmps88
   go_wp2
   exact bodyPost_ret (results_none rfl _ _ _) rfl ⟨rfl,f,⟨rfl,rfl,rfl,Nat.le_refl _,fun _ _ _=>rfl⟩,HM.o,HD.o⟩
end Go.Dk
end
section
namespace Go.Dk
open Go.RowKit Go.Maps Go.MapKept
open Go.Proofs hiding intOf
theorem qR {k:Nat} {ow:Own} {w:World} {pb mt:Nat} {v:Value} {rows:List ND} (h:TabAt k ow w pb mt v rows) :
  Env ((((w.alloc (.cells #[.pointer (some ⟨pb,0,none⟩)] 24)).alloc (.map #[] 0)).alloc (.cells #[.map (some (w.heap.size+1))] 150)).alloc (.cells #[.func (.func 88) #[] #[.pointer (some ⟨w.heap.size+1+1,0,none⟩),.pointer (some ⟨w.heap.size,0,none⟩),.pointer (some ⟨w.heap.size+1+1+1,0,none⟩)]] 168))
   (w.heap.size+1+1) w.heap.size (w.heap.size+1+1+1) (w.heap.size+1) pb mt v rows ∧
  uX ((((w.alloc (.cells #[.pointer (some ⟨pb,0,none⟩)] 24)).alloc (.map #[] 0)).alloc (.cells #[.map (some (w.heap.size+1))] 150)).alloc (.cells #[.func (.func 88) #[] #[.pointer (some ⟨w.heap.size+1+1,0,none⟩),.pointer (some ⟨w.heap.size,0,none⟩),.pointer (some ⟨w.heap.size+1+1+1,0,none⟩)]] 168))
   (w.heap.size+1) (fun _=>none):=by
 have ht:=(((h.below (Ab w (.cells #[.pointer (some ⟨pb,0,none⟩)] 24))).below (Ab _ (.map #[] 0))).below (Ab _ (.cells #[.map (some (w.heap.size+1))] 150))).below (Ab _ (.cells #[.func (.func 88) #[] #[.pointer (some ⟨w.heap.size+1+1,0,none⟩),.pointer (some ⟨w.heap.size,0,none⟩),.pointer (some ⟨w.heap.size+1+1+1,0,none⟩)]] 168))
 refine ⟨⟨?_,?_,?_,ht.hp,ht.hr,ht.ok⟩,?_⟩
 ·rw [heap_alloc_old _ _ (by simp)];exact Cd _ _ (by simp)
 ·rw [heap_alloc_old _ _ (by simp;omega),heap_alloc_old _ _ (by simp;omega),heap_alloc_old _ _ (by simp)];exact Cd _ _ (by simp)
 ·exact Cd _ _ (by simp)
 ·have:=TM.made Tryz.prog 3 Jq wO (w.alloc (.cells #[.pointer (some ⟨pb,0,none⟩)] 24))
  rw [World.size_alloc] at this
  exact (this.below (Ab _ _)).below (Ab _ _)
theorem Rng.props {κ ν:Type} {P:Program} {k:TypeId} {ek:κ→Value} {ev:ν→Value} {w:World} {b r:Nat} {f:κ→Option ν} {done:List κ} (h:Rng P k ek ev w b r f done):done.Nodup∧∀ x ∈ done,(f x).isSome=true:=by
 obtain ⟨_,_,_,_,_,_,_,_,_,_,_,_,_,_,_,_,_,h1,h2⟩:=h
 exact ⟨h1,h2⟩
theorem uT {l:List Nat} (hd:l.Nodup) {m:Nat} (h:∀ x ∈ l,x<m):l.length≤m:=by
 have hp:l.Perm ((List.range m).filter fun x=>decide (x ∈ l)):=by
  refine (List.perm_ext_iff_of_nodup hd (List.nodup_range.sublist List.filter_sublist)).2 fun x=>?_
  simp only [List.mem_filter,List.mem_range,decide_eq_true_eq]
  exact ⟨fun hx=>⟨h x hx,hx⟩,fun hx=>hx.2⟩
 rw [hp.length_eq]
 exact Nat.le_trans (List.length_filter_le _ _) (by simp)
structure Coll (w W:World) (mb r:Nat) (f:Nat→Option Unit) (done:List Nat) (v:Value):Prop where
 rg:Rng Tryz.prog 3 Jq wO W mb r f done
 own:W.ownsRow w.heap.size 3 1 v done.length (ints (Ey done.reverse))
 bl:Below w.heap.size w W
 lm:w.heap.size≤mb
 lr:w.heap.size≤r
theorem Ef:(Tryz.prog.info? 3).map (fun i=>(i.zero,i.size,i.bytes))=some (some (.int .i64 0),1,8):=by kernel_rfl
theorem Coll.next {w W w4 w5:World} {mb r:Nat} {f:Nat→Option Unit} {done:List Nat} {v v5:Value} {x:Nat} {o:Obj} (h:Coll w W mb r f done v) (hrg:Rng Tryz.prog 3 Jq wO w4 mb r f (x::done)) (hg:W.grownBy w4 (some r))
  (hown:w5.ownsRow w.heap.size 3 1 v5 (done.length+1) (ints (Ey done.reverse)++[.int .i64 (x:Int)])) (hgr:(w4.alloc o).grownBy w5 v.ownBlock):Coll w w5 mb r f (x::done) v5∧w5.rangeLeft mb r=w4.rangeLeft mb r:=by
 have nb:v.ownBlock≠some mb:=by
  obtain ⟨_,⟨es,clock,hes,_⟩,_⟩:=h.rg.tm
  exact own_ne h.own hes (by intro cur fr e;cases e)
 have nr:v.ownBlock≠some r:=by
  obtain ⟨_,_,_,_,_,_,_,_,_,_,_,_,hr,_⟩:=h.rg
  exact own_ne h.own hr (by intro cur fr e;cases e)
 have g2:w4.grownBy w5 v.ownBlock:=World.grownBy.trans (World.grownBy_alloc w4 o _) hgr
 have e1:w5.heap[mb]? = w4.heap[mb]?:=g2.block mb hrg.tm.lt (Ne.symm nb)
 have e2:w5.heap[r]? = w4.heap[r]?:=g2.block r hrg.ltr (Ne.symm nr)
 obtain ⟨s1,s2⟩:=hrg.same e1 e2
 refine ⟨⟨s1,?_,(h.bl.grown hg h.bl.size (by intro k hk;cases hk;exact h.lr)).grown g2 (Nat.le_trans h.bl.size hg.size) (fun k hk=>(h.own.lt k hk).1),h.lm,h.lr⟩,s2⟩
 have:ints (Ey (x::done).reverse)=ints (Ey done.reverse)++[.int .i64 (x:Int)]:=by simp [ints,Ey]
 rw [this]
 exact hown
theorem Coll.own4 {w W w4:World} {mb r:Nat} {f:Nat→Option Unit} {done:List Nat} {v:Value} (h:Coll w W mb r f done v) (hg:W.grownBy w4 (some r)):w4.ownsRow w.heap.size 3 1 v done.length (ints (Ey done.reverse)):=by
 refine h.own.kept hg (.inr ?_)
 obtain ⟨_,_,_,_,_,_,_,_,_,_,_,_,hr,_⟩:=h.rg
 exact own_ne h.own hr (by intro cur fr e;cases e)
theorem Gs (w:World) (x:Value) (e:TypeId):Rd (w.alloc (.cells #[x] e)) (.slice (some ⟨w.heap.size,0,none⟩) 1 1) 1 1 [x]:=by
 refine ⟨⟨_,_,rfl,fun h=>by (cases h),fun ad ha=>?_⟩,rfl⟩
 cases ha
 refine ⟨fun _=>rfl,fun j u hu=>?_⟩
 match j,hu with
 | 0,hu=>simp only [List.getElem?_cons_zero,Option.some.injEq] at hu;subst hu;rw [World.cell?_alloc_at _ _ _ _ rfl];rfl
set_option maxRecDepth 100000 in
set_option maxHeartbeats 800000 in
theorem qS (k:Nat) (ow:Own) (w:World) (t:Value) (rows:List ND) (h:Tab k ow w t rows) (i:Nat) (hi:i<rows.length) :
  Calls Tryz.prog 77 #[t,.int .i64 (i:Int)] w fun e w'=>∃ v',e = .returned (.tuple #[v',.int .i64 0])∧w'.ownsRow w.heap.size 3 1 v' (below rows i).length (ints (Ey (below rows i)))∧Below w.heap.size w w':=by
 have H:Hid (∀ o,Tab k ow (w.alloc o) t rows):=fun o=>h.below (Ab _ _)
 have hb:hasB rows.length (i:Int)=true:=by simp [hasB,hi]
 obtain ⟨pb,mt,v,rfl,ht⟩:=h
 have HT:=Aa ht
 clear ht
 have hmm:=@run_makeMap Tryz.prog
 have hmf:∀ (fn:Fn) (first cap:Array Value) (w:World),(Instr.makeFunc fn first cap).run Tryz.prog w = .ok (.func fn first cap) w:=fun _ _ _ _=>rfl
 go_enter Tryz.func77,Tryz.ntmps77
 go_wp2_with (first | (go_at_call 46;refine (Dz k ow _ _ rows (H.o _)).mono ?_;rintro e w' ⟨rfl,rfl⟩) | (go_at_call 47;refine (Nr k ow _ _ rows (H.o _) _).mono ?_;rintro e w' ⟨rfl,rfl⟩))
 obtain ⟨hE,hS⟩:=qR HT.o
 refine (rC _ _ _ _ _ _ _ rows i _ _ hi hE hS).mono ?_
 rintro e w2 ⟨rfl,f,hg2,hm2,hd2⟩
 have c1:=cell_of (i:=0) (v:=.map (some (w.heap.size+1))) (hE.step hS hg2).hi rfl
 have hb2:Below w.heap.size w w2:=((((((Below.refl w.heap.size w).alloc (Nat.le_refl _) (.cells #[.pointer (some ⟨pb,0,none⟩)] 24)).alloc (by simp) (.map #[] 0)).alloc (by simp;omega) (.cells #[.map (some (w.heap.size+1))] 150)).alloc (by simp;omega) _)).grown hg2 (by simp;omega) (by intro k hk;cases hk;omega)
 have hall:=hd2.all
 have HB2:=Aa hb2;have HM2:=Aa hm2;have HA:=Aa hall
 clear hE hS hg2 hm2 hd2 hb2 hall hmm hmf hb
 go_wp2_with (at_range;refine tX HM2.o rfl (.tmp 24) 150 3 rfl Tryz.underlying150 rfl ?_;intro w3 hrg3 hb3)
 go_frame
 have hI0:Coll w w3 (w.heap.size+1) w2.heap.size f [] (.slice none 0 0):=⟨hrg3,World.ownsRow_nil _ _ _ _,HB2.o.trans (hb3.mono HB2.o.size),by omega,HB2.o.size⟩
 have HI0:=Aa hI0
 clear hrg3 hb3 hI0
 go_loopw [8,9] (fun u _ W=>∃ done,Coll w W (w.heap.size+1) w2.heap.size f done u) (fun _ _ W=>W.rangeLeft (w.heap.size+1) w2.heap.size)
 case atStart=>exact ⟨[],HI0.o⟩
 case round=>
  obtain ⟨done,hI⟩:=hrel
  have HI:=Aa hI
  go_wp2_with (at_next;refine wP HI.o.rg Ek rfl (.tmp 25) rfl rfl ?_ ?_)
  ·intro hall
   have hp:=hI.rg.props
   have hmem:∀ j,j ∈ done.reverse↔Reach rows i j:=fun j=>by
    rw [List.mem_reverse,← HA.o j]
    constructor
    ·intro hj
     have:=hp.2 j hj
     rcases Pv (f j) with h | h
     ·rw [h] at this;cases this
     ·exact h
    ·intro hj;exact hall j (by rw [hj];rfl)
   have hnd:done.reverse.Nodup:=(List.reverse_perm done).nodup_iff.2 hp.1
   have hsort:=kD HT.o.ok hnd hmem
   have hlen:done.length=(below rows i).length:=by
    have:=congrArg List.length hsort
    simpa [Ey] using this
   have hbd:done.length≤1024:=by
    have:=below_le rows i
    have:=HT.o.ok.le
    omega
   have HS:=Aa hsort;have HL:=Aa hlen
   obtain ⟨a,c,rfl⟩:=Ba hI.own
   clear hI hp hmem hnd hsort hlen hall
   go_wp2_with (go_at_call 89;refine (eE _ w.heap.size done.length _ (Ey done.reverse) HI.o.bl.size HI.o.own (by omega)).mono ?_;rintro e w5 ⟨rfl,hown5,hg5⟩)
   go_ret2
   refine ⟨_,rfl,?_,HI.o.bl.grown hg5 HI.o.bl.size (fun k hk=>(HI.o.own.lt k hk).1)⟩
   rw [HS.o] at hown5
   rw [← HL.o]
   exact hown5
  ·intro x u w4 hfx hxd hrg4 hg4 hlt hen
   have hen':(Instr.entry (.pointer (some ⟨w2.heap.size,0,none⟩))).run Tryz.prog w4 = .ok (.tuple #[.int .i64 (x:Int),.int .i64 1]) w4:=hen
   have hp:=hI.rg.props
   have hbd:done.length≤1024:=by
    have h1:=uT hp.1 (m:=i+1) (fun y hy=>by
     have h2:=hp.2 y hy
     rcases Pv (f y) with h | h
     ·rw [h] at h2;cases h2
     ·have:=((HA.o y).1 h).le HT.o.ok;omega)
    have:=HT.o.ok.le
    omega
   have hown:=hI.own4 hg4
   have HO:=Aa hown;have HR4:=Aa hrg4;have HG4:=Aa hg4;have HLT:=Aa hlt
   have hsz:w.heap.size≤w4.heap.size:=Nat.le_trans hI.bl.size hg4.size
   clear hen hp hI hown hrg4 hg4 hlt hfx hxd
   go_wp2_with (at_builtin;refine By rfl (.tmp 30) (.tmp 32) 23 rfl w.heap.size 3 _ 1 8 Tryz.underlying23 Ef rfl (by decide) (by decide) _ done.length (ints (Ey done.reverse)) rfl (HO.o.alloc _) _ 1 [.int .i64 (x:Int)] rfl (Gs w4 _ _) (by simp [Value.oneCell']) (by omega) (by simp;omega) ?_;intro v5 w5 hown5 hgr5 hat5 hnil5)
   have hfin:=HI.o.next HR4.o HG4.o hown5 hgr5
   exact ⟨⟨x::done,hfin.1⟩,by rw [hfin.2];exact HLT.o⟩
end Go.Dk
end
section
namespace Go.Dk
open Go.RowKit Go.Maps Go.MapKept
open Go.Proofs hiding intOf
abbrev Gn:=List Int→Int × Int
structure ImpsR where
 rows:List ND
 err:Int
 made:List Int
def Bo (p:Int × Int):ND:=⟨5,⟨#[]⟩,p.1,p.2⟩
def Gi:List Gn→List ND→List Int→ImpsR
 | [],rows,made=>⟨rows,0,made⟩
 | f::fs,rows,made=>
  if (put rows (Bo (f made))).err≠0 then ⟨(put rows (Bo (f made))).rows,(put rows (Bo (f made))).err,[]⟩
  else Gi fs (put rows (Bo (f made))).rows (made++[(put rows (Bo (f made))).id])
def Ld (Wd:World→Prop) (n:Nat) (fv:Value) (f:Gn):Prop:=∃ fid caps,fv = .func (.func fid) #[] caps∧(∀ args w,(callFunc fid args).run Tryz.prog w = .ok (.enter fid args) w) ∧
 ∀ W v made,Wd W→Rd W v made.length 1 (ints made)→made.length=n→Calls Tryz.prog fid (#[v]++caps) W fun e W'=>e = .returned (.tuple #[.int .i64 (f made).1,.int .i64 (f made).2])∧Below W.heap.size W W'
theorem KeptF.own {F F':FP} {w w':World} (h:KeptF F w F' w') {base:Nat} {e:TypeId} {size:Nat} {v:Value} {n:Nat} {xs:List Value} (ho:w.ownsRow base e size v n xs) (hn:∀ g,v.ownBlock=some g→¬ F g):w'.ownsRow base e size v n xs:=by
 refine ⟨ho.1,?_⟩
 rcases ho.2 with hn' | ⟨g,cap,cur,rfl,hbg,hg,rest⟩
 ·exact .inl hn'
 ·exact .inr ⟨g,cap,cur,rfl,hbg,(h.block g (lt_of_block hg) (hn g rfl)).trans hg,rest⟩
structure OwnI (B:Nat) (F:FP) (w:World) (v:Value) (zs:List Int):Prop where
 own:w.ownsRow B 3 1 v zs.length (ints zs)
 o:∀ g,v.ownBlock=some g→¬ F g
theorem OwnI.below {B:Nat} {F:FP} {w w':World} {v:Value} {zs:List Int} (h:OwnI B F w v zs) (hb:Below w.heap.size w w'):OwnI B F w' v zs:=
 ⟨(KeptF.of_below (F:=FP.none) (fun _ h=>h.elim) hb).own h.own (fun _ _ h=>h),h.o⟩
theorem OwnI.kept {B:Nat} {F F':FP} {w w':World} {v:Value} {zs:List Int} (h:OwnI B F w v zs) (hk:KeptF F w F' w'):OwnI B F' w' v zs:=
 ⟨hk.own h.own h.o,fun g hg hf=>h.o g hg (hk.sub g (h.own.lt g hg).2 hf)⟩
theorem Re (a b:List Int):ints (a++b)=ints a++ints b:=by simp [ints]
theorem OwnI.nil (B:Nat) (F:FP) (w:World):OwnI B F w (.slice none 0 0) []:=⟨World.ownsRow_nil _ _ _ _,fun g hg=>by simp [Value.ownBlock] at hg⟩
theorem OwnI.append {B:Nat} {F:FP} {w w' w0:World} {v v':Value} {zs:List Int} {x:Int} (h:OwnI B F w v zs) (h':w'.ownsRow B 3 1 v' (zs.length+1) (ints zs++[.int .i64 x])) (hat:v'.ownBlock=v.ownBlock∨v'.ownBlock=some w0.heap.size) (hF:F.in_ w) (hz:w.heap.size≤w0.heap.size):OwnI B F w' v' (zs++[x]):=by
 refine ⟨by rw [Re];simpa [ints] using h',fun g hg hf=>?_⟩
 rcases hat with e | e
 ·exact h.o g (e▸hg) hf
 ·rw [e] at hg
  cases hg
  have:=hF _ hf
  omega
theorem OwnI.rd {B:Nat} {F:FP} {w:World} {v:Value} {zs:List Int} (h:OwnI B F w v zs):Rd w v zs.length 1 (ints zs):=Hv h.own
theorem KeptF.later {F F1:FP} {w w1 w2:World} (h:KeptF F w F1 w1) {row:Option Nat} (g:w1.grownBy w2 row) (hr:∀ b,row=some b→w.heap.size≤b):KeptF F w F1 w2:=
 ⟨g.os.trans h.os,g.tape.trans h.tape,g.output.trans h.output,Nat.le_trans h.size g.size,h.sub,fun b hf=>Nat.lt_of_lt_of_le (h.lt b hf) g.size,
  fun b hb hn=>(g.block b (Nat.lt_of_lt_of_le hb h.size) (fun e=>absurd (hr b e.symm) (by omega))).trans (h.block b hb hn)⟩
theorem Cm.grown {F:FP} {w w':World} {t:Value} {rows:List ND} (h:Cm F w t rows) {row:Option Nat} (g:w.grownBy w' row) (hr:∀ b,row=some b→¬ F b):Cm F w' t rows:=
 h.kept (G:=fun b=>row=some b) (G':=FP.none) ⟨g.os,g.tape,g.output,g.size,fun _ _ h=>h.elim,fun _ h=>h.elim,fun b hb hn=>g.block b hb (fun e=>hn e.symm)⟩ (fun b hf e=>hr b e hf)
def Nh (F:FP) (w:World) (t:Value) (r:ImpsR) (e:Ending) (w':World):Prop:=
 ∃ v F',e = .returned (.tuple #[v,.int .i64 r.err])∧KeptF F w F' w'∧Cm F' w' t r.rows∧(r.err=0→OwnI w.heap.size F' w' v r.made)
structure ImpsI (F:FP) (w:World) (t:Value) (fs:List Gn) (rows:List ND) (j:Nat) (v:Value) (W:World) (F':FP) (rows':List ND) (made:List Int):Prop where
 kept:KeptF F w F' W
 tab:Cm F' W t rows'
 eq:Gi fs rows []=Gi (fs.drop j) rows' made
 len:made.length=j
 own:OwnI w.heap.size F' W v made
theorem uN (f:Gn) (fs:List Gn) (rows:List ND) (made:List Int) {prows:List ND} {a b pid perr:Int} (_hab:(a,b)=f made) (hp:(⟨prows,pid,perr⟩:Put)=put rows (Bo (f made))) (hz:¬ perr=0):Gi (f::fs) rows made=⟨prows,perr,[]⟩:=by
 unfold Gi
 rw [← hp]
 simp only
 rw [if_pos hz]
theorem nN (f:Gn) (fs:List Gn) (rows:List ND) (made:List Int) {prows:List ND} {a b pid:Int} (_hab:(a,b)=f made) (hp:(⟨prows,pid,0⟩:Put)=put rows (Bo (f made))):Gi (f::fs) rows made=Gi fs prows (made++[pid]):=by
 conv=>lhs;unfold Gi
 rw [← hp]
 simp
set_option maxRecDepth 100000 in
set_option maxHeartbeats 2000000 in
theorem Ol (F:FP) (w:World) (t:Value) (rows:List ND) (h:Cm F w t rows) (gb:Nat) (fs:List Gn) (hn:fs.length≤8) (hg:¬ F gb)
  (hf:∀ j (h:j<fs.length),∃ fv,w.cell? ⟨gb,j,none⟩=some fv∧Ld (fun W=>∃ F',KeptF F w F' W) j fv fs[j]) :
  Calls Tryz.prog 111 #[t,.slice (some ⟨gb,0,none⟩) fs.length fs.length] w (Nh F w t (Gi fs rows [])):=by
 have H0:Hid (ImpsI F w t fs rows 0 (.slice none 0 0) w F rows []):=⟨KeptF.refl h.in_,h,rfl,rfl,OwnI.nil _ _ _⟩
 have HF:=Aa hf;have HG:=Aa hg
 clear hf h hg
 go_enter Tryz.func111,Tryz.ntmps111
 go_wp2
 go_loopw [6,15] (fun v i W=>∃ j F' rows' made,j≤fs.length∧i = .int .i64 (j:Int)∧ImpsI F w t fs rows j v W F' rows' made) (fun _ i _=>fs.length - (intOf i).toNat)
 case atStart=>exact ⟨0,F,rows,[],by omega,rfl,H0.o⟩
 case round=>
  obtain ⟨j,F',rows',made,hj,rfl,hI⟩:=hrel
  have HI:=Aa hI
  clear hI
  by_cases hlt:j<fs.length
  ·obtain ⟨fv,hc,fid,caps,rfl,hent,hp⟩:=HF.o j hlt
   have hc2:wr.cell? ⟨gb,j,none⟩=some (.func (.func fid) #[] caps):=HI.o.kept.cell hc HG.o
   obtain ⟨f,hfj⟩:∃ f,f=fs[j]:=⟨_,rfl⟩
   rw [← hfj] at hp
   have HD:Hid (fs.drop j=f::fs.drop (j+1)):=by rw [hfj];exact List.drop_eq_getElem_cons hlt
   have HP:=Aa (hp wr _ made ⟨F',HI.o.kept⟩ HI.o.own.rd HI.o.len)
   obtain ⟨p,hpp⟩:∃ p,p=put rows' (Bo (f made)):=⟨_,rfl⟩
   have HPP:=Aa hpp
   have HM:Hid (∀ W,Below wr.heap.size wr W→Calls Tryz.prog 68 #[t,.int .i64 (f made).1,.int .i64 (f made).2] W (rE F' W t p)):=fun W hb=>by
    rw [hpp];exact yX (HI.o.tab.below hb) _ _
   have hgb:gb<w.heap.size:=World.block_lt_of_cell? _ _ hc
   have hji:(j:Int)<(fs.length:Int):=by omega
   clear hc hp hfj hpp
   obtain ⟨⟨a,b⟩,hab⟩:∃ ab,ab=f made:=⟨_,rfl⟩
   rw [← hab] at HP HM
   have HAB:=Aa hab
   clear hab
   obtain ⟨prows,pid,perr⟩:=p
   by_cases hz:perr=0
   ·subst hz
    have hmj:=HI.o.len
    have HZ1:Hid (made.length≤8):=by show made.length≤8;omega
    clear hmj
    go_wp2_with (first
     | (refine HP.o.mono ?_;rintro e W1 ⟨rfl,hb1⟩;have HB1:=Aa hb1;clear hb1)
     | (go_at_call 68;refine (HM.o _ HB1.o).mono ?_;rintro e W2 ⟨rfl,F2,hk2,ht2⟩;have HK2:=Aa hk2;have HT2:=Aa ht2;have HO2:=Aa ((HI.o.own.below HB1.o).kept hk2);have HL2:=Aa ((HI.o.kept.trans (KeptF.of_below HI.o.tab.in_ HB1.o)).trans hk2);clear hk2 ht2)
     | (at_builtin;refine By rfl (.tmp 35) (.tmp 37) 23 rfl w.heap.size 3 _ 1 8 Tryz.underlying23 Ef rfl (by decide) (by decide) _ made.length (ints made) rfl ((HO2.o.below (Ab W2 _)).own) _ 1 [.int .i64 pid] rfl (Gs W2 _ _) (by simp [Value.oneCell']) (by have:=HZ1.o;omega) (by have:=HL2.o.size;simp;omega) ?_;intro v5 w5 hown5 hgr5 hat5 hnil5;have HO5:=Aa hown5;have HG5:=Aa hgr5;have HA5:=Aa hat5;clear hown5 hgr5 hat5 hnil5))
    have HX5:Hid (∀ b,u6.ownBlock=some b→w.heap.size≤b):=fun b hb=>(HI.o.own.own.lt b hb).1
    have K1:=(HL2.o.trans (KeptF.of_below HT2.o.in_ (Ab W2 (.cells #[.int .i64 pid] 3)))).later HG5.o HX5.o
    have T1:=(HT2.o.below (Ab W2 (.cells #[.int .i64 pid] 3))).grown HG5.o HO2.o.o
    have O1:=HO2.o.append HO5.o HA5.o HT2.o.in_ (by simp)
    exact ⟨⟨j+1,F2,prows,made++[pid],by omega,by go_num,K1,T1,by rw [HI.o.eq,HD.o,nN _ _ _ _ HAB.o HPP.o],by rw [List.length_append,HI.o.len];rfl,O1⟩,by simp [intOf];omega⟩
   ·have hz2:(perr != 0)=true:=by simpa using hz
    have HZ:=Aa hz
    clear hz
    go_wp2_with (first
     | (refine HP.o.mono ?_;rintro e W1 ⟨rfl,hb1⟩;have HB1:=Aa hb1;clear hb1)
     | (go_at_call 68;refine (HM.o _ HB1.o).mono ?_;rintro e W2 ⟨rfl,F2,hk2,ht2⟩;have HK2:=Aa hk2;have HT2:=Aa ht2;clear hk2 ht2))
    go_ret2
    have he:Gi fs rows []=⟨prows,perr,[]⟩:=by rw [HI.o.eq,HD.o,uN _ _ _ _ HAB.o HPP.o HZ.o]
    rw [he]
    exact ⟨.slice none 0 0,F2,rfl,(HI.o.kept.trans (KeptF.of_below HI.o.tab.in_ HB1.o)).trans HK2.o,HT2.o,fun h=>absurd h HZ.o⟩
  ·obtain rfl:j=fs.length:=by omega
   go_wp2_with fail
   go_ret2
   have he:Gi fs rows []=⟨rows',0,made⟩:=by rw [HI.o.eq,List.drop_length];rfl
   rw [he]
   exact ⟨_,F',rfl,HI.o.kept,HI.o.tab,fun _=>HI.o.own⟩
end Go.Dk
end
section
namespace Go.Dk
open Go.RowKit Go.Maps Go.MapKept
open Go.Proofs hiding intOf
def Xl (B:Nat) (F:FP) (w:World) (v:Value) (l:List SQ):Prop:=
 (l = []∧v = .slice none 0 0)∨∃ b,l≠[]∧v = .slice (some ⟨b,0,none⟩) l.length l.length∧B≤b∧¬ F b∧Ae w b (l.flatMap fun s=>Ad s.left s.goal) 86
def Lj (F:FP) (w:World) (t:Value) (rows:List ND) (p:Prem) (e:Ending) (w':World):Prop:=
 ∃ v F',e = .returned (.tuple #[v,.int .i64 p.err])∧KeptF F w F' w'∧(p.err=0→Cm F' w' t p.rows∧Xl w.heap.size F' w' v p.seqs) ∧
  (p.err≠0→v = .slice none 0 0∧p.rows=rows∧∃ rows1,rows <+: rows1∧Cm F' w' t rows1)
theorem Ae.keptF {F F':FP} {W W':World} {b:Nat} {xs:List Value} {T:TypeId} (h:Ae W b xs T) (hk:KeptF F W F' W') (hn:¬ F b):Ae W' b xs T:=hk.box h hn
def Xv (F:FP) (w:World) (t:Value) (rows1:List ND) (er:Int) (e:Ending) (w':World):Prop:=
 ∃ F',e = .returned (.tuple #[.slice none 0 0,.int .i64 er])∧KeptF F w F' w'∧Cm F' w' t rows1
def Uh (F:FP) (w:World) (t:Value) (rows1:List ND) (l:List SQ) (e:Ending) (w':World):Prop:=
 ∃ v F',e = .returned (.tuple #[v,.int .i64 0])∧KeptF F w F' w'∧Cm F' w' t rows1∧Xl w.heap.size F' w' v l
theorem OwnI.form {B:Nat} {F:FP} {w:World} {v:Value} {zs:List Int} (h:OwnI B F w v zs) (h0:0<zs.length):∃ g c,v = .slice (some ⟨g,0,none⟩) zs.length c∧¬ F g∧∀ j x,zs[j]? = some x→w.cell? ⟨g,j,none⟩=some (.int .i64 x):=by
 obtain ⟨g,c,rfl,_,hc⟩:=Ht h.own h0
 exact ⟨g,c,rfl,h.o g rfl,fun j x hj=>hc j _ (by simp [ints,hj])⟩
def Qx (w:World) (a b:Int) (e:Ending) (w':World):Prop:=
 ∃ p q,e = .returned (.func (.func 127) #[] #[.pointer (some ⟨p,0,none⟩),.pointer (some ⟨q,0,none⟩)])∧w.heap.size≤p∧w.heap.size≤q∧w'.cell? ⟨p,0,none⟩=some (.int .i64 a)∧w'.cell? ⟨q,0,none⟩=some (.int .i64 b)∧Below w.heap.size w w'
theorem Qp (w:World) (a b:Int):Calls Tryz.prog 112 #[.int .i64 a,.int .i64 b] w (Qx w a b):=by
 refine (tW w a b).mono ?_
 rintro e w' ⟨rfl,rfl⟩
 refine ⟨w.heap.size,w.heap.size+1,rfl,Nat.le_refl _,Nat.le_succ _,Ao (Ab _ _) (cell_new1 rfl),cell_new1 (by simp),Ac (Ab _ _) (Ab _ _)⟩
theorem Qw {F:FP} {W:World} {p q n:Nat} {a b:Int} (c1:W.cell? ⟨p,0,none⟩=some (.int .i64 a)) (c2:W.cell? ⟨q,0,none⟩=some (.int .i64 b)) (hp:¬ F p) (hq:¬ F q) :
  Ld (fun W'=>∃ F',KeptF F W F' W') n (.func (.func 127) #[] #[.pointer (some ⟨p,0,none⟩),.pointer (some ⟨q,0,none⟩)]) (fun _=>(a,b)):=by
 refine ⟨_,_,rfl,enters_of Tryz.func127 (by kernel_rfl) rfl,?_⟩
 rintro W' v made ⟨F',hk⟩ _ _
 exact pO W' v a b p q (hk.cell c1 hp) (hk.cell c2 hq)
theorem Zf {F F1:FP} {w W W':World} {t:Value} {rows1:List ND} {l:List SQ} {n:Nat} {cs:Array Value} (hk:KeptF F w F1 W) (ht:Cm F1 W t rows1) (hb:Below W.heap.size W W') (hn:l.length=n) (hc:cs=(l.flatMap fun s=>Ad s.left s.goal).toArray) (h0:l≠[]:=by simp) :
  Uh F w t rows1 l (.returned (.tuple #[.slice (some ⟨W'.heap.size,0,none⟩) n n,.int .i64 0])) (W'.alloc (.cells cs 86)):=by
 subst hn hc
 have hb2:=Ac hb (Ab W' (.cells (l.flatMap fun s=>Ad s.left s.goal).toArray 86))
 refine ⟨_,F1,rfl,hk.trans (KeptF.of_below ht.in_ hb2),ht.below hb2,.inr ⟨_,h0,rfl,Nat.le_trans hk.size hb.size,fun hf=>?_,Ae.new W' _ _⟩⟩
 have:=ht.in_ _ hf
 have:=hb.size
 omega
set_option maxRecDepth 100000 in
theorem qH (w:World) (y:Nat) (a b:Int) (g o c:Nat) (c1:w.cell? ⟨y,2,none⟩=some (.int .i64 a)) (c2:w.cell? ⟨g,o,none⟩=some (.int .i64 b)) :
  Calls Tryz.prog 113 #[.slice (some ⟨g,o,none⟩) 1 c,.pointer (some ⟨y,0,none⟩)] w fun e w'=>e = .returned (.tuple #[.int .i64 a,.int .i64 b])∧Below w.heap.size w w':=by
 go_enter Tryz.func113,Tryz.ntmps113
 go_wp2_with fail
 go_quiet (fail)
 go_wp2_with fail
 exact bodyPost_ret (v:=.tuple #[.int .i64 a,.int .i64 b]) (by simp [results,Tryz.results113,go_sem]) rfl ⟨rfl,below_drewN w nq⟩
theorem nI {F:FP} {W:World} {y:Nat} {a:Int} (c1:W.cell? ⟨y,2,none⟩=some (.int .i64 a)) (hy:¬ F y) :
  Ld (fun W'=>∃ F',KeptF F W F' W') 1 (.func (.func 113) #[] #[.pointer (some ⟨y,0,none⟩)]) (fun made=>(a,made.headD 0)):=by
 refine ⟨_,_,rfl,enters_of Tryz.func113 (by kernel_rfl) rfl,?_⟩
 rintro W' v made ⟨F',hk⟩ hr hl
 obtain ⟨x,rfl⟩:∃ x,made = [x]:=by
  match made,hl with
  | [x],_=>exact ⟨x,rfl⟩
 obtain ⟨⟨a',c',rfl,h1,h2⟩,_⟩:=hr
 cases a' with
 | none=>exact absurd (h1 rfl).1 (by simp)
 | some ad=>
  have h3:=(h2 ad rfl).2 0 (.int .i64 x) rfl
  have h4:=(h2 ad rfl).1 (by simp)
  obtain ⟨g,o,sp⟩:=ad
  simp only at h3 h4
  subst h4
  exact qH W' y a x g o c' (hk.cell c1 hy) (by simpa using h3)
end Go.Dk
end
section
namespace Go.Dk
open Go.RowKit Go.Maps Go.MapKept
open Go.Proofs hiding intOf
set_option maxRecDepth 100000 in
set_option maxHeartbeats 2000000 in
theorem oO (F:FP) (w:World) (t:Value) (rows:List ND) (hF:Cm F w t rows) (s:SQ) (main:Nat) (hm:main<rows.length) (kd:Int) (nm:ByteArray) (l r:Nat) (hx:rowAt rows main=⟨kd,nm,(l:Int),(r:Int)⟩) (hr:r<1024)
  (kd2:Int) (nm2:ByteArray) (l2 r2:Int) (hy:nodeAt rows (l:Int)=⟨kd2,nm2,l2,r2⟩) (rows1:List ND) (er:Int) (her:er≠0) (hR:Gi [fun _=>(r2,(r:Int))] rows []=⟨rows1,er,[]⟩) :
  Calls Tryz.prog 87 #[t,.agg (Ad s.left s.goal).toArray,.int .i64 13,.int .i64 (main:Int)] w (Xv F w t rows1 er):=by
 have HB0:=Aa (Ab w (.cells (Ad s.left s.goal).toArray 86))
 have HQ0:=Aa (Ae.new w (Ad s.left s.goal) 86)
 have HN1:=Aa (Dc 0 _ w t rows (hF.col 0) main hm _ hx)
 have HR:=Aa hr
 clear hr
 have HN2:Hid (∀ W,Below w.heap.size w W→Calls Tryz.prog 104 #[t,.int .i64 (l:Int)] W fun e w'=>e = .returned (.agg (ND.mk kd2 nm2 l2 r2).cells.toArray)∧Below W.heap.size W w'):=fun W hb=>hy▸Eb 0 _ W t rows ((hF.col 0).below hb) (l:Int)
 have HM:Hid (main<1024):=Nat.lt_of_lt_of_le hm hF.ok.le
 have HI:Hid (∀ W gb,Cm F W t rows→¬ F gb→(∀ j (h:j<([fun _=>(r2,(r:Int))]:List Gn).length),∃ fv,W.cell? ⟨gb,j,none⟩=some fv∧Ld (fun W'=>∃ F',KeptF F W F' W') j fv ([fun _=>(r2,(r:Int))]:List Gn)[j])→Calls Tryz.prog 111 #[t,.slice (some ⟨gb,0,none⟩) 1 1] W (Nh F W t ⟨rows1,er,[]⟩)):=fun W gb ht hg hf=>by
  have:=Ol F W t rows ht gb [fun _=>(r2,(r:Int))] (by simp) hg hf
  rw [hR] at this
  exact this
 have hz2:(er != 0)=true:=by simpa using her
 clear her
 have HT:=Aa hF
 simp only at HN1
 clear hF hx hy hm hR
 go_enter Tryz.func87,Tryz.ntmps87
 go_wp2_with (first
  | (go_at_call 104;refine (HN1.o _ HB0.o).mono ?_;rintro e W1 ⟨rfl,hb1⟩;have HB1:=Aa (Ac HB0.o hb1);have HQ1:=Aa (HQ0.o.below hb1);clear hb1 HN1)
  | (refine Aj Ds (.tmp 10) (.tmp 21) rfl rfl rfl (ys:=(ND.mk kd nm (l:Int) (r:Int)).cells) rfl (Ae.new W1 Do.cells 31) rfl rfl (cells_one _) ?_;intro W2 hb2 ho2;have c2:=hb2.cell (i:=2) rfl;have HX2:=Aa hb2;have HB12:=Aa ((Ab W1 _).trans (ho2.below (Nat.le_refl _)));have HB2:=Aa (HB1.o.trans (HB12.o.mono HB1.o.size));have HQ2:=Aa (HQ1.o.below HB12.o);clear hb2 ho2;simp only at c2)
  | (go_at_call 104;refine (HN2.o _ HB2.o).mono ?_;rintro e W3 ⟨rfl,hb3⟩;have HB3:=Aa (Ac HB2.o hb3);have HQ3:=Aa (HQ2.o.below hb3);have HX3:=Aa (HX2.o.below hb3);clear hb3 c2)
  | (refine Aj Ds (.tmp 11) (.tmp 25) rfl rfl rfl (ys:=(ND.mk kd2 nm2 l2 r2).cells) rfl (Ae.new W3 Do.cells 31) rfl rfl (cells_one _) ?_;intro W4 hb4 ho4;have HY4:=Aa hb4;have HB34:=Aa ((Ab W3 _).trans (ho4.below (Nat.le_refl _)));have HB4:=Aa (HB3.o.trans (HB34.o.mono HB3.o.size));have HQ4:=Aa (HQ3.o.below HB34.o);have HX4:=Aa (HX3.o.below HB34.o);clear hb4 ho4)
  | (refine Ah (.tmp 5) rfl rfl rfl HQ4.o ?_)
  | (refine Ar (.tmp 12) (.tmp 26) rfl rfl rfl rfl (Ae.new W4 (Ad 0 0) 86) (Ai _ _) ?_;intro W5 hb5 ho5;have HR5:=Aa hb5;have HB45:=Aa ((Ab W4 _).trans (ho5.below (Nat.le_refl _)));have HB5:=Aa (HB4.o.trans (HB45.o.mono HB4.o.size));have HQ5:=Aa (HQ4.o.below HB45.o);have HX5:=Aa (HX4.o.below HB45.o);have HY5:=Aa (HY4.o.below HB45.o);have HZ4:=Aa HB4.o.size;have HZ5:=Aa HB45.o.size;clear hb5 ho5)
  | (refine Ap (.tmp 27) rfl rfl rfl HQ5.o ?_)
  | (go_at_call 109;refine (Fg W5 s.left main HM.o).mono ?_;rintro e W6 ⟨rfl,hb6⟩;have HB6:=Aa (HB5.o.trans (hb6.mono HB5.o.size));have HR6:=Aa (HR5.o.below hb6);have HQ6:=Aa (HQ5.o.below hb6);have HX6:=Aa (HX5.o.below hb6);have HY6:=Aa (HY5.o.below hb6);clear hb6)
  | (refine Au (.tmp 31) (.tmp 30) rfl rfl rfl rfl HR6.o ?_;intro W7 hb7 ho7;have HR7:=Aa hb7;have HX7:=Aa (HX6.o.only ho7 (Nat.ne_of_lt HX4.o.lt));have HQ7:=Aa (HQ6.o.only ho7 (Nat.ne_of_lt HQ4.o.lt));have HY7:=Aa (HY6.o.only ho7 (Nat.ne_of_lt HY4.o.lt));have d3:=HY7.o.cell (i:=3) rfl;have d2:=HY7.o.cell (i:=2) rfl;have c7:=HX7.o.cell (i:=3) rfl;have c6:=HX7.o.cell (i:=2) rfl;have HB7:=Aa (HB6.o.trans (ho7.below HZ4.o));clear hb7 ho7;simp only at c7 c6 d2 d3)
  | (go_at_call 112;refine (Qp W7 r2 (r:Int)).mono ?_;rintro e W8 ⟨p,q,rfl,hp,hq,cp,cq,hb8⟩;have HPB:=Aa hp;have HQB:=Aa hq;have HCP:=Aa cp;have HCQ:=Aa cq;have HB8:=Aa hb8;have HT8:=Aa (HT.o.below (Ac HB7.o hb8));clear hp hq cp cq hb8)
  | (go_at_call 111;refine (HI.o _ W8.heap.size (HT8.o.below (Ab _ _)) (fun hf=>by have:=HT8.o.in_ _ hf;omega) (fun j hj=>by obtain rfl:j=0:=(by simpa using hj);exact ⟨_,cell_new1 rfl,Qw (Ao (Ab _ _) HCP.o) (Ao (Ab _ _) HCQ.o) (fun hf=>by have:=HT.o.in_ _ hf;have:=HB7.o.size;have:=HPB.o;omega) (fun hf=>by have:=HT.o.in_ _ hf;have:=HB7.o.size;have:=HQB.o;omega)⟩)).mono ?_;rintro e W9 ⟨v9,F9,rfl,hk9,ht9,ho9⟩;have HK9:=Aa hk9;have HT9:=Aa ht9;have HO9:=Aa ho9;clear hk9 ht9 ho9))
 go_ret2
 exact ⟨F9,rfl,((KeptF.of_below HT.o.in_ (Ac (Ac HB7.o HB8.o) (Ab _ _))).trans HK9.o),HT9.o⟩
attribute [local go_sem ↓] Dv
attribute [local go_sem] Du
set_option maxRecDepth 100000 in
set_option maxHeartbeats 2000000 in
theorem uL (F:FP) (w:World) (t:Value) (rows:List ND) (hF:Cm F w t rows) (s:SQ) (main:Nat) (hm:main<rows.length) (kd:Int) (nm:ByteArray) (l r:Nat) (hx:rowAt rows main=⟨kd,nm,(l:Int),(r:Int)⟩) (hr:r<1024)
  (kd2:Int) (nm2:ByteArray) (l2 r2:Int) (hy:nodeAt rows (l:Int)=⟨kd2,nm2,l2,r2⟩) (rows1:List ND) (i:Nat) (hi:i<1024) (hR:Gi [fun _=>(r2,(r:Int))] rows []=⟨rows1,0,[(i:Int)]⟩) :
  Calls Tryz.prog 87 #[t,.agg (Ad s.left s.goal).toArray,.int .i64 13,.int .i64 (main:Int)] w (Uh F w t rows1 [⟨Aw (Be s.left main) i,l⟩,⟨Aw (Be s.left main) r,s.goal⟩]):=by
 have HB0:=Aa (Ab w (.cells (Ad s.left s.goal).toArray 86))
 have HQ0:=Aa (Ae.new w (Ad s.left s.goal) 86)
 have HN1:=Aa (Dc 0 _ w t rows (hF.col 0) main hm _ hx)
 have HR:=Aa hr
 clear hr
 have HN2:Hid (∀ W,Below w.heap.size w W→Calls Tryz.prog 104 #[t,.int .i64 (l:Int)] W fun e w'=>e = .returned (.agg (ND.mk kd2 nm2 l2 r2).cells.toArray)∧Below W.heap.size W w'):=fun W hb=>hy▸Eb 0 _ W t rows ((hF.col 0).below hb) (l:Int)
 have HM:Hid (main<1024):=Nat.lt_of_lt_of_le hm hF.ok.le
 have HI:Hid (∀ W gb,Cm F W t rows→¬ F gb→(∀ j (h:j<([fun _=>(r2,(r:Int))]:List Gn).length),∃ fv,W.cell? ⟨gb,j,none⟩=some fv∧Ld (fun W'=>∃ F',KeptF F W F' W') j fv ([fun _=>(r2,(r:Int))]:List Gn)[j])→Calls Tryz.prog 111 #[t,.slice (some ⟨gb,0,none⟩) 1 1] W (Nh F W t ⟨rows1,0,[(i:Int)]⟩)):=fun W gb ht hg hf=>by
  have:=Ol F W t rows ht gb [fun _=>(r2,(r:Int))] (by simp) hg hf
  rw [hR] at this
  exact this
 have HII:=Aa hi
 clear hi
 have HT:=Aa hF
 simp only at HN1
 clear hF hx hy hm hR
 go_enter Tryz.func87,Tryz.ntmps87
 go_wp2_with (first
  | (go_at_call 104;refine (HN1.o _ HB0.o).mono ?_;rintro e W1 ⟨rfl,hb1⟩;have HB1:=Aa (Ac HB0.o hb1);have HQ1:=Aa (HQ0.o.below hb1);clear hb1 HN1)
  | (refine Aj Ds (.tmp 10) (.tmp 21) rfl rfl rfl (ys:=(ND.mk kd nm (l:Int) (r:Int)).cells) rfl (Ae.new W1 Do.cells 31) rfl rfl (cells_one _) ?_;intro W2 hb2 ho2;have c2:=hb2.cell (i:=2) rfl;have HX2:=Aa hb2;have HB12:=Aa ((Ab W1 _).trans (ho2.below (Nat.le_refl _)));have HB2:=Aa (HB1.o.trans (HB12.o.mono HB1.o.size));have HQ2:=Aa (HQ1.o.below HB12.o);clear hb2 ho2;simp only at c2)
  | (go_at_call 104;refine (HN2.o _ HB2.o).mono ?_;rintro e W3 ⟨rfl,hb3⟩;have HB3:=Aa (Ac HB2.o hb3);have HQ3:=Aa (HQ2.o.below hb3);have HX3:=Aa (HX2.o.below hb3);clear hb3 c2)
  | (refine Aj Ds (.tmp 11) (.tmp 25) rfl rfl rfl (ys:=(ND.mk kd2 nm2 l2 r2).cells) rfl (Ae.new W3 Do.cells 31) rfl rfl (cells_one _) ?_;intro W4 hb4 ho4;have HY4:=Aa hb4;have HB34:=Aa ((Ab W3 _).trans (ho4.below (Nat.le_refl _)));have HB4:=Aa (HB3.o.trans (HB34.o.mono HB3.o.size));have HQ4:=Aa (HQ3.o.below HB34.o);have HX4:=Aa (HX3.o.below HB34.o);clear hb4 ho4)
  | (refine Ah (.tmp 5) rfl rfl rfl HQ4.o ?_)
  | (refine Ar (.tmp 12) (.tmp 26) rfl rfl rfl rfl (Ae.new W4 (Ad 0 0) 86) (Ai _ _) ?_;intro W5 hb5 ho5;have HR5:=Aa hb5;have HB45:=Aa ((Ab W4 _).trans (ho5.below (Nat.le_refl _)));have HB5:=Aa (HB4.o.trans (HB45.o.mono HB4.o.size));have HQ5:=Aa (HQ4.o.below HB45.o);have HX5:=Aa (HX4.o.below HB45.o);have HY5:=Aa (HY4.o.below HB45.o);have HZ4:=Aa HB4.o.size;have HZ5:=Aa HB45.o.size;clear hb5 ho5)
  | (refine Ap (.tmp 27) rfl rfl rfl HQ5.o ?_)
  | (go_at_call 109;refine (Fg W5 s.left main HM.o).mono ?_;rintro e W6 ⟨rfl,hb6⟩;have HB6:=Aa (HB5.o.trans (hb6.mono HB5.o.size));have HR6:=Aa (HR5.o.below hb6);have HQ6:=Aa (HQ5.o.below hb6);have HX6:=Aa (HX5.o.below hb6);have HY6:=Aa (HY5.o.below hb6);clear hb6)
  | (refine Au (.tmp 31) (.tmp 30) rfl rfl rfl rfl HR6.o ?_;intro W7 hb7 ho7;have HR7:=Aa hb7;have HX7:=Aa (HX6.o.only ho7 (Nat.ne_of_lt HX4.o.lt));have HQ7:=Aa (HQ6.o.only ho7 (Nat.ne_of_lt HQ4.o.lt));have HY7:=Aa (HY6.o.only ho7 (Nat.ne_of_lt HY4.o.lt));have d3:=HY7.o.cell (i:=3) rfl;have d2:=HY7.o.cell (i:=2) rfl;have c7:=HX7.o.cell (i:=3) rfl;have c6:=HX7.o.cell (i:=2) rfl;have HB7:=Aa (HB6.o.trans (ho7.below HZ4.o));clear hb7 ho7;simp only at c7 c6 d2 d3)
  | (go_at_call 112;refine (Qp W7 r2 (r:Int)).mono ?_;rintro e W8 ⟨p,q,rfl,hp,hq,cp,cq,hb8⟩;have HPB:=Aa hp;have HQB:=Aa hq;have HCP:=Aa cp;have HCQ:=Aa cq;have HB8:=Aa hb8;have HT8:=Aa (HT.o.below (Ac HB7.o hb8));clear hp hq cp cq hb8)
  | (go_at_call 111;refine (HI.o _ W8.heap.size (HT8.o.below (Ab _ _)) (fun hf=>by have:=HT8.o.in_ _ hf;omega) (fun j hj=>by obtain rfl:j=0:=(by simpa using hj);exact ⟨_,cell_new1 rfl,Qw (Ao (Ab _ _) HCP.o) (Ao (Ab _ _) HCQ.o) (fun hf=>by have:=HT.o.in_ _ hf;have:=HB7.o.size;have:=HPB.o;omega) (fun hf=>by have:=HT.o.in_ _ hf;have:=HB7.o.size;have:=HQB.o;omega)⟩)).mono ?_;rintro e W9 ⟨v9,F9,rfl,hk9,ht9,ho9⟩;have HKW:=Aa ((KeptF.of_below HT.o.in_ (Ac (Ac HB7.o HB8.o) (Ab _ _))).trans hk9);have HR9:=Aa (((HR7.o.below HB8.o).below (Ab _ _)).keptF hk9 (fun hf=>by have:=HT.o.in_ _ hf;have:=HB4.o.size;omega));have HX9:=Aa (((HX7.o.below HB8.o).below (Ab _ _)).keptF hk9 (fun hf=>by have:=HT.o.in_ _ hf;have:=HB1.o.size;omega));have HK9:=Aa hk9;have HT9:=Aa ht9;have HO9:=Aa ho9;obtain ⟨g,c,rfl,hg,hcg⟩:=(ho9 rfl).form (by simp);have HCG:=Aa (hcg 0 _ rfl);have HNG:=Aa hg;clear hk9 ht9 ho9 hg hcg))
 have HK:Hid (∀ W',Below W9.heap.size W9 W'→Aft W9 W'):=fun W' hb=>hb
 have hld:∀ W',Aft W9 W'→Bf 86 W' (.pointer (some ⟨W4.heap.size,0,none⟩)):=fun W' hb=>(An (HR9.o.below hb).loads).1
 have hlv:∀ W',Aft W9 W'→Dq 86 W' (.pointer (some ⟨W4.heap.size,0,none⟩))=_:=fun W' hb=>(An (HR9.o.below hb).loads).2
 have hcl0:∀ W',Aft W9 W'→W'.cell? ⟨W1.heap.size,2,none⟩=some (.int .i64 (l:Int)):=fun W' hb=>(HX9.o.below hb).cell (i:=2) rfl
 have hcl1:∀ W',Aft W9 W'→W'.cell? ⟨W1.heap.size,3,none⟩=some (.int .i64 (r:Int)):=fun W' hb=>(HX9.o.below hb).cell (i:=3) rfl
 have HD:=Aa (below_drewN W9 1)
 have HW1:Hid (∀ W:World,W.cell? ⟨g,0,none⟩=some (.int .i64 (i:Int))→Calls Tryz.prog 110 #[.agg (Ad (Be s.left main) s.goal).toArray,.slice (some ⟨g,0,none⟩) 1 c] W fun e w'=>e = .returned (.agg (Ad (Aw (Be s.left main) i) s.goal).toArray)∧Below W.heap.size W w'):=fun W hj=>by
  have:=Jg W (Be s.left main) s.goal g 0 c [i] (by simp) (by simpa using HII.o) (Zd hj)
  rw [Hy] at this
  exact this
 have HW2:Hid (∀ (W:World) (g:Nat),W.cell? ⟨g,0,none⟩=some (.int .i64 (r:Int))→Calls Tryz.prog 110 #[.agg (Ad (Be s.left main) s.goal).toArray,.slice (some ⟨g,0,none⟩) 1 1] W fun e w'=>e = .returned (.agg (Ad (Aw (Be s.left main) r) s.goal).toArray)∧Below W.heap.size W w'):=fun W g hj=>by
  have:=Jg W (Be s.left main) s.goal g 0 1 [r] (by simp) (by simpa using HR.o) (Zd hj)
  rw [Hy] at this
  exact this
 have hfs:∀ (l:List (Value × Nat)) (cs:Array Value),(List.foldl (fun (cs:Array Value) (x:Value × Nat)=>cs.setIfInBounds x.2 x.1) cs l).size=cs.size:=fold_size
 clear c6 c7 d2 d3
 as_aux_lemma=>
  go_region_held3 (fun W'=>Aft W9 W')
   (((refine HK.o _ ?_;repeat (with_reducible first | exact HB12.o | exact HB11.o | exact HB10.o | exact Below.refl _ _ | exact HD.o | refine Ac ?_ (Ab _ _) | refine Ac ?_ (Db _)))))
   (first
    | (go_at_call 110;refine (HW1.o _ (by repeat (first | (with_reducible refine Um ?_) | ((with_reducible refine cell_new1 ?_);first | rfl | (simp;done)) | (with_reducible refine Ao (Ab _ _) ?_) | exact Ao HD.o HCG.o | exact HCG.o))).mono ?_;clear HW1;rintro e W10 ⟨rfl,hb10⟩;have HB10:Hid (Below W9.heap.size W9 W10):=Ac (by repeat (with_reducible first | exact Below.refl _ _ | exact HD.o | refine Ac ?_ (Ab _ _) | refine Ac ?_ (Db _))) hb10;have HBB10:=Aa hb10;clear hb10)
    | (go_at_call 114;refine (Wn _ (Aw (Be s.left main) i) s.goal (l:Int)).mono ?_;rintro e W11 ⟨rfl,hb11⟩;have HB11:Hid (Below W9.heap.size W9 W11):=Ac (by repeat (with_reducible first | exact Below.refl _ _ | exact HD.o | exact HB10.o | refine Ac ?_ (Ab _ _) | refine Ac ?_ (Db _))) hb11;have HBB11:=Aa hb11;have hsl:=Ai (Aw (Be s.left main) i) (l:Int);clear hb11)
    | (go_at_call 110;refine (HW2.o _ _ (by repeat (first | (with_reducible refine Um ?_) | ((with_reducible refine cell_new1 ?_);first | rfl | (simp;done)) | (with_reducible refine Ao (Ab _ _) ?_) | (with_reducible refine Ao HBB11.o ?_) | (with_reducible refine Ao HBB10.o ?_)))).mono ?_;rintro e W12 ⟨rfl,hb12⟩;have HB12:Hid (Below W9.heap.size W9 W12):=Ac (by repeat (with_reducible first | exact Below.refl _ _ | exact HD.o | exact HB11.o | refine Ac ?_ (Ab _ _) | refine Ac ?_ (Db _))) hb12;have hsl2:=Ai (Aw (Be s.left main) r) s.goal;clear hb12))
  all_goals
   as_aux_lemma=>
   go_wp2_with fail
   rw [Lq _ _ _ _ _ rfl]
   refine bodyPost_ret (v:=.tuple #[.slice (some ⟨W12.heap.size,0,none⟩) 2 2,.int .i64 0]) (by simp [results,Tryz.results87,go_sem]) rfl ?_
   exact Zf HKW.o HT9.o HB12.o rfl (by simp [-List.flatMap_toArray])
end Go.Dk
end
