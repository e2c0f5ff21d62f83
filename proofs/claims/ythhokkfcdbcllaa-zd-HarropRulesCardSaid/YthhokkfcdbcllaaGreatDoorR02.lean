/- Parts of the proof: G, H, I, J, Qa, Shelf, B, R, Kr, Se, Kb, Kc, Rg. -/
import Derived.Deep.RegionLaw
import Derived.Deep.AppendLies
import Derived.Shelf.Small.Bits
import Derived.Shelf.Small.Wraps
import Derived.Shelf.Strconv.Itoa0
import Derived.Shelf.Sort.Plain
import Derived.Ground.Names2Prog
import Derived.Shelf.Slices.SearchI
import Derived.Shelf.Slices.In.SortNone
import Derived.Test.YthhokkfcdbcllaaGreatDoorProg
import Derived.Maps.RangeRun
import Derived.Maps.RangeWalk
import Derived.Sort.OwnSortedInts
import Derived.BigQuiet
import Derived.Deep.QuietTactic
import Derived.Lib.TrailingZeros
import Derived.Laws.Bits64b
import Derived.Shelf.Spec.TrailingZeros
import Derived.WalkKit
import Derived.StillTail
import Derived.Test.YthhokkfcdbcllaaGreatDoorR01
section
namespace Go.Dk
open Go.RowKit Go.Maps Go.MapKept
open Go.Proofs hiding intOf
theorem wT (n:ND) (h1:n.name.size≤maxLen) (h2:(Lit.int .i64 n.kind).wf=true) (h3:(Lit.int .i64 n.l).wf=true) (h4:(Lit.int .i64 n.r).wf=true):∃ kl,keyOf Tryz.prog 31 n.val=some kl:=by
 apply Option.isSome_iff_exists.1
 unfold keyOf
 rw [Tryz.underlying31]
 simp only
 have e1:(Program.keyType Tryz.prog 31)=true:=by kernel_rfl
 have e2:n.val.formed Tryz.prog 31=true:=by
  have:Tryz.prog.cellsOf 31=4:=by kernel_rfl
  simp [Value.formed,ND.val,Tryz.underlying31,this]
 rw [e1,e2]
 simp only [Bool.and_self,if_true]
 have e0:0<Tryz.prog.types.size:=of_decide_eq_true (by kernel_rfl)
 have e3:∃ d,Tryz.prog.types.size=d+1:=⟨Tryz.prog.types.size - 1,by omega⟩
 obtain ⟨d,hd⟩:=e3
 rw [hd]
 have u1:=Tryz.underlying29
 have u2:=Tryz.underlying9
 have u3:=Tryz.underlying3
 have k0:Tryz.prog.cellsOf 31=4:=by kernel_rfl
 have k1:Tryz.prog.cellsOf 29=1:=by kernel_rfl
 have k2:Tryz.prog.cellsOf 9=1:=by kernel_rfl
 have k3:Tryz.prog.cellsOf 3=1:=by kernel_rfl
 simp [Program.keyLits,Tryz.underlying31,ND.val,Value.cells,u1,u2,u3,k0,k1,k2,k3,h1,h2,h3,h4]
theorem wf64 {n:Int} (h:-9223372036854775808≤n∧n≤9223372036854775807):(Lit.int .i64 n).wf=true:=WalkArith.wf_i64 h
theorem Jm {m:Nat} {n:ND} (h:fits m n=0) (hm:m≤1024):∃ kl,keyOf Tryz.prog 31 n.val=some kl:=by
 obtain ⟨h1,h2,h3,h4⟩:=Vm h
 exact wT n (by unfold maxLen;omega) (wf64 (by omega)) (wf64 (by omega)) (wf64 (by omega))
structure Boxed (w:World) (b:Nat) (n:ND):Prop where
 c0:w.cell? ⟨b,0,none⟩=some (.int .i64 n.kind)
 c1:w.cell? ⟨b,1,none⟩=some (.string n.name)
 c2:w.cell? ⟨b,2,none⟩=some (.int .i64 n.l)
 c3:w.cell? ⟨b,3,none⟩=some (.int .i64 n.r)
theorem Gx (w:World) (n:ND) (T:TypeId):Boxed (w.alloc (.cells #[.int .i64 n.kind,.string n.name,.int .i64 n.l,.int .i64 n.r] T)) w.heap.size n:=
 ⟨World.cell?_alloc_at _ _ _ _ rfl,World.cell?_alloc_at _ _ _ _ rfl,World.cell?_alloc_at _ _ _ _ rfl,World.cell?_alloc_at _ _ _ _ rfl⟩
theorem Boxed.below {w w':World} {b:Nat} {n:ND} (h:Boxed w b n) (hb:Below w.heap.size w w'):Boxed w' b n:=by
 have l:b<w.heap.size:=World.block_lt_of_cell? w _ h.c0
 exact ⟨(hb.cell (p:=⟨b,0,none⟩) l).trans h.c0,(hb.cell (p:=⟨b,1,none⟩) l).trans h.c1,(hb.cell (p:=⟨b,2,none⟩) l).trans h.c2,(hb.cell (p:=⟨b,3,none⟩) l).trans h.c3⟩
set_option maxRecDepth 100000 in
set_option maxHeartbeats 400000 in
theorem wJ (k:Nat) (ow:Own) (w:World) (t:Value) (rows:List ND) (h:Tab k ow w t rows) (kd l r:Int) (nm:ByteArray) (hn:nm.size≤maxLen) (hf:(fits rows.length ⟨kd,nm,l,r⟩ != 0)=true) :
  Calls Tryz.prog 44 #[t,.agg #[.int .i64 kd,.string nm,.int .i64 l,.int .i64 r]] w fun e w'=>e = .returned (.tuple #[.int .i64 0,.int .i64 (fits rows.length ⟨kd,nm,l,r⟩)])∧Below w.heap.size w w':=by
 have hT:∀ o,Tab k ow (w.alloc o) t rows:=fun o=>h.below (Ab _ _)
 have HT:=Aa hT;clear hT
 go_enter Tryz.func44,Tryz.ntmps44
 go_wp2_with (first
  | (go_at_call 46;refine (Dz k ow _ _ rows (HT.o _)).mono ?_;rintro e w' ⟨rfl,rfl⟩)
  | (go_at_call 66;refine (fits_any k ow _ _ rows (HT.o _) _ _ _ _ hn).mono ?_;rintro e w2 ⟨rfl,hb2⟩))
 go_ret2
 exact ⟨rfl,Ac (Ab _ _) hb2⟩
set_option maxRecDepth 100000 in
set_option maxHeartbeats 400000 in
theorem pG (k:Nat) (ow:Own) (w:World) (t:Value) (rows:List ND) (h:Tab k ow w t rows) (kd l r:Int) (nm:ByteArray) (hn:nm.size≤maxLen) (hf:fits rows.length ⟨kd,nm,l,r⟩=0) (i:Nat) (hi:rows.idxOf? ⟨kd,nm,l,r⟩=some i) :
  Calls Tryz.prog 44 #[t,.agg #[.int .i64 kd,.string nm,.int .i64 l,.int .i64 r]] w fun e w'=>e = .returned (.tuple #[.int .i64 (i:Int),.int .i64 0])∧Below w.heap.size w w':=by
 have hT:∀ o,Tab k ow (w.alloc o) t rows:=fun o=>h.below (Ab _ _)
 have HT:=Aa hT;clear hT
 have hB:Boxed (w.alloc (.cells #[.int .i64 kd,.string nm,.int .i64 l,.int .i64 r] 31)) w.heap.size ⟨kd,nm,l,r⟩:=Gx w ⟨kd,nm,l,r⟩ _
 go_enter Tryz.func44,Tryz.ntmps44
 go_wp2_with (first
  | (go_at_call 46;refine (Dz k ow _ _ rows (HT.o _)).mono ?_;rintro e w' ⟨rfl,rfl⟩)
  | (go_at_call 66;refine (fits_any k ow _ _ rows (HT.o _) _ _ _ _ hn).mono ?_;rintro e w2 ⟨rfl,hb2⟩))
 have hB2:=hB.below hb2
 obtain ⟨c0,c1,c2,c3⟩:=hB2
 obtain ⟨pb,mb,v,rfl,⟨h1,h2,h3,h4,_⟩⟩:=(HT.o _).below hb2
 have c4:w2.cell? ⟨pb,1,none⟩=some (.map (some mb)):=cell_of h1 rfl
 obtain ⟨kl,hkl⟩:=Jm hf h4.le
 have hl:∀ nq,(Instr.lookup 106 (.map (some mb)) (.agg #[.int .i64 kd,.string nm,.int .i64 l,.int .i64 r]) true).run Tryz.prog (w2.drewN nq) = .ok (.tuple #[.int .i64 (i:Int),.bool true]) (w2.drewN nq):=fun nq=>
  TM.look_some (h3.below (below_drewN w2 nq)) Rq ND.val_inj Tryz.underlying106 hkl true hi
 clear h1 h2 h3 h4 hi hkl h hB
 go_quiet (fail)
 go_wp2
 go_ret2
 exact ⟨rfl,Ac (Ac (Ab _ _) hb2) (below_drewN _ _)⟩
set_option maxRecDepth 100000 in
set_option maxHeartbeats 400000 in
theorem rZ (k:Nat) (ow:Own) (w:World) (t:Value) (rows:List ND) (h:Tab k ow w t rows) (kd l r:Int) (nm:ByteArray) (hn:nm.size≤maxLen) (hf:fits rows.length ⟨kd,nm,l,r⟩=0) (hi:rows.idxOf? ⟨kd,nm,l,r⟩=none) (hl:1024≤rows.length) :
  Calls Tryz.prog 44 #[t,.agg #[.int .i64 kd,.string nm,.int .i64 l,.int .i64 r]] w fun e w'=>e = .returned (.tuple #[.int .i64 0,.int .i64 30])∧Below w.heap.size w w':=by
 have hT:∀ o,Tab k ow (w.alloc o) t rows:=fun o=>h.below (Ab _ _)
 have HT:=Aa hT;clear hT
 have hB:Boxed (w.alloc (.cells #[.int .i64 kd,.string nm,.int .i64 l,.int .i64 r] 31)) w.heap.size ⟨kd,nm,l,r⟩:=Gx w ⟨kd,nm,l,r⟩ _
 go_enter Tryz.func44,Tryz.ntmps44
 go_wp2_with (first
  | (go_at_call 46;refine (Dz k ow _ _ rows (HT.o _)).mono ?_;rintro e w' ⟨rfl,rfl⟩)
  | (go_at_call 66;refine (fits_any k ow _ _ rows (HT.o _) _ _ _ _ hn).mono ?_;rintro e w2 ⟨rfl,hb2⟩))
 have hB2:=hB.below hb2
 obtain ⟨c0,c1,c2,c3⟩:=hB2
 obtain ⟨pb,mb,v,rfl,⟨h1,h2,h3,h4,_⟩⟩:=(HT.o _).below hb2
 obtain ⟨a,c,rfl⟩:=Ba h2
 have c5:w2.cell? ⟨pb,0,none⟩=some (.slice a rows.length c):=cell_of h1 rfl
 have c4:w2.cell? ⟨pb,1,none⟩=some (.map (some mb)):=cell_of h1 rfl
 obtain ⟨kl,hkl⟩:=Jm hf h4.le
 have hz:∀ W,(zeroValue 3).run Tryz.prog W = .ok (.int .i64 0) W:=fun _=>by kernel_rfl
 have hll:∀ nq,(Instr.lookup 106 (.map (some mb)) (.agg #[.int .i64 kd,.string nm,.int .i64 l,.int .i64 r]) true).run Tryz.prog (w2.drewN nq) = .ok (.tuple #[.int .i64 0,.bool false]) (w2.drewN nq):=fun nq=>
  TM.look_none (h3.below (below_drewN w2 nq)) Rq ND.val_inj Tryz.underlying106 (hz _) hkl true hi
 clear h1 h2 h3 h4 hi hkl h hB hz
 go_quiet (fail)
 go_wp2
 go_ret2
 exact ⟨rfl,Ac (Ac (Ab _ _) hb2) (below_drewN _ _)⟩
structure Mid (k:Nat) (ow:Own) (w:World) (pb mb:Nat) (v:Value) (rows:List ND) (n:ND) (W:World):Prop where
 hp:W.heap[pb]? = some (.cells #[v,.map (some mb)] 108 (0,0))
 hr:W.ownsRow 0 31 4 v (rows.length+1) (As rows++n.cells)
 hm:TM Tryz.prog 31 ND.val Jq W mb (fun n=>rows.idxOf? n)
 bx:Boxed W w.heap.size n
 kp:Kept k ow w ow W
 cr:∀ g,v.ownBlock=some g→g<w.heap.size→ow g=k
theorem rB {k:Nat} {ow:Own} {w w3 w4:World} {pb mb g cap:Nat} {u:Value} {rows:List ND} {n:ND} {H:Nat} (hH:w.heap.size≤H)
  (lp:pb<w.heap.size) (lm:mb<w.heap.size) (hb:Below w.heap.size w w3) (lB:w.heap.size<w3.heap.size)
  (cp:ow pb=k) (_cm:ow mb=k) (cr:∀ g,u.ownBlock=some g→ow g=k) (lv:∀ g,u.ownBlock=some g→g<w.heap.size)
  (n1:u.ownBlock≠some pb) (n2:u.ownBlock≠some mb) (m1:w4.heap[pb]? = some (.cells #[u,.map (some mb)] 108 (0,0)))
  (m3:TM Tryz.prog 31 ND.val Jq w3 mb (fun n=>rows.idxOf? n)) (bx:Boxed w3 w.heap.size n)
  (hown:w4.ownsRow 0 31 4 (.slice (some ⟨g,0,none⟩) (rows.length+1) cap) (rows.length+1) (As rows++n.cells))
  (hat:u.ownBlock=some g∨g=H) (hg:w3.grownBy w4 u.ownBlock) :
  Mid k ow w pb mb (.slice (some ⟨g,0,none⟩) (rows.length+1) cap) rows n (w4.setCell ⟨pb,0,none⟩ (.slice (some ⟨g,0,none⟩) (rows.length+1) cap)):=by
 have n3:u.ownBlock≠some w.heap.size:=fun e=>by have:=lv _ e;omega
 have hsz:w.heap.size≤w3.heap.size:=hb.size
 have gp:g≠pb:=by
  rcases hat with h | h
  ·intro e;exact n1 (e▸h)
  ·omega
 have so:∀ b,b≠pb→(w4.setCell ⟨pb,0,none⟩ (.slice (some ⟨g,0,none⟩) (rows.length+1) cap)).heap[b]? = w4.heap[b]?:=fun b h=>Below.heap_setCell _ _ _ _ h
 have s2:∀ j,(w4.setCell ⟨pb,0,none⟩ (.slice (some ⟨g,0,none⟩) (rows.length+1) cap)).cell? ⟨w.heap.size,j,none⟩=w3.cell? ⟨w.heap.size,j,none⟩:=fun j=>
  (World.cell?_of_block (so _ (by show w.heap.size≠pb;omega))).trans (World.cell?_of_block (hg.block _ lB (Ne.symm n3)))
 refine ⟨?_,?_,?_,?_,?_,?_⟩
 ·exact Di m1 _
 ·refine ⟨hown.1,.inr ?_⟩
  rcases hown.2 with ⟨h,_⟩ | ⟨g',cap',cur,h,hb',hg',r⟩
  ·cases h
  ·cases h
   exact ⟨g,cap,cur,rfl,hb',(so g gp).trans hg',r⟩
 ·exact m3.same ((so mb (by
   intro e
   subst e
   obtain ⟨_,⟨es,clock,hes,_⟩,_⟩:=m3
   have:=(hg.block mb (by omega) (Ne.symm n1)).symm.trans m1
   rw [hes] at this
   cases this)).trans (hg.block mb (by omega) (Ne.symm n2)))
 ·exact ⟨(s2 0).trans bx.c0,(s2 1).trans bx.c1,(s2 2).trans bx.c2,(s2 3).trans bx.c3⟩
 ·exact ((hb.kept_ow).trans (Tu hg cr)).trans (Jb _ cp _)
 ·intro g' h hl
  cases h
  have hl':g<w.heap.size:=hl
  rcases hat with h | h
  ·exact cr _ h
  ·omega
theorem mid_end {k:Nat} {ow:Own} {w W W':World} {pb mb:Nat} {v:Value} {rows:List ND} {n:ND} (h:Mid k ow w pb mb v rows n W) (ok:Ok rows) (hf:fits rows.length n=0) (hi:rows.idxOf? n=none) (hl:rows.length<1024)
  (lp:pb<w.heap.size) (lm:mb<w.heap.size) (cp:ow pb=k) (cm:ow mb=k)
  (hm:TM Tryz.prog 31 ND.val Jq W' mb (upd (fun n=>rows.idxOf? n) n (some rows.length))) (ho:Only mb W.drew W') :
  ∃ ow',Kept k ow w ow' W'∧Tab k ow' W' (.pointer (some ⟨pb,0,none⟩)) (rows++[n]):=by
 have hne:pb≠mb:=by
  intro e;subst e
  obtain ⟨_,⟨es,clock,hes,_⟩,_⟩:=h.hm
  rw [h.hp] at hes;cases hes
 have nm:v.ownBlock≠some mb:=by
  obtain ⟨_,⟨es,clock,hes,_⟩,_⟩:=h.hm
  exact own_ne h.hr hes (by intro cur fr e;cases e)
 refine ⟨fun b=>if b<w.heap.size then ow b else k,((h.kp.trans (qX _ _ _)).trans (ho.kept cm)).recolour (fun b hb=>by simp [hb]),pb,mb,v,rfl,(ho.block pb hne).trans h.hp,?_,?_,ok.snoc hf hi (by omega),by simp [lp,cp],by simp [lm,cm],?_⟩
 ·have e:As (rows++[n])=As rows++n.cells:=by simp [As]
  rw [e,List.length_append]
  refine ⟨h.hr.1,?_⟩
  rcases h.hr.2 with h1 | ⟨g,cap,cur,rfl,hb,hg,r⟩
  ·exact .inl h1
  ·exact .inr ⟨g,cap,cur,rfl,hb,(ho.block g (fun e=>nm (by rw [e];rfl))).trans hg,r⟩
 ·have e:(fun x=>(rows++[n]).idxOf? x)=upd (fun n=>rows.idxOf? n) n (some rows.length):=by
   funext x
   rw [iC rows n x hi]
   by_cases hx:x=n
   ·subst hx;rw [upd_same,if_pos rfl]
   ·rw [Dw _ _ hx,if_neg hx]
  rw [e];exact hm
 ·intro g hg
  by_cases hgl:g<w.heap.size
  ·simp only [hgl,if_true];exact h.cr g hg hgl
  ·simp [hgl]
set_option maxRecDepth 100000 in
set_option maxHeartbeats 800000 in
theorem wU (k:Nat) (ow:Own) (w:World) (t:Value) (rows:List ND) (h:Tab k ow w t rows) (kd l r:Int) (nm:ByteArray) (hn:nm.size≤maxLen) (hf:fits rows.length ⟨kd,nm,l,r⟩=0) (hi:rows.idxOf? ⟨kd,nm,l,r⟩=none) (hl:rows.length<1024) :
  Calls Tryz.prog 44 #[t,.agg #[.int .i64 kd,.string nm,.int .i64 l,.int .i64 r]] w fun e w'=>e = .returned (.tuple #[.int .i64 (rows.length:Int),.int .i64 0])∧∃ ow',Kept k ow w ow' w'∧Tab k ow' w' t (rows++[⟨kd,nm,l,r⟩]):=by
 obtain ⟨pb,mb,v,rfl,ht⟩:=h
 have hT:∀ o,Tab k ow (w.alloc o) (.pointer (some ⟨pb,0,none⟩)) rows:=fun o=>⟨pb,mb,v,rfl,ht.below (Ab _ _)⟩
 have HT:=Aa hT;clear hT
 have lp:=lt_of_block ht.hp
 have lm:=ht.hm.lt
 have lv:∀ g,v.ownBlock=some g→g<w.heap.size:=fun g hg=>(ht.hr.lt g hg).2
 have LV:=Aa lv;clear lv
 have hB:Boxed (w.alloc (.cells #[.int .i64 kd,.string nm,.int .i64 l,.int .i64 r] 31)) w.heap.size ⟨kd,nm,l,r⟩:=Gx w ⟨kd,nm,l,r⟩ _
 go_enter Tryz.func44,Tryz.ntmps44
 go_wp2_with (first
  | (go_at_call 46;refine (Dz k ow _ _ rows (HT.o _)).mono ?_;rintro e w' ⟨rfl,rfl⟩)
  | (go_at_call 66;refine (fits_any k ow _ _ rows (HT.o _) _ _ _ _ hn).mono ?_;rintro e w2 ⟨rfl,hb2⟩))
 have hB2:=hB.below hb2
 obtain ⟨c0,c1,c2,c3⟩:=hB2
 obtain ⟨h1,h2,h3,h4,h5,h6,h7⟩:=(ht.below (Ab _ _)).below hb2
 have H7:=Aa h7;clear h7
 obtain ⟨a,c,rfl⟩:=Ba h2
 have c5:w2.cell? ⟨pb,0,none⟩=some (.slice a rows.length c):=cell_of h1 rfl
 have c4:w2.cell? ⟨pb,1,none⟩=some (.map (some mb)):=cell_of h1 rfl
 obtain ⟨kl,hkl⟩:=Jm hf h4.le
 have hz:∀ W,(zeroValue 3).run Tryz.prog W = .ok (.int .i64 0) W:=fun _=>by kernel_rfl
 have hll:∀ nq,(Instr.lookup 106 (.map (some mb)) (.agg #[.int .i64 kd,.string nm,.int .i64 l,.int .i64 r]) true).run Tryz.prog (w2.drewN nq) = .ok (.tuple #[.int .i64 0,.bool false]) (w2.drewN nq):=fun nq=>
  TM.look_none (h3.below (below_drewN w2 nq)) Rq ND.val_inj Tryz.underlying106 (hz _) hkl true hi
 have HI:=Aa hi
 have HK:=Aa hkl
 clear hi hkl ht hB hz
 go_quiet (fail)
 have hb3:Below w2.heap.size w2 (w2.drewN nq):=below_drewN w2 nq
 have k0:(w2.drewN nq).cell? ⟨w.heap.size,0,none⟩=some (.int .i64 kd):=c0
 have k1:(w2.drewN nq).cell? ⟨w.heap.size,1,none⟩=some (.string nm):=c1
 have k2:(w2.drewN nq).cell? ⟨w.heap.size,2,none⟩=some (.int .i64 l):=c2
 have k3:(w2.drewN nq).cell? ⟨w.heap.size,3,none⟩=some (.int .i64 r):=c3
 have k4:(w2.drewN nq).cell? ⟨pb,1,none⟩=some (.map (some mb)):=c4
 have k5:(w2.drewN nq).cell? ⟨pb,0,none⟩=some (.slice a rows.length c):=c5
 have m1:(w2.drewN nq).heap[pb]? = some (.cells #[.slice a rows.length c,.map (some mb)] 108 (0,0)):=h1
 have m2:(w2.drewN nq).ownsRow 0 31 4 (.slice a rows.length c) rows.length (As rows):=h2
 have m3:TM Tryz.prog 31 ND.val Jq (w2.drewN nq) mb (fun n=>rows.idxOf? n):=h3
 clear c0 c1 c2 c3 c4 c5 h1 h2 h3 hll
 have hb4:=Ac (Ac (Ab w _) hb2) hb3
 clear hb3 hb2
 generalize w2.drewN nq=w3 at *
 have h1024:¬ 1024≤(rows.length:Int):=by omega
 go_wp2
 obtain ⟨i0,hi0,hz0,hz1,hz2⟩:=info_parts Mc
 have n1:(Value.slice a rows.length c).ownBlock≠some pb:=own_ne m2 m1 (by intro cur fr e;cases e)
 have n2:(Value.slice a rows.length c).ownBlock≠some mb:=by
  obtain ⟨_,⟨es,clock,hes,_⟩,_⟩:=m3
  exact own_ne m2 hes (by intro cur fr e;cases e)
 have lB:w.heap.size<w3.heap.size:=World.block_lt_of_cell? w3 _ k0
 have n3:(Value.slice a rows.length c).ownBlock≠some w.heap.size:=fun e=>by have:=LV.o _ e;omega
 have N1:=Aa n1;have N2:=Aa n2;have N3:=Aa n3
 clear n1 n2 n3
 have l3:w.heap.size≤w3.heap.size:=hb4.size
 have lp3:pb<w3.heap.size:=by omega
 have lm3:mb<w3.heap.size:=by omega
 have H5:=Aa h5
 have H6:=Aa h6
 clear h5 h6
 go_region_law (refine step_append_lies _ rfl (.tmp 41) (.tmp 43) 22 rfl 0 31 i0 _ 4 40 Tryz.underlying22 hi0 hz0 hz1 hz2 rfl (by decide) _ rows.length (As rows) (by simp [Act.eval];rfl) (by exact m2.alloc _) ⟨w3.heap.size,0,none⟩ 1 1 (ND.cells ⟨kd,nm,l,r⟩) (by simp [Act.eval]) rfl (World.news_of_block (Cd _ _ rfl)) (by simp [ND.cells,Value.oneCell']) (by decide) (by unfold maxLen;omega) (by omega) (by simp) _ rfl ?_;intro g cap w4 hown hgrow hat hlt;have hgr:w3.grownBy w4 (Value.slice a rows.length c).ownBlock:=Qo hgrow;have q1:=(hgr.block pb (by omega) (Ne.symm N1.o)).trans m1;have q2:w4.cell? ⟨pb,0,none⟩=some (.slice a rows.length c):=cell_of q1 rfl;have q3:=Dt (i:=0) q1;have Q1:=Aa q1;clear q1 hgrow)
 all_goals
  have hM:=rB (Nat.le_of_lt (by simp;omega)) lp lm hb4 lB H5.o H6.o H7.o LV.o N1.o N2.o Q1.o m3 ⟨k0,k1,k2,k3⟩ hown hat hgr
  clear hown hat hgr q2 q3 Q1 k0 k1 k2 k3 k4 k5 m1 m2 m3 hlt
  generalize w4.setCell ⟨pb,0,none⟩ (.slice (some ⟨g,0,none⟩) (rows.length+1) cap)=w5 at *
  obtain ⟨w6,hrun,ht6,ho6⟩:=TM.put (w:=w5.drew) (hM.hm.below (below_drewN w5 1)) Rq ND.val_inj Tryz.underlying106 HK.o rows.length
  have k4:w5.cell? ⟨pb,1,none⟩=some (.map (some mb)):=cell_of hM.hp rfl
  obtain ⟨c0,c1,c2,c3⟩:=hM.bx
  have hfin:=mid_end hM h4 hf HI.o hl lp lm H5.o H6.o ht6 ho6
  have HF:=Aa hfin
  clear hM ht6 ho6 hfin
  have hrun':(Instr.mapUpdate 106 (.map (some mb)) (.agg #[.int .i64 kd,.string nm,.int .i64 l,.int .i64 r]) (.int .i64 (rows.length:Int))).run Tryz.prog w5.drew = .ok () w6:=hrun
  clear hrun
  go_wp2
  go_region
  go_wp2
  go_ret2
  exact ⟨rfl,HF.o⟩
theorem put_any (k:Nat) (ow:Own) (w:World) (t:Value) (rows:List ND) (h:Tab k ow w t rows) (kd l r:Int) (nm:ByteArray) (hn:nm.size≤maxLen) :
  Calls Tryz.prog 44 #[t,.agg #[.int .i64 kd,.string nm,.int .i64 l,.int .i64 r]] w fun e w'=>e = .returned (.tuple #[.int .i64 (put rows ⟨kd,nm,l,r⟩).id,.int .i64 (put rows ⟨kd,nm,l,r⟩).err])∧∃ ow',Kept k ow w ow' w'∧Tab k ow' w' t (put rows ⟨kd,nm,l,r⟩).rows:=by
 unfold put
 by_cases hf:fits rows.length ⟨kd,nm,l,r⟩=0
 ·rw [if_neg (by simpa using hf)]
  cases hi:rows.idxOf? ⟨kd,nm,l,r⟩ with
  | some i=>
   refine (pG k ow w t rows h kd l r nm hn hf i hi).mono ?_
   rintro e w' ⟨rfl,hb⟩
   exact ⟨rfl,ow,.of_below hb,h.below hb⟩
  | none=>
   by_cases hl:1024≤rows.length
   ·simp only [if_pos hl]
    refine (rZ k ow w t rows h kd l r nm hn hf hi hl).mono ?_
    rintro e w' ⟨rfl,hb⟩
    exact ⟨rfl,ow,.of_below hb,h.below hb⟩
   ·simp only [if_neg hl]
    exact wU k ow w t rows h kd l r nm hn hf hi (by omega)
 ·rw [if_pos (by simpa using hf)]
  refine (wJ k ow w t rows h kd l r nm hn (by simpa using hf)).mono ?_
  rintro e w' ⟨rfl,hb⟩
  exact ⟨rfl,ow,.of_below hb,h.below hb⟩
end Go.Dk
end
section
namespace Go.Dk
open Go.RowKit Go.Maps Go.MapKept
open Go.Proofs hiding intOf
theorem Zy:(⟨#[]⟩:ByteArray).size≤maxLen:=by unfold maxLen;show 0≤_;omega
def Ew (k:Nat) (ow:Own) (w:World) (t:Value) (p:Put) (e:Ending) (w':World):Prop:=
 e = .returned (.tuple #[.int .i64 p.id,.int .i64 p.err])∧∃ ow',Kept k ow w ow' w'∧Tab k ow' w' t p.rows
section
variable (k:Nat) (ow:Own) (w:World) (t:Value) (rows:List ND) (h:Tab k ow w t rows)
include h
set_option maxRecDepth 100000 in
theorem vW (a b:Int):Calls Tryz.prog 68 #[t,.int .i64 a,.int .i64 b] w (Ew k ow w t (put rows ⟨5,⟨#[]⟩,a,b⟩)):=by
 go_enter Tryz.func68,Tryz.ntmps68
 go_wp2_with (go_at_call 44;refine (put_any k ow _ _ rows h _ _ _ _ Zy).mono ?_;rintro e w' ⟨rfl,hq⟩)
 go_ret2
 exact ⟨rfl,hq⟩
set_option maxRecDepth 100000 in
theorem len_any:Calls Tryz.prog 31 #[t] w fun e w'=>e = .returned (.int .i64 (rows.length:Int))∧w=w':=by
 have h0:=h
 obtain ⟨pb,mb,v,rfl,⟨h1,h2,_⟩⟩:=h
 obtain ⟨a,c,rfl⟩:=Ba h2
 have c5:w.cell? ⟨pb,0,none⟩=some (.slice a rows.length c):=cell_of h1 rfl
 clear h1 h2
 go_enter Tryz.func31,Tryz.ntmps31
 go_wp2_with (go_at_call 46;refine (Dz k ow _ _ rows h0).mono ?_;rintro e w' ⟨rfl,rfl⟩)
 go_ret
 exact ⟨rfl,rfl⟩
end
theorem Ht {w:World} {base n:Nat} {e:TypeId} {size:Nat} {v:Value} {xs:List Value} (h:w.ownsRow base e size v n xs) (hn:0<n):∃ g c,v = .slice (some ⟨g,0,none⟩) n c∧g<w.heap.size∧∀ j u,xs[j]? = some u→w.cell? ⟨g,j,none⟩=some u:=by
 obtain ⟨g,c,rfl,_,hg⟩:=h.form hn
 refine ⟨g,c,rfl,hg,fun j u hu=>?_⟩
 have:=h.cells (g:=g) rfl j u hu
 rwa [show (⟨g,0,none⟩:Addr).add j=⟨g,j,none⟩ by unfold Addr.add;split<;>simp_all] at this
theorem Bm (rows:List ND) (i:Nat) (n:ND) (h:rows[i]? = some n) (j:Nat) (hj:j<4):(As rows)[i * 4+j]? = n.cells[j]?:=by
 induction rows generalizing i with
 | nil=>simp at h
 | cons a t ih=>
  cases i with
  | zero=>
   simp at h
   subst h
   simp only [As,List.flatMap_cons,Nat.zero_mul,Nat.zero_add]
   rw [List.getElem?_append_left (by simpa [ND.cells] using hj)]
  | succ i=>
   have:=ih i (by simpa using h)
   simp only [As,List.flatMap_cons] at this ⊢
   rw [List.getElem?_append_right (by simp [ND.cells];omega)]
   rw [← this]
   congr 1
   simp [ND.cells];omega
theorem TabAt.row {k:Nat} {ow:Own} {w:World} {pb mb:Nat} {v:Value} {rows:List ND} (h:TabAt k ow w pb mb v rows) (i:Nat) (n:ND) (hi:rows[i]? = some n) :
  ∃ g c,v = .slice (some ⟨g,0,none⟩) rows.length c∧g<w.heap.size∧ow g=k∧w.cell? ⟨g,i * 4,none⟩=some (.int .i64 n.kind)∧w.cell? ⟨g,i * 4+1,none⟩=some (.string n.name)∧w.cell? ⟨g,i * 4+2,none⟩=some (.int .i64 n.l)∧w.cell? ⟨g,i * 4+3,none⟩=some (.int .i64 n.r):=by
 have hl:=(List.getElem?_eq_some_iff.1 hi).1
 obtain ⟨g,c,rfl,hg,hc⟩:=Ht h.hr (by omega)
 exact ⟨g,c,rfl,hg,h.cr g rfl,hc _ _ (Bm rows i n hi 0 (by omega)),hc _ _ (Bm rows i n hi 1 (by omega)),hc _ _ (Bm rows i n hi 2 (by omega)),hc _ _ (Bm rows i n hi 3 (by omega))⟩
set_option maxRecDepth 100000 in
theorem Jl (k:Nat) (ow:Own) (w:World) (t:Value) (rows:List ND) (h:Tab k ow w t rows) (i:Nat) (n:ND) (hi:rows[i]? = some n) :
  Calls Tryz.prog 27 #[t,.int .i64 (i:Int)] w fun e w'=>e = .returned (.tuple #[.agg #[.int .i64 n.kind,.string n.name,.int .i64 n.l,.int .i64 n.r],.bool true])∧Below w.heap.size w w':=by
 have hlt:=(List.getElem?_eq_some_iff.1 hi).1
 have hb:hasB rows.length (i:Int)=true:=by simp [hasB,hlt]
 have hle:=h.ok.le
 have H:Hid (∀ o,Tab k ow (w.alloc o) t rows):=fun o=>h.below (Ab _ _)
 obtain ⟨pb,mb,v,rfl,ht⟩:=h
 obtain ⟨g,c,rfl,hg,_,c0,c1,c2,c3⟩:=ht.row i n hi
 have c5:w.cell? ⟨pb,0,none⟩=some (.slice (some ⟨g,0,none⟩) rows.length c):=cell_of ht.hp rfl
 have lp:=lt_of_block ht.hp
 clear ht hi
 go_enter Tryz.func27,Tryz.ntmps27
 go_wp2_with (first | (go_at_call 46;refine (Dz k ow _ _ rows (H.o _)).mono ?_;rintro e w' ⟨rfl,rfl⟩) | (go_at_call 47;refine (Nr k ow _ _ rows (H.o _) _).mono ?_;rintro e w' ⟨rfl,rfl⟩))
 refine bodyPost_ret (v:=.tuple #[.agg #[.int .i64 n.kind,.string n.name,.int .i64 n.l,.int .i64 n.r],.bool true]) (by simp [results,Tryz.results27,go_sem]) rfl ⟨rfl,Ab _ _⟩
set_option maxRecDepth 100000 in
theorem dF (k:Nat) (ow:Own) (w:World) (t:Value) (rows:List ND) (h:Tab k ow w t rows) (i:Int) (hb:hasB rows.length i=false) :
  Calls Tryz.prog 27 #[t,.int .i64 i] w fun e w'=>e = .returned (.tuple #[.agg #[.int .i64 0,.string ⟨#[]⟩,.int .i64 0,.int .i64 0],.bool false])∧Below w.heap.size w w':=by
 have H:Hid (∀ o,Tab k ow (w.alloc o) t rows):=fun o=>h.below (Ab _ _)
 clear h
 go_enter Tryz.func27,Tryz.ntmps27
 go_wp2_with (first | (go_at_call 46;refine (Dz k ow _ _ rows (H.o _)).mono ?_;rintro e w' ⟨rfl,rfl⟩) | (go_at_call 47;refine (Nr k ow _ _ rows (H.o _) _).mono ?_;rintro e w' ⟨rfl,rfl⟩))
 exact bodyPost_ret (v:=.tuple #[.agg #[.int .i64 0,.string ⟨#[]⟩,.int .i64 0,.int .i64 0],.bool false]) (by simp [results,Tryz.results27,go_sem]) rfl ⟨rfl,Ab _ _⟩
end Go.Dk
end
section
namespace Go.Dk
open Go.RowKit Go.Maps Go.MapKept
open Go.Proofs hiding intOf
theorem Og (rows:List ND):∀ y ∈ As rows,y.oneCell'=true:=by
 intro y hy
 obtain ⟨n,_,hy⟩:=List.mem_flatMap.1 hy
 simp only [ND.cells,List.mem_cons,List.not_mem_nil,or_false] at hy
 rcases hy with rfl | rfl | rfl | rfl<;>rfl
theorem aK (rows:List ND):(As rows).length=rows.length * 4:=by
 induction rows with
 | nil=>rfl
 | cons a t ih=>simp only [As,List.flatMap_cons,List.length_append,List.length_cons] at ih ⊢;rw [ih];simp [ND.cells];omega
set_option maxRecDepth 100000 in
theorem Yp (w:World) (v:Value) (rows:List ND) (hr:Rd w v rows.length 4 (As rows)) (hl:rows.length * 40≤140737488355328) :
  Calls Tryz.prog 60 #[v] w fun e w'=>∃ v',e = .returned v'∧w'.ownsRow w.heap.size 31 4 v' rows.length (As rows)∧Below w.heap.size w w':=by
 obtain ⟨a,c,rfl⟩:=hr.slice
 cases a with
 | none=>
  obtain ⟨⟨a,c',e,h1,_⟩,_⟩:=hr
  cases e
  obtain ⟨h0,rfl⟩:=h1 rfl
  have:rows = []:=List.eq_nil_of_length_eq_zero h0
  subst this
  have hn:=fun w=>Lib.run_eql_slice_nil (P:=Tryz.prog) w 22 _ none 0 0 0 0 Tryz.underlying22
  go_enter Tryz.func60,Tryz.ntmps60
  go_wp2
  go_ret
  exact ⟨_,rfl,World.ownsRow_nil _ _ _ _,Below.refl _ _⟩
 | some ad=>
  have hn:=fun w=>Lib.run_eql_slice_nil (P:=Tryz.prog) w 22 _ (some ad) rows.length c 0 0 Tryz.underlying22
  go_enter Tryz.func60,Tryz.ntmps60
  go_wp2_with (at_builtin;refine By rfl (.tmp 5) (.tmp 6) 22 rfl w.heap.size 31 _ 4 40 Tryz.underlying22 Mc rfl (by decide) (by decide) _ 0 [] rfl (World.ownsRow_made w _ 0 (Nat.le_refl _) (by decide) (by simp)) _ rows.length (As rows) rfl (hr.below (Ab _ _)) (Og rows) (by omega) (by simp) ?_;intro v' w1 hown hgrow hat hnil)
  go_ret
  exact ⟨_,rfl,by simpa using hown,((Below.refl _ _).alloc (Nat.le_refl _) _).grown hgrow (by simp) (by intro k hk;cases hk;exact Nat.le_refl _)⟩
set_option maxRecDepth 100000 in
theorem sE (k:Nat) (ow:Own) (w:World) (t:Value) (rows:List ND) (h:Tab k ow w t rows) :
  Calls Tryz.prog 38 #[t] w fun e w'=>∃ v',e = .returned v'∧w'.ownsRow w.heap.size 31 4 v' rows.length (As rows)∧Below w.heap.size w w':=by
 have H:=Aa h
 have hle:=h.ok.le
 obtain ⟨pb,mb,v,rfl,ht⟩:=h
 have hrd:Rd w v rows.length 4 (As rows):=Hv ht.hr
 obtain ⟨a,c,rfl⟩:=hrd.slice
 have c5:w.cell? ⟨pb,0,none⟩=some (.slice a rows.length c):=cell_of ht.hp rfl
 clear ht
 go_enter Tryz.func38,Tryz.ntmps38
 go_wp2_with (first
  | (go_at_call 46;refine (Dz k ow _ _ rows H.o).mono ?_;rintro e w' ⟨rfl,rfl⟩)
  | (go_at_call 60;refine (Yp _ _ rows hrd (by omega)).mono ?_;rintro e w' ⟨v',rfl,hown,hb⟩))
 go_ret
 exact ⟨_,rfl,hown,hb⟩
theorem wL {w:World} {mb:Nat} {f:ND→Option Nat} (h:TM Tryz.prog 31 ND.val Jq w mb f) (n:ND) (h1:∃ kl,keyOf Tryz.prog 31 n.val=some kl) :
  ∃ w',(Builtin.delete_ #[106,31] 0 #[.map (some mb),n.val]).run Tryz.prog w = .ok (.tuple #[]) w'∧TM Tryz.prog 31 ND.val Jq w' mb (upd f n none)∧Only mb w w':=by
 obtain ⟨kl,hkl⟩:=h1
 exact TM.del h Rq ND.val_inj Tryz.underlying106 hkl 0
set_option maxRecDepth 100000 in
theorem vM (k:Nat) (ow:Own) (w:World) (t:Value) (rows:List ND) (h:Tab k ow w t rows) (n:Int) (hn:n<0∨(rows.length:Int)<n) :
  Calls Tryz.prog 33 #[t,.int .i64 n] w fun e w'=>e = .returned (.int .i64 2)∧w=w':=by
 have H:=Aa h
 obtain ⟨pb,mb,v,rfl,ht⟩:=h
 obtain ⟨a,c,rfl⟩:=Ba ht.hr
 have c5:w.cell? ⟨pb,0,none⟩=some (.slice a rows.length c):=cell_of ht.hp rfl
 clear ht
 rcases hn with hn | hn
 ·go_enter Tryz.func33,Tryz.ntmps33
  go_wp2_with (go_at_call 46;refine (Dz k ow _ _ rows H.o).mono ?_;rintro e w' ⟨rfl,rfl⟩)
  go_ret
  exact ⟨rfl,rfl⟩
 ·have hn0:¬ n<0:=by omega
  go_enter Tryz.func33,Tryz.ntmps33
  go_wp2_with (go_at_call 46;refine (Dz k ow _ _ rows H.o).mono ?_;rintro e w' ⟨rfl,rfl⟩)
  go_ret
  exact ⟨rfl,rfl⟩
theorem nY {rows:List ND} (h:rows.Nodup) {n j:Nat} {x:ND} (hx:rows[n+j]? = some x):upd (aL rows n j) x none=aL rows n (j+1):=by
 funext y
 by_cases e:y=x
 ·subst e
  rw [upd_same]
  unfold aL
  rw [Md h hx]
  simp
 ·rw [Dw _ _ e]
  unfold aL
  cases hi:rows.idxOf? y with
  | none=>rfl
  | some i=>
   have hne:i≠n+j:=fun h2=>e (by
    have:=Ks hi
    rw [h2,hx] at this
    exact (Option.some.inj this).symm)
   simp only [Option.bind_some]
   congr 1
   rw [eq_iff_iff]
   omega
structure CutI (w W:World) (mb:Nat) (rows:List ND) (n j:Nat):Prop where
 g:w.grownBy W (some mb)
 m:TM Tryz.prog 31 ND.val Jq W mb (aL rows n j)
theorem CutI.step {w W w6:World} {mb:Nat} {rows:List ND} {n j:Nat} (h:CutI w W mb rows n j) (_hm:mb<w.heap.size) (hd:rows.Nodup) {x:ND} (hx:rows[n+j]? = some x) {o:Obj}
  (h1:TM Tryz.prog 31 ND.val Jq w6 mb (upd (aL rows n j) x none)) (h2:Only mb (W.alloc o).drew w6):CutI w w6 mb rows n (j+1):=by
 refine ⟨h.g.trans ⟨h2.os,h2.tape,h2.output,?_,fun k hk hne=>(h2.block k (fun e=>hne (by rw [e]))).trans (heap_alloc_old W o hk)⟩,nY hd hx▸h1⟩
 rw [h2.size];simp
theorem Qy (rows:List ND) (n:Nat):As (rows.take n)=(As rows).take (n * 4):=by
 induction rows generalizing n with
 | nil=>simp [As]
 | cons a t ih=>
  cases n with
  | zero=>simp [As]
  | succ n=>
   simp only [List.take_succ_cons,As,List.flatMap_cons] at ih ⊢
   rw [ih,show (n+1) * 4=a.cells.length+n * 4 by simp [ND.cells];omega,List.take_length_add_append]
theorem uZ {k:Nat} {ow:Own} {w W:World} {pb mb g c n:Nat} {rows:List ND} (ht:TabAt k ow w pb mb (.slice (some ⟨g,0,none⟩) rows.length c) rows) (hI:CutI w W mb rows n (rows.length - n)) (hn:n≤rows.length) (hpm:pb≠mb)
  (hp:W.heap[pb]? = some (.cells #[.slice (some ⟨g,0,none⟩) rows.length c,.map (some mb)] 108 (0,0))) :
  ∃ ow',Kept k ow w ow' (W.setCell ⟨pb,0,none⟩ (.slice (some ⟨g,0,none⟩) n c))∧Tab k ow' (W.setCell ⟨pb,0,none⟩ (.slice (some ⟨g,0,none⟩) n c)) (.pointer (some ⟨pb,0,none⟩)) (rows.take n):=by
 have hl:(rows.take n).length=n:=by simp;omega
 have gp:g≠pb:=fun e=>own_ne ht.hr ht.hp (by intro cur fr e;cases e) (by rw [e];rfl)
 have gm:g≠mb:=by
  intro e;subst e
  obtain ⟨_,⟨es,clock,hes,_⟩,_⟩:=ht.hm
  exact own_ne ht.hr hes (by intro cur fr e;cases e) rfl
 have so:∀ b,b≠pb→(W.setCell ⟨pb,0,none⟩ (.slice (some ⟨g,0,none⟩) n c)).heap[b]? = W.heap[b]?:=fun b h=>Below.heap_setCell _ _ _ _ h
 refine ⟨ow,(Tu hI.g (by intro b hb;cases hb;exact ht.cm)).trans (Jb _ ht.cp _),pb,mb,_,rfl,Di hp _,?_,?_,ht.ok.take n,ht.cp,ht.cm,fun b hb=>ht.cr b hb⟩
 ·rw [hl]
  rcases ht.hr.2 with ⟨h,_⟩ | ⟨g',cap,cur,h,h1,h2,h3,h4,h5,h6⟩
  ·cases h
  ·cases h
   refine ⟨by rw [aK,hl],.inr ⟨g,c,cur,rfl,h1,(so g gp).trans ((hI.g.block g (lt_of_block h2) (fun e=>gm (Option.some.inj e))).trans h2),by omega,h4,h5,?_⟩⟩
   rw [Qy,← h6,List.take_take]
   congr 1
   omega
 ·have:=hI.m
  rw [tP ht.ok.nodup n hn] at this
  exact this.same (so mb (Ne.symm hpm))
set_option maxRecDepth 100000 in
set_option maxHeartbeats 400000 in
theorem sU (k:Nat) (ow:Own) (w:World) (t:Value) (rows:List ND) (h:Tab k ow w t rows) (n:Nat) (hn:n<rows.length) :
  Calls Tryz.prog 33 #[t,.int .i64 (n:Int)] w fun e w'=>e = .returned (.int .i64 0)∧∃ ow',Kept k ow w ow' w'∧Tab k ow' w' t (rows.take n):=by
 have H:=Aa h
 have hle:=h.ok.le
 obtain ⟨pb,mb,v,rfl,ht⟩:=h
 obtain ⟨g,c,rfl,hg,hc⟩:=Ht ht.hr (by omega)
 have hcap:rows.length≤c:=by
  rcases ht.hr.2 with ⟨h,_⟩ | ⟨g',cap,cur,h,_,_,h2,_⟩
  ·cases h
  ·cases h;exact h2
 have hcn:¬ c=n:=by omega
 have hn0:decide ((n:Int)<0)=false:=by simp
 have hn1:¬ rows.length<n:=by omega
 have c5:w.cell? ⟨pb,0,none⟩=some (.slice (some ⟨g,0,none⟩) rows.length c):=cell_of ht.hp rfl
 have HT:=Aa ht
 have HC:=Aa hc
 clear ht hc
 go_enter Tryz.func33,Tryz.ntmps33
 go_wp2_with (go_at_call 46;refine (Dz k ow _ _ rows H.o).mono ?_;rintro e w' ⟨rfl,rfl⟩)
 go_loopw [6,30] (fun _ i W=>∃ j:Nat,j≤rows.length - n∧i = .int .i64 j∧CutI w W mb rows n j) (fun _ i _=>rows.length - (intOf i).toNat)
 case atStart=>exact ⟨0,by omega,rfl,⟨⟨rfl,rfl,rfl,Nat.le_refl _,fun _ _ _=>rfl⟩,(pZ rows n)▸HT.o.hm⟩⟩
 case round=>
  obtain ⟨j,hj,rfl,hI⟩:=hrel
  by_cases hlt:j<rows.length - n
  ·have hxl:n+j<rows.length:=by omega
   obtain ⟨x,hx⟩:∃ x,rows[n+j]? = some x:=⟨_,List.getElem?_eq_getElem hxl⟩
   have hgm:g≠mb:=by
    intro e;subst e
    obtain ⟨_,⟨es,clock,hes,_⟩,_⟩:=HT.o.hm
    exact own_ne HT.o.hr hes (by intro cur fr e;cases e) rfl
   have hcell:∀ i,wr.cell? ⟨g,i,none⟩=w.cell? ⟨g,i,none⟩:=fun i=>World.cell?_of_block (hI.g.block g hg (fun e=>hgm (Option.some.inj e)))
   have e4:(n+j) * 4=n * 4+j * 4:=by omega
   have d0:wr.cell? ⟨g,n * 4+j * 4,none⟩=some (.int .i64 x.kind):=by rw [hcell,← e4];exact HC.o _ _ (Bm rows _ x hx 0 (by omega))
   have d1:wr.cell? ⟨g,n * 4+j * 4+1,none⟩=some (.string x.name):=by rw [hcell,← e4];exact HC.o _ _ (Bm rows _ x hx 1 (by omega))
   have d2:wr.cell? ⟨g,n * 4+j * 4+2,none⟩=some (.int .i64 x.l):=by rw [hcell,← e4];exact HC.o _ _ (Bm rows _ x hx 2 (by omega))
   have d3:wr.cell? ⟨g,n * 4+j * 4+3,none⟩=some (.int .i64 x.r):=by rw [hcell,← e4];exact HC.o _ _ (Bm rows _ x hx 3 (by omega))
   have lp:=lt_of_block HT.o.hp
   have hpm:pb≠mb:=by
    intro e;subst e
    obtain ⟨_,⟨es,clock,hes,_⟩,_⟩:=HT.o.hm
    rw [HT.o.hp] at hes;cases hes
   have d4:wr.cell? ⟨pb,1,none⟩=some (.map (some mb)):=(World.cell?_of_block (hI.g.block pb lp (fun e=>hpm (Option.some.inj e)))).trans (cell_of HT.o.hp rfl)
   have lpr:pb<wr.heap.size:=Nat.lt_of_lt_of_le lp hI.g.size
   obtain ⟨w6,hrun,ht6,ho6⟩:=wL (w:=(wr.alloc (.cells #[.int .i64 x.kind,.string x.name,.int .i64 x.l,.int .i64 x.r] 31)).drew) (hI.m.below (Ab wr _).drew) x (Jm (HT.o.ok.fit _ _ hx) (by omega))
   have hI6:=hI.step HT.o.hm.lt HT.o.ok.nodup hx ht6 ho6
   have HI6:=Aa hI6
   have hrun':(Builtin.delete_ #[106,31] 0 #[.map (some mb),.agg #[.int .i64 x.kind,.string x.name,.int .i64 x.l,.int .i64 x.r]]).run Tryz.prog (wr.alloc (.cells #[.int .i64 x.kind,.string x.name,.int .i64 x.l,.int .i64 x.r] 31)).drew = .ok (.tuple #[]) w6:=hrun
   clear hI6 ht6 ho6 hI hx hcell hrun e4
   go_wp2
   go_region
   go_wp2
   exact ⟨⟨j+1,by omega,by go_num,HI6.o⟩,by simp [intOf];omega⟩
  ·have hjn:j=rows.length - n:=by omega
   subst hjn
   have lp:=lt_of_block HT.o.hp
   have hpm:pb≠mb:=by
    intro e;subst e
    obtain ⟨_,⟨es,clock,hes,_⟩,_⟩:=HT.o.hm
    rw [HT.o.hp] at hes;cases hes
   have d4:wr.heap[pb]? = some (.cells #[.slice (some ⟨g,0,none⟩) rows.length c,.map (some mb)] 108 (0,0)):=(hI.g.block pb lp (fun e=>hpm (Option.some.inj e))).trans HT.o.hp
   have d5:wr.cell? ⟨pb,0,none⟩=some (.slice (some ⟨g,0,none⟩) rows.length c):=cell_of d4 rfl
   have d6:=Dt (i:=0) d4
   have hfin:=uZ HT.o hI (by omega) hpm d4
   have HF:=Aa hfin
   clear hI d4 hfin
   go_wp2
   go_ret
   exact ⟨rfl,HF.o⟩
set_option maxRecDepth 100000 in
set_option maxHeartbeats 400000 in
theorem wC (k:Nat) (ow:Own) (w:World) (t:Value) (rows:List ND) (h:Tab k ow w t rows) :
  Calls Tryz.prog 33 #[t,.int .i64 (rows.length:Int)] w fun e w'=>e = .returned (.int .i64 0)∧∃ ow',Kept k ow w ow' w'∧Tab k ow' w' t rows:=by
 have H:=Aa h
 have hle:=h.ok.le
 obtain ⟨pb,mb,v,rfl,ht⟩:=h
 have hfin:∃ ow',Kept k ow w ow' (w.setCell ⟨pb,0,none⟩ v)∧Tab k ow' (w.setCell ⟨pb,0,none⟩ v) (.pointer (some ⟨pb,0,none⟩)) rows:=by
  have hp:(w.setCell ⟨pb,0,none⟩ v).heap[pb]? = w.heap[pb]?:=by rw [Di ht.hp,ht.hp];simp
  have hsame:∀ b,(w.setCell ⟨pb,0,none⟩ v).heap[b]? = w.heap[b]?:=fun b=>by
   by_cases e:b=pb
   ·rw [e];exact hp
   ·exact Below.heap_setCell _ _ _ _ e
  exact ⟨ow,Jb w ht.cp v,pb,mb,v,rfl,ht.below ⟨rfl,rfl,rfl,by simp,fun b _=>hsame b⟩⟩
 have HF:=Aa hfin
 clear hfin
 have c5:w.cell? ⟨pb,0,none⟩=some v:=cell_of ht.hp rfl
 have c6:=Dt (i:=0) ht.hp
 have hn0:decide ((rows.length:Int)<0)=false:=by simp
 have hr:=ht.hr
 clear ht
 rcases hr.2 with ⟨rfl,h0⟩ | ⟨g,c,cur,rfl,_,_,hcap,_⟩
 ·have h0':rows = []:=List.eq_nil_of_length_eq_zero h0
  subst h0'
  go_enter Tryz.func33,Tryz.ntmps33
  go_wp2_with (go_at_call 46;refine (Dz k ow _ _ _ H.o).mono ?_;rintro e w' ⟨rfl,rfl⟩)
  refine wp_loop_rounds 1 ?_
  rw [rounds_succ]
  go_wp2
  go_ret
  exact ⟨rfl,HF.o⟩
 ·clear hr
  by_cases hcn:c=rows.length
  ·subst hcn
   go_enter Tryz.func33,Tryz.ntmps33
   go_wp2_with (go_at_call 46;refine (Dz k ow _ _ _ H.o).mono ?_;rintro e w' ⟨rfl,rfl⟩)
   refine wp_loop_rounds 1 ?_
   rw [rounds_succ]
   go_wp2
   go_ret
   exact ⟨rfl,HF.o⟩
  ·go_enter Tryz.func33,Tryz.ntmps33
   go_wp2_with (go_at_call 46;refine (Dz k ow _ _ _ H.o).mono ?_;rintro e w' ⟨rfl,rfl⟩)
   refine wp_loop_rounds 1 ?_
   rw [rounds_succ]
   go_wp2
   go_ret
   exact ⟨rfl,HF.o⟩
def Rz (rows:List ND) (n:Int):Int × List ND:=if 0≤n∧n≤rows.length then (0,rows.take n.toNat) else (2,rows)
theorem cQ (k:Nat) (ow:Own) (w:World) (t:Value) (rows:List ND) (h:Tab k ow w t rows) (n:Int) :
  Calls Tryz.prog 33 #[t,.int .i64 n] w fun e w'=>e = .returned (.int .i64 (Rz rows n).1)∧∃ ow',Kept k ow w ow' w'∧Tab k ow' w' t (Rz rows n).2:=by
 unfold Rz
 by_cases hn:0≤n∧n≤rows.length
 ·rw [if_pos hn]
  obtain ⟨m,rfl⟩:=Int.eq_ofNat_of_zero_le hn.1
  by_cases hm:m<rows.length
  ·exact sU k ow w t rows h m hm
  ·have:m=rows.length:=by omega
   subst this
   simp only [Int.toNat_natCast,List.take_length]
   exact wC k ow w t rows h
 ·rw [if_neg hn]
  refine (vM k ow w t rows h n (by omega)).mono ?_
  rintro e w' ⟨rfl,rfl⟩
  exact ⟨rfl,ow,.refl _ _ _,h⟩
end Go.Dk
end
section
namespace Go.Dk
open Go.RowKit Go.Maps Go.MapKept
open Go.Proofs hiding intOf
theorem Tab.recolour {k k2:Nat} {ow ow2:Own} {w:World} {t:Value} {rows:List ND} (h:Tab k ow w t rows) (hc:∀ b,ow b=k→ow2 b=k2):Tab k2 ow2 w t rows:=by
 obtain ⟨pb,mb,v,rfl,⟨h1,h2,h3,h4,h5,h6,h7⟩⟩:=h
 exact ⟨pb,mb,v,rfl,h1,h2,h3,h4,hc _ h5,hc _ h6,fun g hg=>hc _ (h7 g hg)⟩
def owC (w:World):Own:=fun b=>if b<w.heap.size then 0 else 1
theorem Ky {w w':World} {ow':Own} (h:Kept 1 (owC w) w ow' w'):Below w.heap.size w w':=h.below (Nat.le_refl _) (by intro b hb;simp [owC,hb])
structure CopyI (w W:World) (c:Value) (rows:List ND) (j:Nat):Prop where
 ex:∃ ow',Tab 1 ow' W c (rows.take j)∧Kept 1 (owC w) w ow' W
theorem CopyI.bel {w W:World} {c:Value} {rows:List ND} {j:Nat} (h:CopyI w W c rows j):Below w.heap.size w W:=by
 obtain ⟨ow',_,hk⟩:=h
 exact hk.below (Nat.le_refl _) (by intro b hb;simp [owC,hb])
theorem jQ {rows:List ND} (hd:rows.Nodup) {j:Nat} {x:ND} (hx:rows[j]? = some x):(rows.take j).idxOf? x=none:=by
 refine List.idxOf?_eq_none_iff.2 fun hm=>?_
 obtain ⟨i,hi⟩:=List.mem_iff_getElem?.1 hm
 rw [List.getElem?_take] at hi
 split at hi
 ·have h1:=Md hd hi
  have h2:=Md hd hx
  rw [h1] at h2
  cases h2
  omega
 ·cases hi
set_option maxRecDepth 100000 in
set_option maxHeartbeats 800000 in
theorem rP (k:Nat) (ow:Own) (w:World) (t:Value) (rows:List ND) (h:Tab k ow w t rows) (k2:Nat) :
  Calls Tryz.prog 48 #[t] w fun e w'=>∃ c ow',e = .returned c∧Tab k2 ow' w' c rows∧Kept k2 ow w ow' w'∧Below w.heap.size w w':=by
 have H:=Aa h
 have hok:=h.ok
 have hle:=hok.le
 obtain ⟨pb,mb,v,rfl,ht⟩:=h
 have hrd:=Hv ht.hr
 obtain ⟨a,c,rfl⟩:=hrd.slice
 have lp:=lt_of_block ht.hp
 have HT:=Aa ht
 clear ht hrd
 go_enter Tryz.func48,Tryz.ntmps48
 go_wp2_with (first
  | (go_at_call 46;refine (Dz k ow _ _ rows H.o).mono ?_;rintro e w' ⟨rfl,rfl⟩)
  | (go_at_call 43;refine (new_any 1 (owC w) w).mono ?_;rintro e w1 ⟨tc,ow1,rfl,ht1,hk1,hb1⟩;have c5:w1.cell? ⟨pb,0,none⟩=some (.slice a rows.length c):=(hb1.cell (p:=⟨pb,0,none⟩) lp).trans (cell_of HT.o.hp rfl)))
 have HI0:Hid (CopyI w w1 tc rows 0):=⟨ow1,by simpa using ht1,hk1⟩
 obtain ⟨pc,mc,vc,rfl,hat1⟩:=ht1
 clear hat1 hk1 hb1
 go_loopw [4,5,15] (fun _ _ i W=>∃ j:Nat,j≤rows.length∧i = .int .i64 j∧CopyI w W (.pointer (some ⟨pc,0,none⟩)) rows j) (fun _ _ i _=>rows.length - (intOf i).toNat)
 case atStart=>exact ⟨0,by omega,rfl,HI0.o⟩
 case round=>
  obtain ⟨j,hj,rfl,hI⟩:=hrel
  by_cases hlt:j<rows.length
  ·obtain ⟨x,hx⟩:∃ x,rows[j]? = some x:=⟨_,List.getElem?_eq_getElem hlt⟩
   obtain ⟨rs,hrs⟩:∃ rs,rs=rows.take j:=⟨_,rfl⟩
   obtain rfl:rs.length=j:=by rw [hrs];simp;omega
   have hlen:(rows.take rs.length).length=rs.length:=by rw [← hrs]
   obtain ⟨g,c',hv,hg,hc⟩:=Ht HT.o.hr (by omega)
   cases hv
   have hbl:=hI.bel
   have d0:wr.cell? ⟨g,rs.length * 4,none⟩=some (.int .i64 x.kind):=(hbl.cell (p:=⟨g,rs.length * 4,none⟩) hg).trans (hc _ _ (Bm rows _ x hx 0 (by omega)))
   have d1:wr.cell? ⟨g,rs.length * 4+1,none⟩=some (.string x.name):=(hbl.cell (p:=⟨g,rs.length * 4+1,none⟩) hg).trans (hc _ _ (Bm rows _ x hx 1 (by omega)))
   have d2:wr.cell? ⟨g,rs.length * 4+2,none⟩=some (.int .i64 x.l):=(hbl.cell (p:=⟨g,rs.length * 4+2,none⟩) hg).trans (hc _ _ (Bm rows _ x hx 2 (by omega)))
   have d3:wr.cell? ⟨g,rs.length * 4+3,none⟩=some (.int .i64 x.r):=(hbl.cell (p:=⟨g,rs.length * 4+3,none⟩) hg).trans (hc _ _ (Bm rows _ x hx 3 (by omega)))
   have hI':=hI
   obtain ⟨ow',⟨pc',mc',vc',hpe,htc⟩,hkc⟩:=hI
   cases hpe
   have HJ:=Aa hI'
   obtain ⟨a',c'',rfl⟩:=Ba htc.hr
   rw [← hrs] at htc
   have e5:wr.cell? ⟨pc,0,none⟩=some (.slice a' rs.length c''):=cell_of htc.hp rfl
   have e4:wr.cell? ⟨pc,1,none⟩=some (.map (some mc')):=cell_of htc.hp rfl
   have lpc:=lt_of_block htc.hp
   have m2:=htc.hr
   obtain ⟨i0,hi0,hz0,hz1,hz2⟩:=info_parts Mc
   have hq:∀ W,Below wr.heap.size wr W→W.heap[pc]? = some (.cells #[.slice a' rs.length c'',.map (some mc')] 108 (0,0)):=fun W hb=>(hb.block pc lpc).trans htc.hp
   have n1:(Value.slice a' rs.length c'').ownBlock≠some pc:=own_ne m2 htc.hp (by intro cur fr e;cases e)
   have HQ:=Aa hq
   have HC:=Aa htc
   have HX:=Aa hx
   have HK:=Aa hkc
   have N1:=Aa n1
   have HRS:=Aa hrs
   have HLN:=Aa hlen
   have lmc:=htc.hm.lt
   have hlo:rs.length≤1024:=by omega
   clear hq htc hx hkc hc hI' n1 hbl hrs hlen
   have hb4:Below wr.heap.size wr (wr.alloc (.cells #[.int .i64 x.kind,.string x.name,.int .i64 x.l,.int .i64 x.r] 31)):=Ab wr _
   have hbx:Boxed (wr.alloc (.cells #[.int .i64 x.kind,.string x.name,.int .i64 x.l,.int .i64 x.r] 31)) wr.heap.size x:=Gx wr x _
   have lB:wr.heap.size<(wr.alloc (.cells #[.int .i64 x.kind,.string x.name,.int .i64 x.l,.int .i64 x.r] 31)).heap.size:=by simp
   go_wp2
   generalize hw3:wr.alloc (.cells #[.int .i64 x.kind,.string x.name,.int .i64 x.l,.int .i64 x.r] 31)=w3 at *
   clear hw3 d0 d1 d2 d3
   obtain ⟨k0,k1,k2',k3⟩:=hbx
   have ht3:=HC.o.below hb4
   have k4:w3.cell? ⟨pc,1,none⟩=some (.map (some mc')):=cell_of ht3.hp rfl
   have k5:w3.cell? ⟨pc,0,none⟩=some (.slice a' rs.length c''):=cell_of ht3.hp rfl
   have m1:=ht3.hr
   have lp3:pc<w3.heap.size:=lt_of_block ht3.hp
   have HT3:=Aa ht3
   have HB4:=Aa hb4
   clear ht3 hb4 e4 e5 m2
   go_region_law (refine step_append_lies _ rfl (.tmp 24) (.tmp 26) 22 rfl 0 31 i0 _ 4 40 Tryz.underlying22 hi0 hz0 hz1 hz2 rfl (by decide) _ rs.length (As rs) (by simp [Act.eval];rfl) (by exact m1.alloc _) ⟨w3.heap.size,0,none⟩ 1 1 (ND.cells x) (by simp [Act.eval]) rfl (World.news_of_block (Cd _ _ rfl)) (by simp [ND.cells,Value.oneCell']) (by decide) (by unfold maxLen;omega) (by omega) (by simp) _ rfl ?_;intro g cap w4 hown hgrow hat hlt;have hgr:w3.grownBy w4 (Value.slice a' rs.length c'').ownBlock:=Qo hgrow;have q1:=(hgr.block pc lp3 (Ne.symm N1.o)).trans HT3.o.hp;have q2:w4.cell? ⟨pc,0,none⟩=some (.slice a' rs.length c''):=cell_of q1 rfl;have q3:=Dt (i:=0) q1;have Q1:=Aa q1;clear q1 hgrow)
   all_goals
    have hM:=rB (Nat.le_of_lt (by simp;omega)) lpc lmc HB4.o lB HC.o.cp HC.o.cm HC.o.cr (fun g hg=>(HC.o.hr.lt g hg).2) N1.o (by
     obtain ⟨_,⟨es,clock,hes,_⟩,_⟩:=HC.o.hm
     exact own_ne HC.o.hr hes (by intro cur fr e;cases e)) Q1.o HT3.o.hm ⟨k0,k1,k2',k3⟩ hown hat hgr
    clear hown hat hgr q2 q3 Q1 k0 k1 k2' k3 k4 k5 m1 HT3 HB4
    generalize w4.setCell ⟨pc,0,none⟩ (.slice (some ⟨g,0,none⟩) (rs.length+1) cap)=w5 at *
    have hxr:rs.idxOf? x=none:=by rw [HRS.o];exact jQ hok.nodup HX.o
    have hfx:fits rs.length x=0:=hok.fit _ _ HX.o
    obtain ⟨kl,hkl⟩:=Jm hfx (by omega)
    obtain ⟨w6,hrun,ht6,ho6⟩:=TM.put (w:=w5.drew) (hM.hm.below (below_drewN w5 1)) Rq ND.val_inj Tryz.underlying106 hkl rs.length
    have k4:w5.cell? ⟨pc,1,none⟩=some (.map (some mc')):=cell_of hM.hp rfl
    obtain ⟨c0,c1,c2,c3⟩:=hM.bx
    have hfin:=mid_end hM HC.o.ok hfx hxr (by omega) lpc lmc HC.o.cp HC.o.cm ht6 ho6
    have HF:Hid (CopyI w w6 (.pointer (some ⟨pc,0,none⟩)) rows (rs.length+1)):=by
     obtain ⟨ow6,hk6,ht6⟩:=hfin
     refine ⟨ow6,?_,HK.o.trans hk6⟩
     have:rows.take (rs.length+1)=rs++[x]:=by
      rw [List.take_add_one,← HRS.o,HX.o];rfl
     rw [this];exact ht6
    have hrun':(Instr.mapUpdate 106 (.map (some mc')) (.agg #[.int .i64 x.kind,.string x.name,.int .i64 x.l,.int .i64 x.r]) (.int .i64 (rs.length:Int))).run Tryz.prog w5.drew = .ok () w6:=hrun
    clear hM ht6 ho6 hfin hrun hkl hxr hfx
    go_wp2
    go_region
    go_wp2
    exact ⟨⟨rs.length+1,by omega,by go_num,HF.o⟩,by simp [intOf];omega⟩
  ·have hjn:j=rows.length:=by omega
   subst hjn
   have hfin:∃ ow',Tab k2 ow' wr (.pointer (some ⟨pc,0,none⟩)) rows∧Kept k2 ow w ow' wr∧Below w.heap.size w wr:=by
    have hb:=hI.bel
    obtain ⟨ow',htc,hkc⟩:=hI
    rw [List.take_length] at htc
    refine ⟨fun b=>if b<w.heap.size then ow b else k2,htc.recolour (fun b hb=>?_),⟨hb.os,hb.tape,hb.output,hb.size,fun b hb=>by simp [hb],fun b hl _=>hb.block b hl⟩,hb⟩
    by_cases hl:b<w.heap.size
    ·have:=hkc.own b hl
     rw [hb] at this
     simp [owC,hl] at this
    ·simp [hl]
   have HF:=Aa hfin
   clear hI hfin
   go_wp2
   go_ret
   obtain ⟨ow',h1,h2,h3⟩:=HF.o
   exact ⟨_,ow',rfl,h1,h2,h3⟩
end Go.Dk
end
section
namespace Go.Dk
open Go.RowKit Go.Maps Go.MapKept
open Go.Proofs hiding intOf
abbrev FP:=Nat→Prop
def FP.or (F G:FP):FP:=fun b=>F b∨G b
def FP.in_ (F:FP) (w:World):Prop:=∀ b,F b→b<w.heap.size
def FP.apart (F G:FP):Prop:=∀ b,F b→¬ G b
def FP.none:FP:=fun _=>False
theorem FP.apart.symm {F G:FP} (h:F.apart G):G.apart F:=fun b hg hf=>h b hf hg
theorem FP.in_.below {F:FP} {w w':World} (h:F.in_ w) (hb:Below w.heap.size w w'):F.in_ w':=fun b hf=>Nat.lt_of_lt_of_le (h b hf) hb.size
structure KeptF (F:FP) (w:World) (F':FP) (w':World):Prop where
 os:w'.os=w.os
 tape:w'.tape=w.tape
 output:w'.output=w.output
 size:w.heap.size≤w'.heap.size
 sub:∀ b,b<w.heap.size→F' b→F b
 lt:F'.in_ w'
 block:∀ b,b<w.heap.size→¬ F b→w'.heap[b]? = w.heap[b]?
theorem KeptF.refl {F:FP} {w:World} (h:F.in_ w):KeptF F w F w:=⟨rfl,rfl,rfl,Nat.le_refl _,fun _ _ h=>h,h,fun _ _ _=>rfl⟩
theorem KeptF.trans {F F1 F2:FP} {w w1 w2:World} (h:KeptF F w F1 w1) (g:KeptF F1 w1 F2 w2):KeptF F w F2 w2:=
 ⟨g.os.trans h.os,g.tape.trans h.tape,g.output.trans h.output,Nat.le_trans h.size g.size,
  fun b hb hf=>h.sub b hb (g.sub b (Nat.lt_of_lt_of_le hb h.size) hf),g.lt,
  fun b hb hn=>(g.block b (Nat.lt_of_lt_of_le hb h.size) (fun hf=>hn (h.sub b hb hf))).trans (h.block b hb hn)⟩
theorem KeptF.of_below {F:FP} {w w':World} (hF:F.in_ w) (h:Below w.heap.size w w'):KeptF F w F w':=
 ⟨h.os,h.tape,h.output,h.size,fun _ _ h=>h,hF.below h,fun b hb _=>h.block b hb⟩
theorem KeptF.below {F F':FP} {w w':World} (h:KeptF F w F' w') {B:Nat} (hB:B≤w.heap.size) (hn:∀ b,b<B→¬ F b):Below B w w':=
 ⟨h.os,h.tape,h.output,h.size,fun b hb=>h.block b (Nat.lt_of_lt_of_le hb hB) (hn b hb)⟩
theorem KeptF.beside {F F' G:FP} {w w':World} (h:KeptF F w F' w') (hG:G.in_ w):KeptF (F.or G) w (F'.or G) w':=
 ⟨h.os,h.tape,h.output,h.size,fun b hb hf=>hf.imp (h.sub b hb) id,fun b hf=>hf.elim (h.lt b) (fun hg=>Nat.lt_of_lt_of_le (hG b hg) h.size),fun b hb hn=>h.block b hb (fun hf=>hn (.inl hf))⟩
theorem KeptF.apart {F F' G:FP} {w w':World} (h:KeptF F w F' w') (hG:G.in_ w) (ha:F.apart G):F'.apart G:=fun b hf hg=>ha b (h.sub b (hG b hg) hf) hg
theorem KeptF.cell {F F':FP} {w w':World} (h:KeptF F w F' w') {a:Addr} {v:Value} (c:w.cell? a=some v) (hn:¬ F a.block):w'.cell? a=some v:=by
 have hb:=h.block a.block (World.block_lt_of_cell? _ _ c) hn
 unfold World.cell? at *
 simp only [hb]
 exact c
theorem KeptF.rd {F F':FP} {w w':World} (h:KeptF F w F' w') {v:Value} {n size:Nat} {xs:List Value} (hr:Rd w v n size xs) (hn:∀ a m c,v = .slice (some a) m c→¬ F a.block):Rd w' v n size xs:=by
 obtain ⟨⟨a,c,e,h1,h2⟩,hl⟩:=hr
 exact ⟨⟨a,c,e,h1,fun ad ha=>⟨(h2 ad ha).1,fun j u hu=>h.cell ((h2 ad ha).2 j u hu) (hn ad _ _ (by rw [e,ha]))⟩⟩,hl⟩
theorem KeptF.box {F F':FP} {w w':World} (h:KeptF F w F' w') {b:Nat} {o:Obj} (c:w.heap[b]? = some o) (hn:¬ F b):w'.heap[b]? = some o:=(h.block b (lt_of_block c) hn).trans c
def Cm (F:FP) (w:World) (t:Value) (rows:List ND):Prop:=F.in_ w∧∃ k ow,Tab k ow w t rows∧∀ b,b<w.heap.size→ow b=k→F b
theorem Cm.in_ {F:FP} {w:World} {t:Value} {rows:List ND} (h:Cm F w t rows):F.in_ w:=h.1
theorem Cm.ok {F:FP} {w:World} {t:Value} {rows:List ND} (h:Cm F w t rows):Ok rows:=by
 obtain ⟨_,k,ow,h,_⟩:=h
 exact h.ok
theorem Tab.recLt {k k2:Nat} {ow ow2:Own} {w:World} {t:Value} {rows:List ND} (h:Tab k ow w t rows) (hc:∀ b,b<w.heap.size→ow b=k→ow2 b=k2):Tab k2 ow2 w t rows:=by
 obtain ⟨pb,mb,v,rfl,h⟩:=h
 exact ⟨pb,mb,v,rfl,h.hp,h.hr,h.hm,h.ok,hc _ (lt_of_block h.hp) h.cp,hc _ h.hm.lt h.cm,fun g hg=>hc _ (h.hr.lt g hg).2 (h.cr g hg)⟩
open Classical in
noncomputable def Vi (F:FP) (k:Nat):Own:=fun b=>if F b then k else k+1
theorem gR {F:FP} {k b:Nat} (h:F b):Vi F k b=k:=by unfold Vi;rw [if_pos h]
theorem Ik {F:FP} {k b:Nat}:Vi F k b=k↔F b:=by
 unfold Vi
 split
 ·simp [*]
 ·simp [*]
theorem mX {F:FP} {k b:Nat} (h:¬ F b):Vi F k b=k+1:=by unfold Vi;rw [if_neg h]
theorem Cm.col {F:FP} {w:World} {t:Value} {rows:List ND} (h:Cm F w t rows) (k:Nat):Tab k (Vi F k) w t rows:=by
 obtain ⟨_,k0,ow,h,hc⟩:=h
 exact h.recLt (fun b hb e=>gR (hc b hb e))
theorem Cm.of_tab {k:Nat} {ow:Own} {w:World} {t:Value} {rows:List ND} (h:Tab k ow w t rows):Cm (fun b=>b<w.heap.size∧ow b=k) w t rows:=
 ⟨fun _ hb=>hb.1,k,ow,h,fun _ hb e=>⟨hb,e⟩⟩
theorem Cm.below {F:FP} {w w':World} {t:Value} {rows:List ND} (h:Cm F w t rows) (hb:Below w.heap.size w w'):Cm F w' t rows:=
 ⟨h.1.below hb,0,_,(h.col 0).below hb,fun _ _ e=>Ik.1 e⟩
theorem Cm.kept {F G G':FP} {w w':World} {t:Value} {rows:List ND} (h:Cm F w t rows) (hk:KeptF G w G' w') (ha:F.apart G):Cm F w' t rows:=by
 refine ⟨fun b hf=>Nat.lt_of_lt_of_le (h.1 b hf) hk.size,0,_,(h.col 0).kept (c:=1) (ow':=Vi F 0) ⟨hk.os,hk.tape,hk.output,hk.size,fun _ _=>rfl,fun b hb hn=>hk.block b hb fun hg=>hn (mX fun hf=>ha b hf hg)⟩ (by decide),fun _ _ e=>Ik.1 e⟩
theorem Cm.lift {P:Program} {fid:FuncId} {args:Array Value} {F:FP} {w:World} {t:Value} {rows:List ND} (h:Cm F w t rows) {E:Ending→Prop} {rows':List ND}
  (hc:∀ k ow,Tab k ow w t rows→Calls P fid args w fun e w'=>E e∧∃ ow',Kept k ow w ow' w'∧Tab k ow' w' t rows') :
  Calls P fid args w fun e w'=>E e∧∃ F',KeptF F w F' w'∧Cm F' w' t rows':=by
 refine (hc 0 _ (h.col 0)).mono ?_
 rintro e w' ⟨he,ow',hk,ht⟩
 exact ⟨he,fun b=>b<w'.heap.size∧ow' b=0,⟨hk.os,hk.tape,hk.output,hk.size,fun b hb hf=>Ik.1 ((hk.own b hb).symm.trans hf.2),fun b hf=>hf.1,fun b hb hn=>hk.block b hb fun e=>hn (Ik.1 e)⟩,fun b hf=>hf.1,0,ow',ht,fun b hb e=>⟨hb,e⟩⟩
def rE (F:FP) (w:World) (t:Value) (p:Put) (e:Ending) (w':World):Prop:=
 e = .returned (.tuple #[.int .i64 p.id,.int .i64 p.err])∧∃ F',KeptF F w F' w'∧Cm F' w' t p.rows
theorem yX {F:FP} {w:World} {t:Value} {rows:List ND} (h:Cm F w t rows) (a b:Int):Calls Tryz.prog 68 #[t,.int .i64 a,.int .i64 b] w (rE F w t (put rows ⟨5,⟨#[]⟩,a,b⟩)):=
 h.lift fun k ow ht=>vW k ow w t rows ht a b
theorem mM {F:FP} {w:World} {t:Value} {rows:List ND} (h:Cm F w t rows) (n:Int):Calls Tryz.prog 33 #[t,.int .i64 n] w fun e w'=>e = .returned (.int .i64 (Rz rows n).1)∧∃ F',KeptF F w F' w'∧Cm F' w' t (Rz rows n).2:=
 h.lift fun k ow ht=>cQ k ow w t rows ht n
theorem zK {F:FP} {w:World} {t:Value} {rows:List ND} (h:Cm F w t rows) (kd l r:Int) (nm:ByteArray) (hs:nm.size≤maxLen):Calls Tryz.prog 44 #[t,.agg #[.int .i64 kd,.string nm,.int .i64 l,.int .i64 r]] w (rE F w t (put rows ⟨kd,nm,l,r⟩)):=
 h.lift fun k ow ht=>put_any k ow w t rows ht _ _ _ _ hs
theorem tC {F:FP} {w:World} {t:Value} {rows:List ND} (h:Cm F w t rows):Calls Tryz.prog 48 #[t] w fun e w'=>∃ c F',e = .returned c∧Cm F' w' c rows∧(∀ b,F' b→w.heap.size≤b)∧Below w.heap.size w w':=by
 refine (rP 0 _ w t rows (h.col 0) 2).mono ?_
 rintro e w' ⟨c,ow',rfl,ht,hk,hb⟩
 refine ⟨c,fun b=>b<w'.heap.size∧ow' b=2,rfl,⟨fun b hf=>hf.1,2,ow',ht,fun b hb e=>⟨hb,e⟩⟩,fun b hf=>?_,hb⟩
 apply Classical.byContradiction
 intro hn
 have h1:=hk.own b (by omega)
 rw [hf.2] at h1
 unfold Vi at h1
 split at h1<;>omega
end Go.Dk
end
section
namespace Go.Proofs
open Go.Shelf
def Tryz.lays189_ren:Go.Shelf.Ren:=⟨fun | 189=>89 | 125=>116 | 257=>115 | 128=>137 | 129=>138 | 294=>128 | 295=>129 | 296=>130 | 297=>131 | 298=>132 | 299=>133 | 216=>134 | 300=>135 | 301=>136 | 328=>143 | 329=>144 | 330=>145 | 331=>146 | 332=>147 | 215=>148 | 343=>149 | n=>n,fun | 28=>23 | 3=>3 | 46=>140 | 0=>0 | 51=>213 | 53=>75 | 4=>4 | 183=>206 | 182=>205 | 131=>125 | 5=>5 | 9=>9 | 218=>217 | 222=>221 | 228=>223 | 229=>51 | n=>n,fun | n=>n⟩
theorem Tryz.lays189:Go.Proofs.Lays.n189 Tryz.prog Tryz.lays189_ren:={
 mixed:=by kernel_rfl
 f125:=Tryz.func116.trans (congrArg some (by kernel_rfl))
 f128:=Tryz.func137.trans (congrArg some (by kernel_rfl))
 f129:=Tryz.func138.trans (congrArg some (by kernel_rfl))
 f189:=Tryz.func89.trans (congrArg some (by kernel_rfl))
 f215:=Tryz.func148.trans (congrArg some (by kernel_rfl))
 f216:=Tryz.func134.trans (congrArg some (by kernel_rfl))
 f257:=Tryz.func115.trans (congrArg some (by kernel_rfl))
 f294:=Tryz.func128.trans (congrArg some (by kernel_rfl))
 f295:=Tryz.func129.trans (congrArg some (by kernel_rfl))
 f296:=Tryz.func130.trans (congrArg some (by kernel_rfl))
 f297:=Tryz.func131.trans (congrArg some (by kernel_rfl))
 f298:=Tryz.func132.trans (congrArg some (by kernel_rfl))
 f299:=Tryz.func133.trans (congrArg some (by kernel_rfl))
 f300:=Tryz.func135.trans (congrArg some (by kernel_rfl))
 f301:=Tryz.func136.trans (congrArg some (by kernel_rfl))
 f328:=Tryz.func143.trans (congrArg some (by kernel_rfl))
 f329:=Tryz.func144.trans (congrArg some (by kernel_rfl))
 f330:=Tryz.func145.trans (congrArg some (by kernel_rfl))
 f331:=Tryz.func146.trans (congrArg some (by kernel_rfl))
 f332:=Tryz.func147.trans (congrArg some (by kernel_rfl))
 f343:=Tryz.func149.trans (congrArg some (by kernel_rfl))
 t0:=Tryz.underlying0
 a0:=Tryz.isAgg0
 z0:=Tryz.sizeOf0
 v0:=Tryz.zeroValue0
 t3:=Tryz.underlying3
 a3:=Tryz.isAgg3
 z3:=Tryz.sizeOf3
 v3:=Tryz.zeroValue3
 t4:=Tryz.underlying4
 a4:=Tryz.isAgg4
 z4:=Tryz.sizeOf4
 v4:=Tryz.zeroValue4
 t5:=Tryz.underlying5
 a5:=Tryz.isAgg5
 z5:=Tryz.sizeOf5
 v5:=Tryz.zeroValue5
 t9:=Tryz.underlying9
 a9:=Tryz.isAgg9
 z9:=Tryz.sizeOf9
 v9:=Tryz.zeroValue9
 t28:=Tryz.underlying23
 a28:=Tryz.isAgg23
 z28:=Tryz.sizeOf23
 v28:=Tryz.zeroValue23
 t46:=Tryz.underlying140
 a46:=Tryz.isAgg140
 z46:=Tryz.sizeOf140
 v46:=Tryz.zeroValue140
 t51:=Tryz.underlying213
 a51:=Tryz.isAgg213
 z51:=Tryz.sizeOf213
 v51:=Tryz.zeroValue213
 t53:=Tryz.underlying75
 a53:=Tryz.isAgg75
 z53:=Tryz.sizeOf75
 v53:=Tryz.zeroValue75
 t131:=Tryz.underlying125
 a131:=Tryz.isAgg125
 z131:=Tryz.sizeOf125
 v131:=Tryz.zeroValue125
 t182:=Tryz.underlying205
 a182:=Tryz.isAgg205
 z182:=Tryz.sizeOf205
 v182:=Tryz.zeroValue205
 t183:=Tryz.underlying206
 a183:=Tryz.isAgg206
 z183:=Tryz.sizeOf206
 v183:=Tryz.zeroValue206
 t218:=Tryz.underlying217
 a218:=Tryz.isAgg217
 z218:=Tryz.sizeOf217
 v218:=Tryz.zeroValue217
 t222:=Tryz.underlying221
 a222:=Tryz.isAgg221
 z222:=Tryz.sizeOf221
 v222:=Tryz.zeroValue221
 t228:=Tryz.underlying223
 a228:=Tryz.isAgg223
 z228:=Tryz.sizeOf223
 v228:=Tryz.zeroValue223
 t229:=Tryz.underlying51
 a229:=Tryz.isAgg51
 z229:=Tryz.sizeOf51
 v229:=Tryz.zeroValue51 }
open Go.Sort Go.RowKit in
theorem Tryz.slices_Sort_int (blk off cap:Nat) (zs:List Int) (w:World) (hH:Holds (Value.int .i64) w blk off zs.toArray) (hblk:blk<w.heap.size) (hsz:zs.length<4611686018427387904) :
 Calls Tryz.prog 89 #[.slice (some ⟨blk,off,none⟩) zs.length cap] w fun e w'=>
  e = .returned (.tuple #[])∧∃ n os,w'=grow (putRow (Value.int .i64) (Sort.ahead w n) blk off (zs.mergeSort fun x y=>decide (x≤y)).toArray) os:=Any.slices_Sort_int Tryz.lays189 blk off cap zs w hH hblk hsz
open Go.RowKit Go.Sort in
theorem Tryz.slices_Sort_int_none (p:Option Addr) (cap:Nat) (w:World) :
 Calls Tryz.prog 89 #[.slice p 0 cap] w fun e w'=>e = .returned (.tuple #[])∧w'=w:=Any.slices_Sort_int_none Tryz.lays189 p cap w
end Go.Proofs
end
section
namespace Go.Dk
open Go.RowKit Go.Maps Go.MapKept
open Go.Proofs hiding intOf
theorem Sr {α β:Type} (f:α→β) {l:List α} (h:(l.map f).Nodup) {a b:α} (ha:a ∈ l) (hb:b ∈ l) (e:f a=f b):a=b:=by
 obtain ⟨i,hi,rfl⟩:=List.getElem_of_mem ha
 obtain ⟨j,hj,rfl⟩:=List.getElem_of_mem hb
 have:=(List.getElem_inj h (h₀:=by simpa using hi) (h₁:=by simpa using hj)).1 (by simpa using e)
 subst this;rfl
def Rng {κ ν:Type} (P:Program) (k:TypeId) (ek:κ→Value) (ev:ν→Value) (w:World) (b r:Nat) (f:κ→Option ν) (done:List κ):Prop:=
 ∃ es clock,∃ l:List (κ × ν),∃ since c0 seen,w.heap[b]? = some (.map es clock)∧Stamped es clock∧(es.toList.map fun e=>(e.key,e.val))=(l.map fun p=>(ek p.1,ev p.2))∧(∀ e ∈ es.toList,∃ q,keyOf P k e.key=some q) ∧
  (l.map (·.1)).Nodup∧(∀ x v,f x=some v↔(x,v) ∈ l)∧w.heap[r]? = some (.mapIter (some b) since seen c0)∧(∀ x ∈ es.toList,x.born<since)∧since≤c0∧since≤clock ∧
  (∀ e ∈ es.toList,seen.contains e.born=true↔∃ x ∈ done,e.key=ek x)∧done.Nodup∧∀ x ∈ done,(f x).isSome=true
section
variable {κ ν:Type} {P:Program} {k:TypeId} {ek:κ→Value} {ev:ν→Value} {w:World} {b r:Nat} {f:κ→Option ν} {done:List κ}
theorem Rng.tm (h:Rng P k ek ev w b r f done):TM P k ek ev w b f:=by
 obtain ⟨es,clock,l,since,c0,seen,h1,h2,h3,h4,h5,h6,_⟩:=h
 exact ⟨l,⟨es,clock,h1,h2,h3,h4⟩,h5,h6⟩
theorem Rng.ltr (h:Rng P k ek ev w b r f done):r<w.heap.size:=by
 obtain ⟨es,clock,l,since,c0,seen,h1,h2,h3,h4,h5,h6,h7,_⟩:=h
 exact lt_of_block h7
theorem Rng.same {w':World} (h:Rng P k ek ev w b r f done) (e1:w'.heap[b]? = w.heap[b]?) (e2:w'.heap[r]? = w.heap[r]?):Rng P k ek ev w' b r f done∧w'.rangeLeft b r=w.rangeLeft b r:=by
 obtain ⟨es,clock,l,since,c0,seen,h1,h2,h3,h4,h5,h6,h7,h8⟩:=h
 exact ⟨⟨es,clock,l,since,c0,seen,e1.trans h1,h2,h3,h4,h5,h6,e2.trans h7,h8⟩,by simp [World.rangeLeft,e1,e2]⟩
theorem tX {ops:Array Oper} {rest:List Oper} {o:Oper} {a:Act} {Q:Exit→Act→World→Prop} (h:TM P k ek ev w b f) (hg:o.guard=none) (m:Operand) (t e:TypeId) (hop:o.op=Op.range t m) (ht:P.underlying t=some (.map k e))
  (hm:a.eval m = .map (some b))
  (hK:∀ w',Rng P k ek ev w' b w.heap.size f []→Below w.heap.size w w'→wpList P ops Q rest (a.put o.dst (.pointer (some ⟨w.heap.size,0,none⟩))) w'):wpList P ops Q (o::rest) a w:=by
 refine wpList_plain hg fun K' hK'=>?_
 have hlt:=h.lt
 obtain ⟨l,⟨es,clock,h1,h2,h3,h4⟩,h5,h6⟩:=h
 have hrun:(Instr.range t (.map (some b))).run P w = .ok (.pointer (some ⟨w.heap.size,0,none⟩)) (w.alloc (.mapIter (some b) clock #[] clock)):=by
  simp [Instr.range,run_underlying ht,MapKept.run_getObj_map h1,Result.andThen]
 unfold Oper.wp
 simp [execOp,hop,hm,hrun,Result.andThen]
 refine hK' _ _ (hK _ ⟨es,clock,l,clock,clock,#[],?_,h2,h3,h4,h5,h6,heap_alloc_new w _,fun x hx=>h2.1 x hx,Nat.le_refl _,Nat.le_refl _,?_,List.nodup_nil,by simp⟩ (Ab _ _))
 ·exact (heap_alloc_old w _ hlt).trans h1
 ·simp
theorem wP {ops:Array Oper} {rest:List Oper} {o:Oper} {a:Act} {Q:Exit→Act→World→Prop} (h:Rng P k ek ev w b r f done) (inj:∀ x y,ek x=ek y→x=y) (hg:o.guard=none) (it:Operand) (hop:o.op=Op.next it false) (hit:a.eval it = .pointer (some ⟨r,0,none⟩))
  (hDone:(∀ x,(f x).isSome=true→x ∈ done)→wpList P ops Q rest (a.put o.dst (.tuple #[.bool false])) w)
  (hMore:∀ x v w',f x=some v→x ∉ done→Rng P k ek ev w' b r f (x::done)→w.grownBy w' (some r)→w'.rangeLeft b r<w.rangeLeft b r →
   (Instr.entry (.pointer (some ⟨r,0,none⟩))).run P w' = .ok (.tuple #[ek x,ev v]) w'→wpList P ops Q rest (a.put o.dst (.tuple #[.bool true,ek x,ev v])) w'):wpList P ops Q (o::rest) a w:=by
 refine wpList_plain hg fun K' hK'=>?_
 obtain ⟨es,clock,l,since,c0,seen,h1,h2,h3,h4,h5,h6,h7,h8,h9,h9',h10,h11,h12⟩:=h
 have hbr:b≠r:=by intro e;subst e;rw [h1] at h7;cases h7
 have key_of:∀ e ∈ es.toList,∃ x v,(x,v) ∈ l∧e.key=ek x∧e.val=ev v:=fun e he=>by
  have:(e.key,e.val) ∈ l.map fun p=>(ek p.1,ev p.2):=by rw [← h3];exact List.mem_map.2 ⟨e,he,rfl⟩
  obtain ⟨⟨x,v⟩,hm,e1⟩:=List.mem_map.1 this
  simp only [Prod.mk.injEq] at e1
  exact ⟨x,v,hm,e1.1.symm,e1.2.symm⟩
 have of_key:∀ x v,(x,v) ∈ l→∃ e ∈ es.toList,e.key=ek x∧e.val=ev v:=fun x v hm=>by
  have:(ek x,ev v) ∈ es.toList.map fun e=>(e.key,e.val):=by rw [h3];exact List.mem_map.2 ⟨(x,v),hm,rfl⟩
  obtain ⟨e,he,e1⟩:=List.mem_map.1 this
  simp only [Prod.mk.injEq] at e1
  exact ⟨e,he,e1.1,e1.2⟩
 unfold Oper.wp
 rcases run_next_at (P:=P) w o.type r b since c0 seen es clock h7 h1 h8 h9 with ⟨h0,hrun⟩ | ⟨e,he,w1,hw1,hrun⟩
 ·simp [execOp,hop,hit,hrun,Result.andThen]
  refine hK' _ _ (hDone fun x hx=>?_)
  obtain ⟨v,hv⟩:=Option.isSome_iff_exists.1 hx
  obtain ⟨e,he,ek1,_⟩:=of_key x v ((h6 x v).1 hv)
  obtain ⟨y,hy,e2⟩:=(h10 e he).1 (all_seen es seen h0 e he)
  rwa [inj _ _ (ek1.symm.trans e2)]
 ·obtain ⟨hes,hns⟩:=mem_left he
  obtain ⟨x,v,hm,ek1,ev1⟩:=key_of e hes
  have hw1b:∀ c:Nat,w1.heap[c]? = w.heap[c]?:=by rcases hw1 with rfl | rfl<;>exact fun _=>rfl
  have hw1s:w1.heap.size=w.heap.size:=by rcases hw1 with rfl | rfl<;>rfl
  have hrl:r<w1.heap.size:=by rw [hw1s];exact lt_of_block h7
  have hsb:∀ o',(Go.ChangeMaps.setBlock w1 r o')=setB w1 r o':=fun _=>rfl
  rw [hsb] at hrun
  have hxn:x ∉ done:=fun hd=>by
   have:=(h10 e hes).2 ⟨x,hd,ek1⟩
   rw [hns] at this;cases this
  have hb':(setB w1 r (.mapIter (some b) since (seen.push e.born) clock)).heap[b]? = some (.map es clock):=by rw [Tn hbr,hw1b];exact h1
  have hr':(setB w1 r (.mapIter (some b) since (seen.push e.born) clock)).heap[r]? = some (.mapIter (some b) since (seen.push e.born) clock):=Ph hrl
  simp [execOp,hop,hit,hrun,Result.andThen]
  rw [ek1,ev1]
  refine hK' _ _ (hMore x v _ ((h6 x v).2 hm) hxn ⟨es,clock,l,since,clock,seen.push e.born,hb',h2,h3,h4,h5,h6,hr',h8,h9',h9',?_,List.nodup_cons.2 ⟨hxn,h11⟩,?_⟩ ?_ ?_ ?_)
  ·intro e' he'
   rw [Array.contains_push]
   constructor
   ·intro hc
    simp only [Bool.or_eq_true,beq_iff_eq] at hc
    rcases hc with hc | hc
    ·obtain ⟨y,hy,e1⟩:=(h10 e' he').1 hc
     exact ⟨y,List.mem_cons_of_mem _ hy,e1⟩
    ·have e2:=Sr (fun e:MapEntry=>e.born) h2.2.1 he' hes hc
     exact ⟨x,by simp,by rw [e2,ek1]⟩
   ·rintro ⟨y,hy,e1⟩
    rcases List.mem_cons.1 hy with rfl | hy
    ·have e2:=Sr (fun e:MapEntry=>e.key) h2.2.2 he' hes (e1.trans ek1.symm)
     simp [e2]
    ·rw [(h10 e' he').2 ⟨y,hy,e1⟩];rfl
  ·intro y hy
   rcases List.mem_cons.1 hy with rfl | hy
   ·rw [(h6 _ v).2 hm];rfl
   ·exact h12 y hy
  ·refine ⟨?_,?_,?_,?_,?_⟩
   ·rcases hw1 with rfl | rfl<;>rfl
   ·rcases hw1 with rfl | rfl<;>rfl
   ·rcases hw1 with rfl | rfl<;>rfl
   ·simp [setB,hw1s]
   ·intro c _ hc
    rw [Tn (fun e1=>hc (by rw [e1]))];exact hw1b c
  ·simp only [World.rangeLeft,hb',hr',h1,h7]
   exact left_shrinks es seen e he
  ·have:=run_entry_at (P:=P) _ r b since seen es clock e hr' hb' hes h2.2.1
   rw [this,ek1,ev1]
end
def ints (zs:List Int):List Value:=zs.map (Value.int .i64)
theorem eE (w:World) (base n:Nat) (v:Value) (zs:List Int) (hb:base≤w.heap.size) (h:w.ownsRow base 3 1 v n (ints zs)) (hl:n<4611686018427387904) :
  Calls Tryz.prog 89 #[v] w fun e w'=>e = .returned (.tuple #[])∧w'.ownsRow base 3 1 v n (ints (zs.mergeSort fun x y=>decide (x≤y)))∧w.grownBy w' v.ownBlock:=by
 have hn:zs.length=n:=by have:=h.1;simpa [ints] using this
 rcases h.2 with ⟨rfl,h0⟩ | ⟨g,cap,cur,rfl,hbg,hg,h1,h2,h3,h4⟩
 ·subst h0
  have:zs = []:=List.eq_nil_of_length_eq_zero hn
  subst this
  refine (Tryz.slices_Sort_int_none none 0 w).mono ?_
  rintro e w' ⟨rfl,rfl⟩
  exact ⟨rfl,by simpa using h,⟨rfl,rfl,rfl,Nat.le_refl _,fun _ _ _=>rfl⟩⟩
 ·subst hn
  refine (Tryz.slices_Sort_int g 0 cap zs w (holds_of_blockI hg (by simpa [ints] using h4)) (lt_of_block hg) hl).mono ?_
  rintro e w' ⟨rfl,m,os,rfl⟩
  refine ⟨rfl,?_,grownBy_sortedI _⟩
  exact ownsRow_sortedI (List.length_mergeSort _) hbg hg h1 h2 h3
end Go.Dk
end
section
namespace Go.Dk
open Go.RowKit Go.Maps Go.MapKept
open Go.Proofs hiding intOf
theorem ints_at {w:World} {v:Value} {n:Nat} {zs:List Int} (h:Rd w v n 1 (ints zs)) {k:Nat} (hk:k<n):∃ b o c z,v = .slice (some ⟨b,o,none⟩) n c∧w.cell? ⟨b,o+k,none⟩=some (.int .i64 z)∧zs[k]? = some z:=by
 have hl:zs.length=n:=by have:=h.len;simpa [ints] using this
 obtain ⟨b,o,c,rfl,hc⟩:=h.some (by omega)
 obtain ⟨z,hz⟩:∃ z,zs[k]? = some z:=⟨_,List.getElem?_eq_getElem (by omega)⟩
 exact ⟨b,o,c,z,rfl,hc k _ (by simp [ints,hz]),hz⟩
theorem iO {w:World} {v:Value} {n:Nat} {zs:List Int} (h:Rd w v n 1 (ints zs)):zs.length=n:=by have:=h.len;simpa [ints] using this
theorem Oa (w:World) (cs:Array Value) (e:TypeId) {n size:Nat} {xs:List Value} (h:cs.toList=xs) (hl:xs.length=n * size):Rd (w.alloc (.cells cs e)) (.slice (some ⟨w.heap.size,0,none⟩) n n) n size xs:=by
 subst h
 refine ⟨⟨_,_,rfl,fun h=>by (cases h),fun ad ha=>?_⟩,hl⟩
 cases ha
 refine ⟨fun _=>rfl,fun j u hu=>?_⟩
 rw [World.cell?_alloc_at _ _ _ _ rfl]
 simpa using hu
theorem cB {zs ys:List Int} {k:Nat} {z:Int} (h:zs.take k=ys.take k) (h1:zs[k]? = some z) (h2:ys[k]? = some z):zs.take (k+1)=ys.take (k+1):=by
 rw [List.take_add_one,List.take_add_one,h,h1,h2]
set_option maxRecDepth 100000 in
set_option maxHeartbeats 400000 in
theorem eG (w:World) (v u:Value) (n m:Nat) (xs ys:List Int) (hn:n≤maxLen) (hx:Rd w v n 1 (ints xs)) (hy:Rd w u m 1 (ints ys)) :
  Calls Tryz.prog 20 #[v,u] w fun e w'=>e = .returned (.bool (decide (xs=ys)))∧Below w.heap.size w w':=by
 unfold maxLen at hn
 have hlx:=iO hx
 have hly:=iO hy
 obtain ⟨a,c,rfl⟩:=hx.slice
 obtain ⟨a',c',rfl⟩:=hy.slice
 by_cases hnm:n=m
 ·subst hnm
  have HX:=Aa hx;have HY:=Aa hy;have LX:=Aa hlx;have LY:=Aa hly
  clear hx hy hlx hly
  go_enter Tryz.func20,Tryz.ntmps20
  go_wp2
  go_loopw [5] (fun i W=>∃ k:Nat,k≤n∧i = .int .i64 k∧xs.take k=ys.take k∧Below w.heap.size w W) (fun i _=>n - (intOf i).toNat)
  case atStart=>exact ⟨0,Nat.zero_le _,rfl,rfl,Below.refl _ _⟩
  case round=>
   obtain ⟨k,hk,rfl,ht,hb⟩:=hrel
   have HT:=Aa ht
   clear ht
   by_cases hlt:k<n
   ·obtain ⟨b,o,c1,z,e1,hc1,hz⟩:=ints_at (HX.o.below hb) hlt
    obtain ⟨b',o',c1',z',e1',hc1',hz'⟩:=ints_at (HY.o.below hb) hlt
    cases e1;cases e1'
    have HZ:=Aa hz;have HZ':=Aa hz'
    have hki:(k:Int)<(n:Int):=by omega
    clear hz hz'
    by_cases hzz:z=z'
    ·subst hzz
     go_wp2
     go_quiet (fail)
     go_wp2
     exact ⟨⟨k+1,by omega,by go_num,cB HT.o HZ.o HZ'.o,hb.trans ((below_drewN wr nq).mono hb.size)⟩,by simp [intOf];omega⟩
    ·have hzb:(z != z')=true:=by simp [hzz]
     have HNE:Hid (decide (xs=ys)=false):=by
      rw [Hid,decide_eq_false_iff_not]
      intro e;subst e
      have h1:=HZ.o;have h2:=HZ'.o
      rw [h1] at h2;cases h2;exact hzz rfl
     go_wp2
     go_quiet (fail)
     go_wp2
     go_ret
     exact ⟨Ce HNE.o.symm,hb.trans ((below_drewN wr nq).mono hb.size)⟩
   ·have HEQ:Hid (decide (xs=ys)=true):=by
     rw [Hid,decide_eq_true_eq]
     have:=HT.o
     rwa [List.take_of_length_le (by rw [LX.o];omega),List.take_of_length_le (by rw [LY.o];omega)] at this
    go_wp2
    go_ret
    exact ⟨Ce HEQ.o.symm,hb⟩
 ·have hb:((n:Int) != (m:Int))=true:=by simp;omega
  have HNE:Hid (decide (xs=ys)=false):=by
   rw [Hid,decide_eq_false_iff_not]
   intro e;subst e;omega
  clear hx hy hlx hly
  go_enter Tryz.func20,Tryz.ntmps20
  go_wp2
  go_ret
  exact ⟨Ce HNE.o.symm,Below.refl _ _⟩
end Go.Dk
end
section
namespace Go.Dk
structure KM where
 W:Type
 le:W→W→Prop
 refl:∀ w,le w w
 trans:∀ {u v w},le u v→le v w→le u w
 tr:W→ByteArray→Prop
 mono:∀ {v w s},le v w→tr v s→tr w s
def frc (M:KM):M.W→Fm→Prop
 | w,.atom s=>M.tr w s
 | _,.bot=>False
 | w,.and a b=>frc M w a∧frc M w b
 | w,.or a b=>frc M w a∨frc M w b
 | w,.imp a b=>∀ v,M.le w v→frc M v a→frc M v b
theorem Hj {M:KM} {v w:M.W} (h:M.le v w):∀ {f:Fm},frc M v f→frc M w f
 | .atom _,hf=>M.mono h hf
 | .bot,hf=>hf
 | .and _ _,hf=>⟨Hj h hf.1,Hj h hf.2⟩
 | .or _ _,hf=>hf.elim (fun x=>.inl (Hj h x)) (fun x=>.inr (Hj h x))
 | .imp _ _,hf=>fun u hu ha=>hf u (M.trans h hu) ha
abbrev FS:=Fm→Prop
def Hl (M:KM) (w:M.W) (Γ:FS):Prop:=∀ f,Γ f→frc M w f
def Fz (Γ:FS) (g:Fm):Prop:=∀ (M:KM) (w:M.W),Hl M w Γ→frc M w g
def Fj (Γ:FS) (g:Fm):Prop:=∃ (M:KM) (w:M.W),Hl M w Γ∧¬ frc M w g
theorem fJ {Γ:FS} {g:Fm} (h:Fz Γ g) (r:Fj Γ g):False:=by
 obtain ⟨M,w,h1,h2⟩:=r;exact h2 (h M w h1)
def wo (Γ:FS) (m:Fm):FS:=fun f=>Γ f∧f≠m
def wi (Γ:FS) (a:Fm):FS:=fun f=>Γ f∨f=a
theorem Ec {M:KM} {w:M.W} {Γ:FS} {a:Fm}:Hl M w (wi Γ a)↔Hl M w Γ∧frc M w a:=
 ⟨fun h=>⟨fun f hf=>h f (.inl hf),h a (.inr rfl)⟩,fun h f hf=>hf.elim (h.1 f) (fun e=>e▸h.2)⟩
theorem Gw {M:KM} {w:M.W} {Γ:FS} {m:Fm} (hm:Γ m):Hl M w Γ↔Hl M w (wo Γ m)∧frc M w m:=
 ⟨fun h=>⟨fun f hf=>h f hf.1,h m hm⟩,fun h f hf=>Classical.byCases (fun e:f=m=>e▸h.2) (fun e=>h.1 f ⟨hf,e⟩)⟩
theorem On {Γ Δ:FS} {g:Fm} (h:∀ (M:KM) (w:M.W),Hl M w Γ↔Hl M w Δ):(Fz Δ g→Fz Γ g)∧(Fj Δ g→Fj Γ g):=
 ⟨fun hv M w hw=>hv M w ((h M w).1 hw),fun ⟨M,w,h1,h2⟩=>⟨M,w,(h M w).2 h1,h2⟩⟩
theorem qC {Γ:FS} {g:Fm} (h:Γ .bot):Fz Γ g:=fun _ _ hw=>(hw _ h).elim
theorem rR {Γ:FS} {g:Fm} (h:Γ g):Fz Γ g:=fun _ _ hw=>hw _ h
theorem oV {Γ:FS} {a b g:Fm} (h:Γ (.and a b)):(Fz (wi (wi (wo Γ (.and a b)) a) b) g→Fz Γ g)∧(Fj (wi (wi (wo Γ (.and a b)) a) b) g→Fj Γ g):=
 On fun M w=>by rw [Ec,Ec,Gw h];simp only [frc,and_assoc]
theorem cT {Γ:FS} {s:ByteArray} {b g:Fm} (h:Γ (.imp (.atom s) b)) (hs:Γ (.atom s)):(Fz (wi (wo Γ (.imp (.atom s) b)) b) g→Fz Γ g)∧(Fj (wi (wo Γ (.imp (.atom s) b)) b) g→Fj Γ g):=
 On fun M w=>by
  rw [Ec,Gw h]
  refine and_congr_right fun h1=>?_
  have ha:frc M w (.atom s):=h1 _ ⟨hs,by simp⟩
  exact ⟨fun hi=>hi w (M.refl w) ha,fun hb v hv _=>Hj hv hb⟩
theorem eK {Γ:FS} {b g:Fm} (h:Γ (.imp .bot b)):(Fz (wo Γ (.imp .bot b)) g→Fz Γ g)∧(Fj (wo Γ (.imp .bot b)) g→Fj Γ g):=
 On fun M w=>by
  rw [Gw h]
  exact ⟨fun h1=>h1.1,fun h1=>⟨h1,fun v _ hb=>hb.elim⟩⟩
theorem gZ {Γ:FS} {c d b g:Fm} (h:Γ (.imp (.and c d) b)):(Fz (wi (wo Γ (.imp (.and c d) b)) (.imp c (.imp d b))) g→Fz Γ g)∧(Fj (wi (wo Γ (.imp (.and c d) b)) (.imp c (.imp d b))) g→Fj Γ g):=
 On fun M w=>by
  rw [Ec,Gw h]
  refine and_congr_right fun _=>?_
  exact ⟨fun hi v hv hc u hu hd=>hi u (M.trans hv hu) ⟨Hj hu hc,hd⟩,fun hi v hv hcd=>hi v hv hcd.1 v (M.refl v) hcd.2⟩
theorem lX {Γ:FS} {c d b g:Fm} (h:Γ (.imp (.or c d) b)):(Fz (wi (wi (wo Γ (.imp (.or c d) b)) (.imp c b)) (.imp d b)) g→Fz Γ g)∧(Fj (wi (wi (wo Γ (.imp (.or c d) b)) (.imp c b)) (.imp d b)) g→Fj Γ g):=
 On fun M w=>by
  rw [Ec,Ec,Gw h,and_assoc]
  refine and_congr_right fun _=>?_
  exact ⟨fun hi=>⟨fun v hv hc=>hi v hv (.inl hc),fun v hv hd=>hi v hv (.inr hd)⟩,fun hi v hv hcd=>hcd.elim (hi.1 v hv) (hi.2 v hv)⟩
theorem pL {Γ:FS} {a b:Fm}:(Fz (wi Γ a) b→Fz Γ (.imp a b))∧(Fj (wi Γ a) b→Fj Γ (.imp a b)):=
 ⟨fun hv M _w hw v hwv ha=>hv M v (Ec.2 ⟨fun f hf=>Hj hwv (hw f hf),ha⟩),
  fun ⟨M,w,h1,h2⟩=>⟨M,w,(Ec.1 h1).1,fun hi=>h2 (hi w (M.refl w) (Ec.1 h1).2)⟩⟩
theorem qE {Γ:FS} {a b:Fm}:(Fz Γ a→Fz Γ b→Fz Γ (.and a b))∧(Fj Γ a→Fj Γ (.and a b))∧(Fj Γ b→Fj Γ (.and a b)):=
 ⟨fun h1 h2 M w hw=>⟨h1 M w hw,h2 M w hw⟩,fun ⟨M,w,h1,h2⟩=>⟨M,w,h1,fun h=>h2 h.1⟩,fun ⟨M,w,h1,h2⟩=>⟨M,w,h1,fun h=>h2 h.2⟩⟩
theorem sM {Γ:FS} {a b g:Fm} (h:Γ (.or a b)):(Fz (wi (wo Γ (.or a b)) a) g→Fz (wi (wo Γ (.or a b)) b) g→Fz Γ g)∧(Fj (wi (wo Γ (.or a b)) a) g→Fj Γ g)∧(Fj (wi (wo Γ (.or a b)) b) g→Fj Γ g):=by
 refine ⟨fun h1 h2 M w hw=>?_,fun ⟨M,w,h1,h2⟩=>⟨M,w,?_,h2⟩,fun ⟨M,w,h1,h2⟩=>⟨M,w,?_,h2⟩⟩
 ·have:=(Gw h).1 hw
  rcases this.2 with ha | hb
  ·exact h1 M w (Ec.2 ⟨this.1,ha⟩)
  ·exact h2 M w (Ec.2 ⟨this.1,hb⟩)
 ·have:=Ec.1 h1;exact (Gw h).2 ⟨this.1,.inl this.2⟩
 ·have:=Ec.1 h1;exact (Gw h).2 ⟨this.1,.inr this.2⟩
theorem sQ {Γ:FS} {a b:Fm}:(Fz Γ a→Fz Γ (.or a b))∧(Fz Γ b→Fz Γ (.or a b)):=⟨fun h M w hw=>.inl (h M w hw),fun h M w hw=>.inr (h M w hw)⟩
theorem fV {Γ:FS} {c d b g:Fm} (h:Γ (.imp (.imp c d) b)) :
  (Fz (wi (wo Γ (.imp (.imp c d) b)) (.imp d b)) (.imp c d)→Fz (wi (wo Γ (.imp (.imp c d) b)) b) g→Fz Γ g)∧(Fj (wi (wo Γ (.imp (.imp c d) b)) b) g→Fj Γ g):=by
 refine ⟨fun h1 h2 M w hw=>?_,fun ⟨M,w,h1,h2⟩=>⟨M,w,?_,h2⟩⟩
 ·have hm:=(Gw h).1 hw
  have hdb:frc M w (.imp d b):=fun v hv hd=>hm.2 v hv fun u hu _=>Hj hu hd
  have hcd:=h1 M w (Ec.2 ⟨hm.1,hdb⟩)
  exact h2 M w (Ec.2 ⟨hm.1,hm.2 w (M.refl w) hcd⟩)
 ·have:=Ec.1 h1
  exact (Gw h).2 ⟨this.1,fun v hv _=>Hj hv this.2⟩
def glue {ι:Type} (Ms:ι→KM) (ws:∀ i,(Ms i).W) (at0:ByteArray→Prop) (h:∀ s,at0 s→∀ i,(Ms i).tr (ws i) s):KM where
 W:=Option (Σ i,(Ms i).W)
 le:=fun a b=>match a,b with
  | none,none=>True
  | none,some ⟨i,v⟩=>(Ms i).le (ws i) v
  | some _,none=>False
  | some ⟨i,u⟩,some ⟨j,v⟩=>∃ e:i=j,(Ms j).le (e▸u) v
 refl:=fun a=>match a with
  | none=>trivial
  | some ⟨i,u⟩=>⟨rfl,(Ms i).refl u⟩
 trans:=fun {a b c} h1 h2=>match a,b,c,h1,h2 with
  | none,none,none,_,_=>trivial
  | none,none,some _,_,h2=>h2
  | none,some ⟨i,u⟩,some ⟨j,v⟩,h1,⟨e,h2⟩=>by subst e;exact (Ms i).trans h1 h2
  | some ⟨i,u⟩,some ⟨j,v⟩,some ⟨k,w⟩,⟨e1,h1⟩,⟨e2,h2⟩=>by subst e1;subst e2;exact ⟨rfl,(Ms i).trans h1 h2⟩
 tr:=fun a s=>match a with
  | none=>at0 s
  | some ⟨i,u⟩=>(Ms i).tr u s
 mono:=fun {a b s} h1 h2=>match a,b,h1,h2 with
  | none,none,_,h2=>h2
  | none,some ⟨i,u⟩,h1,h2=>(Ms i).mono h1 (h s h2 i)
  | some ⟨i,u⟩,some ⟨j,v⟩,⟨e,h1⟩,h2=>by subst e;exact (Ms i).mono h1 h2
section
variable {ι:Type} {Ms:ι→KM} {ws:∀ i,(Ms i).W} {at0:ByteArray→Prop} {h:∀ s,at0 s→∀ i,(Ms i).tr (ws i) s}
theorem Fq (i:ι):∀ (f:Fm) (u:(Ms i).W),frc (glue Ms ws at0 h) (some ⟨i,u⟩) f↔frc (Ms i) u f
 | .atom _,_=>Iff.rfl
 | .bot,_=>Iff.rfl
 | .and a b,u=>and_congr (Fq i a u) (Fq i b u)
 | .or a b,u=>or_congr (Fq i a u) (Fq i b u)
 | .imp a b,u=>by
  constructor
  ·intro hf v hv ha
   exact (Fq i b v).1 (hf (some ⟨i,v⟩) ⟨rfl,hv⟩ ((Fq i a v).2 ha))
  ·intro hf v hv ha
   match v,hv,ha with
   | some ⟨j,v⟩,⟨e,hv⟩,ha=>
    subst e
    exact (Fq i b v).2 (hf v hv ((Fq i a v).1 ha))
theorem eV (a b:Fm):frc (glue Ms ws at0 h) none (.imp a b)↔(frc (glue Ms ws at0 h) none a→frc (glue Ms ws at0 h) none b)∧∀ i,frc (Ms i) (ws i) (.imp a b):=by
 constructor
 ·intro hf
  exact ⟨hf none trivial,fun i v hv ha=>(Fq i b v).1 (hf (some ⟨i,v⟩) hv ((Fq i a v).2 ha))⟩
 ·rintro ⟨h1,h2⟩ v hv ha
  match v,hv,ha with
  | none,_,ha=>exact h1 ha
  | some ⟨i,v⟩,hv,ha=>exact (Fq i b v).2 (h2 i v hv ((Fq i a v).1 ha))
theorem cS {f:Fm} (hf:frc (glue Ms ws at0 h) none f) (i:ι):frc (Ms i) (ws i) f:=
 (Fq i f (ws i)).1 (Hj (M:=glue Ms ws at0 h) (v:=none) (w:=some ⟨i,ws i⟩) ((Ms i).refl (ws i)) hf)
end
structure Stuck (Γ:FS) (g:Fm):Prop where
 left:∀ f,Γ f→(∃ s,f = .atom s)∨(∃ s b,f = .imp (.atom s) b∧¬ Γ (.atom s))∨∃ c d b,f = .imp (.imp c d) b
 goal:(∃ s,g = .atom s∧¬ Γ (.atom s))∨g = .bot∨∃ a b,g = .or a b
theorem aH {Γ:FS} {g:Fm} (hs:Stuck Γ g) (h1:∀ a b,g = .or a b→Fj Γ a∧Fj Γ b) (h2:∀ c d b,Γ (.imp (.imp c d) b)→Fj (wi (wo Γ (.imp (.imp c d) b)) (.imp d b)) (.imp c d)):Fj Γ g:=by
 let Ok (f:Fm):Prop:=(∃ a b,g = .or a b∧(f=a∨f=b))∨∃ c d b,f = .imp (.imp c d) b∧Γ f
 have key:∀ f,Ok f→∃ (M:KM) (w:M.W),Hl M w Γ∧(∀ a b,g = .or a b→f=a∨f=b→¬ frc M w f)∧(∀ c d b,f = .imp (.imp c d) b→Γ f→¬ (∃ a b,g = .or a b∧(f=a∨f=b))→¬ frc M w (.imp c d)):=by
  intro f hf
  by_cases hor:∃ a b,g = .or a b∧(f=a∨f=b)
  ·obtain ⟨a,b,hg,hab⟩:=hor
   obtain ⟨ra,rb⟩:=h1 a b hg
   rcases hab with rfl | rfl
   ·obtain ⟨M,w,f1,f2⟩:=ra
    exact ⟨M,w,f1,fun _ _ _ _=>f2,fun _ _ _ _ _ hn=>absurd ⟨_,_,hg,.inl rfl⟩ hn⟩
   ·obtain ⟨M,w,f1,f2⟩:=rb
    exact ⟨M,w,f1,fun _ _ _ _=>f2,fun _ _ _ _ _ hn=>absurd ⟨_,_,hg,.inr rfl⟩ hn⟩
  ·rcases hf with h | ⟨c,d,b,rfl,hΓ⟩
   ·exact absurd h hor
   ·obtain ⟨M,w,f1,f2⟩:=h2 c d b hΓ
    have:∃ v,M.le w v∧frc M v c∧¬ frc M v d:=by
     apply Classical.byContradiction
     intro hn
     refine f2 fun v hv hc=>Classical.byContradiction fun hd=>hn ⟨v,hv,hc,hd⟩
    obtain ⟨v,hv,hc,hd⟩:=this
    obtain ⟨g1,g2⟩:=Ec.1 f1
    refine ⟨M,v,(Gw hΓ).2 ⟨fun f hf=>Hj hv (g1 f hf),fun u hu hcd=>?_⟩,fun a b hg hab=>absurd ⟨a,b,hg,hab⟩ hor,fun c' d' b' e _ _ hcd=>?_⟩
    ·exact g2 u (M.trans hv hu) (hcd u (M.refl u) (Hj hu hc))
    ·simp only [Fm.imp.injEq] at e
     obtain ⟨⟨rfl,rfl⟩,rfl⟩:=e
     exact hd (hcd v (M.refl v) hc)
 let ι:={ f:Fm // Ok f }
 have key':∀ i:ι,∃ p:(Σ M:KM,M.W),Hl p.1 p.2 Γ∧(∀ a b,g = .or a b→i.1=a∨i.1=b→¬ frc p.1 p.2 i.1)∧(∀ c d b,i.1 = .imp (.imp c d) b→Γ i.1→¬ (∃ a b,g = .or a b∧(i.1=a∨i.1=b))→¬ frc p.1 p.2 (.imp c d)):=fun i=>by
  obtain ⟨M,w,h⟩:=key i.1 i.2;exact ⟨⟨M,w⟩,h⟩
 obtain ⟨P,hP⟩:=Classical.axiomOfChoice key'
 have hat:∀ s,Γ (.atom s)→∀ i:ι,(P i).1.tr (P i).2 s:=fun s hs i=>(hP i).1 _ hs
 refine ⟨glue (fun i=>(P i).1) (fun i=>(P i).2) (fun s=>Γ (.atom s)) hat,none,fun f hf=>?_,fun hg=>?_⟩
 ·rcases hs.left f hf with ⟨s,rfl⟩ | ⟨s,b,rfl,hn⟩ | ⟨c,d,b,rfl⟩
  ·exact hf
  ·exact (eV _ _).2 ⟨fun ha=>absurd ha hn,fun i=>(hP i).1 _ hf⟩
  ·refine (eV _ _).2 ⟨fun hcd=>?_,fun i=>(hP i).1 _ hf⟩
   exfalso
   let i:ι:=⟨_,.inr ⟨c,d,b,rfl,hf⟩⟩
   have hup:=cS hcd i
   by_cases hor:∃ a' b',g = .or a' b'∧(Fm.imp (.imp c d) b=a'∨Fm.imp (.imp c d) b=b')
   ·obtain ⟨a',b',hg',hab⟩:=hor
    exact (hP i).2.1 a' b' hg' hab ((hP i).1 _ hf)
   ·exact (hP i).2.2 c d b rfl hf hor hup
 ·rcases hs.goal with ⟨s,rfl,hn⟩ | rfl | ⟨a,b,rfl⟩
  ·exact hn hg
  ·exact hg
  ·rcases hg with ha | hb
   ·exact (hP ⟨a,.inl ⟨a,b,rfl,.inl rfl⟩⟩).2.1 a b rfl (.inl rfl) (cS ha _)
   ·exact (hP ⟨b,.inl ⟨a,b,rfl,.inr rfl⟩⟩).2.1 a b rfl (.inr rfl) (cS hb _)
theorem BL {ab:List (Fm × Fm)} {all c d:Fm} (hall:∀ (M:KM) (w:M.W),frc M w all↔∀ p ∈ ab,frc M w (.imp p.1 p.2)) (h:Fz (fun _=>False) (.imp all (.or c d)))
  (ra:∀ p ∈ ab,Fj (fun _=>False) (.imp all p.1)) (rc:Fj (fun _=>False) (.imp all c)) (rd:Fj (fun _=>False) (.imp all d)):False:=by
 have up:∀ f,Fj (fun _=>False) (.imp all f)→∃ p:(Σ M:KM,M.W),frc p.1 p.2 all∧¬ frc p.1 p.2 f:=by
  rintro f ⟨M,w,_,hw⟩
  apply Classical.byContradiction
  intro hn
  exact hw fun v _ ha=>Classical.byContradiction fun hf=>hn ⟨⟨M,v⟩,ha,hf⟩
 let ι:={ f:Fm // f=c∨f=d∨∃ p ∈ ab,f=p.1 }
 have key:∀ i:ι,∃ p:(Σ M:KM,M.W),frc p.1 p.2 all∧¬ frc p.1 p.2 i.1:=by
  rintro ⟨f,rfl | rfl | ⟨p,hp,rfl⟩⟩
  ·exact up _ rc
  ·exact up _ rd
  ·exact up _ (ra p hp)
 obtain ⟨P,hP⟩:=Classical.axiomOfChoice key
 have hat:∀ s,False→∀ i:ι,(P i).1.tr (P i).2 s:=fun _ h=>h.elim
 have hroot:frc (glue (fun i=>(P i).1) (fun i=>(P i).2) (fun _=>False) hat) none all:=by
  refine (hall _ _).2 fun p hp=>(eV _ _).2 ⟨fun ha=>?_,fun i=>(hall _ _).1 (hP i).1 p hp⟩
  exact absurd (cS ha ⟨p.1,.inr (.inr ⟨p,hp,rfl⟩)⟩) (hP _).2
 rcases h (glue (fun i=>(P i).1) (fun i=>(P i).2) (fun _=>False) hat) none (fun _ h=>h.elim) none ((glue (fun i=>(P i).1) (fun i=>(P i).2) (fun _=>False) hat).refl none) hroot with hc | hd
 ·exact (hP ⟨c,.inl rfl⟩).2 (cS hc ⟨c,.inl rfl⟩)
 ·exact (hP ⟨d,.inr (.inl rfl)⟩).2 (cS hd ⟨d,.inr (.inl rfl)⟩)
end Go.Dk
end
section
namespace Go.Dk
structure SQ where
 left:Nat
 goal:Nat
deriving DecidableEq
structure SS where
 seq:SQ
 proved:Bool
 rule:Int
 main:Nat
 kids:List Nat
def Aw (s:Nat) (n:Nat):Nat:=s ||| (1 <<< n)
def Be (s:Nat) (n:Nat):Nat:=if s.testBit n then s ^^^ (1 <<< n) else s
theorem Ja (s n m:Nat):(Aw s n).testBit m=(s.testBit m || decide (m=n)):=by
 unfold Aw
 rw [Nat.testBit_or,Nat.one_shiftLeft,Nat.testBit_two_pow]
 congr 1
 exact decide_eq_decide.2 ⟨Eq.symm,Eq.symm⟩
theorem Lp (s n m:Nat):(Be s n).testBit m=(s.testBit m && decide (m≠n)):=by
 unfold Be
 split
 ·rename_i h
  rw [Nat.testBit_xor,Nat.one_shiftLeft,Nat.testBit_two_pow]
  by_cases e:m=n
  ·subst e;simp [h]
  ·have:¬ n=m:=fun h=>e h.symm
   simp [e,this]
 ·rename_i h
  by_cases e:m=n
  ·subst e;simp [h]
  ·simp [e]
def onP (rows:List ND) (s:SQ) (main:Nat):Int:=
 let x:=rowAt rows main
 if x.kind=2 then 1 else if x.kind=3 then 3 else if x.kind=4 then 10 else if x.kind=5 then
  let y:=rowAt rows x.l.toNat
  if y.kind=1 then (if s.left.testBit x.l.toNat then 4 else 0) else if y.kind=2 then 5 else if y.kind=3 then 6 else if y.kind=4 then 7 else if y.kind=5 then 13 else 0
 else 0
def Bt (rows:List ND) (s:SQ) (p:Int→Bool):Option (Int × Nat):=
 ((List.range rows.length).find? fun i=>s.left.testBit i && p (onP rows s i)).map fun i=>(onP rows s i,i)
def Ak (rows:List ND) (s:SQ):Int × Nat:=
 match Bt rows s (fun k=>k == 1) with
 | some x=>x
 | none=>
  if s.left.testBit s.goal then (2,s.goal) else
  match Bt rows s (fun k=>decide (3≤k) && decide (k≤7)) with
  | some x=>x
  | none=>
   if (rowAt rows s.goal).kind=5 then (8,s.goal) else
   if (rowAt rows s.goal).kind=3 then (9,s.goal) else
   match Bt rows s (fun k=>k == 10) with
   | some x=>x
   | none=>(14,0)
def Bj (rows:List ND) (s:SQ):List (Int × Nat):=
 (if (rowAt rows s.goal).kind=4 then [(11,s.goal),(12,s.goal)] else [])++(((List.range rows.length).filter fun i=>s.left.testBit i && onP rows s i == 13).map fun i=>(13,i))
structure Prem where
 rows:List ND
 err:Int
 seqs:List SQ
def rT (a b:Int):ND:=⟨5,ByteArray.empty,a,b⟩
def Jn (rows0 rows:List ND) (a b:Int) (k:List ND→Nat→Prem):Prem:=
 let p:=put rows (rT a b)
 if p.err≠0 then ⟨rows0,p.err,[]⟩ else k p.rows p.id.toNat
def Af (rows:List ND) (s:SQ) (k:Int) (main:Nat):Prem:=
 let x:=rowAt rows main
 let y:=rowAt rows x.l.toNat
 let rest:=Be s.left main
 if k=3 then ⟨rows,0,[⟨Aw (Aw rest x.l.toNat) x.r.toNat,s.goal⟩]⟩
 else if k=4 then ⟨rows,0,[⟨Aw rest x.r.toNat,s.goal⟩]⟩
 else if k=5 then ⟨rows,0,[⟨rest,s.goal⟩]⟩
 else if k=6 then Jn rows rows y.r x.r fun rows1 f=>Jn rows rows1 y.l f fun rows2 g=>⟨rows2,0,[⟨Aw rest g,s.goal⟩]⟩
 else if k=7 then Jn rows rows y.l x.r fun rows1 f=>Jn rows rows1 y.r x.r fun rows2 g=>⟨rows2,0,[⟨Aw (Aw rest f) g,s.goal⟩]⟩
 else if k=8 then ⟨rows,0,[⟨Aw s.left x.l.toNat,x.r.toNat⟩]⟩
 else if k=9 then ⟨rows,0,[⟨s.left,x.l.toNat⟩,⟨s.left,x.r.toNat⟩]⟩
 else if k=10 then ⟨rows,0,[⟨Aw rest x.l.toNat,s.goal⟩,⟨Aw rest x.r.toNat,s.goal⟩]⟩
 else if k=11 then ⟨rows,0,[⟨s.left,x.l.toNat⟩]⟩
 else if k=12 then ⟨rows,0,[⟨s.left,x.r.toNat⟩]⟩
 else if k=13 then Jn rows rows y.r x.r fun rows1 f=>⟨rows1,0,[⟨Aw rest f,x.l.toNat⟩,⟨Aw rest x.r.toNat,s.goal⟩]⟩
 else ⟨rows,0,[]⟩
structure SR where
 rows:List ND
 steps:List SS
 left:Nat
structure SA where
 st:SR
 err:Int
 at_:Nat
def Gy (st:SR) (s:SQ):Option Nat:=st.steps.findIdx? fun x=>x.seq=s
def Ax (st:SR) (i:Nat):Bool:=((st.steps[i]?).map (·.proved)).getD false
def Ho (st:SR) (x:SS):SA:=⟨⟨st.rows,st.steps++[x],st.left⟩,0,st.steps.length⟩
def Em (dec:SR→SQ→SA) (s:SQ) (k:Int) (main:Nat):List SQ→SR→List Nat→SA
 | [],st,kids=>Ho st ⟨s,true,k,main,kids⟩
 | p::t,st,kids=>
  if (dec st p).err≠0 then ⟨(dec st p).st,(dec st p).err,0⟩
  else if Ax (dec st p).st (dec st p).at_ then Em dec s k main t (dec st p).st (kids++[(dec st p).at_]) else Ho (dec st p).st ⟨s,false,k,main,[(dec st p).at_]⟩
def Bq (dec:SR→SQ→SA) (s:SQ):List (Int × Nat)→SR→List Nat→SA
 | [],st,stuck=>Ho st ⟨s,false,14,0,stuck⟩
 | c::t,st,stuck=>
  let p:=Af st.rows s c.1 c.2
  if p.err≠0 then ⟨st,p.err,0⟩
  else
   match p.seqs with
   | []=>Ho ⟨p.rows,st.steps,st.left⟩ ⟨s,true,c.1,c.2,[]⟩
   | q::more=>
    let r:=dec ⟨p.rows,st.steps,st.left⟩ q
    if r.err≠0 then ⟨r.st,r.err,0⟩
    else if Ax r.st r.at_ then
     match more with
     | []=>Ho r.st ⟨s,true,c.1,c.2,[r.at_]⟩
     | q2::_=>
      let r2:=dec r.st q2
      if r2.err≠0 then ⟨r2.st,r2.err,0⟩
      else if Ax r2.st r2.at_ then Ho r2.st ⟨s,true,c.1,c.2,[r.at_,r2.at_]⟩ else Ho r2.st ⟨s,false,c.1,c.2,[r2.at_]⟩
    else Bq dec s t r.st (stuck++[r.at_])
def Bw:Nat→SR→SQ→SA
 | 0,st,s=>match Gy st s with
  | some i=>⟨st,0,i⟩
  | none=>⟨st,110,0⟩
 | fuel+1,st,s=>match Gy st s with
  | some i=>⟨st,0,i⟩
  | none=>
   if st.left=0 then ⟨st,110,0⟩ else
   if (Ak st.rows s).1=14 then Bq (Bw fuel) s (Bj st.rows s) ⟨st.rows,st.steps,st.left - 1⟩ []
   else if (Af st.rows s (Ak st.rows s).1 (Ak st.rows s).2).err≠0 then ⟨⟨st.rows,st.steps,st.left - 1⟩,(Af st.rows s (Ak st.rows s).1 (Ak st.rows s).2).err,0⟩
   else Em (Bw fuel) s (Ak st.rows s).1 (Ak st.rows s).2 (Af st.rows s (Ak st.rows s).1 (Ak st.rows s).2).seqs ⟨(Af st.rows s (Ak st.rows s).1 (Ak st.rows s).2).rows,st.steps,st.left - 1⟩ []
end Go.Dk
end
section
namespace Go.Dk
def wd (m i:Nat):Nat:=(m >>> (64 * i)) % 2 ^ 64
theorem Qg (m i:Nat):wd m i<2 ^ 64:=Nat.mod_lt _ (by decide)
theorem Qz (m i j:Nat):(wd m i).testBit j=(decide (j<64) && m.testBit (64 * i+j)):=by
 unfold wd
 rw [Nat.testBit_mod_two_pow,Nat.testBit_shiftRight]
theorem xI {m m':Nat} (hm:m<2 ^ 1024) (hm':m'<2 ^ 1024) (h:∀ i,i<16→wd m i=wd m' i):m=m':=by
 apply Nat.eq_of_testBit_eq
 intro j
 by_cases hj:j<1024
 ·have h1:=congrArg (fun x=>x.testBit (j % 64)) (h (j / 64) (by omega))
  simp only [Qz] at h1
  have e:64 * (j / 64)+j % 64=j:=Nat.div_add_mod j 64
  rw [e] at h1
  simpa [Nat.mod_lt j (show 0<64 by decide)] using h1
 ·have pb:∀ {x k:Nat},x<2 ^ k→k≤j→x.testBit j=false:=fun hx hk=>Nat.testBit_lt_two_pow (Nat.lt_of_lt_of_le hx (Nat.pow_le_pow_right (by decide) hk));rw [pb (k:=1024) hm (Nat.le_of_not_lt hj),pb (k:=1024) hm' (Nat.le_of_not_lt hj)]
theorem gY {x j:Nat} (hx:x<2 ^ 64) (hj:¬ j<64):x.testBit j=false:=
 Nat.testBit_lt_two_pow (Nat.lt_of_lt_of_le hx (Nat.pow_le_pow_right (by decide) (by omega)))
theorem sG (a b i:Nat):wd (a ||| b) i=wd a i ||| wd b i:=by
 apply Nat.eq_of_testBit_eq
 intro j
 simp only [Qz,Nat.testBit_or]
 cases decide (j<64)<;>simp
theorem kY (a b i:Nat):wd (a ^^^ b) i=wd a i ^^^ wd b i:=by
 apply Nat.eq_of_testBit_eq
 intro j
 simp only [Qz,Nat.testBit_xor]
 cases decide (j<64)<;>simp
theorem yH (a b i:Nat):wd (a &&& b) i=wd a i &&& wd b i:=by
 apply Nat.eq_of_testBit_eq
 intro j
 simp only [Qz,Nat.testBit_and]
 cases decide (j<64)<;>simp
theorem cM {n i:Nat}:wd (1 <<< n) i=if i=n / 64 then 1 <<< (n % 64) else 0:=by
 apply Nat.eq_of_testBit_eq
 intro j
 rw [Qz,Nat.one_shiftLeft,Nat.testBit_two_pow]
 have e:=Nat.div_add_mod n 64
 have hm:=Nat.mod_lt n (show 0<64 by decide)
 by_cases hi:i=n / 64
 ·rw [if_pos hi,Nat.one_shiftLeft,Nat.testBit_two_pow]
  by_cases hj:j<64
  ·simp only [hj,decide_true,Bool.true_and]
   exact decide_eq_decide.2 (by subst hi;omega)
  ·simp only [hj,decide_false,Bool.false_and]
   rw [eq_comm,decide_eq_false_iff_not];omega
 ·rw [if_neg hi,Nat.zero_testBit]
  by_cases hj:j<64
  ·simp only [hj,decide_true,Bool.true_and,decide_eq_false_iff_not]
   intro h
   apply hi
   omega
  ·simp [hj]
def Gt (a b:Nat):Nat:=a ^^^ (a &&& b)
theorem Ob (a b j:Nat):(Gt a b).testBit j=(a.testBit j && !b.testBit j):=by
 unfold Gt
 rw [Nat.testBit_xor,Nat.testBit_and]
 cases a.testBit j<;>cases b.testBit j<;>rfl
theorem uD (a b i:Nat):wd (Gt a b) i=Gt (wd a i) (wd b i):=by
 unfold Gt
 rw [kY,yH]
theorem pQ (m n:Nat):Gt m (1 <<< n)=Be m n:=by
 apply Nat.eq_of_testBit_eq
 intro j
 rw [Ob,Lp,Nat.one_shiftLeft,Nat.testBit_two_pow]
 by_cases e:n=j
 ·subst e;simp
 ·simp [e,Ne.symm e]
theorem tL {n k:Nat} (h:n<k):1 <<< n<2 ^ k:=by rw [Nat.one_shiftLeft];exact Nat.pow_lt_pow_right (by decide) h
theorem rN {a k:Nat} (b:Nat) (ha:a<2 ^ k):Gt a b<2 ^ k:=by
 refine Nat.lt_pow_two_of_testBit _ fun i hi=>?_
 rw [Ob,Nat.testBit_lt_two_pow (Nat.lt_of_lt_of_le ha (Nat.pow_le_pow_right (by decide) hi))]
 rfl
def Ag (m:Nat):List Value:=(List.range 16).map fun i=>.int .u64 (wd m i:Int)
theorem Bg (m:Nat):(Ag m).length=16:=by simp [Ag]
theorem Es (m:Nat) {i:Nat} (h:i<16):(Ag m)[i]? = some (.int .u64 (wd m i:Int)):=by simp [Ag,h]
theorem pR {m m':Nat} (hm:m<2 ^ 1024) (hm':m'<2 ^ 1024) (h:Ag m=Ag m'):m=m':=by
 refine xI hm hm' fun i hi=>?_
 have h1:=congrArg (fun l=>l[i]?) h
 simp only [Es m hi,Es m' hi,Option.some.injEq,Value.int.injEq,true_and] at h1
 omega
def Hi (m from_:Nat):Option Nat:=(List.range 1024).find? fun i=>decide (from_≤i) && m.testBit i
theorem find_range {p:Nat→Bool} {n x:Nat} (hx:x<n) (hp:p x=true) (hl:∀ j,j<x→p j=false):(List.range n).find? p=some x:=by
 rw [List.find?_eq_some_iff_getElem]
 refine ⟨hp,x,by simpa using hx,by simp,fun j hj=>?_⟩
 simp [hl j hj]
theorem lU {m from_ x:Nat} (hx:x<1024) (hf:from_≤x) (hb:m.testBit x=true) (hl:∀ j,from_≤j→j<x→m.testBit j=false):Hi m from_=some x:=by
 refine find_range hx (by simp [hf,hb]) fun j hj=>?_
 by_cases h:from_≤j
 ·simp [hl j h hj]
 ·simp [h]
theorem Yf {m from_:Nat} (h:∀ j,from_≤j→j<1024→m.testBit j=false):Hi m from_=none:=by
 unfold Hi
 rw [List.find?_eq_none]
 intro x hx
 have hx:=List.mem_range.1 hx
 by_cases hf:from_≤x
 ·simp [h x hf hx]
 ·simp [hf]
theorem Tf {m from_ x:Nat} (h:Hi m from_=some x):x<1024∧from_≤x∧m.testBit x=true∧∀ j,from_≤j→j<x→m.testBit j=false:=by
 unfold Hi at h
 rw [List.find?_eq_some_iff_getElem] at h
 obtain ⟨h1,i,hi,e,h2⟩:=h
 simp only [List.getElem_range] at e
 subst e
 simp only [Bool.and_eq_true,decide_eq_true_eq] at h1
 refine ⟨by simpa using hi,h1.1,h1.2,fun j hf hj=>?_⟩
 have:=h2 j hj
 simpa [hf] using this
theorem mJ {x:Nat} (h0:x≠0) (hx:x<2 ^ 64):Lib.ctz 64 x<64∧x.testBit (Lib.ctz 64 x)=true∧∀ j,j<Lib.ctz 64 x→x.testBit j=false:=by
 obtain ⟨m,hm,hlt⟩:=Lib.ctzFrom_spec 64 x (Nat.pos_of_ne_zero h0) hx
 have e:Lib.ctz 64 x=Lib.ctzFrom 64 x:=by unfold Lib.ctz;rw [if_neg h0]
 rw [e]
 generalize Lib.ctzFrom 64 x=k at *
 refine ⟨hlt,?_,fun j hj=>?_⟩
 ·rw [hm,Nat.testBit_two_pow_mul]
  simp
 ·rw [hm,Nat.testBit_two_pow_mul]
  simp;omega
def Uj (x k:Nat):Nat:=x &&& (2 ^ 64 - 2 ^ k)
theorem nR (x:Nat) {k j:Nat} (hk:k<64) (hx:x<2 ^ 64):(Uj x k).testBit j=(x.testBit j && decide (k≤j)):=by
 unfold Uj
 rw [Nat.testBit_and]
 by_cases hj:j<64
 ·congr 1
  have e:2 ^ 64 - 2 ^ k=2 ^ k * (2 ^ (64 - k) - 1):=by
   rw [Nat.mul_sub,← Nat.pow_add,show k+(64 - k)=64 by omega,Nat.mul_one]
  rw [e,Nat.testBit_two_pow_mul,Nat.testBit_two_pow_sub_one]
  by_cases h:k≤j
  ·simp [h];omega
  ·simp [h]
 ·rw [gY hx hj];simp
end Go.Dk
end
section
namespace Go.Dk
open Go.RowKit Go.Maps Go.MapKept
open Go.Proofs hiding intOf
def Hg (n:Int):Bool:=decide (0≤n) && decide (n<1024)
set_option maxRecDepth 100000 in
theorem Pq (w:World) (n:Int):Calls Tryz.prog 69 #[.int .i64 n] w fun e w'=>e = .returned (.bool (Hg n))∧w'=w:=by
 by_cases h0:0≤n
 ·by_cases h1:n<1024
  ·have HE:Hid (Hg n=true):=by simp [Hid,Hg,h0,h1]
   go_enter Tryz.func69,Tryz.ntmps69
   go_wp2
   go_ret
   exact ⟨Ce HE.o.symm,rfl⟩
  ·have HE:Hid (Hg n=false):=by simp [Hid,Hg,h1]
   go_enter Tryz.func69,Tryz.ntmps69
   go_wp2
   go_ret
   exact ⟨Ce HE.o.symm,rfl⟩
 ·have HE:Hid (Hg n=false):=by simp [Hid,Hg,h0]
  go_enter Tryz.func69,Tryz.ntmps69
  go_wp2
  go_ret
  exact ⟨Ce HE.o.symm,rfl⟩
theorem iJ {m n:Nat}:(bits .and .u64 (((wd m (n / 64):Nat):Int) / 2 ^ (n % 64)) 1 == 1)=m.testBit n:=by
 have h1:=Qg m (n / 64)
 have hd:wd m (n / 64) / 2 ^ (n % 64)<18446744073709551616:=Nat.lt_of_le_of_lt (Nat.div_le_self _ _) h1
 have e1:(((wd m (n / 64):Nat):Int) / 2 ^ (n % 64))=((wd m (n / 64) / 2 ^ (n % 64):Nat):Int):=by simp
 rw [e1,show (1:Int)=((1:Nat):Int) from rfl,bits_and_u64_nat _ 1 hd (by decide),Nat.and_one_is_mod]
 have h2:=Qz m (n / 64) (n % 64)
 rw [show 64 * (n / 64)+n % 64=n from Nat.div_add_mod n 64] at h2
 have hlt:n % 64<64:=Nat.mod_lt _ (by decide)
 simp only [hlt,decide_true,Bool.true_and] at h2
 rw [← h2,Nat.testBit_eq_decide_div_mod_eq]
 generalize wd m (n / 64) / 2 ^ (n % 64) % 2=x
 show ((x:Int) == ((1:Nat):Int))=decide (x=1)
 by_cases e:x=1
 ·simp [e]
 ·have:¬ ((x:Int)=1):=by omega
  simp [e,this]
set_option maxRecDepth 100000 in
theorem Qr (w:World) (m n:Nat) (hn:n<1024):Calls Tryz.prog 100 #[.agg (Ag m).toArray,.int .i64 (n:Int)] w fun e w'=>e = .returned (.bool (m.testBit n))∧Below w.heap.size w w':=by
 have hb:=Es m (i:=n / 64) (by omega)
 have hc:(w.alloc (.cells (Ag m).toArray 77)).cell? ⟨w.heap.size,n / 64,none⟩=some (.int .u64 (wd m (n / 64):Int)):=by
  rw [World.cell?_alloc_at _ _ _ _ rfl]
  simpa using hb
 have hI:Hg (n:Int)=true:=by simp [Hg];omega
 have HI:=Aa (fun W=>Pq W (n:Int))
 rw [hI] at HI
 clear hI hb
 go_enter Tryz.func100,Tryz.ntmps100
 go_wp2_with (go_at_call 69;refine (HI.o _).mono ?_;rintro e w' ⟨rfl,hw⟩;rw [hw];clear hw)
 go_ret
 exact ⟨Ce iJ,Ab _ _⟩
theorem mL (a b:Nat) (ha:a<2 ^ 64) (hb:b<2 ^ 64):bits .or .u64 (a:Int) (b:Int)=((a ||| b:Nat):Int):=bits_or_u64_nat a b ha hb
theorem iR (a b:Nat) (ha:a<2 ^ 64) (hb:b<2 ^ 64):bits .andNot .u64 (a:Int) (b:Int)=((Gt a b:Nat):Int):=by
 have h1:(BitVec.ofInt 64 (a:Int)).toNat=a:=by
  rw [BitVec.ofInt_natCast,BitVec.toNat_ofNat];exact Nat.mod_eq_of_lt ha
 have h2:(BitVec.ofInt 64 (b:Int)).toNat=b:=by
  rw [BitVec.ofInt_natCast,BitVec.toNat_ofNat];exact Nat.mod_eq_of_lt hb
 have hx:=rN (k:=64) b ha
 have e:a &&& (2 ^ 64 - 1 - b)=Gt a b:=by
  apply Nat.eq_of_testBit_eq
  intro j
  rw [Nat.testBit_and,Ob,show 2 ^ 64 - 1 - b=2 ^ 64 - (b+1) by omega,Nat.testBit_two_pow_sub_succ hb]
  by_cases hj:j<64
  ·simp [hj]
  ·rw [gY ha hj];simp
 show IntKind.u64.wrap ((BitVec.ofInt 64 (a:Int) &&& ~~~(BitVec.ofInt 64 (b:Int))).toNat:Int)=_
 rw [BitVec.toNat_and,BitVec.toNat_not,h1,h2,e,IntKind.wrap_u64]
 omega
theorem tV (a b:Nat) (ha:a<2 ^ 64) (hb:b<2 ^ 64):bits .and .u64 (a:Int) (b:Int)=((a &&& b:Nat):Int):=bits_and_u64_nat a b ha hb
set_option maxRecDepth 100000 in
theorem rV (w:World) (a b:Nat) (ha:a<2 ^ 64) (hb:b<2 ^ 64):Calls Tryz.prog 142 #[.int .u64 (a:Int),.int .u64 (b:Int)] w fun e w'=>e = .returned (.int .u64 ((a ||| b:Nat):Int))∧w'=w:=by
 have he:=mL a b ha hb
 go_enter Tryz.func142,Tryz.ntmps142
 go_wp2
 go_ret
 exact ⟨rfl,rfl⟩
set_option maxRecDepth 100000 in
theorem pW (w:World) (a b:Nat) (ha:a<2 ^ 64) (hb:b<2 ^ 64):Calls Tryz.prog 141 #[.int .u64 (a:Int),.int .u64 (b:Int)] w fun e w'=>e = .returned (.int .u64 ((Gt a b:Nat):Int))∧w'=w:=by
 have he:=iR a b ha hb
 go_enter Tryz.func141,Tryz.ntmps141
 go_wp2
 go_ret
 exact ⟨rfl,rfl⟩
def TabG (w:World):Prop:=∀ j,j<64→w.cell? ⟨0,j,none⟩=some (.int .u8 (Lib.deBruijn64tab.getD j 0))
set_option maxRecDepth 100000 in
theorem wW (w:World) (x k idx:Nat) (hx0:((x:Int) == 0)=false)
  (key:IntKind.u64.wrap (bits BinOp.and IntKind.u64 (x:Int) (IntKind.u64.wrap (-(x:Int))) * 285870213051353865) / 288230376151711744=(idx:Int))
  (hi:idx<64) (hk:k<64) (hcell:w.cell? ⟨0,idx,none⟩=some (.int .u8 k)):Calls Tryz.prog 82 #[.int .u64 (x:Int)] w fun e w'=>e = .returned (.int .i64 k)∧w'=w:=by
 go_enter Tryz.func82,Tryz.ntmps82
 go_wp2_with (simp only [key])
 go_ret
 exact ⟨rfl,rfl⟩
theorem xP (w:World) (hT:TabG w) (x:Nat) (h0:x≠0) (hx:x<2 ^ 64):Calls Tryz.prog 82 #[.int .u64 (x:Int)] w fun e w'=>e = .returned (.int .i64 (Lib.ctz 64 x))∧w'=w:=by
 obtain ⟨hlow,hk⟩:=Lib.lowest_bit 64 x h0 hx
 obtain ⟨hi,htab⟩:=Lib.deBruijn64_at _ hk
 have hcell:=hT _ hi
 rw [htab] at hcell
 exact wW w x _ _ (by simp;omega) (tz64_key x _ hx h0 hlow) hi hk hcell
end Go.Dk
end
section
namespace Go.Dk
open Go.RowKit
section
variable {P:Program} {ops:Array Oper} {md:Region.Mode} {C:World→Prop}
def Xo (P:Program) (md:Region.Mode) (ops:Array Oper) (C:World→Prop) (n:Nat) (L:Array Bool→Act→Prop):Nat→Array Bool→Act→Prop
 | 0,listed,a=>L listed a
 | f+1,listed,a=>Region.ready md ops listed≠[]∧∀ i ∈ Region.ready md ops listed,i<n∧qOp P ops C i (Xo P md ops C n L f (listed.setIfInBounds i true)) a
theorem Xn {n g:Nat} {L:Array Bool→Act→Prop} {Q:Exit→Act→World→Prop} (hL:∀ listed a w,C w→L listed a→wpAny P md ops Q g listed a w) (f:Nat) :
  ∀ (listed:Array Bool) (a:Act) (w:World),C w→Xo P md ops C n L f listed a→wpAny P md ops Q (f+g) listed a w:=by
 induction f with
 | zero=>intro listed a w hw h;rw [Nat.zero_add];exact hL _ _ _ hw h
 | succ f ih=>
  intro listed a w hw h
  rw [show f+1+g=(f+g)+1 by omega]
  exact ⟨fun h0=>absurd h0 h.1,fun i hi=>wpOp_of_qOp hw (fun a' w' hw' h'=>ih _ a' w' hw' h') (h.2 i hi).2⟩
theorem hX {n i:Nat} {oi:Oper} {v:Value} {L:Array Bool→Act→Prop} (hi:ops[i]? = some oi) (hsel:∀ (j:Nat) (o:Oper) cs b,ops[j]? = some o→o.op≠.select cs b)
  (hs:Region.sinkB md ops n=true) (hc:Region.chainB md ops n=true) (hn:n<ops.size) (hin:i<n) (hdone:∀ listed a,L listed a→∀ j ∈ Region.ready md ops listed,n≤j) (f:Nat) :
  ∀ (listed:Array Bool) (a:Act),HeadInv md ops n listed →
   (∀ j oj,ops[j]? = some oj→j≠i→listed.getD j true=false→(∀ e ∈ oj.after,Region.binds md e=true→e.on≠i)→oi.apart ops oj=true) →
   i ∈ Region.ready md ops listed→YieldsIn P ops C oi v a→Xo P md ops C n L f (listed.setIfInBounds i true) (a.put oi.dst v)→Xo P md ops C n L (f+1) listed a:=by
 have inside:∀ listed,HeadInv md ops n listed→i ∈ Region.ready md ops listed→∀ j ∈ Region.ready md ops listed,j<n:=by
  intro listed inv hr j hj
  apply Classical.byContradiction
  intro h
  exact tail_waits hs hc hn inv _ i rfl hin (mem_ready.1 hr).1 j (by omega) hj
 induction f with
 | zero=>
  intro listed a inv _ hr hy H
  refine ⟨List.ne_nil_of_mem hr,fun j hj=>⟨inside _ inv hr j hj,?_⟩⟩
  by_cases e:j=i
  ·subst e;exact hy.qOp hi H
  ·have h1:=hdone _ _ H j (ready_mono hj e)
   have h2:=inside _ inv hr j hj
   omega
 | succ f ih=>
  intro listed a inv hfree hr hy H
  refine ⟨List.ne_nil_of_mem hr,fun j hj=>⟨inside _ inv hr j hj,?_⟩⟩
  by_cases e:j=i
  ·subst e;exact hy.qOp hi H
  ·obtain ⟨hjun,oj,hoj,hall⟩:=mem_ready.1 hj
   have hnot:∀ d ∈ oj.after,Region.binds md d=true→d.on≠i:=fun d hd hb he=>by
    have h1:=hall d hd hb
    rw [he,getD_both (mem_ready.1 hr).1] at h1
    cases h1
   refine qOp_mono (fun a' h3=>ih (listed.setIfInBounds j true) a' (inv.set hj (inside _ inv hr j hj)) (fun k ok hk hki hun hno=>hfree k ok hk hki ?_ hno) (ready_mono hr (Ne.symm e)) h3.1 ?_)
    (qOp_put hoj (hfree j oj hoj e hjun hnot) (fun cs b=>hsel i oi cs b hi) (fun cs b=>hsel j oj cs b hoj) hy (H.2 j (ready_mono hj e)).2)
   ·by_cases ejk:j=k
    ·subst ejk;exact hjun
    ·rwa [getD_set_ne true ejk] at hun
   ·rw [Array.setIfInBounds_comm _ _ e];exact h3.2
theorem pK {n g:Nat} {R:Act→Prop} (hsel:Region.noSelect ops=true) (hs:Region.sinkB md ops n=true) (hc:Region.chainB md ops n=true) (hn:n<ops.size) (l:List Oper) :
  ∀ (k:Nat) (listed:Array Bool) (a:Act),(∀ j,j<l.length→l[j]? = ops[k+j]?)→k+l.length=n→HeadInv md ops n listed→Region.lexHead md ops g l.length k listed=true→wpQuiet P ops C R l a →
   Xo P md ops C n (fun listed' a'=>Region.seqB md ops g n listed'=true∧R a') l.length listed a:=by
 induction l with
 | nil=>
  intro k listed a _ hk _ hB h
  obtain rfl:k=n:=by simpa using hk
  exact ⟨by simpa [Region.lexHead] using hB,h⟩
 | cons o l ih=>
  intro k listed a hl hk inv hB h
  have h0:ops[k]? = some o:=by simpa using (hl 0 (by simp)).symm
  simp only [List.length_cons,Region.lexHead,Bool.and_eq_true] at hB hk
  have hr:k ∈ Region.ready md ops listed:=by simpa using hB.1.1
  have hq:qOp P ops C k (wpQuiet P ops C R l) a:=by unfold qOp;simp only [h0];exact h
  obtain ⟨v,hy,hK⟩:=yieldsIn_of_qOp h0 hq
  exact hX h0 (Region.noSelect_spec hsel) hs hc hn (by omega) (fun _ _ hL=>seqB_ready hL.1) l.length listed a inv (Region.free_spec h0 hB.1.2) hr hy
   (ih (k+1) _ _ (fun j hj=>by have:=hl (j+1) (by simp;omega);simpa [Nat.add_assoc,Nat.add_comm 1 j] using this) (by omega) (inv.set hr (by omega)) hB.2 hK)
theorem Zt {id:Nat} {Q:Exit→Act→World→Prop} {a:Act} {w:World} {l:List Oper} (n:Nat) (hm:P.follows .mixedOrders=true) (hB:Region.lexTailB .any l.toArray n=true) (hC:C w.drew)
  (h:wpQuiet P l.toArray C (fun a'=>∀ w',C w'→wpList P l.toArray Q (l.drop n) a' w') (l.take n) a):(Code.region id l.toArray true).wp P Q a w:=by
 simp only [Region.lexTailB,Bool.and_eq_true,decide_eq_true_eq] at hB
 obtain ⟨⟨⟨⟨hsel,hn⟩,hs⟩,hc⟩,hlex⟩:=hB
 have hn':n<l.length:=by simpa using hn
 have htl:(l.take n).length=n:=by simp;omega
 have hdl:(l.drop n).length=l.toArray.size - n:=by simp
 have inv0:HeadInv .any l.toArray n (Array.replicate l.toArray.size false):=
  ⟨by simp,fun j oj _ hl=>(by rw [getD_replicate_false] at hl;cases hl),fun t _ ht=>getD_in (by simpa using ht) (getD_replicate_false _ _)⟩
 have H:=pK (P:=P) (C:=C) (md:=.any) (g:=l.toArray.size - n) hsel hs hc hn (l.take n) 0 _ a (fun j hj=>by
  have hj':j<n:=by rw [htl] at hj;exact hj
  simp [hj']) (by simpa using htl) inv0 (by rw [htl];exact hlex) h
 refine wp_region_any hm ?_
 have G:=Xn (Q:=Q) (g:=l.toArray.size - n) (fun listed a' w' hw' hL=>by
  have:=wpAny_of_seq (md:=.any) (Q':=Q) (l.drop n) n listed a' w' (fun j=>by simp [List.getElem?_drop]) (by rw [hdl];exact hL.1) (hL.2 w' hw')
  rwa [hdl] at this) _ _ _ _ hC H
 rw [htl,show n+(l.toArray.size - n)=l.toArray.size by omega] at G
 exact G
theorem Qm {I:Type} {W:I→World} {id:Nat} {Q:Exit→Act→World→Prop} {a:Act} {w:World} {l:List Oper} (n:Nat) (hm:P.follows .mixedOrders=true) (hB:Region.lexTailB .any l.toArray n=true) (hC:∃ i,w.drew=W i)
  (h:wpQuiet P l.toArray (fun w'=>∃ i,w'=W i) (fun a'=>∀ w',(∃ i,w'=W i)→wpList P l.toArray Q (l.drop n) a' w') (l.take n) a):(Code.region id l.toArray true).wp P Q a w:=
 Zt (C:=fun w'=>∃ i,w'=W i) n hm hB hC h
end
structure Later (w:World) (I:Type) (W:I→World):Prop where
 in_:∀ w',Below w.heap.size w w'→∃ i,w'=W i
 bel:∀ i,Below w.heap.size w (W i)
theorem later (w:World):∃ (I:Type) (_:Nonempty I) (W:I→World),Later w I W:=⟨{ w':World // Below w.heap.size w w' },⟨⟨w,Below.refl _ _⟩⟩,fun i=>i.1,⟨fun w' h=>⟨⟨w',h⟩,rfl⟩,fun i=>i.2⟩⟩
theorem Later.drew {w:World} {I:Type} {W:I→World} (h:Later w I W):∃ i,w.drew=W i:=h.in_ _ (below_drewN w 1)
theorem Later.cell {w:World} {I:Type} {W:I→World} (h:Later w I W) {a:Addr} {v:Value} (c:w.cell? a=some v) (i:I):(W i).cell? a=some v:=((h.bel i).cell (World.block_lt_of_cell? w _ c)).trans c
theorem Later.call {P:Program} {w:World} {I:Type} {W:I→World} (h:Later w I W) {f:FuncId} {args:Array Value} {v:Value} {i:I} (c:Calls P f args (W i) fun e w'=>e = .returned v∧Below (W i).heap.size (W i) w') :
  Calls P f args (W i) fun e w'=>e = .returned v∧∃ j,w'=W j:=
 c.mono fun _ _ ⟨he,hb⟩=>⟨he,h.in_ _ ((h.bel i).trans (hb.mono (h.bel i).size))⟩
theorem Later.call_same {P:Program} {I:Type} {W:I→World} {f:FuncId} {args:Array Value} {v:Value} {i:I} (c:Calls P f args (W i) fun e w'=>e = .returned v∧W i=w') :
  Calls P f args (W i) fun e w'=>e = .returned v∧∃ j,w'=W j:=
 c.mono fun _ _ ⟨he,hb⟩=>⟨he,i,hb.symm⟩
end Go.Dk
namespace Go.Dk
open Go.RowKit
section
variable {P:Program} {ops:Array Oper} {md:Region.Mode} {C:World→Prop}
def mR (md:Region.Mode) (ops:Array Oper) (m n:Nat):Bool:=
 (List.range n).all fun i=>decide (i<m) || (List.range (n+1)).any fun j=>decide (i<j) && Region.waitsFor md ops j i
theorem vA {m n:Nat} {listed:Array Bool} (hs:mR md ops m n=true) (hc:Region.chainB md ops n=true) (_hn:n<ops.size) (inv:HeadInv md ops n listed) :
  ∀ (d i:Nat),n - i=d→m≤i→i<n→listed.getD i true=false→∀ t,n≤t→t ∉ Region.ready md ops listed:=by
 intro d
 induction d using Nat.strongRecOn with
 | _ d ih=>
  intro i hd hm hi hun t ht hr
  obtain ⟨_,ot,hot,hall⟩:=mem_ready.1 hr
  have htlt:t<ops.size:=(Array.getElem?_eq_some_iff.1 hot).1
  by_cases htn:t=n
  ·have h1:=List.all_eq_true.1 hs i (List.mem_range.2 hi)
   simp only [Bool.or_eq_true,decide_eq_true_eq] at h1
   have h1:=h1.resolve_left (by omega)
   obtain ⟨j,hj,hj2⟩:=List.any_eq_true.1 h1
   simp only [Bool.and_eq_true,decide_eq_true_eq] at hj2
   have hjn:=List.mem_range.1 hj
   obtain ⟨oj,hoj,e,he,hb,heq⟩:=Region.waitsFor_spec hj2.2
   have hif:=getD_both hun
   by_cases hjt:j=t
   ·subst hjt
    rw [hot] at hoj;cases hoj
    have:=hall e he hb
    rw [heq,hif] at this;cases this
   ·have hjun:listed.getD j true=false:=by
     cases hL:listed.getD j false with
     | false=>exact getD_in (by rw [inv.size];omega) hL
     | true=>
      have:=inv.closed j oj hoj hL e he hb
      rw [heq,hif] at this;cases this
    exact ih (n - j) (by omega) j rfl (by omega) (by omega) hjun t ht hr
  ·have h1:=List.all_eq_true.1 hc t (List.mem_range.2 htlt)
   simp only [Bool.or_eq_true,decide_eq_true_eq] at h1
   have h1:=h1.resolve_left (by omega)
   obtain ⟨oj,hoj,e,he,hb,heq⟩:=Region.waitsFor_spec h1
   rw [hot] at hoj;cases hoj
   have h2:=hall e he hb
   have h3:=getD_both (inv.tail (t - 1) (by omega) (by omega))
   rw [heq,h3] at h2;cases h2
theorem eI {m n i:Nat} {oi:Oper} {v:Value} {L:Array Bool→Act→Prop} (hi:ops[i]? = some oi) (hsel:∀ (j:Nat) (o:Oper) cs b,ops[j]? = some o→o.op≠.select cs b)
  (hs:mR md ops m n=true) (hc:Region.chainB md ops n=true) (hn:n<ops.size) (hin:i<n) (hdone:∀ listed a,L listed a→∀ j ∈ Region.ready md ops listed,n≤j) (f:Nat) :
  ∀ (listed:Array Bool) (a:Act),HeadInv md ops n listed→(∀ j,j<m→listed.getD j false=true) →
   (∀ j oj,ops[j]? = some oj→j≠i→listed.getD j true=false→(∀ e ∈ oj.after,Region.binds md e=true→e.on≠i)→oi.apart ops oj=true) →
   i ∈ Region.ready md ops listed→YieldsIn P ops C oi v a→Xo P md ops C n L f (listed.setIfInBounds i true) (a.put oi.dst v)→Xo P md ops C n L (f+1) listed a:=by
 have inside:∀ listed,HeadInv md ops n listed→(∀ j,j<m→listed.getD j false=true)→i ∈ Region.ready md ops listed→∀ j ∈ Region.ready md ops listed,j<n:=by
  intro listed inv hpre hr j hj
  apply Classical.byContradiction
  intro h
  have hun:=(mem_ready.1 hr).1
  have hmi:m≤i:=by
   apply Classical.byContradiction
   intro hlt
   have:=hpre i (by omega)
   rw [getD_both hun] at this;cases this
  exact vA hs hc hn inv _ i rfl hmi hin hun j (by omega) hj
 induction f with
 | zero=>
  intro listed a inv hpre _ hr hy H
  refine ⟨List.ne_nil_of_mem hr,fun j hj=>⟨inside _ inv hpre hr j hj,?_⟩⟩
  by_cases e:j=i
  ·subst e;exact hy.qOp hi H
  ·have h1:=hdone _ _ H j (ready_mono hj e)
   have h2:=inside _ inv hpre hr j hj
   omega
 | succ f ih=>
  intro listed a inv hpre hfree hr hy H
  refine ⟨List.ne_nil_of_mem hr,fun j hj=>⟨inside _ inv hpre hr j hj,?_⟩⟩
  by_cases e:j=i
  ·subst e;exact hy.qOp hi H
  ·obtain ⟨hjun,oj,hoj,hall⟩:=mem_ready.1 hj
   have hnot:∀ d ∈ oj.after,Region.binds md d=true→d.on≠i:=fun d hd hb he=>by
    have h1:=hall d hd hb
    rw [he,getD_both (mem_ready.1 hr).1] at h1
    cases h1
   refine qOp_mono (fun a' h3=>ih (listed.setIfInBounds j true) a' (inv.set hj (inside _ inv hpre hr j hj)) (fun k hk=>getD_set_true (hpre k hk)) (fun k ok hk hki hun hno=>hfree k ok hk hki ?_ hno) (ready_mono hr (Ne.symm e)) h3.1 ?_)
    (qOp_put hoj (hfree j oj hoj e hjun hnot) (fun cs b=>hsel i oi cs b hi) (fun cs b=>hsel j oj cs b hoj) hy (H.2 j (ready_mono hj e)).2)
   ·by_cases ejk:j=k
    ·subst ejk;exact hjun
    ·rwa [getD_set_ne true ejk] at hun
   ·rw [Array.setIfInBounds_comm _ _ e];exact h3.2
theorem pU {m n g:Nat} {R:Act→Prop} (hsel:Region.noSelect ops=true) (hs:mR md ops m n=true) (hc:Region.chainB md ops n=true) (hn:n<ops.size) (l:List Oper) :
  ∀ (k:Nat) (listed:Array Bool) (a:Act),(∀ j,j<l.length→l[j]? = ops[k+j]?)→k+l.length=n→HeadInv md ops n listed→(∀ j,j<m→listed.getD j false=true)→Region.lexHead md ops g l.length k listed=true→wpQuiet P ops C R l a →
   Xo P md ops C n (fun listed' a'=>Region.seqB md ops g n listed'=true∧R a') l.length listed a:=by
 induction l with
 | nil=>
  intro k listed a _ hk _ _ hB h
  obtain rfl:k=n:=by simpa using hk
  exact ⟨by simpa [Region.lexHead] using hB,h⟩
 | cons o l ih=>
  intro k listed a hl hk inv hpre hB h
  have h0:ops[k]? = some o:=by simpa using (hl 0 (by simp)).symm
  simp only [List.length_cons,Region.lexHead,Bool.and_eq_true] at hB hk
  have hr:k ∈ Region.ready md ops listed:=by simpa using hB.1.1
  have hq:qOp P ops C k (wpQuiet P ops C R l) a:=by unfold qOp;simp only [h0];exact h
  obtain ⟨v,hy,hK⟩:=yieldsIn_of_qOp h0 hq
  exact eI h0 (Region.noSelect_spec hsel) hs hc hn (by omega) (fun _ _ hL=>seqB_ready hL.1) l.length listed a inv hpre (Region.free_spec h0 hB.1.2) hr hy
   (ih (k+1) _ _ (fun j hj=>by have:=hl (j+1) (by simp;omega);simpa [Nat.add_assoc,Nat.add_comm 1 j] using this) (by omega) (inv.set hr (by omega)) (fun j hj=>getD_set_true (hpre j hj)) hB.2 hK)
def mE (md:Region.Mode) (ops:Array Oper) (n:Nat):Bool:=
 Region.noSelect ops && decide (n<ops.size) && decide (1≤n) && mR md ops 1 n && Region.chainB md ops n && (Region.ready md ops (Array.replicate ops.size false)).contains 0 && Region.free md ops (Array.replicate ops.size false) 0 &&
  Region.lexHead md ops (ops.size - n) (n - 1) 1 ((Array.replicate ops.size false).setIfInBounds 0 true)
theorem Xs {id:Nat} {Q:Exit→Act→World→Prop} {a:Act} {w:World} {o0:Oper} {l:List Oper} (n:Nat) (x:Operand) (hm:P.follows .mixedOrders=true) (hB:mE .any (o0::l).toArray n=true) (hC:C w.drew)
  (hx:o0.op = .move x) (hg:o0.guard=none) (hQ:∀ c a' w',Q (.panic c) (a'.put o0.dst (a.eval x)) w'→Q (.panic c) a' w')
  (h:wpQuiet P (o0::l).toArray C (fun a'=>∀ w',C w'→wpList P (o0::l).toArray Q (l.drop (n - 1)) a' w') (l.take (n - 1)) (a.put o0.dst (a.eval x))):(Code.region id (o0::l).toArray true).wp P Q a w:=by
 simp only [mE,Bool.and_eq_true,decide_eq_true_eq] at hB
 obtain ⟨⟨⟨⟨⟨⟨⟨hsel,hn⟩,h1⟩,hs⟩,hc⟩,hr0⟩,hf0⟩,hlex⟩:=hB
 have hn':n<l.length+1:=by simpa using hn
 have hsz:(o0::l).toArray.size=l.length+1:=by simp
 have h0:(o0::l).toArray[0]? = some o0:=by simp
 have htl:(l.take (n - 1)).length=n - 1:=by simp;omega
 have hdl:(l.drop (n - 1)).length=(o0::l).toArray.size - n:=by rw [hsz,List.length_drop];omega
 have inv0:HeadInv .any (o0::l).toArray n (Array.replicate (o0::l).toArray.size false):=
  ⟨by simp,fun j oj _ hl=>(by rw [getD_replicate_false] at hl;cases hl),fun t _ ht=>getD_in (by simpa using ht) (getD_replicate_false _ _)⟩
 have hr0':0 ∈ Region.ready .any (o0::l).toArray (Array.replicate (o0::l).toArray.size false):=by simpa using hr0
 have inv1:=inv0.set hr0' (by omega)
 have hpre:∀ j,j<1→((Array.replicate (o0::l).toArray.size false).setIfInBounds 0 true).getD j false=true:=by
  intro j hj
  obtain rfl:j=0:=by omega
  simp
 have H:=pU (P:=P) (C:=C) (md:=.any) (g:=(o0::l).toArray.size - n) hsel hs hc hn (l.take (n - 1)) 1 _ (a.put o0.dst (a.eval x)) (fun j hj=>by
  have hj':j<n - 1:=by rw [htl] at hj;exact hj
  simp [hj',Nat.add_comm 1 j]) (by omega) inv1 hpre (by rw [htl];exact hlex) h
 refine wp_region_any hm ?_
 have G:=Xn (Q:=Q) (g:=(o0::l).toArray.size - n) (fun listed a' w' hw' hL=>by
  have:=wpAny_of_seq (md:=.any) (Q':=Q) (l.drop (n - 1)) n listed a' w' (fun j=>by
   have e:n+j=(n - 1+j)+1:=by omega
   simp [e,List.getElem?_drop]) (by rw [hdl];exact hL.1) (hL.2 w' hw')
  rwa [hdl] at this) _ _ _ _ hC H
 have hy:Yields P (o0::l).toArray o0 (a.eval x) a:=.inl ⟨by simp [Region.wanted,hg],fun w=>by rw [BigFrame.run_move x hx]⟩
 have e2:(o0::l).toArray.size=(l.take (n - 1)).length+((o0::l).toArray.size - n)+1:=by rw [htl,hsz];omega
 have W:=wpAny_first (Q:=Q) h0 (Region.noSelect_spec hsel) hQ _ (Array.replicate (o0::l).toArray.size false) a w.drew (Region.free_spec h0 hf0) hr0' hy G
 rw [← e2] at W
 exact W
theorem bL {I:Type} {W:I→World} {id:Nat} {Q:Exit→Act→World→Prop} {a:Act} {w:World} {o0:Oper} {l:List Oper} (n:Nat) (x:Operand) (hm:P.follows .mixedOrders=true) (hB:mE .any (o0::l).toArray n=true) (hC:∃ i,w.drew=W i)
  (hx:o0.op = .move x) (hg:o0.guard=none) (hQ:∀ c a' w',Q (.panic c) (a'.put o0.dst (a.eval x)) w'→Q (.panic c) a' w')
  (h:wpQuiet P (o0::l).toArray (fun w'=>∃ i,w'=W i) (fun a'=>∀ w',(∃ i,w'=W i)→wpList P (o0::l).toArray Q (l.drop (n - 1)) a' w') (l.take (n - 1)) (a.put o0.dst (a.eval x))):(Code.region id (o0::l).toArray true).wp P Q a w:=
 Xs (C:=fun w'=>∃ i,w'=W i) n x hm hB hC hx hg hQ h
end
end Go.Dk
namespace Go.Dk
open Go.RowKit
section
variable {P:Program} {ops:Array Oper} {md:Region.Mode} {F:Bool→World}
def Nq:Op→Bool
 | .move _ | .assign _ | .pick _ _ _ | .load _ _ | .nilCheck _ | .fieldAddr _ _ _ | .indexAddr _ _ _ | .binOp _ _ _ _ _ | .unOp _ _ _ | .extract _ _ | .build _ _=>true
 | _=>false
theorem Zq {α:Type} {r:Result α} {k:α→World→Result Next} {f:FuncId} {args:Array Value} {w':World} (h:∀ x w,k x w≠.ok (.enter f args) w'):r.andThen k≠.ok (.enter f args) w':=by
 cases r with
 | ok x w=>exact h x w
 | halt x w=>intro e;cases e
theorem yR {α:Type} (m:_root_.Go.Sem α) (g:α→Value) (w:World) (f:FuncId) (args:Array Value) (w':World):(m >>= fun x=>pure (Next.value (g x))).run P w≠.ok (.enter f args) w':=by
 have:(m >>= fun x=>pure (Next.value (g x))).run P w=(m.run P w).andThen fun x w=>.ok (.value (g x)) w:=by simp
 rw [this]
 exact Zq fun x w e=>by cases e
theorem eA {α:Type} (m:_root_.Go.Sem α) (k:α→_root_.Go.Sem Next) {w:World} {f:FuncId} {args:Array Value} {w':World} (h:∀ x w,(k x).run P w≠.ok (.enter f args) w'):(m >>= k).run P w≠.ok (.enter f args) w':=by
 have:(m >>= k).run P w=(m.run P w).andThen fun x w=>(k x).run P w:=by simp
 rw [this]
 exact Zq h
theorem Ui (w:World) (f:FuncId) (args:Array Value) (w':World):(runtimePanic .nilDeref:_root_.Go.Sem Next).run P w≠.ok (.enter f args) w':=by
 intro h
 simp [go_sem] at h
theorem tJ (ρ:Operand→Value) (o:Oper) (h:Nq o.op=true) (w:World) (f:FuncId) (args:Array Value) (w':World):(execOp ρ o).run P w≠.ok (.enter f args) w':=by
 obtain ⟨dst,op,ty,pos,aft,gd⟩:=o
 simp only at h
 cases op<;>simp only [Nq,Bool.false_eq_true] at h<;>unfold execOp<;>simp only
 all_goals first | exact yR _ _ _ _ _ _ | (intro e;cases e;done) | skip
 split
 ·exact Ui _ _ _ _
 ·exact Ui _ _ _ _
 ·exact Ui _ _ _ _
 ·split
  ·exact Ui _ _ _ _
  ·refine eA _ _ fun x w=>eA _ _ fun y w=>?_
   split
   ·exact eA _ _ fun z w e=>by cases e
   ·intro e;cases e
  ·intro e;cases e
 ·intro e;cases e
theorem oU {C:World→Prop} {o:Oper} {a:Act} {v:Value} (hp:Nq o.op=true) {w:World} (_hw:C w) (h:o.quietAt P a C w v):o.quietAt P a (fun x=>x=w) w v:=by
 unfold Oper.quietAt at *
 have hn:=tJ (P:=P) a.eval o hp w
 generalize (execOp a.eval o).run P w=r at *
 cases r with
 | ok n w'=>
  cases n<;>simp only [Oper.quietUpon] at h ⊢
  case value=>exact h
  case skip=>exact h
  case enter f args=>exact absurd rfl (hn f args w')
 | halt x w'=>simp only [Oper.quietUpon] at h
theorem wM {C:World→Prop} {i:Nat} {oi:Oper} (hi:ops[i]? = some oi) (hp:Nq oi.op=true) {a:Act} {K:Act→Prop} {w:World} (hw:C w) (h:qOp P ops C i K a):qOp P ops (fun x=>x=w) i K a:=by
 unfold qOp at *
 simp only [hi] at *
 split
 ·rename_i hwt
  rw [if_pos hwt] at h
  obtain ⟨v,h1,h2⟩:=h
  exact ⟨v,fun w' e=>by subst e;exact oU hp hw (h1 _ hw),h2⟩
 ·rename_i hwt
  rw [if_neg hwt] at h
  exact h
def gJ (P:Program) (ops:Array Oper) (F:Bool→World) (oe:Oper) (v:Value) (a:Act):Prop:=Region.wanted oe (yielded ops a.tmps)=true∧(execOp a.eval oe).run P (F false) = .ok (.value v) (F true)
def bF (P:Program) (md:Region.Mode) (ops:Array Oper) (F:Bool→World) (n e:Nat) (oe:Oper) (v:Value) (L:Array Bool→Act→Prop):Nat→Array Bool→Act→Prop
 | 0,listed,a=>listed.getD e false=true∧L listed a
 | f+1,listed,a=>Region.ready md ops listed≠[]∧∀ i ∈ Region.ready md ops listed,i<n ∧
  ((i=e∧gJ P ops F oe v a∧bF P md ops F n e oe v L f (listed.setIfInBounds e true) (a.put oe.dst v)) ∨
   (i≠e∧(∃ oi,ops[i]? = some oi∧Nq oi.op=true)∧qOp P ops (fun w=>∃ b,w=F b) i (bF P md ops F n e oe v L f (listed.setIfInBounds i true)) a))
theorem iU {n e g:Nat} {oe:Oper} {v:Value} {L:Array Bool→Act→Prop} {Q:Exit→Act→World→Prop} (he:ops[e]? = some oe) (hL:∀ listed a,listed.getD e false=true→L listed a→wpAny P md ops Q g listed a (F true)) (f:Nat) :
  ∀ (listed:Array Bool) (a:Act),listed.size=ops.size→bF P md ops F n e oe v L f listed a→wpAny P md ops Q (f+g) listed a (F (listed.getD e false)):=by
 have hes:e<ops.size:=(Array.getElem?_eq_some_iff.1 he).1
 induction f with
 | zero=>intro listed a _ h;rw [Nat.zero_add,h.1];exact hL _ _ h.1 h.2
 | succ f ih=>
  intro listed a hs h
  rw [show f+1+g=(f+g)+1 by omega]
  refine ⟨fun h0=>absurd h0 h.1,fun i hi=>?_⟩
  rcases (h.2 i hi).2 with ⟨rfl,hev,hk⟩ | ⟨hne,⟨oi,hoi,hp⟩,hq⟩
  ·have hun:=getD_both (mem_ready.1 hi).1
   rw [hun]
   have:=ih _ _ (by simpa using hs) hk
   rw [show (listed.setIfInBounds i true).getD i false=true by simp [hs,hes]] at this
   unfold wpOp
   simp only [he]
   rw [if_pos hev.1]
   left
   unfold Oper.wp
   rw [hev.2]
   exact this
  ·refine wpOp_of_qOp (C:=fun x=>x=F (listed.getD e false)) rfl (fun a' w' hw' h'=>?_) (wM hoi hp ⟨_,rfl⟩ hq)
   subst hw'
   have:=ih _ _ (by simpa using hs) h'
   rwa [getD_set_ne false hne] at this
theorem xO {e:Nat} {oi oe:Oper} {v u:Value} (_he:ops[e]? = some oe) (hap:oi.apart ops oe=true) (hse:∀ cs b,oe.op≠.select cs b) {a:Act} (h:gJ P ops F oe v (a.put oi.dst u)):gJ P ops F oe v a:=by
 obtain ⟨h1,h2,h3⟩:=Oper.apart_spec hap
 unfold gJ at *
 rw [wanted_put oe a oi.dst u h1,execOp_put oe hse a oi.dst u h1] at h
 exact h
theorem iM {n e i:Nat} {oi oe:Oper} {u v:Value} {L:Array Bool→Act→Prop} (hi:ops[i]? = some oi) (he:ops[e]? = some oe) (hie:i≠e) (hp:Nq oi.op=true) (hsel:∀ (j:Nat) (o:Oper) cs b,ops[j]? = some o→o.op≠.select cs b)
  (hs:Region.sinkB md ops n=true) (hc:Region.chainB md ops n=true) (hn:n<ops.size) (hin:i<n) (hdone:∀ listed a,L listed a→∀ j ∈ Region.ready md ops listed,n≤j) (f:Nat) :
  ∀ (listed:Array Bool) (a:Act),HeadInv md ops n listed →
   (∀ j oj,ops[j]? = some oj→j≠i→listed.getD j true=false→(∀ d ∈ oj.after,Region.binds md d=true→d.on≠i)→oi.apart ops oj=true) →
   i ∈ Region.ready md ops listed→YieldsIn P ops (fun w=>∃ b,w=F b) oi u a→bF P md ops F n e oe v L f (listed.setIfInBounds i true) (a.put oi.dst u)→bF P md ops F n e oe v L (f+1) listed a:=by
 have inside:∀ listed,HeadInv md ops n listed→i ∈ Region.ready md ops listed→∀ j ∈ Region.ready md ops listed,j<n:=by
  intro listed inv hr j hj
  apply Classical.byContradiction
  intro h
  exact tail_waits hs hc hn inv _ i rfl hin (mem_ready.1 hr).1 j (by omega) hj
 induction f with
 | zero=>
  intro listed a inv _ hr hy H
  refine ⟨List.ne_nil_of_mem hr,fun j hj=>⟨inside _ inv hr j hj,?_⟩⟩
  by_cases ej:j=i
  ·subst ej;exact .inr ⟨hie,⟨oi,hi,hp⟩,hy.qOp hi H⟩
  ·have h1:=hdone _ _ H.2 j (ready_mono hj ej)
   have h2:=inside _ inv hr j hj
   omega
 | succ f ih=>
  intro listed a inv hfree hr hy H
  refine ⟨List.ne_nil_of_mem hr,fun j hj=>⟨inside _ inv hr j hj,?_⟩⟩
  by_cases ej:j=i
  ·subst ej;exact .inr ⟨hie,⟨oi,hi,hp⟩,hy.qOp hi H⟩
  ·obtain ⟨hjun,oj,hoj,hall⟩:=mem_ready.1 hj
   have hnot:∀ d ∈ oj.after,Region.binds md d=true→d.on≠i:=fun d hd hb he=>by
    have h1:=hall d hd hb
    rw [he,getD_both (mem_ready.1 hr).1] at h1
    cases h1
   have hap:=hfree j oj hoj ej hjun hnot
   have hfree':∀ k ok,ops[k]? = some ok→k≠i→(listed.setIfInBounds j true).getD k true=false→(∀ d ∈ ok.after,Region.binds md d=true→d.on≠i)→oi.apart ops ok=true:=fun k ok hk hki hun hno=>by
    refine hfree k ok hk hki ?_ hno
    by_cases ejk:j=k
    ·subst ejk;exact hjun
    ·rwa [getD_set_ne true ejk] at hun
   rcases (H.2 j (ready_mono hj ej)).2 with ⟨hje,hev,hk⟩ | ⟨hje,hpj,hq⟩
   ·subst hje
    have ho:oj=oe:=by rw [he] at hoj;exact (Option.some.inj hoj).symm
    subst ho
    obtain ⟨p1,p2,p3⟩:=Oper.apart_spec hap
    refine .inl ⟨rfl,xO hoj hap (fun cs b=>hsel _ _ cs b hoj) hev,ih _ _ (inv.set hj (inside _ inv hr j hj)) hfree' (ready_mono hr (Ne.symm ej)) (hy.of_same (execOp_put oi (fun cs b=>hsel _ _ cs b hi) a oj.dst v p3) (wanted_put oi a oj.dst v p3)) ?_⟩
    rw [Array.setIfInBounds_comm _ _ ej,← Act.put_comm a u v p2]
    exact hk
   ·refine .inr ⟨hje,hpj,qOp_mono (fun a' h3=>ih (listed.setIfInBounds j true) a' (inv.set hj (inside _ inv hr j hj)) hfree' (ready_mono hr (Ne.symm ej)) h3.1 ?_)
     (qOp_put hoj hap (fun cs b=>hsel i oi cs b hi) (fun cs b=>hsel j oj cs b hoj) hy hq)⟩
    rw [Array.setIfInBounds_comm _ _ ej];exact h3.2
theorem oP {n e g:Nat} {oe:Oper} {v:Value} {R:Act→Prop} (hen:e+1=n) (he:ops[e]? = some oe) (hsel:Region.noSelect ops=true) (hs:Region.sinkB md ops n=true) (hc:Region.chainB md ops n=true) (hn:n<ops.size) (l:List Oper) (hpl:l.all (fun o=>Nq o.op)=true) :
  ∀ (k:Nat) (listed:Array Bool) (a:Act),(∀ j,j<l.length→l[j]? = ops[k+j]?)→k+l.length=e→HeadInv md ops n listed→listed.getD e false=false→(∀ j,j<k→listed.getD j false=true)→Region.lexHead md ops g (l.length+1) k listed=true →
   wpQuiet P ops (fun w=>∃ b,w=F b) (fun a'=>gJ P ops F oe v a'∧R (a'.put oe.dst v)) l a →
   bF P md ops F n e oe v (fun listed' a'=>Region.seqB md ops g n listed'=true∧R a') (l.length+1) listed a:=by
 induction l with
 | nil=>
  intro k listed a _ hk inv hun hall hB h
  obtain rfl:k=e:=by simpa using hk
  simp only [List.length_nil,Region.lexHead,Bool.and_eq_true] at hB
  have hr:k ∈ Region.ready md ops listed:=by simpa using hB.1.1
  have hsz:=inv.size
  refine ⟨List.ne_nil_of_mem hr,fun j hj=>?_⟩
  have hjn:j<n:=by
   apply Classical.byContradiction
   intro hcon
   exact tail_waits hs hc hn inv _ k rfl (by omega) (mem_ready.1 hr).1 j (by omega) hj
  have hje:j=k:=by
   apply Classical.byContradiction
   intro hcon
   have:=hall j (by omega)
   rw [getD_both (mem_ready.1 hj).1] at this;cases this
  refine ⟨hjn,.inl ⟨hje,h.1,?_,?_,h.2⟩⟩
  ·have hes:k<ops.size:=by omega
   simp [hsz,hes]
  ·rw [← hen];exact hB.2
 | cons o l ih=>
  intro k listed a hl hk inv hun hall hB h
  simp only [List.all_cons,Bool.and_eq_true] at hpl
  have h0:ops[k]? = some o:=by simpa using (hl 0 (by simp)).symm
  simp only [List.length_cons] at hB hk
  rw [Region.lexHead] at hB
  simp only [Bool.and_eq_true] at hB
  have hr:k ∈ Region.ready md ops listed:=by simpa using hB.1.1
  have hq:qOp P ops (fun w=>∃ b,w=F b) k (wpQuiet P ops (fun w=>∃ b,w=F b) (fun a'=>gJ P ops F oe v a'∧R (a'.put oe.dst v)) l) a:=by unfold qOp;simp only [h0];exact h
  obtain ⟨u,hy,hK⟩:=yieldsIn_of_qOp h0 hq
  have hke:k≠e:=by omega
  exact iM h0 he hke hpl.1 (Region.noSelect_spec hsel) hs hc hn (by omega) (fun _ _ hL=>seqB_ready hL.1) (l.length+1) listed a inv (Region.free_spec h0 hB.1.2) hr hy
   (ih hpl.2 (k+1) _ _ (fun j hj=>by have:=hl (j+1) (by simp;omega);simpa [Nat.add_assoc,Nat.add_comm 1 j] using this) (by omega) (inv.set hr (by omega)) (by rw [getD_set_ne false hke];exact hun) (fun j hj=>by
    by_cases ejk:j=k
    ·subst ejk
     have hks:j<ops.size:=by omega
     simp [inv.size,hks]
    ·exact getD_set_true (hall j (by omega))) hB.2 hK)
def lE (md:Region.Mode) (ops:Array Oper) (n:Nat):Bool:=
 Region.noSelect ops && decide (n<ops.size) && decide (1≤n) && Region.sinkB md ops n && Region.chainB md ops n && (ops.toList.take (n - 1)).all (fun o=>Nq o.op) && Region.lexHead md ops (ops.size - n) n 0 (Array.replicate ops.size false)
theorem pI {id:Nat} {Q:Exit→Act→World→Prop} {a:Act} {w:World} {l:List Oper} (n:Nat) (oe:Oper) (v:Value) (hm:P.follows .mixedOrders=true) (hB:lE .any l.toArray n=true) (he:l[n - 1]? = some oe) (hF:w.drew=F false)
  (h:wpQuiet P l.toArray (fun w'=>∃ b,w'=F b) (fun a'=>gJ P l.toArray F oe v a'∧wpList P l.toArray Q (l.drop n) (a'.put oe.dst v) (F true)) (l.take (n - 1)) a):(Code.region id l.toArray true).wp P Q a w:=by
 simp only [lE,Bool.and_eq_true,decide_eq_true_eq] at hB
 obtain ⟨⟨⟨⟨⟨⟨hsel,hn⟩,h1⟩,hs⟩,hc⟩,hpl⟩,hlex⟩:=hB
 have hn':n<l.length:=by simpa using hn
 have htl:(l.take (n - 1)).length=n - 1:=by simp;omega
 have hdl:(l.drop n).length=l.toArray.size - n:=by simp
 have inv0:HeadInv .any l.toArray n (Array.replicate l.toArray.size false):=
  ⟨by simp,fun j oj _ hl=>(by rw [getD_replicate_false] at hl;cases hl),fun t _ ht=>getD_in (by simpa using ht) (getD_replicate_false _ _)⟩
 have he':l.toArray[n - 1]? = some oe:=by simpa using he
 have H:=oP (P:=P) (F:=F) (md:=.any) (g:=l.toArray.size - n) (e:=n - 1) (R:=fun a'=>wpList P l.toArray Q (l.drop n) a' (F true)) (by omega) he' hsel hs hc hn (l.take (n - 1)) (by simpa using hpl) 0 _ a (fun j hj=>by
  have hj':j<n - 1:=by rw [htl] at hj;exact hj
  simp [hj']) (by simpa using htl) inv0 (getD_replicate_false _ _) (fun j hj=>by omega) (by rw [htl,show n - 1+1=n by omega];exact hlex) h
 refine wp_region_any hm ?_
 have G:=iU (Q:=Q) (g:=l.toArray.size - n) he' (fun listed a' _ hL=>by
  have:=wpAny_of_seq (md:=.any) (Q':=Q) (l.drop n) n listed a' (F true) (fun j=>by simp [List.getElem?_drop]) (by rw [hdl];exact hL.1) hL.2
  rwa [hdl] at this) _ _ _ (by simp) H
 rw [htl,show n - 1+1+(l.toArray.size - n)=l.toArray.size by simp;omega,getD_replicate_false] at G
 rw [← hF] at G
 exact G
structure TwoI (w0 w1:World) (I:Type) (W:I→World) (i0 i1:I):Prop where
 a0:W i0=w0
 a1:W i1=w1
 all:∀ i,i=i0∨i=i1
theorem kQ (w0 w1:World):∃ (I:Type) (_:Nonempty I) (W:I→World) (i0 i1:I),TwoI w0 w1 I W i0 i1:=⟨Bool,⟨true⟩,fun b=>if b then w1 else w0,false,true,rfl,rfl,fun b=>by cases b<;>simp⟩
theorem TwoI.cell {w0 w1:World} {I:Type} {W:I→World} {i0 i1:I} (h:TwoI w0 w1 I W i0 i1) {a:Addr} {v:Value} (c0:w0.cell? a=some v) (c1:w1.cell? a=some v) (i:I):(W i).cell? a=some v:=by
 rcases h.all i with rfl | rfl
 ·rw [h.a0];exact c0
 ·rw [h.a1];exact c1
theorem Bc {w:World} {o:Obj} {I:Type} {W:I→World} {i0 i1:I} (h:TwoI w.drew (w.drew.alloc o) I W i0 i1) {a:Addr} {v:Value} (c:w.cell? a=some v) (i:I):(W i).cell? a=some v:=by
 have c0:w.drew.cell? a=some v:=c
 exact h.cell c0 ((Ab w.drew o).cell (World.block_lt_of_cell? _ _ c0) |>.trans c0) i
theorem Jz {I:Type} {W:I→World} {i0 i1:I} {w1:World} {id:Nat} {Q:Exit→Act→World→Prop} {a:Act} {w:World} {l:List Oper} (n:Nat) (oe:Oper) (v:Value) (hW:TwoI w.drew w1 I W i0 i1) (hm:P.follows .mixedOrders=true) (hB:lE .any l.toArray n=true) (he:l[n - 1]? = some oe)
  (hev:∀ ρ:Operand→Value,(execOp ρ oe).run P w.drew = .ok (.value v) w1) (hg:oe.guard=none)
  (h:wpQuiet P l.toArray (fun w'=>∃ i,w'=W i) (fun a'=>wpList P l.toArray Q (l.drop n) (a'.put oe.dst v) w1) (l.take (n - 1)) a):(Code.region id l.toArray true).wp P Q a w:=by
 have hc:(fun w'=>∃ i,w'=W i)=(fun w'=>∃ b:Bool,w'=(fun b:Bool=>W (if b then i1 else i0)) b):=by
  funext w'
  refine propext ⟨fun ⟨i,hi⟩=>?_,fun ⟨b,hb⟩=>⟨_,hb⟩⟩
  rcases hW.all i with rfl | rfl
  ·exact ⟨false,by simpa using hi⟩
  ·exact ⟨true,by simpa using hi⟩
 rw [hc] at h
 refine pI (F:=fun b=>W (if b then i1 else i0)) n oe v hm hB he (by simp [hW.a0]) ?_
 have hR:(fun a'=>wpList P l.toArray Q (l.drop n) (a'.put oe.dst v) w1)=(fun a'=>gJ P l.toArray (fun b=>W (if b then i1 else i0)) oe v a'∧wpList P l.toArray Q (l.drop n) (a'.put oe.dst v) ((fun b=>W (if b then i1 else i0)) true)):=by
  funext a'
  refine propext ⟨fun h=>⟨⟨by simp [Region.wanted,hg],by simp only [Bool.false_eq_true,if_false,if_true];rw [hW.a0,hW.a1];exact hev _⟩,by simpa [hW.a1] using h⟩,fun h=>by simpa [hW.a1] using h.2⟩
 rw [hR] at h
 exact h
end
end Go.Dk
namespace Go.Dk
open Go.RowKit
section
variable {P:Program} {ops:Array Oper} {md:Region.Mode} {C:World→Prop}
end
end Go.Dk
end
