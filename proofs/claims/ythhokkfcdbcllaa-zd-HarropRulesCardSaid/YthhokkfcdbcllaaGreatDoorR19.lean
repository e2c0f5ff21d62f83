/- Parts of the proof: Hd, He, Hf, Hg. -/
import Derived.Outline
import Derived.IntWalk
import Derived.BigQuiet
import Derived.Deep.QuietTactic
import Derived.Test.YthhokkfcdbcllaaGreatDoorR01
import Derived.Test.YthhokkfcdbcllaaGreatDoorR02
import Derived.Test.YthhokkfcdbcllaaGreatDoorR03
import Derived.Test.YthhokkfcdbcllaaGreatDoorR04
import Derived.Test.YthhokkfcdbcllaaGreatDoorR05
import Derived.Test.YthhokkfcdbcllaaGreatDoorR06
import Derived.Test.YthhokkfcdbcllaaGreatDoorR07
import Derived.Test.YthhokkfcdbcllaaGreatDoorR08
import Derived.Test.YthhokkfcdbcllaaGreatDoorR09
import Derived.Test.YthhokkfcdbcllaaGreatDoorR10
import Derived.Test.YthhokkfcdbcllaaGreatDoorR11
import Derived.Test.YthhokkfcdbcllaaGreatDoorR12
import Derived.Test.YthhokkfcdbcllaaGreatDoorR13
import Derived.Test.YthhokkfcdbcllaaGreatDoorR14
import Derived.Test.YthhokkfcdbcllaaGreatDoorR15
import Derived.Test.YthhokkfcdbcllaaGreatDoorR18
section
namespace Go.Dk
open Go.RowKit Go.Maps Go.MapKept Go.Shelf
open Go.Proofs hiding intOf
def Yz (parts:Array (Nat × Value)):_root_.Go.Sem Value:=Instr.build 86 parts
theorem Su (parts:Array (Nat × Value)):Instr.build 86 parts=Yz parts:=rfl
set_option maxRecDepth 100000 in
theorem bT (W:World) (m:Nat) (g:Int):(Yz #[(0,.agg (Ag m).toArray),(1,.int .i64 g)]).run Tryz.prog W = .ok (.agg (Ad m g).toArray) W:=by
 have hsl:=Bg m
 have hfs:∀ (l:List (Value × Nat)) (cs:Array Value),(List.foldl (fun (cs:Array Value) (x:Value × Nat)=>cs.setIfInBounds x.2 x.1) cs l).size=cs.size:=fold_size
 have hpre:∀ z:Array Value,16≤z.size→List.foldl (fun (cs:Array Value) (x:Value × Nat)=>cs.setIfInBounds x.2 x.1) z (Ag m).zipIdx=(Ag m++z.toList.drop 16).toArray:=fun z hz=>by
  have h:=fold_at 0 (Ag m) 0 z (by rw [Bg];omega)
  simp only [Nat.zero_add,List.take_zero,List.nil_append,Bg] at h
  exact h
 unfold Yz
 simp [go_sem,Instr.build,Instr.fill,hsl,hfs]
 rw [hpre _ (by decide)]
 simp [Ad,Bg]
set_option maxRecDepth 100000 in
set_option maxHeartbeats 1000000 in
theorem of_none (w:World) (a:Option Addr) (c:Nat):Calls Tryz.prog 50 #[.slice a 0 c] w fun e w'=>e = .returned (.tuple #[.agg (Ag 0).toArray,.int .i64 0])∧Below w.heap.size w w':=by
 have HZ:Hid (Ae ((w.alloc (.cells zeroV.toArray 77)).alloc (.cells zeroV.toArray 77)) w.heap.size zeroV 77∧Ae ((w.alloc (.cells zeroV.toArray 77)).alloc (.cells zeroV.toArray 77)) (w.heap.size+1) (Ag 0) 77∧Below w.heap.size w ((w.alloc (.cells zeroV.toArray 77)).alloc (.cells zeroV.toArray 77))):=by
  refine ⟨(Ae.new w zeroV _).below (Ab _ _),?_,Ac (Ab _ _) (Ab _ _)⟩
  have:=Ae.new (w.alloc (.cells zeroV.toArray 77)) zeroV 77
  simpa [zeroV] using this
 go_enter Tryz.func50,Tryz.ntmps50
 go_wp2_with fail
 rw [show (#[.int .u64 0,.int .u64 0,.int .u64 0,.int .u64 0,.int .u64 0,.int .u64 0,.int .u64 0,.int .u64 0,.int .u64 0,.int .u64 0,.int .u64 0,.int .u64 0,.int .u64 0,.int .u64 0,.int .u64 0,.int .u64 0]:Array Value)=zeroV.toArray from rfl]
 generalize ((w.alloc (.cells zeroV.toArray 77)).alloc (.cells zeroV.toArray 77))=W0 at *
 go_loopw [9] (fun i W=>i = .int .i64 0∧W=W0) (fun _ _=>0)
 case atStart=>exact ⟨rfl,rfl⟩
 case round=>
  obtain ⟨rfl,rfl⟩:=hrel
  go_wp2_with (first
   | (refine Bv (.tmp 4) rfl rfl rfl HZ.o.2.1 ?_)
   | (refine Da (.tmp 2) (.tmp 27) rfl rfl rfl rfl HZ.o.1 (by simp [zeroV,Ag]) ?_;intro W7 hb7 ho7;have K7:=Aa hb7;have K8:=Aa (HZ.o.2.2.trans (ho7.below (Nat.le_refl _)));clear hb7 ho7))
  exact bodyPost_ret (Oi rfl rfl rfl K7.o) rfl ⟨rfl,K8.o⟩
theorem jV {zs:List Int} {j:Nat} (h:j<(Bi zs).length) (hz:∀ z ∈ zs,0≤z):∃ z,zs[j]? = some z∧z=(((Bi zs)[j]:Nat):Int):=by
 have hj:j<zs.length:=by simpa [Bi] using h
 refine ⟨zs[j],List.getElem?_eq_getElem hj,?_⟩
 have:=hz _ (List.getElem_mem hj)
 simp only [Bi,List.getElem_map]
 omega
theorem xT (w:World) (v:Value) (zs:List Int) (hr:Rd w v zs.length 1 (ints zs)) (hl:zs.length<2 ^ 62) (hz:∀ z ∈ zs,0≤z∧z<1024) :
  Calls Tryz.prog 50 #[v] w fun e w'=>e = .returned (.tuple #[.agg (Ag (Df (Bi zs))).toArray,.int .i64 0])∧Below w.heap.size w w':=by
 by_cases h0:zs = []
 ·subst h0
  obtain ⟨a,c,rfl⟩:=hr.slice
  exact of_none w a c
 ·have hp:0<zs.length:=List.length_pos_iff.2 h0
  obtain ⟨b,o,c,rfl,hc⟩:=hr.some hp
  have hn:(Bi zs).length=zs.length:=by simp [Bi]
  have:=jY w b o c (Bi zs) (by omega) (fun n hn=>by obtain ⟨z,hz',rfl⟩:=List.mem_map.1 hn;have:=hz z hz';omega) (fun j hj=>by
   obtain ⟨z,h1,h2⟩:=jV hj (fun z h=>(hz z h).1)
   rw [← h2]
   exact hc j _ (by simp [ints,h1]))
  rwa [hn] at this
def nO (cb:Nat):Value:=.func (.func 49) #[] #[.pointer (some ⟨cb,0,none⟩)]
structure Asks (F:FP) (W:World) (cb:Nat) (c:Value) (rows:List ND):Prop where
 cell:W.cell? ⟨cb,0,none⟩=some c
 tab:Cm F W c rows
 o:¬ F cb
theorem Asks.below {F:FP} {W W':World} {cb:Nat} {c:Value} {rows:List ND} (h:Asks F W cb c rows) (hb:Below W.heap.size W W'):Asks F W' cb c rows:=
 ⟨(hb.cell (World.block_lt_of_cell? _ _ h.cell)).trans h.cell,h.tab.below hb,h.o⟩
theorem Asks.put {F F':FP} {W W':World} {cb:Nat} {c:Value} {rows rows':List ND} (h:Asks F W cb c rows) (hk:KeptF F W F' W') (ht:Cm F' W' c rows'):Asks F' W' cb c rows':=
 ⟨hk.cell h.cell h.o,ht,fun hf=>h.o (hk.sub _ (World.block_lt_of_cell? _ _ h.cell) hf)⟩
def pV (w:World) (rows:List ND) (e:Ending) (w':World):Prop:=
 ∃ c cb F,e = .returned (.tuple #[c,nO cb])∧Asks F w' cb c rows∧(∀ b,F b→w.heap.size≤b)∧w.heap.size≤cb∧Below w.heap.size w w'
set_option maxRecDepth 100000 in
set_option maxHeartbeats 1000000 in
theorem Pg (F:FP) (w:World) (t:Value) (rows:List ND) (h:Cm F w t rows):Calls Tryz.prog 28 #[t] w (pV w rows):=by
 have H:=Aa h
 clear h
 go_enter Tryz.func28,Tryz.ntmps28
 go_wp2_with (go_at_call 48;refine (tC H.o).mono ?_;rintro e w2 ⟨c,F2,rfl,ht2,hn2,hb2⟩;obtain ⟨pc,rfl⟩:∃ pc,c = .pointer (some ⟨pc,0,none⟩):=(by obtain ⟨pc,_,_,e,_⟩:=ht2.col 0;exact ⟨pc,e⟩);have HT2:=Aa ht2;have HN2:=Aa hn2;have HB2:=Aa hb2;clear ht2 hn2 hb2)
 go_ret2
 exact ⟨_,w2.heap.size,F2,rfl,⟨World.cell?_alloc_at _ _ _ _ rfl,HT2.o.below (Ab _ _),fun hf=>by have:=HT2.o.in_ _ hf;omega⟩,HN2.o,HB2.o.size,Ac HB2.o (Ab _ _)⟩
attribute [local go_sem ↓] Su
theorem rH {rows:List ND} {ns:List Nat} {g:Nat} {r:SA} (hr:Xt rows ns g=r) (h:r.err=0):Gz rows ns g=Ax r.st r.at_∧Hf rows ns g=0:=by
 unfold Gz Hf;rw [hr,h];simp
theorem sL {rows:List ND} {ns:List Nat} {g:Nat} {r:SA} (hr:Xt rows ns g=r) (h:r.err≠0):Gz rows ns g=false∧Hf rows ns g=110:=by
 unfold Gz Hf;rw [hr,if_neg h];simp [h]
theorem Gg {W3 W W5:World} {F F5:FP} (h:Aft W3 W) (hk:KeptF F W F5 W5) (hn:∀ b,F b→W3.heap.size≤b):Below W3.heap.size W3 W5:=
 h.trans (hk.below h.size fun b hb hf=>by have:=hn b hf;omega)
set_option maxRecDepth 100000 in
set_option maxHeartbeats 4000000 in
theorem dW (F:FP) (w:World) (cb:Nat) (c:Value) (rows:List ND) (h:Asks F w cb c rows) (hT:TabG w) (v:Value) (zs:List Int) (hv:Rd w v zs.length 1 (ints zs)) (hl:zs.length<2 ^ 62) (hz:∀ z ∈ zs,hasB rows.length z=true) (g:Nat) (hg:g<rows.length) :
  Calls Tryz.prog 49 #[v,.int .i64 (g:Int),.pointer (some ⟨cb,0,none⟩)] w fun e w'=>e = .returned (.tuple #[.bool (Gz rows (Bi zs) g),.int .i64 (Hf rows (Bi zs) g)])∧Below w.heap.size w w':=by
 have hok:=h.tab.ok
 have hle:=hok.le
 have H:=Aa h
 have HT:=Aa hT
 have HOF:=Aa (xT w v zs hv hl (fun z hz'=>by obtain ⟨n,rfl,hn⟩:=Dx (hz z hz');omega))
 have HW:Hid (Wf rows ⟨Df (Bi zs),g⟩):=mN (fun n hn=>by obtain ⟨z,hz',rfl⟩:=List.mem_map.1 hn;obtain ⟨k,rfl,hk⟩:=Dx (hz z hz');simpa using hk) hg
 have H0:Hid (0<w.heap.size):=World.block_lt_of_cell? _ _ (hT 0 (by omega))
 obtain ⟨r,hr⟩:∃ r,r=Xt rows (Bi zs) g:=⟨_,rfl⟩
 have HR:=Aa hr.symm
 have HBS:=Aa (fun W=>bT W (Df (Bi zs)) (g:Int))
 generalize hm:Df (Bi zs)=m at *
 have HM:=Aa hm
 clear h hT hv hz hr hok hm hle
 go_enter Tryz.func49,Tryz.ntmps49
 have HZ:Hid (∀ W:World,Ae (W.alloc (.cells #[.int .u64 0,.int .u64 0,.int .u64 0,.int .u64 0,.int .u64 0,.int .u64 0,.int .u64 0,.int .u64 0,.int .u64 0,.int .u64 0,.int .u64 0,.int .u64 0,.int .u64 0,.int .u64 0,.int .u64 0,.int .u64 0] 77)) W.heap.size zeroV 77):=fun W=>Ae.new W zeroV 77
 go_wp2_with (first
  | (go_at_call 50;refine HOF.o.mono ?_;rintro e w2 ⟨rfl,hb2⟩;have HB2:=Aa hb2;clear hb2)
  | (refine Da (.tmp 7) (.tmp 14) rfl rfl rfl rfl (HZ.o w2) (by simp [zeroV,Ag]) ?_;intro W3 hb3 ho3;have HX3:=Aa hb3;have HB3:=Aa (Ac HB2.o ((Ab _ _).trans (ho3.below (Nat.le_refl _))));have HS3:Hid (W3.heap.size=w2.heap.size+1):=(by unfold Hid;rw [ho3.size];simp);clear hb3 ho3))
 have HA3:=Aa (H.o.below HB3.o)
 have HTG:=Aa (HT.o.below HB3.o)
 clear HB2 HOF HZ HS3
 generalize w2.heap.size=xb at *
 have hu:Tryz.prog.underlying 77=some (.array 16 75):=by kernel_rfl
 have hi:(Tryz.prog.info? 77).map (·.size)=some (Ag m).length:=by rw [Bg];exact Nx
 have HC:Hid (∀ W',Below W3.heap.size W3 W'→Aft W3 W'∧W'.cell? ⟨cb,0,none⟩=some c∧W'.rangeAt xb 0 (Ag m)):=fun W' hb=>⟨hb,(HA3.o.below hb).cell,(HX3.o.below hb).range (by simp)⟩
 have HD:Hid (Below W3.heap.size W3 (W3.drewN 1)):=below_drewN W3 1
 have hbs:=HBS.o
 have HCP:Hid (∀ W',Below W3.heap.size W3 W'→Calls Tryz.prog 48 #[c] W' fun e w'=>∃ c' F',e = .returned c'∧Cm F' w' c' rows∧(∀ b,F' b→W'.heap.size≤b)∧Below W'.heap.size W' w'):=fun W' hb=>tC (HA3.o.tab.below hb)
 have HRUN:Hid (∀ (W':World) (F':FP) (c':Value),Below W3.heap.size W3 W'→Cm F' W' c' rows→(∀ b,F' b→W3.heap.size≤b)→Calls Tryz.prog 30 #[c',.agg (Ad m (g:Int)).toArray,.int .i64 4096] W' (Ya F' W' c' rows 4096 r)):=fun W' F' c' hb ht hn=>by
  have h0:0<W3.heap.size:=by have:=H0.o;have:=HB3.o.size;omega
  exact run_any F' W' c' rows ht (HTG.o.below hb) (fun hf=>by have:=hn 0 hf;omega) ⟨m,g⟩ HW.o 4096 (by omega) (by omega) r (by have:=HR.o;unfold Xt at this;rw [HM.o] at this;exact this)
 have HZE:Hid (∀ W:World,Ae (W.alloc (.cells #[.bool false,.slice none 0 0,.int .i64 0] 82)) W.heap.size [.bool false,.slice none 0 0,.int .i64 0] 82):=fun W=>Ae.new W [.bool false,.slice none 0 0,.int .i64 0] 82
 by_cases hz:r.err=0
 ·have HZR:=Aa hz
  have HAE:=Aa (rH HR.o hz)
  clear hz
  go_region_held3 (fun W'=>Aft W3 W'∧W'.cell? ⟨cb,0,none⟩=some c∧W'.rangeAt xb 0 (Ag m))
   ((refine HC.o _ ?_;first | exact HD.o | exact HB4.o | exact HB5.o | exact Ac (And.left (by assumption)) (Ab _ _) | exact Ac HB5.o (Ab _ _) | exact ((HB5.o.setCell (p:=⟨W3.heap.size,0,none⟩) (Nat.le_refl _) _).setCell (p:=⟨W3.heap.size,1,none⟩) (Nat.le_refl _) _).setCell (p:=⟨W3.heap.size,2,none⟩) (Nat.le_refl _) _ | exact ((HB5.o.setCell (p:=⟨W4.heap.size,0,none⟩) HB4.o.size _).setCell (p:=⟨W4.heap.size,1,none⟩) HB4.o.size _).setCell (p:=⟨W4.heap.size,2,none⟩) HB4.o.size _ | assumption))
   ((first
     | (go_at_call 48;refine (HCP.o ((W3.drew).alloc _) (And.left (by assumption))).mono ?_;rintro e W4 ⟨c',F4,rfl,ht4,hn4,hb4⟩;have HT4:=Aa ht4;have HN4:Hid (∀ b,F4 b→W3.heap.size≤b):=(fun b hb=>(by have:=hn4 b hb;simp at this;omega));have HX4:Hid (Ae W4 W3.heap.size [.bool false,.slice none 0 0,.int .i64 0] 82∧¬ F4 W3.heap.size):=⟨(HZE.o W3.drew).below hb4,fun hf=>Nat.not_succ_le_self _ (by simpa using hn4 _ hf)⟩;have HB4:=Aa (Ac (Ac HD.o (Ab _ _)) hb4);clear ht4 hn4 hb4)
     | (go_at_call 48;refine (HCP.o W3.drew (And.left (by assumption))).mono ?_;rintro e W4 ⟨c',F4,rfl,ht4,hn4,hb4⟩;have HT4:=Aa ht4;have HN4:Hid (∀ b,F4 b→W3.heap.size≤b):=(fun b hb=>(by have:=hn4 b hb;simp at this;omega));have HB4:=Aa (Ac HD.o hb4);clear ht4 hn4 hb4)
     | (go_at_call 30;refine (HRUN.o W4 F4 _ (And.left (by assumption)) HT4.o HN4.o).mono ?_;rintro e W5 ⟨F5,hk5,hg5,_⟩;obtain ⟨sv,rfl,_,kvs,K5,_,hown5,_⟩:=hg5 HZR.o;obtain ⟨sa,sc,rfl⟩:=Ba hown5;clear hown5 hg5;have HB5:=Aa (Gg (And.left (by assumption)) hk5 HN4.o);have x5:Ae W5 W3.heap.size [.bool false,.slice none 0 0,.int .i64 0] 82:=hk5.box HX4.o.1 HX4.o.2;have c50:=x5.cell (i:=0) rfl;have c51:=x5.cell (i:=1) rfl;have c52:=x5.cell (i:=2) rfl;have f50:=x5.fr 0;have f51:=x5.fr 1;have f52:=x5.fr 2;clear hk5)
     | (go_at_call 30;refine (HRUN.o W4 F4 _ (And.left (by assumption)) HT4.o HN4.o).mono ?_;rintro e W5 ⟨F5,hk5,hg5,_⟩;obtain ⟨sv,rfl,_,kvs,K5,_,hown5,_⟩:=hg5 HZR.o;obtain ⟨sa,sc,rfl⟩:=Ba hown5;clear hown5 hg5;have HB5:=Aa (Gg (And.left (by assumption)) hk5 HN4.o);clear hk5)
     | (go_at_call 30;refine (HRUN.o (W4.alloc _) F4 _ (And.left (by assumption)) (HT4.o.below (Ab _ _)) HN4.o).mono ?_;rintro e W5 ⟨F5,hk5,hg5,_⟩;obtain ⟨sv,rfl,_,kvs,K5,_,hown5,_⟩:=hg5 HZR.o;obtain ⟨sa,sc,rfl⟩:=Ba hown5;clear hown5 hg5;have HB5:=Aa (Gg (And.left (by assumption)) hk5 HN4.o);have x5:Ae W5 W4.heap.size [.bool false,.slice none 0 0,.int .i64 0] 82:=hk5.box (HZE.o W4) (fun hf=>absurd (HT4.o.in_ _ hf) (Nat.lt_irrefl _));have c50:=x5.cell (i:=0) rfl;have c51:=x5.cell (i:=1) rfl;have c52:=x5.cell (i:=2) rfl;have f50:=x5.fr 0;have f51:=x5.fr 1;have f52:=x5.fr 2;clear hk5)
     | fail))
  all_goals go_wp2_with fail
  all_goals go_ret2
  all_goals refine ⟨by rw [HAE.o.1,HAE.o.2];rfl,?_⟩
  all_goals first
   | exact Ac HB3.o HB5.o
   | exact Ac HB3.o (Ac HB5.o (Ab _ _))
   | exact Ac HB3.o (((HB5.o.setCell (p:=⟨W3.heap.size,0,none⟩) (Nat.le_refl _) _).setCell (p:=⟨W3.heap.size,1,none⟩) (Nat.le_refl _) _).setCell (p:=⟨W3.heap.size,2,none⟩) (Nat.le_refl _) _)
   | exact Ac HB3.o (((HB5.o.setCell (p:=⟨W4.heap.size,0,none⟩) HB4.o.size _).setCell (p:=⟨W4.heap.size,1,none⟩) HB4.o.size _).setCell (p:=⟨W4.heap.size,2,none⟩) HB4.o.size _)
 ·have HZR:=Aa hz
  have HAE:=Aa (sL HR.o hz)
  have hz2:(r.err != 0)=true:=by simpa using hz
  clear hz
  go_region_held3 (fun W'=>Aft W3 W'∧W'.cell? ⟨cb,0,none⟩=some c∧W'.rangeAt xb 0 (Ag m))
   ((refine HC.o _ ?_;first | exact HD.o | exact HB4.o | exact HB5.o | exact Ac (And.left (by assumption)) (Ab _ _) | exact Ac HB5.o (Ab _ _) | exact ((HB5.o.setCell (p:=⟨W3.heap.size,0,none⟩) (Nat.le_refl _) _).setCell (p:=⟨W3.heap.size,1,none⟩) (Nat.le_refl _) _).setCell (p:=⟨W3.heap.size,2,none⟩) (Nat.le_refl _) _ | exact ((HB5.o.setCell (p:=⟨W4.heap.size,0,none⟩) HB4.o.size _).setCell (p:=⟨W4.heap.size,1,none⟩) HB4.o.size _).setCell (p:=⟨W4.heap.size,2,none⟩) HB4.o.size _ | assumption))
   ((first
     | (go_at_call 48;refine (HCP.o ((W3.drew).alloc _) (And.left (by assumption))).mono ?_;rintro e W4 ⟨c',F4,rfl,ht4,hn4,hb4⟩;have HT4:=Aa ht4;have HN4:Hid (∀ b,F4 b→W3.heap.size≤b):=(fun b hb=>(by have:=hn4 b hb;simp at this;omega));have HX4:Hid (Ae W4 W3.heap.size [.bool false,.slice none 0 0,.int .i64 0] 82∧¬ F4 W3.heap.size):=⟨(HZE.o W3.drew).below hb4,fun hf=>Nat.not_succ_le_self _ (by simpa using hn4 _ hf)⟩;have HB4:=Aa (Ac (Ac HD.o (Ab _ _)) hb4);clear ht4 hn4 hb4)
     | (go_at_call 48;refine (HCP.o W3.drew (And.left (by assumption))).mono ?_;rintro e W4 ⟨c',F4,rfl,ht4,hn4,hb4⟩;have HT4:=Aa ht4;have HN4:Hid (∀ b,F4 b→W3.heap.size≤b):=(fun b hb=>(by have:=hn4 b hb;simp at this;omega));have HB4:=Aa (Ac HD.o hb4);clear ht4 hn4 hb4)
     | (go_at_call 30;refine (HRUN.o W4 F4 _ (And.left (by assumption)) HT4.o HN4.o).mono ?_;rintro e W5 ⟨F5,hk5,_,hb5'⟩;obtain ⟨rfl,_⟩:=hb5' HZR.o;have HB5:=Aa (Gg (And.left (by assumption)) hk5 HN4.o);have x5:Ae W5 W3.heap.size [.bool false,.slice none 0 0,.int .i64 0] 82:=hk5.box HX4.o.1 HX4.o.2;have c50:=x5.cell (i:=0) rfl;have c51:=x5.cell (i:=1) rfl;have c52:=x5.cell (i:=2) rfl;have f50:=x5.fr 0;have f51:=x5.fr 1;have f52:=x5.fr 2;clear hk5)
     | (go_at_call 30;refine (HRUN.o W4 F4 _ (And.left (by assumption)) HT4.o HN4.o).mono ?_;rintro e W5 ⟨F5,hk5,_,hb5'⟩;obtain ⟨rfl,_⟩:=hb5' HZR.o;have HB5:=Aa (Gg (And.left (by assumption)) hk5 HN4.o);clear hk5)
     | (go_at_call 30;refine (HRUN.o (W4.alloc _) F4 _ (And.left (by assumption)) (HT4.o.below (Ab _ _)) HN4.o).mono ?_;rintro e W5 ⟨F5,hk5,_,hb5'⟩;obtain ⟨rfl,_⟩:=hb5' HZR.o;have HB5:=Aa (Gg (And.left (by assumption)) hk5 HN4.o);have x5:Ae W5 W4.heap.size [.bool false,.slice none 0 0,.int .i64 0] 82:=hk5.box (HZE.o W4) (fun hf=>absurd (HT4.o.in_ _ hf) (Nat.lt_irrefl _));have c50:=x5.cell (i:=0) rfl;have c51:=x5.cell (i:=1) rfl;have c52:=x5.cell (i:=2) rfl;have f50:=x5.fr 0;have f51:=x5.fr 1;have f52:=x5.fr 2;clear hk5)
     | fail))
  all_goals go_wp2_with fail
  all_goals go_ret2
  all_goals refine ⟨by rw [HAE.o.1,HAE.o.2];rfl,?_⟩
  all_goals first
   | exact Ac HB3.o HB5.o
   | exact Ac HB3.o (Ac HB5.o (Ab _ _))
   | exact Ac HB3.o (((HB5.o.setCell (p:=⟨W3.heap.size,0,none⟩) (Nat.le_refl _) _).setCell (p:=⟨W3.heap.size,1,none⟩) (Nat.le_refl _) _).setCell (p:=⟨W3.heap.size,2,none⟩) (Nat.le_refl _) _)
   | exact Ac HB3.o (((HB5.o.setCell (p:=⟨W4.heap.size,0,none⟩) HB4.o.size _).setCell (p:=⟨W4.heap.size,1,none⟩) HB4.o.size _).setCell (p:=⟨W4.heap.size,2,none⟩) HB4.o.size _)
end Go.Dk
end
section
namespace Go.Dk
open Go.RowKit Go.Maps Go.MapKept Go.Shelf
open Go.Proofs hiding intOf
structure DjF (w w3:World) (v:Value) (zs:List Int) (goal:Int):Prop where
 bel:Below w.heap.size w w3
 ls:Ji w3 (.slice (some ⟨w.heap.size+1,0,none⟩) 2 2) [zs,[goal]]
theorem sA (w:World) (v:Value) (zs:List Int) (goal:Int) (hv:Rd w v zs.length 1 (ints zs)) (hl:zs.length<2 ^ 62) :
   DjF w ((w.alloc (.cells #[.int .i64 goal] 3)).alloc (.cells #[v,.slice (some ⟨w.heap.size,0,none⟩) 1 1] 23)) v zs goal:=
 ⟨Ac (Ab _ _) (Ab _ _),
  yV (rdH _ (by simp) _ _ rfl rfl) ((hv.below (Ab _ _)).below (Ab _ _)) (by omega) ((rdH (n:=1) (size:=1) w (b:=w.heap.size) rfl #[.int .i64 goal] 3 rfl rfl).below (Ab _ _)) (by simp)⟩
theorem Vr {rows:List ND} {zs:List Int} (h:¬ Fa rows zs=0):Fa rows zs=31:=by
 unfold Fa at h ⊢
 split
 ·rename_i h1;rw [if_pos h1] at h;exact absurd rfl h
 ·rfl
theorem xC (zs:List Int) (g:Int):[zs,[g]].flatten=zs++[g]:=by simp
theorem vO {rows:List ND} {x:Nat} (h:x<rows.length):isP rows (x:Int)=(Ee rows x,0):=by
 unfold isP;rw [if_pos (by simp [hasB,h])];simp
def Tz (w:World) (p:Int × Int) (e:Ending) (w':World):Prop:=e = .returned (.tuple #[.int .i64 p.1,.int .i64 p.2])∧Below w.heap.size w w'
theorem Cf {w w':World} {p:Int × Int} {a b:Int} (hp:p=(a,b)) (hb:Below w.heap.size w w'):Tz w p (.returned (.tuple #[.int .i64 a,.int .i64 b])) w':=by
 subst hp;exact ⟨rfl,hb⟩
set_option maxRecDepth 100000 in
set_option maxHeartbeats 4000000 in
theorem iL (F:FP) (w:World) (t v:Value) (rows:List ND) (h:Cm F w t rows) (hT:TabG w) (zs:List Int) (hv:Rd w v zs.length 1 (ints zs)) (hl:zs.length<2 ^ 62) (goal:Int) :
  Calls Tryz.prog 12 #[t,v,.int .i64 goal] w (Tz w (Gq rows zs goal)):=by
 have H:=Aa h
 have HT:=Aa hT
 have HFR:=Aa (sA w v zs goal hv hl)
 have HV:=Aa hv
 have HOK:=Aa h.ok
 have HLL:=Aa hl
 obtain ⟨va,vc,rfl⟩:=hv.slice
 clear h hT hv
 by_cases hE:Fa rows (zs++[goal])=0
 case neg=>
  have HE:=Aa (Vr hE)
  have HP:Hid (Gq rows zs goal=(0,31)):=by unfold Hid Gq;rw [if_pos hE]
  clear hE
  go_enter Tryz.func12,Tryz.ntmps12
  go_wp2_with fail
  generalize ((w.alloc (.cells #[.int .i64 goal] 3)).alloc (.cells #[.slice va zs.length vc,.slice (some ⟨w.heap.size,0,none⟩) 1 1] 23))=w3 at *
  refine (Gu 0 _ _ _ _ rows [zs,[goal]] ((H.o.col 0).below HFR.o.bel) HFR.o.ls (by simp)).mono ?_
  rintro e w4 ⟨rfl,hb4⟩
  rw [xC,HE.o]
  have HB4:=Aa (Ac HFR.o.bel hb4)
  clear hb4
  go_wp2_with fail
  go_ret2
  exact Cf HP.o HB4.o
 case pos=>
  have HE:=Aa hE
  have hall:=fA hE
  have hgz:=hall goal (by simp)
  obtain ⟨g,rfl,hg⟩:=Dx hgz
  have HZ:Hid (∀ z ∈ zs,hasB rows.length z=true):=fun z hz=>hall z (by simp [hz])
  have HG:=Aa hg
  have HR:=Aa (Am hg)
  clear hall hgz hg
  obtain ⟨n,hn⟩:∃ n,n=rowAt rows g:=⟨_,rfl⟩
  have HN:=Aa hn.symm
  rw [← hn] at HR
  clear hn
  go_enter Tryz.func12,Tryz.ntmps12
  go_wp2_with fail
  generalize ((w.alloc (.cells #[.int .i64 (g:Int)] 3)).alloc (.cells #[.slice va zs.length vc,.slice (some ⟨w.heap.size,0,none⟩) 1 1] 23))=w3 at *
  refine (Gu 0 _ _ _ _ rows [zs,[(g:Int)]] ((H.o.col 0).below HFR.o.bel) HFR.o.ls (by simp)).mono ?_
  rintro e w4 ⟨rfl,hb4⟩
  rw [xC,HE.o]
  have HB4:=Aa (Ac HFR.o.bel hb4)
  clear hb4
  have HBX:Hid (∀ W:World,Boxed (W.alloc (.cells #[.int .i64 n.kind,.string n.name,.int .i64 n.l,.int .i64 n.r] 31)) W.heap.size n):=fun W=>Gx W n _
  obtain ⟨nk,nn,nl,nr⟩:=n
  simp only at HBX
  by_cases h4:nk=4
  case neg=>
   have g4:(nk != 4)=true:=by simpa using h4
   have HP:Hid (Gq rows zs (g:Int)=(0,270)):=by
    unfold Hid Gq
    rw [if_neg (by simpa using HE.o),if_pos]
    simpa [HN.o] using h4
   clear h4
   go_wp2_with (go_at_call 27;refine (Jl 0 _ _ _ _ ((H.o.col 0).below HB4.o) _ _ HR.o).mono ?_;rintro e w5 ⟨rfl,hb5⟩;have HB5:=Aa (Ac HB4.o hb5);clear hb5)
   go_ret2
   exact Cf HP.o (Ac HB5.o (Ab _ _))
  case pos=>
   subst h4
   have HK4:Hid ((rowAt rows (g:Int).toNat).kind=4):=by unfold Hid;simp [HN.o]
   go_wp2_with (go_at_call 27;refine (Jl 0 _ _ _ _ ((H.o.col 0).below HB4.o) _ _ HR.o).mono ?_;rintro e w5 ⟨rfl,hb5⟩;have HB5:=Aa (Ac HB4.o hb5);clear hb5)
   have HX6:=Aa (HBX.o w5)
   have HB6:=Aa (Ac HB5.o (Ab w5 (.cells #[.int .i64 4,.string nn,.int .i64 nl,.int .i64 nr] 31)))
   generalize hw6:w5.alloc (.cells #[.int .i64 4,.string nn,.int .i64 nl,.int .i64 nr] 31)=w6 at *
   clear hw6 HB5
   generalize w5.heap.size=nb at *
   go_loopw [41] (fun u W=>∃ j:Nat,j≤zs.length∧u = .int .i64 (j:Int)∧((zs.take j).all fun z=>Ee rows z.toNat)=true∧Below w6.heap.size w6 W) (fun u _=>zs.length - (intOf u).toNat)
   case atStart=>exact ⟨0,Nat.zero_le _,rfl,by simp,Below.refl _ _⟩
   case round=>
    obtain ⟨j,hj,rfl,hall,hb⟩:=hrel
    have HA:=Aa hall;have HB:=Aa hb
    clear hall hb
    by_cases hlt:j<zs.length
    ·as_aux_lemma=>
     obtain ⟨b,o,c1,z,he,hc1,hzk⟩:=ints_at ((HV.o.below HB6.o).below HB.o) hlt
     cases he
     have hji:(j:Int)<(zs.length:Int):=by omega
     have HS:=Aa (Yd (p:=fun z=>Ee rows z.toNat) hzk)
     obtain ⟨x,rfl,hx⟩:=Dx (HZ.o z (List.mem_of_getElem? hzk))
     have HI:=Aa (lC F wr t rows (H.o.below (Ac HB6.o HB.o)) (x:Int))
     rw [vO hx] at HI
     cases hh:Ee rows x with
     | true=>
      rw [hh] at HI
      have HAA:Hid (((zs.take (j+1)).all fun z=>Ee rows z.toNat)=true):=by unfold Hid;rw [HS.o,HA.o];simpa using hh
      clear hh hzk hx
      have HL2:=HLL.o
      go_wp2_with (go_at_call 11;refine HI.o.mono ?_;rintro e w7 ⟨rfl,hb7⟩;have HB7:=Aa (Ac HB.o hb7);clear hb7)
      exact ⟨⟨j+1,by omega,by go_num,HAA.o,HB7.o⟩,by simp [intOf];omega⟩
     | false=>
      rw [hh] at HI
      have HP:Hid (Gq rows zs (g:Int)=(0,270)):=by
       unfold Hid Gq
       rw [if_neg (by simpa using HE.o),if_neg (by simpa using HK4.o),if_pos]
       rw [List.all_eq_false]
       exact ⟨_,List.mem_of_getElem? hzk,by simpa using hh⟩
      clear hh hzk hx
      go_wp2_with (go_at_call 11;refine HI.o.mono ?_;rintro e w7 ⟨rfl,hb7⟩;have HB7:=Aa (Ac HB.o hb7);clear hb7)
      go_ret2
      exact Cf HP.o (Ac HB6.o HB7.o)
    ·obtain rfl:j=zs.length:=by omega
     have hA:=HA.o
     rw [List.take_length] at hA
     have HAL:=Aa hA
     clear hA
     have hle:=HOK.o.le
     have pp:=HOK.o.parts HR.o (by simp)
     simp only at pp
     obtain ⟨l,rfl⟩:=Int.eq_ofNat_of_zero_le pp.1.1
     obtain ⟨r,rfl⟩:=Int.eq_ofNat_of_zero_le pp.2.1
     have HLR:Hid (l<rows.length∧r<rows.length):=by have:=HG.o;unfold Hid;omega
     have HBW:=Aa (Ac HB6.o HB.o)
     have HDJ:Hid (Gq rows zs (g:Int)=if Hf rows (Bi zs) g≠0 then (0,110) else if Gz rows (Bi zs) g=false then (0,2) else if Hf rows (Bi zs) l≠0 then (0,110) else if Gz rows (Bi zs) l=true then ((l:Int),0) else if Hf rows (Bi zs) r≠0 then (0,110) else ((r:Int),0)):=by
      unfold Hid Gq
      rw [if_neg (by simpa using HE.o),if_neg (by simpa using HK4.o),if_neg (by simpa using HAL.o)]
      simp [HN.o]
     clear pp hle
     have hnn:¬ (zs.length:Int)<(zs.length:Int):=Int.lt_irrefl _
     go_wp2_with (go_at_call 28;refine (Pg F _ t rows (H.o.below HBW.o)).mono ?_;rintro e w8 ⟨c,cb,Fc,rfl,hA8,hF8,hc8,hb8⟩;unfold nO;have HA8:=Aa hA8;have HB8:=Aa (Ac HBW.o hb8);have HX8:=Aa ((HX6.o.below HB.o).below hb8);clear hA8 hF8 hc8 hb8)
     have HASK:Hid (∀ (W:World) (x:Nat),Below w8.heap.size w8 W→x<rows.length→Calls Tryz.prog 49 #[.slice va zs.length vc,.int .i64 (x:Int),.pointer (some ⟨cb,0,none⟩)] W fun e w'=>e = .returned (.tuple #[.bool (Gz rows (Bi zs) x),.int .i64 (Hf rows (Bi zs) x)])∧Below W.heap.size W w'):=
      fun W x hb hx=>dW Fc W cb c rows (HA8.o.below hb) ((HT.o.below HB8.o).below hb) _ zs ((HV.o.below HB8.o).below hb) HLL.o HZ.o x hx
     refine (HASK.o _ g (Below.refl _ _) HG.o).mono ?_
     rintro e w9 ⟨rfl,hb9⟩
     have HB9:=Aa hb9
     have HB9w:=Aa (Ac HB8.o hb9)
     obtain ⟨x0,x1,x2,x3⟩:=HX8.o.below hb9
     clear hb9
     rcases Gl rows (Bi zs) g with hg0 | hg0
     ·rw [hg0]
      cases hbg:Gz rows (Bi zs) g with
      | false=>
       have hp:=HDJ.o
       rw [hg0,hbg,if_neg (by simp),if_pos rfl] at hp
       have HP:=Aa hp
       clear hp
       clear hg0 hbg
       go_wp2_with fail
       go_ret2
       exact Cf HP.o HB9w.o
      | true=>
       have hp:=HDJ.o
       rw [hg0,hbg,if_neg (by simp),if_neg (by simp)] at hp
       have HP:=Aa hp
       clear hp
       clear hg0 hbg
       go_wp2_with fail
       refine (HASK.o _ l HB9.o HLR.o.1).mono ?_
       rintro e w10 ⟨rfl,hb10⟩
       have HB10:=Aa (Ac HB9.o hb10)
       have HB10w:=Aa (Ac HB9w.o hb10)
       have HX10:=Aa ((HX8.o.below HB9.o).below hb10)
       obtain ⟨y0,y1,y2,y3⟩:=HX10.o
       clear hb10 x0 x1 x2 x3
       rcases Gl rows (Bi zs) l with hl0 | hl0
       ·rw [hl0]
        cases hbl:Gz rows (Bi zs) l with
        | true=>
         have hp:=HP.o
         rw [hl0,hbl,if_neg (by simp),if_pos rfl] at hp
         have HP2:=Aa hp
         clear hp
         clear hl0 hbl
         go_wp2_with fail
         go_ret2
         exact Cf HP2.o HB10w.o
        | false=>
         have hp:=HP.o
         rw [hl0,hbl,if_neg (by simp),if_neg (by simp)] at hp
         have HP2:=Aa hp
         clear hp
         clear hl0 hbl
         go_wp2_with fail
         refine (HASK.o _ r HB10.o HLR.o.2).mono ?_
         rintro e w11 ⟨rfl,hb11⟩
         have HB11w:=Aa (Ac HB10w.o hb11)
         obtain ⟨z0,z1,z2,z3⟩:=HX10.o.below hb11
         clear hb11 y0 y1 y2 y3
         rcases Gl rows (Bi zs) r with hr0 | hr0
         ·rw [hr0]
          have hp:=HP2.o
          rw [hr0,if_neg (by simp)] at hp
          have HP3:=Aa hp
          clear hp
          clear hr0
          go_wp2_with fail
          go_ret2
          exact Cf HP3.o HB11w.o
         ·rw [hr0]
          have hp:=HP2.o
          rw [hr0,if_pos (by simp)] at hp
          have HP3:=Aa hp
          clear hp
          clear hr0
          go_wp2_with fail
          go_ret2
          exact Cf HP3.o HB11w.o
       ·rw [hl0]
        have hp:=HP.o
        rw [hl0,if_pos (by simp)] at hp
        have HP2:=Aa hp
        clear hp
        clear hl0
        go_wp2_with fail
        go_ret2
        exact Cf HP2.o HB10w.o
     ·rw [hg0]
      have hp:=HDJ.o
      rw [hg0,if_pos (by simp)] at hp
      have HP:=Aa hp
      clear hp
      clear hg0
      go_wp2_with fail
      go_ret2
      exact Cf HP.o HB9w.o
end Go.Dk
end
section
namespace Go.Dk
open Go.RowKit Go.Maps Go.MapKept Go.Shelf
open Go.Proofs hiding intOf
structure MkA (F:FP) (W:World) (mb:Nat) (t:Value) (m:MK):Prop where
 box:Ae W mb [t,.int .i64 m.e] 90
 tab:Cm F W t m.rows
 o:¬ F mb
def FP.one (b:Nat):FP:=fun c=>c=b
theorem MkA.in_ {F:FP} {W:World} {mb:Nat} {t:Value} {m:MK} (h:MkA F W mb t m):(F.or (FP.one mb)).in_ W:=fun b hb=>hb.elim (h.tab.in_ b) (fun e=>by rw [e];exact lt_of_block h.box)
theorem MkA.below {F:FP} {W W':World} {mb:Nat} {t:Value} {m:MK} (h:MkA F W mb t m) (hb:Below W.heap.size W W'):MkA F W' mb t m:=⟨h.box.below hb,h.tab.below hb,h.o⟩
theorem MkA.put {F F':FP} {W W':World} {mb:Nat} {t:Value} {m:MK} (h:MkA F W mb t m) (hk:KeptF F W F' W') {rows:List ND} (ht:Cm F' W' t rows):MkA F' W' mb t ⟨rows,m.e⟩:=
 ⟨hk.box h.box h.o,ht,fun hf=>h.o (hk.sub mb (lt_of_block h.box) hf)⟩
theorem MkA.err {F:FP} {W:World} {mb:Nat} {t:Value} {m:MK} (h:MkA F W mb t m) (e:Int):MkA F (W.setCell ⟨mb,1,none⟩ (.int .i64 e)) mb t ⟨m.rows,e⟩∧KeptF (F.or (FP.one mb)) W (F.or (FP.one mb)) (W.setCell ⟨mb,1,none⟩ (.int .i64 e)):=by
 have hk:=KeptF.of_only (G:=F.or (FP.one mb)) (Aq W mb 1 (.int .i64 e)) (.inr rfl) h.in_
 have ho:=Aq W mb 1 (.int .i64 e)
 refine ⟨⟨h.box.set 1 (.int .i64 e),?_,h.o⟩,hk⟩
 exact h.tab.kept (KeptF.of_only (G:=FP.one mb) ho rfl (fun b e=>by rw [e];exact lt_of_block h.box)) (fun b hf e=>h.o (e▸hf))
def sR (F:FP) (W:World) (mb:Nat) (t:Value) (m:MK) (n:ND) (e:Ending) (w':World):Prop:=
 e = .returned (.int .i64 (Ei m n))∧∃ F',MkA F' w' mb t (Dm m n)∧KeptF (F.or (FP.one mb)) W (F'.or (FP.one mb)) w'
set_option maxRecDepth 100000 in
set_option maxHeartbeats 2000000 in
theorem Im (F:FP) (w:World) (mb:Nat) (t:Value) (m:MK) (h:MkA F w mb t m) (k a b:Int) :
  Calls Tryz.prog 32 #[.pointer (some ⟨mb,0,none⟩),.int .i64 k,.int .i64 a,.int .i64 b] w (sR F w mb t m (nd2 k a b)):=by
 obtain ⟨pb,rfl⟩:∃ pb,t = .pointer (some ⟨pb,0,none⟩):=by obtain ⟨pb,_,_,e,_⟩:=h.tab.col 0;exact ⟨pb,e⟩
 have H:=Aa h
 have c1:w.cell? ⟨mb,1,none⟩=some (.int .i64 m.e):=h.box.cell (i:=1) rfl
 clear h
 by_cases he:m.e=0
 case neg=>
  have g1:(m.e != 0)=true:=by simpa using he
  have HP:Hid (Dm m (nd2 k a b)=m∧Ei m (nd2 k a b)=0):=by unfold Hid Dm Ei;rw [if_pos he,if_pos he];exact ⟨rfl,rfl⟩
  clear he
  go_enter Tryz.func32,Tryz.ntmps32
  go_wp2_with fail
  go_ret
  refine ⟨by rw [HP.o.2];rfl,F,?_,KeptF.refl H.o.in_⟩
  rw [HP.o.1];exact H.o
 case pos=>
  have HP:Hid (Dm m (nd2 k a b)=⟨(put m.rows (nd2 k a b)).rows,(put m.rows (nd2 k a b)).err⟩∧Ei m (nd2 k a b)=(put m.rows (nd2 k a b)).id):=by unfold Hid Dm Ei;rw [if_neg (by simpa using he),if_neg (by simpa using he)];exact ⟨rfl,rfl⟩
  rw [he] at c1
  clear he
  go_enter Tryz.func32,Tryz.ntmps32
  go_wp2_with fail
  have HB1:=Aa (Ab w (.cells #[.int .i64 k,.string ⟨#[]⟩,.int .i64 a,.int .i64 b] 31))
  have HX1:=Aa (Ae.new w [.int .i64 k,.string ⟨#[]⟩,.int .i64 a,.int .i64 b] 31)
  have HNF:Hid (¬ F w.heap.size):=fun hf=>Nat.lt_irrefl _ (H.o.tab.in_ _ hf)
  have e0:(.cells #[.int .i64 k,.string ⟨#[]⟩,.int .i64 a,.int .i64 b] 31:Obj) = .cells [.int .i64 k,.string ⟨#[]⟩,.int .i64 a,.int .i64 b].toArray 31:=rfl
  rw [e0] at *
  clear e0 c1
  generalize (w.alloc (.cells [.int .i64 k,.string ⟨#[]⟩,.int .i64 a,.int .i64 b].toArray 31))=w1 at *
  have H1:=Aa (H.o.below HB1.o)
  have HC:Hid (∀ W',Ae W' mb [.pointer (some ⟨pb,0,none⟩),.int .i64 m.e] 90→Ae W' w.heap.size [.int .i64 k,.string ⟨#[]⟩,.int .i64 a,.int .i64 b] 31→W'.cell? ⟨mb,0,none⟩=some (.pointer (some ⟨pb,0,none⟩))∧W'.cell? ⟨w.heap.size,0,none⟩=some (.int .i64 k)∧W'.cell? ⟨w.heap.size,1,none⟩=some (.string ⟨#[]⟩)∧W'.cell? ⟨w.heap.size,2,none⟩=some (.int .i64 a)∧W'.cell? ⟨w.heap.size,3,none⟩=some (.int .i64 b)):=
   fun W' h1 h2=>⟨h1.cell (i:=0) rfl,h2.cell (i:=0) rfl,h2.cell (i:=1) rfl,h2.cell (i:=2) rfl,h2.cell (i:=3) rfl⟩
  have HD:=Aa (below_drewN w1 1)
  go_region_held3 (fun W'=>W'.cell? ⟨mb,0,none⟩=some (.pointer (some ⟨pb,0,none⟩))∧W'.cell? ⟨w.heap.size,0,none⟩=some (.int .i64 k)∧W'.cell? ⟨w.heap.size,1,none⟩=some (.string ⟨#[]⟩)∧W'.cell? ⟨w.heap.size,2,none⟩=some (.int .i64 a)∧W'.cell? ⟨w.heap.size,3,none⟩=some (.int .i64 b))
   ((first | exact HC.o _ (H1.o.box.below HD.o) (HX1.o.below HD.o) | exact HC.o _ H3.o.box HX3.o | assumption))
   ((first
     | (go_at_call 44;refine (zK (H1.o.tab.below HD.o) k a b ⟨#[]⟩ (Nat.zero_le _)).mono ?_;rintro e w3 ⟨rfl,F3,hk3,ht3⟩;have H3:=Aa ((H1.o.below HD.o).put hk3 ht3);have HX3:=Aa (hk3.box (HX1.o.below HD.o) HNF.o);have HK3:=Aa ((KeptF.of_below H.o.in_ (Ac HB1.o HD.o)).trans (hk3.beside (G:=FP.one mb) (fun b e=>by rw [e];exact lt_of_block (H1.o.below HD.o).box)));clear hk3 ht3)
     | fail))
  have d1:=H3.o.box.cell (i:=1) rfl
  have f1:=H3.o.box.fr 1
  have HE4:=Aa (H3.o.err (put m.rows (nd2 k a b)).err)
  go_wp2_with fail
  go_ret
  exact ⟨by rw [HP.o.2];rfl,F3,by rw [HP.o.1];exact HE4.o.1,HK3.o.trans HE4.o.2⟩
end Go.Dk
end
section
namespace Go.Dk
open Go.RowKit Go.Maps Go.MapKept Go.Shelf
open Go.Proofs hiding intOf
theorem Cm.mono {F G:FP} {w:World} {t:Value} {rows:List ND} (h:Cm F w t rows) (hs:∀ b,F b→G b) (hi:G.in_ w):Cm G w t rows:=by
 obtain ⟨_,k,ow,ht,hc⟩:=h
 exact ⟨hi,k,ow,ht,fun b hb e=>hs b (hc b hb e)⟩
structure VS (F0 F:FP) (w W:World) (mb:Nat) (t:Value) (m:MK) (v:Value) (ids:List Int):Prop where
 mka:MkA F W mb t m
 kp:KeptF F0 w (F.or (FP.one mb)) W
 own:OwnI w.heap.size (F.or (FP.one mb)) W v ids
section
variable {F0 F:FP} {w W W':World} {mb:Nat} {t v:Value} {m:MK} {ids:List Int}
theorem VS.below (h:VS F0 F w W mb t m v ids) (hb:Below W.heap.size W W'):VS F0 F w W' mb t m v ids:=
 ⟨h.mka.below hb,h.kp.trans (KeptF.of_below h.mka.in_ hb),h.own.below hb⟩
theorem VS.put (h:VS F0 F w W mb t m v ids) {n:ND} {e:Ending} (hp:sR F W mb t m n e W'):e = .returned (.int .i64 (Ei m n))∧∃ F',VS F0 F' w W' mb t (Dm m n) v ids:=by
 obtain ⟨he,F',h1,h2⟩:=hp
 exact ⟨he,F',h1,h.kp.trans h2,h.own.kept h2⟩
theorem VS.app {w0:World} {v':Value} {x:Int} (h:VS F0 F w W mb t m v ids) (hown:W'.ownsRow w.heap.size 3 1 v' (ids.length+1) (ints ids++[.int .i64 x])) (hg:W.grownBy W' v.ownBlock) (hat:v'.ownBlock=v.ownBlock∨v'.ownBlock=some w0.heap.size) (hz:W.heap.size≤w0.heap.size):VS F0 F w W' mb t m v' (ids++[x]):=by
 refine ⟨⟨?_,h.mka.tab.grown hg (fun b hb hf=>h.own.o b hb (.inl hf)),h.mka.o⟩,h.kp.later hg (fun b hb=>(h.own.own.lt b hb).1),h.own.append hown hat h.mka.in_ hz⟩
 exact (hg.block mb (lt_of_block h.mka.box) (fun e=>h.own.o mb e.symm (.inr rfl))).trans h.mka.box
end
theorem xH {F:FP} {w w1:World} {t:Value} {rows:List ND} (h:Cm F w t rows) (hb:Below w.heap.size w w1) (o:Obj) (ho:o = .cells [t,.int .i64 0].toArray 90) :
  VS F F w (w1.alloc o) w1.heap.size t ⟨rows,0⟩ (.slice none 0 0) []:=by
 subst ho
 have hb2:=Ac hb (Ab w1 (.cells [t,.int .i64 0].toArray 90))
 have hk:MkA F (w1.alloc (.cells [t,.int .i64 0].toArray 90)) w1.heap.size t ⟨rows,0⟩:=⟨Ae.new w1 [t,.int .i64 0] _,h.below hb2,fun hf=>by have:=h.in_ _ hf;have:=hb.size;omega⟩
 refine ⟨hk,⟨hb2.os,hb2.tape,hb2.output,hb2.size,fun b hl hf=>hf.elim id (fun e=>?_),hk.in_,fun b hl _=>hb2.block b hl⟩,OwnI.nil _ _ _⟩
 have e:b=w1.heap.size:=e
 have:=hb.size
 omega
theorem oY {w:World} {B B':Nat} {e:TypeId} {size:Nat} {v:Value} {n:Nat} {xs:List Value} (h:w.ownsRow B' e size v n xs) (hb:B≤B'):w.ownsRow B e size v n xs:=by
 refine ⟨h.1,?_⟩
 rcases h.2 with hn | ⟨g,cap,cur,rfl,hg,rest⟩
 ·exact .inl hn
 ·exact .inr ⟨g,cap,cur,rfl,Nat.le_trans hb hg,rest⟩
theorem OwnI.base {B B':Nat} {F:FP} {w:World} {v:Value} {zs:List Int} (h:OwnI B' F w v zs) (hb:B≤B'):OwnI B F w v zs:=⟨oY h.own hb,h.o⟩
theorem Ws (zs:List Int):∀ y ∈ ints zs,y.oneCell'=true:=by
 intro y hy
 unfold ints at hy
 obtain ⟨z,_,rfl⟩:=List.mem_map.1 hy
 rfl
theorem VS.again {F0 F:FP} {w W:World} {mb:Nat} {t v:Value} {m:MK} {ids:List Int} (h:VS F0 F w W mb t m v ids):VS (F.or (FP.one mb)) F W W mb t m (.slice none 0 0) []:=
 ⟨h.mka,KeptF.refl h.mka.in_,OwnI.nil _ _ _⟩
theorem VS.fresh_out {F0 F:FP} {w W:World} {mb:Nat} {t v:Value} {m:MK} {ids:List Int} (h:VS F0 F w W mb t m v ids) {g:Nat} (hg:W.heap.size≤g):¬ (F.or (FP.one mb)) g:=fun hf=>by have:=h.mka.in_ g hf;omega
def Ue (F:FP) (w:World) (t:Value) (r:VR) (e:Ending) (w':World):Prop:=
 ∃ pv F',e = .returned (.tuple #[.int .i64 r.prem,pv,.int .i64 r.err])∧KeptF F w F' w'∧Cm F' w' t r.rows∧OwnI w.heap.size F' w' pv r.parts
theorem Xz {w W W':World} {v:Value} {n:Nat} {xs:List Value} (hb:Below w.heap.size w W) (ho:W.ownsRow w.heap.size 3 1 v n xs) (hg:W.grownBy W' v.ownBlock):Below w.heap.size w W':=
 hb.grown hg hb.size (fun q hq=>(ho.lt q hq).1)
theorem nC {rows:List ND} {ab:List (Int × Int)} {gs:List Int} {c d:Int} {m m3 m6:MK} {ids ps:List Int} {al:Int} (h1:Kv ab ⟨rows,0⟩ []=(m,ids)) (h2:Ss ids m=(m3,al))
  (h3:Hn al gs (Dm (Dm m3 (nd2 4 c d)) (nd2 5 al (Ei m3 (nd2 4 c d)))) []=(m6,ps)) :
  Tc rows ab gs c d=(m6,Ei (Dm m3 (nd2 4 c d)) (nd2 5 al (Ei m3 (nd2 4 c d))),ps)∧rows <+: m6.rows:=by
 constructor
 ·unfold Tc;simp only [h1,h2,h3]
 ·have t1:=Vk ab ⟨rows,0⟩ []
  rw [h1] at t1
  have t2:=hU ids m
  rw [h2] at t2
  have t3:=Rn al gs (Dm (Dm m3 (nd2 4 c d)) (nd2 5 al (Ei m3 (nd2 4 c d)))) []
  rw [h3] at t3
  exact (((t1.trans t2).trans (Ff _ _)).trans (Ff _ _)).trans t3 |>.pre
theorem sT {rows:List ND} {a b:List Int} {c d:Int} {m6:MK} {p:Int} {ps:List Int} (hE:Fa rows (a++b++[c,d])=0) (hL:a.length=b.length∧a.length≤8) (hr:Tc rows (a.zip b) (a++[c,d]) c d=(m6,p,ps)) :
  Ej rows a b c d=if m6.e≠0 then ⟨rows,0,[],m6.e⟩ else ⟨m6.rows,p,ps,0⟩:=by
 unfold Ej
 rw [if_neg (by simpa using hE),if_neg (by omega),hr]
theorem iG {F F9 F6:FP} {w w9 w6:World} {mb:Nat} {t v v9:Value} {m5 m6:MK} {ps ids:List Int} {r:VR} {p:Int} (h9:VS F F9 w w9 mb t m5 v9 ids) (h6:VS (F9.or (FP.one mb)) F6 w9 w6 mb t m6 v ps) (hr:r=⟨m6.rows,p,ps,0⟩) :
  Ue F w t r (.returned (.tuple #[.int .i64 p,v,.int .i64 0])) w6:=by
 subst hr
 exact ⟨v,F6.or (FP.one mb),rfl,h9.kp.trans h6.kp,h6.mka.tab.mono (fun _ h=>.inl h) h6.mka.in_,h6.own.base h9.kp.size⟩
theorem nB {F F9 F6 F7:FP} {w w9 w6 w7:World} {mb:Nat} {t v v9:Value} {m5 m6:MK} {ps ids:List Int} {r:VR} {rows:List ND} {x:Int} (h9:VS F F9 w w9 mb t m5 v9 ids) (h6:VS (F9.or (FP.one mb)) F6 w9 w6 mb t m6 v ps) (hk:KeptF F6 w6 F7 w7) (ht:Cm F7 w7 t rows) (hr:r=⟨rows,0,[],x⟩) {w8:World} (hb:Below w7.heap.size w7 w8) :
  Ue F w t r (.returned (.tuple #[.int .i64 0,.slice none 0 0,.int .i64 x])) w8:=by
 subst hr
 have k:=hk.beside (G:=FP.one mb) (fun b e=>by rw [e];exact lt_of_block h6.mka.box)
 exact ⟨_,F7.or (FP.one mb),rfl,(h9.kp.trans h6.kp).trans (k.trans (KeptF.of_below k.lt hb)),(ht.mono (fun _ h=>.inl h) k.lt).below hb,OwnI.nil _ _ _⟩
theorem vC {a b:List Int} {j:Nat} {x y:Int} (hx:a[j]? = some x) (hy:b[j]? = some y):(a.zip b)[j]? = some (x,y):=by
 rw [List.getElem?_zip_eq_some];exact ⟨hx,hy⟩
theorem Yv:∀ (ps:List (Int × Int)) (m:MK) (l:List Int) (p:Int × Int),Kv (ps++[p]) m l=(Dm (Kv ps m l).1 (nd2 5 p.1 p.2),(Kv ps m l).2++[Ei (Kv ps m l).1 (nd2 5 p.1 p.2)])
 | [],_,_,_=>rfl
 | _q::t,_m,_l,p=>Yv t _ _ p
theorem Xk (all:Int):∀ (ps:List Int) (m:MK) (l:List Int) (p:Int),Hn all (ps++[p]) m l=(Dm (Hn all ps m l).1 (nd2 5 all p),(Hn all ps m l).2++[Ei (Hn all ps m l).1 (nd2 5 all p)])
 | [],_,_,_=>rfl
 | _q::t,_m,_l,p=>Xk all t _ _ p
theorem bA:∀ (ys:List Int) (m:MK) (x y:Int),Uu (ys++[y]) m x=(Dm (Uu ys m x).1 (nd2 3 (Uu ys m x).2 y),Ei (Uu ys m x).1 (nd2 3 (Uu ys m x).2 y))
 | [],_,_,_=>rfl
 | _z::t,_m,_x,y=>bA t _ _ y
theorem Qc {α:Type} {l:List α} {j:Nat} {x:α} (h:l[j]? = some x):l.take (j+1)=l.take j++[x]:=by rw [List.take_add_one,h];rfl
theorem kA {ab:List (Int × Int)} {m m':MK} {ids:List Int} {j:Nat} {p:Int × Int} (hj:ab[j]? = some p) (h:Kv (ab.take j) m []=(m',ids)):Kv (ab.take (j+1)) m []=(Dm m' (nd2 5 p.1 p.2),ids++[Ei m' (nd2 5 p.1 p.2)]):=by
 rw [Qc hj,Yv,h]
theorem Xf {gs:List Int} {all:Int} {m m':MK} {ids:List Int} {j:Nat} {p:Int} (hj:gs[j]? = some p) (h:Hn all (gs.take j) m []=(m',ids)):Hn all (gs.take (j+1)) m []=(Dm m' (nd2 5 all p),ids++[Ei m' (nd2 5 all p)]):=by
 rw [Qc hj,Xk,h]
def Va (ids:List Int) (m:MK) (j:Nat) (m':MK) (all:Int):Prop:=(j=0∧m'=m∧all=0)∨(∃ x t,ids.take j=x::t∧Uu t m x=(m',all))
theorem Va.first {ids:List Int} {m m':MK} {all x:Int} (h:Va ids m 0 m' all) (hx:ids[0]? = some x):m'=m∧Va ids m 1 m x:=by
 rcases h with ⟨_,rfl,_⟩ | ⟨x',t,h1,_⟩
 ·refine ⟨rfl,.inr ⟨x,[],?_,rfl⟩⟩
  rw [Qc hx];simp
 ·simp at h1
theorem Va.next {ids:List Int} {m m':MK} {all x:Int} {j:Nat} (h:Va ids m (j+1) m' all) (hx:ids[j+1]? = some x):Va ids m (j+1+1) (Dm m' (nd2 3 all x)) (Ei m' (nd2 3 all x)):=by
 rcases h with ⟨h0,_⟩ | ⟨y,t,h1,h2⟩
 ·cases h0
 ·refine .inr ⟨y,t++[x],?_,?_⟩
  ·rw [Qc hx,h1];rfl
  ·rw [bA,h2]
theorem Va.last {ids:List Int} {m m':MK} {all:Int} (h:Va ids m ids.length m' all) (hn:ids≠[]):Ss ids m=(m',all):=by
 rcases h with ⟨h0,_⟩ | ⟨x,t,h1,h2⟩
 ·exact absurd (List.eq_nil_of_length_eq_zero h0) hn
 ·rw [List.take_length] at h1
  rw [h1];exact h2
theorem Qi {F:FP} {w w':World} {t:Value} {r:VR} {rows:List ND} {x:Int} (h:Cm F w t rows) (hb:Below w.heap.size w w') (hr:r=⟨rows,0,[],x⟩):Ue F w t r (.returned (.tuple #[.int .i64 0,.slice none 0 0,.int .i64 x])) w':=by
 subst hr
 exact ⟨_,F,rfl,KeptF.of_below h.in_ hb,h.below hb,OwnI.nil _ _ _⟩
structure ViF (w w3:World) (va vb:Value) (a b:List Int) (c d:Int):Prop where
 bel:Below w.heap.size w w3
 ls:Ji w3 (.slice (some ⟨w.heap.size+1,0,none⟩) 3 3) [a,b,[c,d]]
theorem uH (w:World) (va vb:Value) (a b:List Int) (c d:Int) (ha:Rd w va a.length 1 (ints a)) (hb:Rd w vb b.length 1 (ints b)) (hla:a.length<2 ^ 62) (hlb:b.length<2 ^ 62) :
   ViF w ((w.alloc (.cells #[.int .i64 c,.int .i64 d] 3)).alloc (.cells #[va,vb,.slice (some ⟨w.heap.size,0,none⟩) 2 2] 23)) va vb a b c d:=
 ⟨Ac (Ab _ _) (Ab _ _),
  yB (rdH _ (by simp) _ _ rfl rfl) ((ha.below (Ab _ _)).below (Ab _ _)) (by omega) ((hb.below (Ab _ _)).below (Ab _ _)) (by omega) ((rdH (n:=2) (size:=1) w (b:=w.heap.size) rfl #[.int .i64 c,.int .i64 d] 3 rfl rfl).below (Ab _ _)) (by simp)⟩
theorem flat3 (a b:List Int) (c d:Int):[a,b,[c,d]].flatten=a++b++[c,d]:=by simp
set_option maxRecDepth 100000 in
set_option maxHeartbeats 4000000 in
theorem Zg (F:FP) (w:World) (t va vb:Value) (rows:List ND) (h:Cm F w t rows) (a b:List Int) (hva:∀ (F1:FP) (W:World),KeptF F w F1 W→Rd W va a.length 1 (ints a)) (hvb:∀ (F1:FP) (W:World),KeptF F w F1 W→Rd W vb b.length 1 (ints b)) (hla:a.length<2 ^ 62) (hlb:b.length<2 ^ 62) (c d:Int) :
  Calls Tryz.prog 15 #[t,va,vb,.int .i64 c,.int .i64 d] w (Ue F w t (Ej rows a b c d)):=by
 obtain ⟨pb,rfl⟩:∃ pb,t = .pointer (some ⟨pb,0,none⟩):=by obtain ⟨pb,_,_,e,_⟩:=h.col 0;exact ⟨pb,e⟩
 have H:=Aa h
 have ha:=hva F w (KeptF.refl h.in_)
 have hb:=hvb F w (KeptF.refl h.in_)
 have HFR:=Aa (uH w va vb a b c d ha hb hla hlb)
 have HVA:=Aa hva
 have HVB:=Aa hvb
 have HOK:=Aa h.ok
 have HLL:Hid (a.length<2 ^ 62∧b.length<2 ^ 62):=⟨hla,hlb⟩
 obtain ⟨aa,ac,rfl⟩:=ha.slice
 obtain ⟨ba,bc,rfl⟩:=hb.slice
 clear h ha hb hva hvb
 by_cases hE:Fa rows (a++b++[c,d])=0
 case neg=>
  have HE:=Aa (Vr hE)
  have HP:Hid (Ej rows a b c d=⟨rows,0,[],31⟩):=by unfold Hid Ej;rw [if_pos hE]
  clear hE
  go_enter Tryz.func15,Tryz.ntmps15
  go_wp2_with fail
  generalize ((w.alloc (.cells #[.int .i64 c,.int .i64 d] 3)).alloc (.cells #[.slice aa a.length ac,.slice ba b.length bc,.slice (some ⟨w.heap.size,0,none⟩) 2 2] 23))=w3 at *
  refine (Gu 0 _ _ _ _ rows [a,b,[c,d]] ((H.o.col 0).below HFR.o.bel) HFR.o.ls (by simp)).mono ?_
  rintro e w4 ⟨rfl,hb4⟩
  rw [flat3,HE.o]
  have HB4:=Aa (Ac HFR.o.bel hb4)
  clear hb4
  go_wp2_with fail
  go_ret3
  exact Qi H.o HB4.o HP.o
 case pos=>
  have HE:=Aa hE
  by_cases hL:a.length=b.length∧a.length≤8
  case neg=>
   have HP:Hid (Ej rows a b c d=⟨rows,0,[],270⟩):=by unfold Hid Ej;rw [if_neg (by simpa using hE),if_pos (by omega)]
   by_cases hab:a.length=b.length
   ·have h2:(8:Int)<(a.length:Int):=by omega
    rw [← hab] at HVB HFR ⊢
    clear hE hL hab
    go_enter Tryz.func15,Tryz.ntmps15
    go_wp2_with fail
    generalize ((w.alloc (.cells #[.int .i64 c,.int .i64 d] 3)).alloc (.cells #[.slice aa a.length ac,.slice ba a.length bc,.slice (some ⟨w.heap.size,0,none⟩) 2 2] 23))=w3 at *
    refine (Gu 0 _ _ _ _ rows [a,b,[c,d]] ((H.o.col 0).below HFR.o.bel) HFR.o.ls (by simp)).mono ?_
    rintro e w4 ⟨rfl,hb4⟩
    rw [flat3,HE.o]
    have HB4:=Aa (Ac HFR.o.bel hb4)
    clear hb4
    go_wp2_with fail
    go_ret3
    exact Qi H.o HB4.o HP.o
   ·have h1:((a.length:Int) != (b.length:Int))=true:=by simp;omega
    clear hE hL
    go_enter Tryz.func15,Tryz.ntmps15
    go_wp2_with fail
    generalize ((w.alloc (.cells #[.int .i64 c,.int .i64 d] 3)).alloc (.cells #[.slice aa a.length ac,.slice ba b.length bc,.slice (some ⟨w.heap.size,0,none⟩) 2 2] 23))=w3 at *
    refine (Gu 0 _ _ _ _ rows [a,b,[c,d]] ((H.o.col 0).below HFR.o.bel) HFR.o.ls (by simp)).mono ?_
    rintro e w4 ⟨rfl,hb4⟩
    rw [flat3,HE.o]
    have HB4:=Aa (Ac HFR.o.bel hb4)
    clear hb4
    go_wp2_with fail
    go_ret3
    exact Qi H.o HB4.o HP.o
  case pos=>
   have HAB:=Aa hL
   have h2:¬ (8:Int)<(a.length:Int):=by omega
   rw [← hL.1] at HVB HFR ⊢
   have hle:=HOK.o.le
   clear hE hL
   go_enter Tryz.func15,Tryz.ntmps15
   go_wp2_with fail
   generalize ((w.alloc (.cells #[.int .i64 c,.int .i64 d] 3)).alloc (.cells #[.slice aa a.length ac,.slice ba a.length bc,.slice (some ⟨w.heap.size,0,none⟩) 2 2] 23))=w3 at *
   refine (Gu 0 _ _ _ _ rows [a,b,[c,d]] ((H.o.col 0).below HFR.o.bel) HFR.o.ls (by simp)).mono ?_
   rintro e w4 ⟨rfl,hb4⟩
   rw [flat3,HE.o]
   have HB4:=Aa (Ac HFR.o.bel hb4)
   clear hb4
   go_wp2_with (go_at_call 31;refine (len_any 0 _ _ _ rows ((H.o.col 0).below HB4.o)).mono ?_;rintro e w' ⟨rfl,rfl⟩)
   have HS0:=Aa (xH H.o HB4.o (.cells #[.pointer (some ⟨pb,0,none⟩),.int .i64 0] 90) rfl)
   have HM0:Hid (w.heap.size≤w4.heap.size):=HB4.o.size
   generalize hW5:(w4.alloc (.cells #[.pointer (some ⟨pb,0,none⟩),.int .i64 0] 90))=W5 at *
   clear hW5 HB4
   generalize w4.heap.size=mb at *
   go_loopw [16,54] (fun v u W=>∃ (j:Nat) (F1:FP) (m:MK) (ids:List Int),j≤a.length∧u = .int .i64 (j:Int)∧VS F F1 w W mb (.pointer (some ⟨pb,0,none⟩)) m v ids∧Kv ((a.zip b).take j) ⟨rows,0⟩ []=(m,ids)∧ids.length=j) (fun _ u _=>a.length - (intOf u).toNat)
   case atStart=>exact ⟨0,F,⟨rows,0⟩,[],Nat.zero_le _,rfl,HS0.o,rfl,rfl⟩
   case round=>
    obtain ⟨j,F1,m,ids,hj,rfl,hs,hi,hlen⟩:=hrel
    have HS:=Aa hs;have HI:=Aa hi;have HN:=Aa hlen
    obtain ⟨oa,oc,rfl⟩:=Ba hs.own.own
    clear hs hi hlen
    by_cases hlt:j<a.length
    ·as_aux_lemma=>
     have hji:(j:Int)<(a.length:Int):=by omega
     obtain ⟨ab,ao,ac',x,he,hca,hax⟩:=ints_at (HVA.o _ _ HS.o.kp) hlt
     cases he
     obtain ⟨bb,bo,bc',y,he,hcb,hby⟩:=ints_at (HVB.o _ _ HS.o.kp) hlt
     cases he
     have HZ:=Aa (kA (vC hax hby) HI.o)
     obtain ⟨I,_,Fw,L⟩:=later wr
     have a1:=L.cell hca
     have a2:=L.cell hcb
     have HF:=Aa L
     clear L hca hcb
     go_wp2_with fail
     refine bL (W:=Fw) 10 (.tmp 16) (by kernel_rfl) (by kernel_rfl) HF.o.drew rfl rfl (fun _ _ _ h=>h) ?_
     simp only [Nat.reduceSub,Act.eval,Act.put,List.setIfInBounds_toArray,List.set_cons_succ,List.set_cons_zero,List.take_succ_cons,List.take_zero,List.drop_succ_cons,List.drop_zero]
     repeat (go_big_quiet_step (fail))
     refine wpQuiet_nil ?_
     rintro w6 ⟨i6,rfl⟩
     have HB6:=Aa (HF.o.bel i6)
     clear a1 a2 HF
     generalize Fw i6=W6 at *
     have HS6:=Aa (HS.o.below HB6.o)
     have HJ8:Hid (ids.length≤8):=by have:=HAB.o.2;have:=HN.o;unfold Hid;omega
     go_wp2_with (first
      | (go_at_call 32;refine (Im F1 W6 mb _ m HS6.o.mka 5 x y).mono ?_;intro e w7 hp7;obtain ⟨rfl,F7,hs7⟩:=HS6.o.put hp7;have HS7:=Aa hs7;clear hs7 hp7)
      | (at_builtin;refine By rfl (.tmp 57) (.tmp 68) 23 rfl w.heap.size 3 _ 1 8 Tryz.underlying23 Ef rfl (by decide) (by decide) _ ids.length (ints ids) rfl ((HS7.o.below (Ab w7 _)).own.own) _ 1 [.int .i64 (Ei m (nd2 5 x y))] rfl (Gs w7 _ _) (by simp [Value.oneCell']) (by have:=HJ8.o;omega) (by have:=HS7.o.kp.size;simp;omega) ?_;intro v8 w8 hown8 hgr8 hat8 hnil8;have HS8:=Aa ((HS7.o.below (Ab w7 _)).app hown8 hgr8 hat8 (Nat.le_refl _));clear hown8 hgr8 hat8 hnil8))
     exact ⟨⟨j+1,F7,_,_,by omega,by go_num,HS8.o,HZ.o,by rw [List.length_append,HN.o];rfl⟩,by simp [intOf];omega⟩
    ·as_aux_lemma=>
     obtain rfl:j=a.length:=by omega
     have hI:=HI.o
     rw [show (a.zip b).take a.length=a.zip b from List.take_of_length_le (by rw [List.length_zip];omega)] at hI
     have HI1:=Aa hI
     have HJ8:Hid (ids.length≤8):=by have:=HAB.o.2;have:=HN.o;unfold Hid;omega
     clear hI
     have hnn:¬ (a.length:Int)<(a.length:Int):=Int.lt_irrefl _
     go_wp2_with fail
     obtain ⟨wo,rfl⟩:∃ wo:World,wo=wr:=⟨_,rfl⟩
     go_loopw [18,73] (fun al u W=>∃ (j:Nat) (F2:FP) (m2:MK) (all:Int),j≤ids.length∧u = .int .i64 (j:Int)∧al = .int .i64 all∧VS F F2 w W mb (.pointer (some ⟨pb,0,none⟩)) m2 (.slice oa ids.length oc) ids∧Va ids m j m2 all) (fun _ u _=>ids.length - (intOf u).toNat)
     case atStart=>exact ⟨0,F1,m,0,Nat.zero_le _,rfl,rfl,HS.o,.inl ⟨rfl,rfl,rfl⟩⟩
     case round=>
      obtain ⟨j,F2,m2,all,hj,rfl,rfl,hs,hc⟩:=hrel
      have HS2:=Aa hs;have HC2:=Aa hc
      clear hs hc
      by_cases hlt:j<ids.length
      ·as_aux_lemma=>
       have hji:(j:Int)<(ids.length:Int):=by omega
       obtain ⟨ib,io,ic,x,he,hcx,hidx⟩:=ints_at HS2.o.own.rd hlt
       cases he
       have HX:=Aa hidx
       have HJ9:=HJ8.o
       clear hidx
       match j,hj,hlt,hji,hcx,HC2,HX with
       | 0,hj,hlt,hji,hcx,HC2,HX=>
        obtain ⟨rfl,hc1⟩:=HC2.o.first HX.o
        have HC1:=Aa hc1
        rw [Nat.add_zero] at hcx
        clear hc1
        go_wp2_with fail
        exact ⟨⟨1,F2,_,_,by omega,by go_num,rfl,HS2.o,HC1.o⟩,by simp [intOf];omega⟩
       | j+1,hj,hlt,hji,hcx,HC2,HX=>
        have HC1:=Aa (HC2.o.next HX.o)
        have hj0:(((j+1:Nat):Int) == 0)=false:=by simp;omega
        go_wp2_with (go_at_call 32;refine (Im F2 _ mb _ m2 HS2.o.mka 3 all x).mono ?_;intro e w7 hp7;obtain ⟨rfl,F7,hs7⟩:=HS2.o.put hp7;have HS7:=Aa hs7;clear hs7 hp7)
        exact ⟨⟨j+1+1,F7,_,_,by omega,by go_num,rfl,HS7.o,HC1.o⟩,by simp [intOf];omega⟩
      ·as_aux_lemma=>
       obtain rfl:j=ids.length:=by omega
       have hnn:¬ (ids.length:Int)<(ids.length:Int):=Int.lt_irrefl _
       by_cases h0:ids = []
       ·as_aux_lemma=>
        have hmt:m2=m∧all=0:=by
         rcases HC2.o with ⟨_,e1,e2⟩ | ⟨x,t,e1,_⟩
         ·exact ⟨e1,e2⟩
         ·rw [h0] at e1;simp at e1
        have HMT:=Aa hmt.1
        have HID:=Aa h0
        have hne:((ids.length:Int) == 0)=true:=by simp [h0]
        clear h0 hmt
        have HMB:=Aa (Im F2 wr mb _ m2 HS2.o.mka 2 0 0)
        go_wp2_with fail
        refine HMB.o.mono ?_
        intro e w3b hp3
        obtain ⟨rfl,F3,hs3⟩:=HS2.o.put hp3
        have HS3:=Aa hs3
        clear hs3 hp3 HMB
        go_wp2_with fail
        refine (Im F3 _ mb _ _ HS3.o.mka 5 (Ei m2 (nd2 2 0 0)) (Ei m2 (nd2 2 0 0))).mono ?_
        intro e w4b hp4
        obtain ⟨rfl,F4,hs4⟩:=HS3.o.put hp4
        have HS4:=Aa hs4
        clear hs4 hp4
        have HCJ:Hid (Ss ids m=(Dm (Dm m2 (nd2 2 0 0)) (nd2 5 (Ei m2 (nd2 2 0 0)) (Ei m2 (nd2 2 0 0))),Ei (Dm m2 (nd2 2 0 0)) (nd2 5 (Ei m2 (nd2 2 0 0)) (Ei m2 (nd2 2 0 0))))):=by
         unfold Hid;rw [HID.o,HMT.o];rfl
        generalize Dm (Dm m2 (nd2 2 0 0)) (nd2 5 (Ei m2 (nd2 2 0 0)) (Ei m2 (nd2 2 0 0)))=m4 at *
        generalize Ei (Dm m2 (nd2 2 0 0)) (nd2 5 (Ei m2 (nd2 2 0 0)) (Ei m2 (nd2 2 0 0)))=al at *
        have HM1:=Aa (Im F4 _ mb _ m4 HS4.o.mka 4 c d)
        go_wp2_with fail
        refine HM1.o.mono ?_
        intro e w5 hp5
        obtain ⟨rfl,F5,hs5⟩:=HS4.o.put hp5
        have HS5:=Aa hs5
        clear hs5 hp5 HM1
        go_wp2_with fail
        refine (Im F5 _ mb _ _ HS5.o.mka 5 al (Ei m4 (nd2 4 c d))).mono ?_
        intro e w6 hp6
        obtain ⟨rfl,F6,hs6⟩:=HS5.o.put hp6
        have HS6:=Aa hs6
        clear hs6 hp6
        have HL8:=Aa HAB.o.2
        obtain ⟨gs,hgs⟩:∃ gs,gs=a++[c,d]:=⟨_,rfl⟩
        have HGS:Hid (a.length+2=gs.length∧ints a++[.int .i64 c,.int .i64 d]=ints gs):=by rw [hgs];exact ⟨by simp,by simp [ints]⟩
        have HGE:=Aa hgs
        clear hgs
        go_wp2_with (first
         | (at_builtin;refine By rfl (.tmp 102) (.tmp 103) 23 rfl w6.heap.size 3 _ 1 8 Tryz.underlying23 Ef rfl (by decide) (by decide) _ 0 [] rfl (World.ownsRow_made w6 _ 0 (Nat.le_refl _) (by decide) (by simp)) _ a.length (ints a) rfl ((HVA.o _ _ HS6.o.kp).below (Ab _ _)) (Ws a) (by have:=HL8.o;omega) (by simp) ?_;intro v7 w7 hown7 hgr7 hat7 hnil7;simp only [Nat.zero_add,List.nil_append] at hown7;have HO7:=Aa hown7;have HB7:=Aa (Xz (Ab w6 _) (World.ownsRow_made (e:=3) (size:=1) w6 #[] 0 (Nat.le_refl _) (by decide) (by simp)) hgr7);clear hown7 hgr7 hat7 hnil7)
         | (at_builtin;refine By rfl (.tmp 104) (.tmp 107) 23 rfl w6.heap.size 3 _ 1 8 Tryz.underlying23 Ef rfl (by decide) (by decide) _ a.length (ints a) rfl (Ip HO7.o (Ab _ _)) _ 2 [.int .i64 c,.int .i64 d] rfl (Oa w7 _ _ rfl rfl) (by simp [Value.oneCell']) (by have:=HL8.o;omega) (by have:=HB7.o.size;simp;omega) ?_;intro v8 w8 hown8 hgr8 hat8 hnil8;rw [HGS.o.1,HGS.o.2] at hown8;have HB8:=Aa (Xz (Ac HB7.o (Ab w7 _)) (Ip HO7.o (Ab _ _)) hgr8);obtain ⟨qa,qc,rfl⟩:=Ba hown8;have HO8:=Aa hown8;clear hown8 hgr8 hat8 hnil8))
        have HS8:=Aa (HS6.o.below HB8.o)
        have HG8:Hid (∀ (F9:FP) (W:World),KeptF (F6.or (FP.one mb)) w8 F9 W→Rd W (.slice qa gs.length qc) gs.length 1 (ints gs)):=fun F9 W hk=>hk.rd (Hv HO8.o) (fun ad k c he hf=>by
         have:=(HO8.o.lt ad.block (by cases he;rfl)).1
         exact HS6.o.fresh_out this hf)
        obtain ⟨m6,hm6⟩:∃ m6,m6=Dm (Dm m4 (nd2 4 c d)) (nd2 5 al (Ei m4 (nd2 4 c d))):=⟨_,rfl⟩
        have HM6:=Aa hm6
        rw [← hm6] at HS8 HS6
        clear hm6
        obtain ⟨wi,rfl⟩:∃ wi:World,wi=wr:=⟨_,rfl⟩
        have HL9:Hid (gs.length≤10):=by have:=HGS.o.1;have:=HL8.o;unfold Hid;omega
        go_loopw [23,110] (fun pv u W=>∃ (j:Nat) (F9:FP) (m9:MK) (ps:List Int),j≤gs.length∧u = .int .i64 (j:Int)∧VS (F6.or (FP.one mb)) F9 w8 W mb (.pointer (some ⟨pb,0,none⟩)) m9 pv ps∧Hn al (gs.take j) m6 []=(m9,ps)∧ps.length=j) (fun _ u _=>gs.length - (intOf u).toNat)
        case atStart=>exact ⟨0,F6,m6,[],Nat.zero_le _,rfl,HS8.o.again,rfl,rfl⟩
        case round=>
         obtain ⟨j,F9,m9,ps,hj,rfl,hs,hi,hlen⟩:=hrel
         have HS9:=Aa hs;have HI9:=Aa hi;have HN9:=Aa hlen
         obtain ⟨pa,pc,rfl⟩:=Ba hs.own.own
         clear hs hi hlen
         by_cases hlt:j<gs.length
         ·as_aux_lemma=>
          have hji:(j:Int)<(gs.length:Int):=by omega
          obtain ⟨ib,io,ic,x,he,hcx,hidx⟩:=ints_at (HG8.o _ _ HS9.o.kp) hlt
          cases he
          have HST:=Aa (Xf hidx HI9.o)
          have HL10:=HL9.o
          have HP8:Hid (ps.length≤10):=by have:=HN9.o;unfold Hid;omega
          clear hidx
          go_wp2_with (first
           | (go_at_call 32;refine (Im F9 _ mb _ m9 HS9.o.mka 5 al x).mono ?_;intro e w10 hp10;obtain ⟨rfl,F10,hs10⟩:=HS9.o.put hp10;have HS10:=Aa hs10;clear hs10 hp10)
           | (at_builtin;refine By rfl (.tmp 114) (.tmp 119) 23 rfl w8.heap.size 3 _ 1 8 Tryz.underlying23 Ef rfl (by decide) (by decide) _ ps.length (ints ps) rfl ((HS10.o.below (Ab w10 _)).own.own) _ 1 [.int .i64 (Ei m9 (nd2 5 al x))] rfl (Gs w10 _ _) (by simp [Value.oneCell']) (by have:=HP8.o;omega) (by have:=HS10.o.kp.size;simp;omega) ?_;intro v11 w11 hown11 hgr11 hat11 hnil11;have HS11:=Aa ((HS10.o.below (Ab w10 _)).app hown11 hgr11 hat11 (Nat.le_refl _));clear hown11 hgr11 hat11 hnil11))
          exact ⟨⟨j+1,F10,_,_,by omega,by go_num,HS11.o,HST.o,by rw [List.length_append,HN9.o];rfl⟩,by simp [intOf];omega⟩
         ·as_aux_lemma=>
          obtain rfl:j=gs.length:=by omega
          have hI:=HI9.o
          rw [List.take_length] at hI
          rw [HM6.o] at hI
          rw [HGE.o] at hI
          have HRE:=Aa (nC HI1.o HCJ.o hI)
          have HVE:=Aa (sT HE.o HAB.o HRE.o.1)
          have hnn:¬ (gs.length:Int)<(gs.length:Int):=Int.lt_irrefl _
          have cm:=HS9.o.mka.box.cell (i:=1) rfl
          clear hI
          by_cases hz:m9.e=0
          ·rw [hz] at cm
           have hve:=HVE.o
           rw [if_neg (by simpa using hz)] at hve
           have HVG:=Aa hve
           clear hve hz
           go_wp2_with fail
           go_ret3
           exact iG HS8.o HS9.o HVG.o
          ·have hz2:(m9.e != 0)=true:=by simpa using hz
           have hve:=HVE.o
           rw [if_pos hz] at hve
           have HVG:=Aa hve
           clear hve hz
           go_wp2_with (go_at_call 33;refine (mM HS9.o.mka.tab (rows.length:Int)).mono ?_;rintro e w12 ⟨rfl,F12,hk12,ht12⟩;rw [Oq HRE.o.2] at ht12;have HK12:=Aa hk12;have HT12:=Aa ht12;have cm12:=hk12.cell cm HS9.o.mka.o;clear hk12 ht12)
           go_quiet (fail)
           go_wp2_with fail
           go_ret3
           exact nB HS8.o HS9.o HK12.o HT12.o HVG.o (below_drewN _ _)
       ·as_aux_lemma=>
        have HCJ:=Aa (HC2.o.last h0)
        have hne:((ids.length:Int) == 0)=false:=by
         have:=List.length_pos_iff.2 h0
         simp;omega
        clear h0
        have HM1:=Aa (Im F2 _ mb _ m2 HS2.o.mka 4 c d)
        go_wp2_with fail
        refine HM1.o.mono ?_
        intro e w5 hp5
        obtain ⟨rfl,F5,hs5⟩:=HS2.o.put hp5
        have HS5:=Aa hs5
        clear hs5 hp5 HM1
        go_wp2_with fail
        refine (Im F5 _ mb _ _ HS5.o.mka 5 all (Ei m2 (nd2 4 c d))).mono ?_
        intro e w6 hp6
        obtain ⟨rfl,F6,hs6⟩:=HS5.o.put hp6
        have HS6:=Aa hs6
        clear hs6 hp6
        have HL8:=Aa HAB.o.2
        obtain ⟨gs,hgs⟩:∃ gs,gs=a++[c,d]:=⟨_,rfl⟩
        have HGS:Hid (a.length+2=gs.length∧ints a++[.int .i64 c,.int .i64 d]=ints gs):=by rw [hgs];exact ⟨by simp,by simp [ints]⟩
        have HGE:=Aa hgs
        clear hgs
        go_wp2_with (first
         | (at_builtin;refine By rfl (.tmp 102) (.tmp 103) 23 rfl w6.heap.size 3 _ 1 8 Tryz.underlying23 Ef rfl (by decide) (by decide) _ 0 [] rfl (World.ownsRow_made w6 _ 0 (Nat.le_refl _) (by decide) (by simp)) _ a.length (ints a) rfl ((HVA.o _ _ HS6.o.kp).below (Ab _ _)) (Ws a) (by have:=HL8.o;omega) (by simp) ?_;intro v7 w7 hown7 hgr7 hat7 hnil7;simp only [Nat.zero_add,List.nil_append] at hown7;have HO7:=Aa hown7;have HB7:=Aa (Xz (Ab w6 _) (World.ownsRow_made (e:=3) (size:=1) w6 #[] 0 (Nat.le_refl _) (by decide) (by simp)) hgr7);clear hown7 hgr7 hat7 hnil7)
         | (at_builtin;refine By rfl (.tmp 104) (.tmp 107) 23 rfl w6.heap.size 3 _ 1 8 Tryz.underlying23 Ef rfl (by decide) (by decide) _ a.length (ints a) rfl (Ip HO7.o (Ab _ _)) _ 2 [.int .i64 c,.int .i64 d] rfl (Oa w7 _ _ rfl rfl) (by simp [Value.oneCell']) (by have:=HL8.o;omega) (by have:=HB7.o.size;simp;omega) ?_;intro v8 w8 hown8 hgr8 hat8 hnil8;rw [HGS.o.1,HGS.o.2] at hown8;have HB8:=Aa (Xz (Ac HB7.o (Ab w7 _)) (Ip HO7.o (Ab _ _)) hgr8);obtain ⟨qa,qc,rfl⟩:=Ba hown8;have HO8:=Aa hown8;clear hown8 hgr8 hat8 hnil8))
        have HS8:=Aa (HS6.o.below HB8.o)
        have HG8:Hid (∀ (F9:FP) (W:World),KeptF (F6.or (FP.one mb)) w8 F9 W→Rd W (.slice qa gs.length qc) gs.length 1 (ints gs)):=fun F9 W hk=>hk.rd (Hv HO8.o) (fun ad k c he hf=>by
         have:=(HO8.o.lt ad.block (by cases he;rfl)).1
         exact HS6.o.fresh_out this hf)
        obtain ⟨m6,hm6⟩:∃ m6,m6=Dm (Dm m2 (nd2 4 c d)) (nd2 5 all (Ei m2 (nd2 4 c d))):=⟨_,rfl⟩
        have HM6:=Aa hm6
        rw [← hm6] at HS8 HS6
        clear hm6
        obtain ⟨wi,rfl⟩:∃ wi:World,wi=wr:=⟨_,rfl⟩
        have HL9:Hid (gs.length≤10):=by have:=HGS.o.1;have:=HL8.o;unfold Hid;omega
        go_loopw [23,110] (fun pv u W=>∃ (j:Nat) (F9:FP) (m9:MK) (ps:List Int),j≤gs.length∧u = .int .i64 (j:Int)∧VS (F6.or (FP.one mb)) F9 w8 W mb (.pointer (some ⟨pb,0,none⟩)) m9 pv ps∧Hn all (gs.take j) m6 []=(m9,ps)∧ps.length=j) (fun _ u _=>gs.length - (intOf u).toNat)
        case atStart=>exact ⟨0,F6,m6,[],Nat.zero_le _,rfl,HS8.o.again,rfl,rfl⟩
        case round=>
         obtain ⟨j,F9,m9,ps,hj,rfl,hs,hi,hlen⟩:=hrel
         have HS9:=Aa hs;have HI9:=Aa hi;have HN9:=Aa hlen
         obtain ⟨pa,pc,rfl⟩:=Ba hs.own.own
         clear hs hi hlen
         by_cases hlt:j<gs.length
         ·as_aux_lemma=>
          have hji:(j:Int)<(gs.length:Int):=by omega
          obtain ⟨ib,io,ic,x,he,hcx,hidx⟩:=ints_at (HG8.o _ _ HS9.o.kp) hlt
          cases he
          have HST:=Aa (Xf hidx HI9.o)
          have HL10:=HL9.o
          have HP8:Hid (ps.length≤10):=by have:=HN9.o;unfold Hid;omega
          clear hidx
          go_wp2_with (first
           | (go_at_call 32;refine (Im F9 _ mb _ m9 HS9.o.mka 5 all x).mono ?_;intro e w10 hp10;obtain ⟨rfl,F10,hs10⟩:=HS9.o.put hp10;have HS10:=Aa hs10;clear hs10 hp10)
           | (at_builtin;refine By rfl (.tmp 114) (.tmp 119) 23 rfl w8.heap.size 3 _ 1 8 Tryz.underlying23 Ef rfl (by decide) (by decide) _ ps.length (ints ps) rfl ((HS10.o.below (Ab w10 _)).own.own) _ 1 [.int .i64 (Ei m9 (nd2 5 all x))] rfl (Gs w10 _ _) (by simp [Value.oneCell']) (by have:=HP8.o;omega) (by have:=HS10.o.kp.size;simp;omega) ?_;intro v11 w11 hown11 hgr11 hat11 hnil11;have HS11:=Aa ((HS10.o.below (Ab w10 _)).app hown11 hgr11 hat11 (Nat.le_refl _));clear hown11 hgr11 hat11 hnil11))
          exact ⟨⟨j+1,F10,_,_,by omega,by go_num,HS11.o,HST.o,by rw [List.length_append,HN9.o];rfl⟩,by simp [intOf];omega⟩
         ·as_aux_lemma=>
          obtain rfl:j=gs.length:=by omega
          have hI:=HI9.o
          rw [List.take_length] at hI
          rw [HM6.o] at hI
          rw [HGE.o] at hI
          have HRE:=Aa (nC HI1.o HCJ.o hI)
          have HVE:=Aa (sT HE.o HAB.o HRE.o.1)
          have hnn:¬ (gs.length:Int)<(gs.length:Int):=Int.lt_irrefl _
          have cm:=HS9.o.mka.box.cell (i:=1) rfl
          clear hI
          by_cases hz:m9.e=0
          ·rw [hz] at cm
           have hve:=HVE.o
           rw [if_neg (by simpa using hz)] at hve
           have HVG:=Aa hve
           clear hve hz
           go_wp2_with fail
           go_ret3
           exact iG HS8.o HS9.o HVG.o
          ·have hz2:(m9.e != 0)=true:=by simpa using hz
           have hve:=HVE.o
           rw [if_pos hz] at hve
           have HVG:=Aa hve
           clear hve hz
           go_wp2_with (go_at_call 33;refine (mM HS9.o.mka.tab (rows.length:Int)).mono ?_;rintro e w12 ⟨rfl,F12,hk12,ht12⟩;rw [Oq HRE.o.2] at ht12;have HK12:=Aa hk12;have HT12:=Aa ht12;have cm12:=hk12.cell cm HS9.o.mka.o;clear hk12 ht12)
           go_quiet (fail)
           go_wp2_with fail
           go_ret3
           exact nB HS8.o HS9.o HK12.o HT12.o HVG.o (below_drewN _ _)
end Go.Dk
end
