/- Parts of the proof: Qg, Qh, Si, Qi, Qj, Qk, Ql. -/
import Derived.Test.YthhokkfcdbcllaaGreatDoorR01
import Derived.Test.YthhokkfcdbcllaaGreatDoorR02
import Derived.Test.YthhokkfcdbcllaaGreatDoorR03
import Derived.Test.YthhokkfcdbcllaaGreatDoorR04
import Derived.Test.YthhokkfcdbcllaaGreatDoorR05
import Derived.Test.YthhokkfcdbcllaaGreatDoorR06
import Derived.Test.YthhokkfcdbcllaaGreatDoorR07
import Derived.Test.YthhokkfcdbcllaaGreatDoorR08
import Derived.Test.YthhokkfcdbcllaaGreatDoorR09
import Derived.Test.YthhokkfcdbcllaaGreatDoorR10
section
namespace Go.Dk
open Go.RowKit Go.Maps Go.MapKept
open Go.Proofs hiding intOf
def Dp (F:FP) (W W':World):Prop:=∃ F',KeptF F W F' W'
theorem nW {W:World} {u v:Value} {T:TypeId}:(W.alloc (.cells #[u,v] T)).cell? ⟨W.heap.size,0,none⟩=some u:=World.cell?_alloc_at _ _ _ _ rfl
theorem pA {W:World} {u v:Value} {T:TypeId}:(W.alloc (.cells #[u,v] T)).cell? ⟨W.heap.size,1,none⟩=some v:=World.cell?_alloc_at _ _ _ _ rfl
theorem bZ {W:World} {F:FP} {f1 f2:Value} {T:TypeId} {g1 g2:Gn} (h1:Ld (fun W'=>∃ F',KeptF F (W.alloc (.cells #[f1,f2] T)) F' W') 0 f1 g1) (h2:Ld (fun W'=>∃ F',KeptF F (W.alloc (.cells #[f1,f2] T)) F' W') 1 f2 g2) :
  ∀ j (h:j<([g1,g2]:List Gn).length),∃ fv,(W.alloc (.cells #[f1,f2] T)).cell? ⟨W.heap.size,j,none⟩=some fv∧Ld (fun W'=>∃ F',KeptF F (W.alloc (.cells #[f1,f2] T)) F' W') j fv ([g1,g2]:List Gn)[j]:=fun j hj=>by
 match j,hj with
 | 0,_=>exact ⟨f1,nW,h1⟩
 | 1,_=>exact ⟨f2,pA,h2⟩
 | j+2,hj=>exact absurd hj (by simp)
theorem xX {W:World} {g i j:Nat} (h1:W.cell? ⟨g,0,none⟩=some (.int .i64 (i:Int))) (h2:W.cell? ⟨g,1,none⟩=some (.int .i64 (j:Int))):∀ k (h:k < [i,j].length),W.cell? ⟨g,0+k,none⟩=some (.int .i64 (([i,j][k]:Nat):Int)):=fun k hk=>by
 match k,hk with
 | 0,_=>exact h1
 | 1,_=>exact h2
 | k+2,hk=>exact absurd hk (by simp)
theorem Uy {F:FP} {w W W':World} {p:Nat} (hF:F.in_ w) (h1:Below w.heap.size w W) (h2:Below W.heap.size W W') (hp:W'.heap.size≤p):¬ F p:=fun hf=>by
 have:=hF _ hf
 have:=h1.size
 have:=h2.size
 omega
set_option maxRecDepth 100000 in
set_option maxHeartbeats 2000000 in
theorem jO (F:FP) (w:World) (t:Value) (rows:List ND) (hF:Cm F w t rows) (s:SQ) (main:Nat) (hm:main<rows.length) (kd:Int) (nm:ByteArray) (l r:Nat) (hx:rowAt rows main=⟨kd,nm,(l:Int),(r:Int)⟩) (hr:r<1024)
  (kd2:Int) (nm2:ByteArray) (l2 r2:Int) (hy:nodeAt rows (l:Int)=⟨kd2,nm2,l2,r2⟩) (rows1:List ND) (er:Int) (her:er≠0) (hR:Gi [fun _=>(l2,(r:Int)),fun _=>(r2,(r:Int))] rows []=⟨rows1,er,[]⟩) :
  Calls Tryz.prog 87 #[t,.agg (Ad s.left s.goal).toArray,.int .i64 7,.int .i64 (main:Int)] w (Xv F w t rows1 er):=by
 have HB0:=Aa (Ab w (.cells (Ad s.left s.goal).toArray 86))
 have HQ0:=Aa (Ae.new w (Ad s.left s.goal) 86)
 have HN1:=Aa (Dc 0 _ w t rows (hF.col 0) main hm _ hx)
 have HR:=Aa hr
 clear hr
 have HN2:Hid (∀ W,Below w.heap.size w W→Calls Tryz.prog 104 #[t,.int .i64 (l:Int)] W fun e w'=>e = .returned (.agg (ND.mk kd2 nm2 l2 r2).cells.toArray)∧Below W.heap.size W w'):=fun W hb=>hy▸Eb 0 _ W t rows ((hF.col 0).below hb) (l:Int)
 have HM:Hid (main<1024):=Nat.lt_of_lt_of_le hm hF.ok.le
 have HI:Hid (∀ W gb,Cm F W t rows→¬ F gb→(∀ j (h:j<([fun _=>(l2,(r:Int)),fun _=>(r2,(r:Int))]:List Gn).length),∃ fv,W.cell? ⟨gb,j,none⟩=some fv∧Ld (fun W'=>∃ F',KeptF F W F' W') j fv ([fun _=>(l2,(r:Int)),fun _=>(r2,(r:Int))]:List Gn)[j])→Calls Tryz.prog 111 #[t,.slice (some ⟨gb,0,none⟩) 2 2] W (Nh F W t ⟨rows1,er,[]⟩)):=fun W gb ht hg hf=>by
  have:=Ol F W t rows ht gb [fun _=>(l2,(r:Int)),fun _=>(r2,(r:Int))] (by simp) hg hf
  rw [hR] at this
  exact this
 have hz2:(er != 0)=true:=by simpa using her
 clear her
 have HT:=Aa hF
 simp only at HN1
 clear hF hx hy hm hR
 go_enter Tryz.func87,Tryz.ntmps87
 go_wp2_with (first
  | (go_at_call 104;refine (HN1.o _ HB0.o).mono ?_;rintro e W1 ⟨rfl,hb1⟩;have HB1:=Aa (Ac HB0.o hb1);have HQ1:=Aa (HQ0.o.below hb1);clear hb1 HN1)
  | (refine Aj Ds (.tmp 10) (.tmp 21) rfl rfl rfl (ys:=(ND.mk kd nm (l:Int) (r:Int)).cells) rfl (Ae.new W1 Do.cells 31) rfl rfl (cells_one _) ?_;intro W2 hb2 ho2;have c2:=hb2.cell (i:=2) rfl;have HX2:=Aa hb2;have HB12:=Aa ((Ab W1 _).trans (ho2.below (Nat.le_refl _)));have HB2:=Aa (HB1.o.trans (HB12.o.mono HB1.o.size));have HQ2:=Aa (HQ1.o.below HB12.o);clear hb2 ho2;simp only at c2)
  | (go_at_call 104;refine (HN2.o _ HB2.o).mono ?_;rintro e W3 ⟨rfl,hb3⟩;have HB3:=Aa (Ac HB2.o hb3);have HQ3:=Aa (HQ2.o.below hb3);have HX3:=Aa (HX2.o.below hb3);clear hb3 c2)
  | (refine Aj Ds (.tmp 11) (.tmp 25) rfl rfl rfl (ys:=(ND.mk kd2 nm2 l2 r2).cells) rfl (Ae.new W3 Do.cells 31) rfl rfl (cells_one _) ?_;intro W4 hb4 ho4;have HY4:=Aa hb4;have HB34:=Aa ((Ab W3 _).trans (ho4.below (Nat.le_refl _)));have HB4:=Aa (HB3.o.trans (HB34.o.mono HB3.o.size));have HQ4:=Aa (HQ3.o.below HB34.o);have HX4:=Aa (HX3.o.below HB34.o);clear hb4 ho4)
  | (refine Ah (.tmp 5) rfl rfl rfl HQ4.o ?_)
  | (refine Ar (.tmp 12) (.tmp 26) rfl rfl rfl rfl (Ae.new W4 (Ad 0 0) 86) (Ai _ _) ?_;intro W5 hb5 ho5;have HR5:=Aa hb5;have HB45:=Aa ((Ab W4 _).trans (ho5.below (Nat.le_refl _)));have HB5:=Aa (HB4.o.trans (HB45.o.mono HB4.o.size));have HQ5:=Aa (HQ4.o.below HB45.o);have HX5:=Aa (HX4.o.below HB45.o);have HY5:=Aa (HY4.o.below HB45.o);have HZ4:=Aa HB4.o.size;have HZ5:=Aa HB45.o.size;clear hb5 ho5)
  | (refine Ap (.tmp 27) rfl rfl rfl HQ5.o ?_)
  | (go_at_call 109;refine (Fg W5 s.left main HM.o).mono ?_;rintro e W6 ⟨rfl,hb6⟩;have HB6:=Aa (HB5.o.trans (hb6.mono HB5.o.size));have HR6:=Aa (HR5.o.below hb6);have HQ6:=Aa (HQ5.o.below hb6);have HX6:=Aa (HX5.o.below hb6);have HY6:=Aa (HY5.o.below hb6);clear hb6)
  | (refine Au (.tmp 31) (.tmp 30) rfl rfl rfl rfl HR6.o ?_;intro W7 hb7 ho7;have HR7:=Aa hb7;have HX7:=Aa (HX6.o.only ho7 (Nat.ne_of_lt HX4.o.lt));have HQ7:=Aa (HQ6.o.only ho7 (Nat.ne_of_lt HQ4.o.lt));have HY7:=Aa (HY6.o.only ho7 (Nat.ne_of_lt HY4.o.lt));have d3:=HY7.o.cell (i:=3) rfl;have d2:=HY7.o.cell (i:=2) rfl;have c7:=HX7.o.cell (i:=3) rfl;have c6:=HX7.o.cell (i:=2) rfl;have HB7:=Aa (HB6.o.trans (ho7.below HZ4.o));clear hb7 ho7;simp only at c7 c6 d2 d3))
 have HK:Hid (∀ W',Below W7.heap.size W7 W'→Dp F W7 W'):=fun W' hb=>⟨F,KeptF.of_below (HT.o.below HB7.o).in_ hb⟩
 have hw1:=HB1.o.size;have hw4:=HB34.o.size;have hw3:=HB3.o.size
 have HNX:Hid (¬ F W1.heap.size):=fun hf=>by have:=HT.o.in_ _ hf;omega
 have HNY:Hid (¬ F W3.heap.size):=fun hf=>by have:=HT.o.in_ _ hf;omega
 clear hw1 hw4 hw3
 have hcl0:∀ W',Dp F W7 W'→W'.cell? ⟨W3.heap.size,2,none⟩=some (.int .i64 l2):=fun W' ⟨F',hk⟩=>hk.cell d2 HNY.o
 have hcl1:∀ W',Dp F W7 W'→W'.cell? ⟨W3.heap.size,3,none⟩=some (.int .i64 r2):=fun W' ⟨F',hk⟩=>hk.cell d3 HNY.o
 have hcl2:∀ W',Dp F W7 W'→W'.cell? ⟨W1.heap.size,3,none⟩=some (.int .i64 (r:Int)):=fun W' ⟨F',hk⟩=>hk.cell c7 HNX.o
 have HD:=Aa (below_drewN W7 1)
 have HP1:Hid (∀ W,Calls Tryz.prog 112 #[.int .i64 l2,.int .i64 (r:Int)] W (Qx W l2 (r:Int))):=fun W=>Qp W _ _
 have HP2:Hid (∀ W,Calls Tryz.prog 112 #[.int .i64 r2,.int .i64 (r:Int)] W (Qx W r2 (r:Int))):=fun W=>Qp W _ _
 clear c6 c7 d2 d3
 go_region_held3 (fun W'=>Dp F W7 W')
  ((first | exact HKI.o | (refine HK.o _ ?_;repeat (with_reducible first | exact HB9.o | exact HB8.o | exact Below.refl _ _ | exact HD.o | refine Ac ?_ (Ab _ _) | refine Ac ?_ (Db _)))))
  (first
   | (go_at_call 112;refine (HP1.o _).mono ?_;clear HP1;rintro e W8 ⟨p,q,rfl,hp,hq,cp,cq,hb8⟩;have HPB:=Aa hp;have HQB:=Aa hq;have HCP:=Aa cp;have HCQ:=Aa cq;have HB8:Hid (Below W7.heap.size W7 W8):=Ac HD.o hb8;clear hp hq cp cq hb8)
   | (go_at_call 112;refine (HP2.o W8).mono ?_;clear HP2;rintro e W9 ⟨p2,q2,rfl,hp,hq,cp,cq,hb9⟩;have HPB2:=Aa hp;have HQB2:=Aa hq;have HCP2:=Aa cp;have HCQ2:=Aa cq;have HCP1:=Aa (Ao hb9 HCP.o);have HCQ1:=Aa (Ao hb9 HCQ.o);have HB9:Hid (Below W7.heap.size W7 W9):=Ac HB8.o hb9;have HT9:=Aa (HT.o.below (Ac HB7.o HB9.o));clear hp hq cp cq hb9)
   | (go_at_call 111;refine (HI.o _ W9.heap.size (HT9.o.below (Ab _ _)) (fun hf=>by have:=HT9.o.in_ _ hf;omega) (bZ (Qw (Ao (Ab _ _) HCP1.o) (Ao (Ab _ _) HCQ1.o) (Uy HT.o.in_ HB7.o HD.o HPB.o) (Uy HT.o.in_ HB7.o HD.o HQB.o)) (Qw (Ao (Ab _ _) HCP2.o) (Ao (Ab _ _) HCQ2.o) (Uy HT.o.in_ HB7.o HB8.o HPB2.o) (Uy HT.o.in_ HB7.o HB8.o HQB2.o)))).mono ?_;rintro e W10 ⟨v9,F9,rfl,hk9,ht9,ho9⟩;have HKJ:=Aa ((KeptF.of_below (HT.o.below HB7.o).in_ (Ac HB9.o (Ab _ _))).trans hk9);have HKI:Hid (Dp F W7 W10):=⟨F9,HKJ.o⟩;have HT10:=Aa ht9;have HO9:=Aa ho9;clear hk9 ht9 ho9))
 go_wp2_with fail
 go_ret2
 exact ⟨F9,rfl,(KeptF.of_below HT.o.in_ HB7.o).trans HKJ.o,HT10.o⟩
set_option maxRecDepth 100000 in
set_option maxHeartbeats 2000000 in
theorem wE (F:FP) (w:World) (t:Value) (rows:List ND) (hF:Cm F w t rows) (s:SQ) (main:Nat) (hm:main<rows.length) (kd:Int) (nm:ByteArray) (l r:Nat) (hx:rowAt rows main=⟨kd,nm,(l:Int),(r:Int)⟩) (hr:r<1024)
  (kd2:Int) (nm2:ByteArray) (l2 r2:Int) (hy:nodeAt rows (l:Int)=⟨kd2,nm2,l2,r2⟩) (rows1:List ND) (i j:Nat) (hi:i<1024) (hj:j<1024) (hR:Gi [fun _=>(l2,(r:Int)),fun _=>(r2,(r:Int))] rows []=⟨rows1,0,[(i:Int),(j:Int)]⟩) :
  Calls Tryz.prog 87 #[t,.agg (Ad s.left s.goal).toArray,.int .i64 7,.int .i64 (main:Int)] w (Uh F w t rows1 [⟨Aw (Aw (Be s.left main) i) j,s.goal⟩]):=by
 have HB0:=Aa (Ab w (.cells (Ad s.left s.goal).toArray 86))
 have HQ0:=Aa (Ae.new w (Ad s.left s.goal) 86)
 have HN1:=Aa (Dc 0 _ w t rows (hF.col 0) main hm _ hx)
 have HR:=Aa hr
 clear hr
 have HN2:Hid (∀ W,Below w.heap.size w W→Calls Tryz.prog 104 #[t,.int .i64 (l:Int)] W fun e w'=>e = .returned (.agg (ND.mk kd2 nm2 l2 r2).cells.toArray)∧Below W.heap.size W w'):=fun W hb=>hy▸Eb 0 _ W t rows ((hF.col 0).below hb) (l:Int)
 have HM:Hid (main<1024):=Nat.lt_of_lt_of_le hm hF.ok.le
 have HI:Hid (∀ W gb,Cm F W t rows→¬ F gb→(∀ j (h:j<([fun _=>(l2,(r:Int)),fun _=>(r2,(r:Int))]:List Gn).length),∃ fv,W.cell? ⟨gb,j,none⟩=some fv∧Ld (fun W'=>∃ F',KeptF F W F' W') j fv ([fun _=>(l2,(r:Int)),fun _=>(r2,(r:Int))]:List Gn)[j])→Calls Tryz.prog 111 #[t,.slice (some ⟨gb,0,none⟩) 2 2] W (Nh F W t ⟨rows1,0,[(i:Int),(j:Int)]⟩)):=fun W gb ht hg hf=>by
  have:=Ol F W t rows ht gb [fun _=>(l2,(r:Int)),fun _=>(r2,(r:Int))] (by simp) hg hf
  rw [hR] at this
  exact this
 have HII:=Aa hi
 have HJJ:=Aa hj
 clear hi hj
 have HT:=Aa hF
 simp only at HN1
 clear hF hx hy hm hR
 go_enter Tryz.func87,Tryz.ntmps87
 go_wp2_with (first
  | (go_at_call 104;refine (HN1.o _ HB0.o).mono ?_;rintro e W1 ⟨rfl,hb1⟩;have HB1:=Aa (Ac HB0.o hb1);have HQ1:=Aa (HQ0.o.below hb1);clear hb1 HN1)
  | (refine Aj Ds (.tmp 10) (.tmp 21) rfl rfl rfl (ys:=(ND.mk kd nm (l:Int) (r:Int)).cells) rfl (Ae.new W1 Do.cells 31) rfl rfl (cells_one _) ?_;intro W2 hb2 ho2;have c2:=hb2.cell (i:=2) rfl;have HX2:=Aa hb2;have HB12:=Aa ((Ab W1 _).trans (ho2.below (Nat.le_refl _)));have HB2:=Aa (HB1.o.trans (HB12.o.mono HB1.o.size));have HQ2:=Aa (HQ1.o.below HB12.o);clear hb2 ho2;simp only at c2)
  | (go_at_call 104;refine (HN2.o _ HB2.o).mono ?_;rintro e W3 ⟨rfl,hb3⟩;have HB3:=Aa (Ac HB2.o hb3);have HQ3:=Aa (HQ2.o.below hb3);have HX3:=Aa (HX2.o.below hb3);clear hb3 c2)
  | (refine Aj Ds (.tmp 11) (.tmp 25) rfl rfl rfl (ys:=(ND.mk kd2 nm2 l2 r2).cells) rfl (Ae.new W3 Do.cells 31) rfl rfl (cells_one _) ?_;intro W4 hb4 ho4;have HY4:=Aa hb4;have HB34:=Aa ((Ab W3 _).trans (ho4.below (Nat.le_refl _)));have HB4:=Aa (HB3.o.trans (HB34.o.mono HB3.o.size));have HQ4:=Aa (HQ3.o.below HB34.o);have HX4:=Aa (HX3.o.below HB34.o);clear hb4 ho4)
  | (refine Ah (.tmp 5) rfl rfl rfl HQ4.o ?_)
  | (refine Ar (.tmp 12) (.tmp 26) rfl rfl rfl rfl (Ae.new W4 (Ad 0 0) 86) (Ai _ _) ?_;intro W5 hb5 ho5;have HR5:=Aa hb5;have HB45:=Aa ((Ab W4 _).trans (ho5.below (Nat.le_refl _)));have HB5:=Aa (HB4.o.trans (HB45.o.mono HB4.o.size));have HQ5:=Aa (HQ4.o.below HB45.o);have HX5:=Aa (HX4.o.below HB45.o);have HY5:=Aa (HY4.o.below HB45.o);have HZ4:=Aa HB4.o.size;have HZ5:=Aa HB45.o.size;clear hb5 ho5)
  | (refine Ap (.tmp 27) rfl rfl rfl HQ5.o ?_)
  | (go_at_call 109;refine (Fg W5 s.left main HM.o).mono ?_;rintro e W6 ⟨rfl,hb6⟩;have HB6:=Aa (HB5.o.trans (hb6.mono HB5.o.size));have HR6:=Aa (HR5.o.below hb6);have HQ6:=Aa (HQ5.o.below hb6);have HX6:=Aa (HX5.o.below hb6);have HY6:=Aa (HY5.o.below hb6);clear hb6)
  | (refine Au (.tmp 31) (.tmp 30) rfl rfl rfl rfl HR6.o ?_;intro W7 hb7 ho7;have HR7:=Aa hb7;have HX7:=Aa (HX6.o.only ho7 (Nat.ne_of_lt HX4.o.lt));have HQ7:=Aa (HQ6.o.only ho7 (Nat.ne_of_lt HQ4.o.lt));have HY7:=Aa (HY6.o.only ho7 (Nat.ne_of_lt HY4.o.lt));have d3:=HY7.o.cell (i:=3) rfl;have d2:=HY7.o.cell (i:=2) rfl;have c7:=HX7.o.cell (i:=3) rfl;have c6:=HX7.o.cell (i:=2) rfl;have HB7:=Aa (HB6.o.trans (ho7.below HZ4.o));clear hb7 ho7;simp only at c7 c6 d2 d3))
 have HK:Hid (∀ W',Below W7.heap.size W7 W'→Dp F W7 W'):=fun W' hb=>⟨F,KeptF.of_below (HT.o.below HB7.o).in_ hb⟩
 have hw1:=HB1.o.size;have hw4:=HB34.o.size;have hw3:=HB3.o.size
 have HNX:Hid (¬ F W1.heap.size):=fun hf=>by have:=HT.o.in_ _ hf;omega
 have HNY:Hid (¬ F W3.heap.size):=fun hf=>by have:=HT.o.in_ _ hf;omega
 clear hw1 hw4 hw3
 have hcl0:∀ W',Dp F W7 W'→W'.cell? ⟨W3.heap.size,2,none⟩=some (.int .i64 l2):=fun W' ⟨F',hk⟩=>hk.cell d2 HNY.o
 have hcl1:∀ W',Dp F W7 W'→W'.cell? ⟨W3.heap.size,3,none⟩=some (.int .i64 r2):=fun W' ⟨F',hk⟩=>hk.cell d3 HNY.o
 have hcl2:∀ W',Dp F W7 W'→W'.cell? ⟨W1.heap.size,3,none⟩=some (.int .i64 (r:Int)):=fun W' ⟨F',hk⟩=>hk.cell c7 HNX.o
 have HD:=Aa (below_drewN W7 1)
 have HP1:Hid (∀ W,Calls Tryz.prog 112 #[.int .i64 l2,.int .i64 (r:Int)] W (Qx W l2 (r:Int))):=fun W=>Qp W _ _
 have HP2:Hid (∀ W,Calls Tryz.prog 112 #[.int .i64 r2,.int .i64 (r:Int)] W (Qx W r2 (r:Int))):=fun W=>Qp W _ _
 clear c6 c7 d2 d3
 go_region_held3 (fun W'=>Dp F W7 W')
  ((first | exact HKI.o | (refine HK.o _ ?_;repeat (with_reducible first | exact HB9.o | exact HB8.o | exact Below.refl _ _ | exact HD.o | refine Ac ?_ (Ab _ _) | refine Ac ?_ (Db _)))))
  (first
   | (go_at_call 112;refine (HP1.o _).mono ?_;clear HP1;rintro e W8 ⟨p,q,rfl,hp,hq,cp,cq,hb8⟩;have HPB:=Aa hp;have HQB:=Aa hq;have HCP:=Aa cp;have HCQ:=Aa cq;have HB8:Hid (Below W7.heap.size W7 W8):=Ac HD.o hb8;clear hp hq cp cq hb8)
   | (go_at_call 112;refine (HP2.o W8).mono ?_;clear HP2;rintro e W9 ⟨p2,q2,rfl,hp,hq,cp,cq,hb9⟩;have HPB2:=Aa hp;have HQB2:=Aa hq;have HCP2:=Aa cp;have HCQ2:=Aa cq;have HCP1:=Aa (Ao hb9 HCP.o);have HCQ1:=Aa (Ao hb9 HCQ.o);have HB9:Hid (Below W7.heap.size W7 W9):=Ac HB8.o hb9;have HT9:=Aa (HT.o.below (Ac HB7.o HB9.o));clear hp hq cp cq hb9)
   | (go_at_call 111;refine (HI.o _ W9.heap.size (HT9.o.below (Ab _ _)) (fun hf=>by have:=HT9.o.in_ _ hf;omega) (bZ (Qw (Ao (Ab _ _) HCP1.o) (Ao (Ab _ _) HCQ1.o) (Uy HT.o.in_ HB7.o HD.o HPB.o) (Uy HT.o.in_ HB7.o HD.o HQB.o)) (Qw (Ao (Ab _ _) HCP2.o) (Ao (Ab _ _) HCQ2.o) (Uy HT.o.in_ HB7.o HB8.o HPB2.o) (Uy HT.o.in_ HB7.o HB8.o HQB2.o)))).mono ?_;rintro e W10 ⟨v9,F9,rfl,hk9,ht9,ho9⟩;have HKJ:=Aa ((KeptF.of_below (HT.o.below HB7.o).in_ (Ac HB9.o (Ab _ _))).trans hk9);have HKI:Hid (Dp F W7 W10):=⟨F9,HKJ.o⟩;have HT10:=Aa ht9;have HO9:=Aa ho9;obtain ⟨g,c,rfl,hg,hcg⟩:=(ho9 rfl).form (by simp);have HCG:=Aa (hcg 0 _ rfl);have HCG2:=Aa (hcg 1 _ rfl);clear hk9 ht9 ho9 hg hcg))
 have HR10:=Aa (HR7.o.keptF HKJ.o (fun hf=>by have:=HT.o.in_ _ hf;have:=HB4.o.size;omega))
 clear hcl0 hcl1 hcl2
 go_wp2_with (first
  | (refine Ah (.tmp 12) rfl rfl rfl HR10.o ?_)
  | (go_at_call 110;refine (Jg W10 (Be s.left main) s.goal g 0 c [i,j] (by simp) (fun n hn=>by simp at hn;rcases hn with rfl | rfl;exact HII.o;exact HJJ.o) (xX HCG.o HCG2.o)).mono ?_;rintro e W11 ⟨rfl,hb11⟩;rw [eU];have HB11:=Aa hb11;have hsl:=Ai (Aw (Aw (Be s.left main) i) j) s.goal;clear hb11))
 rw [Fh]
 refine bodyPost_ret (v:=.tuple #[.slice (some ⟨W11.heap.size,0,none⟩) 1 1,.int .i64 0]) (by simp [results,Tryz.results87,go_sem]) rfl ?_
 exact Zf ((KeptF.of_below HT.o.in_ HB7.o).trans HKJ.o) HT10.o HB11.o rfl (by simp)
end Go.Dk
end
section
namespace Go.Dk
open Go.RowKit Go.Maps Go.MapKept
open Go.Proofs hiding intOf
attribute [local go_sem ↓] Dv
attribute [local go_sem] Du
set_option maxRecDepth 100000 in
set_option maxHeartbeats 2000000 in
theorem jR (F:FP) (w:World) (t:Value) (rows:List ND) (hF:Cm F w t rows) (s:SQ) (main:Nat) (hm:main<rows.length) (kd:Int) (nm:ByteArray) (l r:Nat) (hx:rowAt rows main=⟨kd,nm,(l:Int),(r:Int)⟩) (hr:r<1024)
  (kd2:Int) (nm2:ByteArray) (l2 r2:Int) (hy:nodeAt rows (l:Int)=⟨kd2,nm2,l2,r2⟩) (rows1:List ND) (er:Int) (her:er≠0) (hR:Gi [fun _=>(r2,(r:Int)),fun made=>(l2,made.headD 0)] rows []=⟨rows1,er,[]⟩) :
  Calls Tryz.prog 87 #[t,.agg (Ad s.left s.goal).toArray,.int .i64 6,.int .i64 (main:Int)] w (Xv F w t rows1 er):=by
 have HB0:=Aa (Ab w (.cells (Ad s.left s.goal).toArray 86))
 have HQ0:=Aa (Ae.new w (Ad s.left s.goal) 86)
 have HN1:=Aa (Dc 0 _ w t rows (hF.col 0) main hm _ hx)
 have HR:=Aa hr
 clear hr
 have HN2:Hid (∀ W,Below w.heap.size w W→Calls Tryz.prog 104 #[t,.int .i64 (l:Int)] W fun e w'=>e = .returned (.agg (ND.mk kd2 nm2 l2 r2).cells.toArray)∧Below W.heap.size W w'):=fun W hb=>hy▸Eb 0 _ W t rows ((hF.col 0).below hb) (l:Int)
 have HM:Hid (main<1024):=Nat.lt_of_lt_of_le hm hF.ok.le
 have HI:Hid (∀ W gb,Cm F W t rows→¬ F gb→(∀ j (h:j<([fun _=>(r2,(r:Int)),fun made=>(l2,made.headD 0)]:List Gn).length),∃ fv,W.cell? ⟨gb,j,none⟩=some fv∧Ld (fun W'=>∃ F',KeptF F W F' W') j fv ([fun _=>(r2,(r:Int)),fun made=>(l2,made.headD 0)]:List Gn)[j])→Calls Tryz.prog 111 #[t,.slice (some ⟨gb,0,none⟩) 2 2] W (Nh F W t ⟨rows1,er,[]⟩)):=fun W gb ht hg hf=>by
  have:=Ol F W t rows ht gb [fun _=>(r2,(r:Int)),fun made=>(l2,made.headD 0)] (by simp) hg hf
  rw [hR] at this
  exact this
 have hz2:(er != 0)=true:=by simpa using her
 clear her
 have HT:=Aa hF
 simp only at HN1
 clear hF hx hy hm hR
 go_enter Tryz.func87,Tryz.ntmps87
 go_wp2_with (first
  | (go_at_call 104;refine (HN1.o _ HB0.o).mono ?_;rintro e W1 ⟨rfl,hb1⟩;have HB1:=Aa (Ac HB0.o hb1);have HQ1:=Aa (HQ0.o.below hb1);clear hb1 HN1)
  | (refine Aj Ds (.tmp 10) (.tmp 21) rfl rfl rfl (ys:=(ND.mk kd nm (l:Int) (r:Int)).cells) rfl (Ae.new W1 Do.cells 31) rfl rfl (cells_one _) ?_;intro W2 hb2 ho2;have c2:=hb2.cell (i:=2) rfl;have HX2:=Aa hb2;have HB12:=Aa ((Ab W1 _).trans (ho2.below (Nat.le_refl _)));have HB2:=Aa (HB1.o.trans (HB12.o.mono HB1.o.size));have HQ2:=Aa (HQ1.o.below HB12.o);clear hb2 ho2;simp only at c2)
  | (go_at_call 104;refine (HN2.o _ HB2.o).mono ?_;rintro e W3 ⟨rfl,hb3⟩;have HB3:=Aa (Ac HB2.o hb3);have HQ3:=Aa (HQ2.o.below hb3);have HX3:=Aa (HX2.o.below hb3);clear hb3 c2)
  | (refine Aj Ds (.tmp 11) (.tmp 25) rfl rfl rfl (ys:=(ND.mk kd2 nm2 l2 r2).cells) rfl (Ae.new W3 Do.cells 31) rfl rfl (cells_one _) ?_;intro W4 hb4 ho4;have HY4:=Aa hb4;have HB34:=Aa ((Ab W3 _).trans (ho4.below (Nat.le_refl _)));have HB4:=Aa (HB3.o.trans (HB34.o.mono HB3.o.size));have HQ4:=Aa (HQ3.o.below HB34.o);have HX4:=Aa (HX3.o.below HB34.o);clear hb4 ho4)
  | (refine Ah (.tmp 5) rfl rfl rfl HQ4.o ?_)
  | (refine Ar (.tmp 12) (.tmp 26) rfl rfl rfl rfl (Ae.new W4 (Ad 0 0) 86) (Ai _ _) ?_;intro W5 hb5 ho5;have HR5:=Aa hb5;have HB45:=Aa ((Ab W4 _).trans (ho5.below (Nat.le_refl _)));have HB5:=Aa (HB4.o.trans (HB45.o.mono HB4.o.size));have HQ5:=Aa (HQ4.o.below HB45.o);have HX5:=Aa (HX4.o.below HB45.o);have HY5:=Aa (HY4.o.below HB45.o);have HZ4:=Aa HB4.o.size;have HZ5:=Aa HB45.o.size;clear hb5 ho5)
  | (refine Ap (.tmp 27) rfl rfl rfl HQ5.o ?_)
  | (go_at_call 109;refine (Fg W5 s.left main HM.o).mono ?_;rintro e W6 ⟨rfl,hb6⟩;have HB6:=Aa (HB5.o.trans (hb6.mono HB5.o.size));have HR6:=Aa (HR5.o.below hb6);have HQ6:=Aa (HQ5.o.below hb6);have HX6:=Aa (HX5.o.below hb6);have HY6:=Aa (HY5.o.below hb6);clear hb6)
  | (refine Au (.tmp 31) (.tmp 30) rfl rfl rfl rfl HR6.o ?_;intro W7 hb7 ho7;have HR7:=Aa hb7;have HX7:=Aa (HX6.o.only ho7 (Nat.ne_of_lt HX4.o.lt));have HQ7:=Aa (HQ6.o.only ho7 (Nat.ne_of_lt HQ4.o.lt));have HY7:=Aa (HY6.o.only ho7 (Nat.ne_of_lt HY4.o.lt));have d3:=HY7.o.cell (i:=3) rfl;have d2:=HY7.o.cell (i:=2) rfl;have c7:=HX7.o.cell (i:=3) rfl;have c6:=HX7.o.cell (i:=2) rfl;have HB7:=Aa (HB6.o.trans (ho7.below HZ4.o));clear hb7 ho7;simp only at c7 c6 d2 d3)
  | (go_at_call 112;refine (Qp W7 r2 (r:Int)).mono ?_;rintro e W8 ⟨p,q,rfl,hp,hq,cp,cq,hb8⟩;have HPB:=Aa hp;have HQB:=Aa hq;have HCP:=Aa cp;have HCQ:=Aa cq;have HB8:=Aa hb8;have HT8:=Aa (HT.o.below (Ac HB7.o hb8));have HCY:=Aa (Ao hb8 d2);clear hp hq cp cq hb8)
  | (go_at_call 111;refine (HI.o _ W8.heap.size (HT8.o.below (Ab _ _)) (fun hf=>by have:=HT8.o.in_ _ hf;omega) (bZ (Qw (Ao (Ab _ _) HCP.o) (Ao (Ab _ _) HCQ.o) (Uy HT.o.in_ HB7.o (Below.refl _ _) HPB.o) (Uy HT.o.in_ HB7.o (Below.refl _ _) HQB.o)) (nI (Ao (Ab _ _) HCY.o) (Uy HT.o.in_ HB3.o (Below.refl _ _) (Nat.le_refl _))))).mono ?_;rintro e W9 ⟨v9,F9,rfl,hk9,ht9,ho9⟩;have HKW:=Aa ((KeptF.of_below HT.o.in_ (Ac (Ac HB7.o HB8.o) (Ab _ _))).trans hk9);have HT9:=Aa ht9;have HO9:=Aa ho9;have HR9:=Aa (((HR7.o.below HB8.o).below (Ab _ _)).keptF hk9 (fun hf=>by have:=HT.o.in_ _ hf;have:=HB4.o.size;omega));clear hk9 ht9 ho9))
 go_ret2
 exact ⟨F9,rfl,HKW.o,HT9.o⟩
set_option maxRecDepth 100000 in
set_option maxHeartbeats 2000000 in
theorem xA (F:FP) (w:World) (t:Value) (rows:List ND) (hF:Cm F w t rows) (s:SQ) (main:Nat) (hm:main<rows.length) (kd:Int) (nm:ByteArray) (l r:Nat) (hx:rowAt rows main=⟨kd,nm,(l:Int),(r:Int)⟩) (hr:r<1024)
  (kd2:Int) (nm2:ByteArray) (l2 r2:Int) (hy:nodeAt rows (l:Int)=⟨kd2,nm2,l2,r2⟩) (rows1:List ND) (i j:Nat) (hj:j<1024) (hR:Gi [fun _=>(r2,(r:Int)),fun made=>(l2,made.headD 0)] rows []=⟨rows1,0,[(i:Int),(j:Int)]⟩) :
  Calls Tryz.prog 87 #[t,.agg (Ad s.left s.goal).toArray,.int .i64 6,.int .i64 (main:Int)] w (Uh F w t rows1 [⟨Aw (Be s.left main) j,s.goal⟩]):=by
 have HB0:=Aa (Ab w (.cells (Ad s.left s.goal).toArray 86))
 have HQ0:=Aa (Ae.new w (Ad s.left s.goal) 86)
 have HN1:=Aa (Dc 0 _ w t rows (hF.col 0) main hm _ hx)
 have HR:=Aa hr
 clear hr
 have HN2:Hid (∀ W,Below w.heap.size w W→Calls Tryz.prog 104 #[t,.int .i64 (l:Int)] W fun e w'=>e = .returned (.agg (ND.mk kd2 nm2 l2 r2).cells.toArray)∧Below W.heap.size W w'):=fun W hb=>hy▸Eb 0 _ W t rows ((hF.col 0).below hb) (l:Int)
 have HM:Hid (main<1024):=Nat.lt_of_lt_of_le hm hF.ok.le
 have HI:Hid (∀ W gb,Cm F W t rows→¬ F gb→(∀ j (h:j<([fun _=>(r2,(r:Int)),fun made=>(l2,made.headD 0)]:List Gn).length),∃ fv,W.cell? ⟨gb,j,none⟩=some fv∧Ld (fun W'=>∃ F',KeptF F W F' W') j fv ([fun _=>(r2,(r:Int)),fun made=>(l2,made.headD 0)]:List Gn)[j])→Calls Tryz.prog 111 #[t,.slice (some ⟨gb,0,none⟩) 2 2] W (Nh F W t ⟨rows1,0,[(i:Int),(j:Int)]⟩)):=fun W gb ht hg hf=>by
  have:=Ol F W t rows ht gb [fun _=>(r2,(r:Int)),fun made=>(l2,made.headD 0)] (by simp) hg hf
  rw [hR] at this
  exact this
 have HJJ:=Aa hj
 clear hj
 have HT:=Aa hF
 simp only at HN1
 clear hF hx hy hm hR
 go_enter Tryz.func87,Tryz.ntmps87
 go_wp2_with (first
  | (go_at_call 104;refine (HN1.o _ HB0.o).mono ?_;rintro e W1 ⟨rfl,hb1⟩;have HB1:=Aa (Ac HB0.o hb1);have HQ1:=Aa (HQ0.o.below hb1);clear hb1 HN1)
  | (refine Aj Ds (.tmp 10) (.tmp 21) rfl rfl rfl (ys:=(ND.mk kd nm (l:Int) (r:Int)).cells) rfl (Ae.new W1 Do.cells 31) rfl rfl (cells_one _) ?_;intro W2 hb2 ho2;have c2:=hb2.cell (i:=2) rfl;have HX2:=Aa hb2;have HB12:=Aa ((Ab W1 _).trans (ho2.below (Nat.le_refl _)));have HB2:=Aa (HB1.o.trans (HB12.o.mono HB1.o.size));have HQ2:=Aa (HQ1.o.below HB12.o);clear hb2 ho2;simp only at c2)
  | (go_at_call 104;refine (HN2.o _ HB2.o).mono ?_;rintro e W3 ⟨rfl,hb3⟩;have HB3:=Aa (Ac HB2.o hb3);have HQ3:=Aa (HQ2.o.below hb3);have HX3:=Aa (HX2.o.below hb3);clear hb3 c2)
  | (refine Aj Ds (.tmp 11) (.tmp 25) rfl rfl rfl (ys:=(ND.mk kd2 nm2 l2 r2).cells) rfl (Ae.new W3 Do.cells 31) rfl rfl (cells_one _) ?_;intro W4 hb4 ho4;have HY4:=Aa hb4;have HB34:=Aa ((Ab W3 _).trans (ho4.below (Nat.le_refl _)));have HB4:=Aa (HB3.o.trans (HB34.o.mono HB3.o.size));have HQ4:=Aa (HQ3.o.below HB34.o);have HX4:=Aa (HX3.o.below HB34.o);clear hb4 ho4)
  | (refine Ah (.tmp 5) rfl rfl rfl HQ4.o ?_)
  | (refine Ar (.tmp 12) (.tmp 26) rfl rfl rfl rfl (Ae.new W4 (Ad 0 0) 86) (Ai _ _) ?_;intro W5 hb5 ho5;have HR5:=Aa hb5;have HB45:=Aa ((Ab W4 _).trans (ho5.below (Nat.le_refl _)));have HB5:=Aa (HB4.o.trans (HB45.o.mono HB4.o.size));have HQ5:=Aa (HQ4.o.below HB45.o);have HX5:=Aa (HX4.o.below HB45.o);have HY5:=Aa (HY4.o.below HB45.o);have HZ4:=Aa HB4.o.size;have HZ5:=Aa HB45.o.size;clear hb5 ho5)
  | (refine Ap (.tmp 27) rfl rfl rfl HQ5.o ?_)
  | (go_at_call 109;refine (Fg W5 s.left main HM.o).mono ?_;rintro e W6 ⟨rfl,hb6⟩;have HB6:=Aa (HB5.o.trans (hb6.mono HB5.o.size));have HR6:=Aa (HR5.o.below hb6);have HQ6:=Aa (HQ5.o.below hb6);have HX6:=Aa (HX5.o.below hb6);have HY6:=Aa (HY5.o.below hb6);clear hb6)
  | (refine Au (.tmp 31) (.tmp 30) rfl rfl rfl rfl HR6.o ?_;intro W7 hb7 ho7;have HR7:=Aa hb7;have HX7:=Aa (HX6.o.only ho7 (Nat.ne_of_lt HX4.o.lt));have HQ7:=Aa (HQ6.o.only ho7 (Nat.ne_of_lt HQ4.o.lt));have HY7:=Aa (HY6.o.only ho7 (Nat.ne_of_lt HY4.o.lt));have d3:=HY7.o.cell (i:=3) rfl;have d2:=HY7.o.cell (i:=2) rfl;have c7:=HX7.o.cell (i:=3) rfl;have c6:=HX7.o.cell (i:=2) rfl;have HB7:=Aa (HB6.o.trans (ho7.below HZ4.o));clear hb7 ho7;simp only at c7 c6 d2 d3)
  | (go_at_call 112;refine (Qp W7 r2 (r:Int)).mono ?_;rintro e W8 ⟨p,q,rfl,hp,hq,cp,cq,hb8⟩;have HPB:=Aa hp;have HQB:=Aa hq;have HCP:=Aa cp;have HCQ:=Aa cq;have HB8:=Aa hb8;have HT8:=Aa (HT.o.below (Ac HB7.o hb8));have HCY:=Aa (Ao hb8 d2);clear hp hq cp cq hb8)
  | (go_at_call 111;refine (HI.o _ W8.heap.size (HT8.o.below (Ab _ _)) (fun hf=>by have:=HT8.o.in_ _ hf;omega) (bZ (Qw (Ao (Ab _ _) HCP.o) (Ao (Ab _ _) HCQ.o) (Uy HT.o.in_ HB7.o (Below.refl _ _) HPB.o) (Uy HT.o.in_ HB7.o (Below.refl _ _) HQB.o)) (nI (Ao (Ab _ _) HCY.o) (Uy HT.o.in_ HB3.o (Below.refl _ _) (Nat.le_refl _))))).mono ?_;rintro e W9 ⟨v9,F9,rfl,hk9,ht9,ho9⟩;have HKW:=Aa ((KeptF.of_below HT.o.in_ (Ac (Ac HB7.o HB8.o) (Ab _ _))).trans hk9);have HT9:=Aa ht9;have HO9:=Aa ho9;have HR9:=Aa (((HR7.o.below HB8.o).below (Ab _ _)).keptF hk9 (fun hf=>by have:=HT.o.in_ _ hf;have:=HB4.o.size;omega));obtain ⟨g,c,rfl,hg,hcg⟩:=(ho9 rfl).form (by simp);have HCG2:=Aa (hcg 1 _ rfl);clear hk9 ht9 ho9 hg hcg))
 have HK:Hid (∀ W',Below W9.heap.size W9 W'→Aft W9 W'):=fun W' hb=>hb
 have hld:∀ W',Aft W9 W'→Bf 86 W' (.pointer (some ⟨W4.heap.size,0,none⟩)):=fun W' hb=>(An (HR9.o.below hb).loads).1
 have hlv:∀ W',Aft W9 W'→Dq 86 W' (.pointer (some ⟨W4.heap.size,0,none⟩))=_:=fun W' hb=>(An (HR9.o.below hb).loads).2
 have hcl0:∀ W',Aft W9 W'→W'.cell? ⟨g,1,none⟩=some (.int .i64 (j:Int)):=fun W' hb=>Ao hb HCG2.o
 have HD:=Aa (below_drewN W9 1)
 have HW1:Hid (∀ (W:World) (g:Nat),W.cell? ⟨g,0,none⟩=some (.int .i64 (j:Int))→Calls Tryz.prog 110 #[.agg (Ad (Be s.left main) s.goal).toArray,.slice (some ⟨g,0,none⟩) 1 1] W fun e w'=>e = .returned (.agg (Ad (Aw (Be s.left main) j) s.goal).toArray)∧Below W.heap.size W w'):=fun W g hj=>by
  have:=Jg W (Be s.left main) s.goal g 0 1 [j] (by simp) (by simpa using HJJ.o) (Zd hj)
  rw [Hy] at this
  exact this
 clear c6 c7 d2 d3
 go_region_held3 (fun W'=>Aft W9 W')
  (((refine HK.o _ ?_;repeat (with_reducible first | exact HB10.o | exact Below.refl _ _ | exact HD.o | refine Ac ?_ (Ab _ _) | refine Ac ?_ (Db _)))))
  ((go_at_call 110;refine (HW1.o _ _ (by repeat (first | (with_reducible refine Um ?_) | ((with_reducible refine cell_new1 ?_);first | rfl | (simp;done)) | (with_reducible refine Ao (Ab _ _) ?_)))).mono ?_;clear HW1;rintro e W10 ⟨rfl,hb10⟩;have HB10:Hid (Below W9.heap.size W9 W10):=Ac (by repeat (with_reducible first | exact Below.refl _ _ | exact HD.o | refine Ac ?_ (Ab _ _) | refine Ac ?_ (Db _))) hb10;have hsl:=Ai (Aw (Be s.left main) j) s.goal;clear hb10))
 go_wp2_with fail
 rw [Fh]
 refine bodyPost_ret (v:=.tuple #[.slice (some ⟨W10.heap.size,0,none⟩) 1 1,.int .i64 0]) (by simp [results,Tryz.results87,go_sem]) rfl ?_
 exact Zf HKW.o HT9.o HB10.o rfl (by simp)
end Go.Dk
end
section
namespace Go.Dk
def IsC (rows:List ND) (s:SQ) (c:Int × Nat):Prop:=
 ((c.1=11∨c.1=12)∧c.2=s.goal∧(rowAt rows s.goal).kind=4)∨(c.1=13∧s.left.testBit c.2=true∧onP rows s c.2=13)
theorem Zz {rows:List ND} {s:SQ} {c:Int × Nat} (h:c ∈ Bj rows s):IsC rows s c:=by
 unfold Bj at h
 rcases List.mem_append.1 h with h | h
 ·by_cases h4:(rowAt rows s.goal).kind=4
  ·rw [if_pos h4] at h
   simp only [List.mem_cons,List.not_mem_nil,or_false] at h
   rcases h with rfl | rfl
   ·exact .inl ⟨.inl rfl,rfl,h4⟩
   ·exact .inl ⟨.inr rfl,rfl,h4⟩
  ·rw [if_neg h4] at h;cases h
 ·obtain ⟨i,hi,rfl⟩:=List.mem_map.1 h
  have h2:=(List.mem_filter.1 hi).2
  simp only [Bool.and_eq_true,beq_iff_eq] at h2
  exact .inr ⟨rfl,h2.1,h2.2⟩
def Ud (rows:List ND) (s:SQ) (c:Int × Nat):Prop:=
 (c.1=11→Fj (gam rows s.left) (Av rows (rowAt rows s.goal).l.toNat))∧(c.1=12→Fj (gam rows s.left) (Av rows (rowAt rows s.goal).r.toNat)) ∧
  (c.1=13→∀ C D B,Av rows c.2 = .imp (.imp C D) B→Fj (wi (wo (gam rows s.left) (.imp (.imp C D) B)) (.imp D B)) (.imp C D))
theorem wN {rows rows':List ND} (ok:Ok rows) {s:SQ} {i:Nat} (hi:i<rows.length) (hp:rows <+: rows'):onP rows' s i=onP rows s i:=by
 unfold onP
 simp only
 rw [Jd hp hi]
 by_cases h5:(rowAt rows i).kind=5
 ·have:=ok.parts (Am hi) (by omega)
  rw [Jd hp (by omega)]
 ·simp only [h5,if_false]
theorem IsC.ext {rows rows':List ND} (ok:Ok rows) {s:SQ} (wf:Wf rows s) {c:Int × Nat} (h:IsC rows s c) (hp:rows <+: rows'):IsC rows' s c:=by
 rcases h with ⟨a,b,k⟩ | ⟨a,b,k⟩
 ·exact .inl ⟨a,b,by rw [Jd hp wf.goal];exact k⟩
 ·exact .inr ⟨a,b,by rw [wN ok (wf.left _ b) hp];exact k⟩
theorem Yl {rows:List ND} (ok:Ok rows) {g:Nat} (hg:g<rows.length) (h4:(rowAt rows g).kind=4):∃ l r:Nat,l<g∧r<g∧rowAt rows g=⟨4,ByteArray.empty,l,r⟩∧Av rows g = .or (Av rows l) (Av rows r):=by
 rcases Gh ok (Am hg) with ⟨a,e,_⟩ | ⟨e,_⟩ | ⟨x,y,hx,hy,ht⟩
 ·rw [e] at h4;simp at h4
 ·rw [e] at h4;simp at h4
 ·rcases ht with ⟨e,ht⟩ | ⟨e,ht⟩ | ⟨e,ht⟩
  ·rw [e] at h4;simp at h4
  ·exact ⟨x,y,hx,hy,e,ht⟩
  ·rw [e] at h4;simp at h4
theorem Ud.back {rows rows':List ND} (ok:Ok rows) {s:SQ} (wf:Wf rows s) {c:Int × Nat} (hc:IsC rows s c) (hp:rows <+: rows') (h:Ud rows' s c):Ud rows s c:=by
 have hg:=Lm wf.left hp
 unfold Ud at *
 rw [hg,Jd hp wf.goal] at h
 rcases hc with ⟨h1,h2,h4⟩ | ⟨h1,h2,h3⟩
 ·obtain ⟨l,r,hl,hr,e,_⟩:=Yl ok wf.goal h4
  have hgl:=wf.goal
  rw [e] at h ⊢
  simp only [Int.toNat_natCast] at h ⊢
  rw [Br hp (by omega),Br hp (by omega)] at h
  exact ⟨h.1,h.2.1,fun h13=>by omega⟩
 ·have hl:=wf.left _ h2
  rw [Br hp hl] at h
  exact ⟨fun e=>by omega,fun e=>by omega,h.2.2⟩
theorem Rm {rows:List ND} (ok:Ok rows) {s:SQ} (wf:Wf rows s) {c:Int × Nat} (hc:IsC rows s c) (he:(Af rows s c.1 c.2).err=0) :
  Ok (Af rows s c.1 c.2).rows∧rows <+: (Af rows s c.1 c.2).rows ∧
  ((∃ q,(Af rows s c.1 c.2).seqs = [q]∧Wf (Af rows s c.1 c.2).rows q∧(Gj (Af rows s c.1 c.2).rows q→Gj rows s)∧(Fb (Af rows s c.1 c.2).rows q→Ud rows s c)) ∨
   (∃ q q2,(Af rows s c.1 c.2).seqs = [q,q2]∧Wf (Af rows s c.1 c.2).rows q∧Wf (Af rows s c.1 c.2).rows q2∧(Gj (Af rows s c.1 c.2).rows q→Gj (Af rows s c.1 c.2).rows q2→Gj rows s) ∧
     (Fb (Af rows s c.1 c.2).rows q→Ud rows s c)∧(Fb (Af rows s c.1 c.2).rows q2→Fb rows s))):=by
 obtain ⟨k,m⟩:=c
 rcases hc with ⟨h1,h2,h4⟩ | ⟨h1,h2,h3⟩
 ·simp only at h1 h2 he ⊢
  subst h2
  obtain ⟨l,r,hl,hr,e,ht⟩:=Yl ok wf.goal h4
  have hgl:=wf.goal
  have hR:=sQ (Γ:=gam rows s.left) (a:=Av rows l) (b:=Av rows r)
  rw [← ht] at hR
  rcases h1 with rfl | rfl
  · have hP:Af rows s 11 s.goal=⟨rows,0,[⟨s.left,l⟩]⟩:=by simp [Af,e]
    rw [hP]
    exact ⟨ok,List.prefix_refl _,.inl ⟨_,rfl,⟨wf.left,by show l<rows.length;omega⟩,hR.1,fun h=>⟨fun _=>(by rw [e];simp only [Int.toNat_natCast];exact h),fun h=>(by simp at h),fun h=>(by simp at h)⟩⟩⟩
  · have hP:Af rows s 12 s.goal=⟨rows,0,[⟨s.left,r⟩]⟩:=by simp [Af,e]
    rw [hP]
    exact ⟨ok,List.prefix_refl _,.inl ⟨_,rfl,⟨wf.left,by show r<rows.length;omega⟩,hR.2,fun h=>⟨fun h=>(by simp at h),fun _=>(by rw [e];simp only [Int.toNat_natCast];exact h),fun h=>(by simp at h)⟩⟩⟩
 ·simp only at h1 h2 h3 he ⊢
  subst h1
  have hm:=wf.left m h2
  have dl:∀ i,(Be s.left m).testBit i=true→i<rows.length:=mH wf.left
  rcases Qq ok hm h3 (by decide) with ⟨h,_⟩ | ⟨_,_,_,_,_,h,_⟩ | ⟨_,_,_,_,_,h,_⟩ | ⟨l,r,hl,hr,hn,ht,hcc⟩
  · cases h
  · cases h
  · cases h
  · rcases hcc with ⟨h,_⟩ | ⟨h,_⟩ | ⟨x,y,hx,hy,⟨h,_⟩ | ⟨h,_⟩ | ⟨_,hnl,htl⟩⟩
    ·cases h
    ·cases h
    ·cases h
    ·cases h
    ·have hP:Af rows s 13 m=Jn rows rows (y:Int) (r:Int) fun rows1 f=>⟨rows1,0,[⟨Aw (Be s.left m) f,l⟩,⟨Aw (Be s.left m) r,s.goal⟩]⟩:=by
      simp [Af,hn,hnl]
     rw [hP] at he ⊢
     obtain ⟨rows1,f,e1,o1,p1,f1,t1⟩:=Uk ok (a:=y) (b:=r) (by omega) (by omega) he
     rw [e1]
     have hg:gam rows s.left (.imp (.imp (Av rows x) (Av rows y)) (Av rows r)):=⟨m,h2,by rw [ht,htl]⟩
     have hd:=iP ok wf.left hm
     rw [ht,htl] at hd
     have hR:=fV (g:=Av rows s.goal) hg
     have hl1:l<rows1.length:=Nat.lt_of_lt_of_le (by omega) (Bh p1)
     have hr1:r<rows1.length:=Nat.lt_of_lt_of_le (by omega) (Bh p1)
     have dl1:∀ i,(Be s.left m).testBit i=true→i<rows1.length:=fun i hi=>Nat.lt_of_lt_of_le (dl i hi) (Bh p1)
     have g1:gam rows1 (Aw (Be s.left m) f)=wi (wo (gam rows s.left) (.imp (.imp (Av rows x) (Av rows y)) (Av rows r))) (.imp (Av rows y) (Av rows r)):=by
      rw [Hu,Lm dl p1,hd,t1]
     have g2:gam rows1 (Aw (Be s.left m) r)=wi (wo (gam rows s.left) (.imp (.imp (Av rows x) (Av rows y)) (Av rows r))) (Av rows r):=by
      rw [Hu,Lm dl p1,hd,Br p1 (by omega)]
     have t3:Av rows1 l = .imp (Av rows x) (Av rows y):=by rw [Br p1 (by omega),htl]
     have t4:Av rows1 s.goal=Av rows s.goal:=Br p1 wf.goal
     refine ⟨o1,p1,.inr ⟨_,_,rfl,⟨Je dl1 f1,hl1⟩,⟨Je dl1 hr1,Nat.lt_of_lt_of_le wf.goal (Bh p1)⟩,fun a b=>?_,fun a=>?_,fun b=>?_⟩⟩
     ·unfold Gj at a b ⊢
      simp only at a b
      rw [g1,t3] at a
      rw [g2,t4] at b
      exact hR.1 a b
     ·unfold Fb at a
      simp only at a
      rw [g1,t3] at a
      refine ⟨fun h=>by simp at h,fun h=>by simp at h,fun _ C D B hB=>?_⟩
      simp only at hB
      rw [ht,htl] at hB
      cases hB
      exact a
     ·unfold Fb at b ⊢
      simp only at b
      rw [g2,t4] at b
      exact hR.2 b
theorem bN {rows:List ND} (ok:Ok rows) {s:SQ} (wf:Wf rows s) (h14:(Ak rows s).1=14) (hf:∀ c ∈ Bj rows s,Ud rows s c):Fb rows s:=by
 refine aH (iZ ok wf h14) (fun a b hab=>?_) (fun c d b hcd=>?_)
 ·have h4:(rowAt rows s.goal).kind=4:=by
   rw [← Vt ok (Am wf.goal),hab];rfl
  obtain ⟨l,r,hl,hr,e,ht⟩:=Yl ok wf.goal h4
  rw [hab] at ht
  cases ht
  have m1:((11,s.goal):Int × Nat) ∈ Bj rows s:=by unfold Bj;rw [if_pos h4];simp
  have m2:((12,s.goal):Int × Nat) ∈ Bj rows s:=by unfold Bj;rw [if_pos h4];simp
  have f1:=(hf _ m1).1 rfl
  have f2:=(hf _ m2).2.1 rfl
  rw [e] at f1 f2
  exact ⟨by simpa using f1,by simpa using f2⟩
 ·obtain ⟨i,hi,ht⟩:=hcd
  have hil:=wf.left i hi
  have hon:onP rows s i=13:=by
   rcases Gh ok (Am hil) with ⟨a,e,h,_⟩ | ⟨e,h⟩ | ⟨x,y,hx,hy,h⟩
   ·rw [h] at ht;cases ht
   ·rw [h] at ht;cases ht
   ·rcases h with ⟨e,h⟩ | ⟨e,h⟩ | ⟨e,h⟩
    ·rw [h] at ht;cases ht
    ·rw [h] at ht;cases ht
    ·rw [h] at ht
     injection ht with hx2 hb2
     rcases Gh ok (Am (rows:=rows) (i:=x) (by omega)) with ⟨a,e2,h2,_⟩ | ⟨e2,h2⟩ | ⟨u,v,hu,hv,h2⟩
     ·rw [h2] at hx2;cases hx2
     ·rw [h2] at hx2;cases hx2
     ·rcases h2 with ⟨e2,h2⟩ | ⟨e2,h2⟩ | ⟨e2,h2⟩
      ·rw [h2] at hx2;cases hx2
      ·rw [h2] at hx2;cases hx2
      ·simp [onP,e,e2]
  have hmem:((13,i):Int × Nat) ∈ Bj rows s:=by
   unfold Bj
   refine List.mem_append.2 (.inr (List.mem_map.2 ⟨i,List.mem_filter.2 ⟨List.mem_range.2 hil,by simp [hi,hon]⟩,rfl⟩))
  exact (hf _ hmem).2.2 rfl c d b ht
structure InvS (st:SR):Prop where
 ok:Ok st.rows
 steps:∀ x ∈ st.steps,Wf st.rows x.seq∧(x.proved=true→Gj st.rows x.seq)∧(x.proved=false→Fb st.rows x.seq)
structure GoodA (st:SR) (s:SQ) (r:SA):Prop where
 inv:InvS r.st
 pre:st.rows <+: r.st.rows
 ans:∃ x,r.st.steps[r.at_]? = some x∧x.seq=s
theorem InvS.ext {st:SR} (h:InvS st) {rows':List ND} (ok:Ok rows') (hp:st.rows <+: rows') (l:Nat):InvS ⟨rows',st.steps,l⟩:=
 ⟨ok,fun x hx=>by
  obtain ⟨a,b,c⟩:=h.steps x hx
  exact ⟨a.ext hp,fun h=>(Ia a hp).2 (b h),fun h=>(If a hp).2 (c h)⟩⟩
theorem GoodA.from {st st':SR} {s:SQ} {r:SA} (h:GoodA st' s r) (hp:st.rows <+: st'.rows):GoodA st s r:=⟨h.inv,hp.trans h.pre,h.ans⟩
theorem Rj {st:SR} (h:InvS st) {x:SS} (wf:Wf st.rows x.seq) (hv:x.proved=true→Gj st.rows x.seq) (hr:x.proved=false→Fb st.rows x.seq):GoodA st x.seq (Ho st x):=by
 refine ⟨⟨h.ok,fun y hy=>?_⟩,List.prefix_refl _,x,by simp [Ho],rfl⟩
 rcases List.mem_append.1 hy with hy | hy
 ·exact h.steps y hy
 ·obtain rfl:y=x:=by simpa using hy
  exact ⟨wf,hv,hr⟩
theorem GoodA.told {st:SR} {s:SQ} {r:SA} (h:GoodA st s r):(Ax r.st r.at_=true→Gj r.st.rows s)∧(Ax r.st r.at_=false→Fb r.st.rows s):=by
 obtain ⟨x,hx,rfl⟩:=h.ans
 have:=h.inv.steps x (List.mem_of_getElem? hx)
 unfold Ax
 rw [hx]
 exact ⟨this.2.1,this.2.2⟩
section
variable {dec:SR→SQ→SA} (ih:∀ st s,InvS st→Wf st.rows s→(dec st s).err=0→GoodA st s (dec st s))
include ih
theorem mT (s:SQ) (k:Int) (main:Nat):∀ (todo:List SQ) (st:SR) (kids:List Nat),InvS st→Wf st.rows s→(∀ p ∈ todo,Wf st.rows p)→((∀ p ∈ todo,Gj st.rows p)→Gj st.rows s)→(∀ p ∈ todo,Fb st.rows p→Fb st.rows s) →
  (Em dec s k main todo st kids).err=0→GoodA st s (Em dec s k main todo st kids):=by
 intro todo
 induction todo with
 | nil=>
  intro st kids hi wf _ hv _ _
  rw [Em]
  exact Rj (x:=⟨s,true,k,main,kids⟩) hi wf (fun _=>hv (fun p hp=>by cases hp)) (fun h=>by cases h)
 | cons p t ih2=>
  intro st kids hi wf hwf hv hr he
  rw [Em] at he ⊢
  try simp only at he ⊢
  by_cases hz:(dec st p).err=0
  ·rw [if_neg (by simpa using hz)] at he ⊢
   have hg:=ih st p hi (hwf p (by simp)) hz
   generalize dec st p=r at *
   have hp:=hwf p (by simp)
   cases hpv:Ax r.st r.at_ with
   | true=>
    rw [hpv] at he
    simp only [if_true] at he ⊢
    have hvp:=(Ia hp hg.pre).1 (hg.told.1 hpv)
    refine (ih2 r.st _ hg.inv (wf.ext hg.pre) (fun q hq=>(hwf q (by simp [hq])).ext hg.pre) (fun h=>?_) (fun q hq h=>?_) he).from hg.pre
    ·refine (Ia wf hg.pre).2 (hv fun q hq=>?_)
     rcases List.mem_cons.1 hq with rfl | hq
     ·exact hvp
     ·exact (Ia (hwf q (by simp [hq])) hg.pre).1 (h q hq)
    ·exact (If wf hg.pre).2 (hr q (by simp [hq]) ((If (hwf q (by simp [hq])) hg.pre).1 h))
   | false=>
    simp only [Bool.false_eq_true,if_false]
    have hrp:=(If hp hg.pre).1 (hg.told.2 hpv)
    exact (Rj (x:=⟨s,false,k,main,[r.at_]⟩) hg.inv (wf.ext hg.pre) (fun h=>by cases h) (fun _=>(If wf hg.pre).2 (hr p (by simp) hrp))).from hg.pre
  ·rw [if_pos hz] at he
   exact absurd he hz
theorem bJ (s:SQ):∀ (todo:List (Int × Nat)) (st:SR) (stuck:List Nat),InvS st→Wf st.rows s→(∀ c ∈ todo,IsC st.rows s c)→((∀ c ∈ todo,Ud st.rows s c)→Fb st.rows s) →
  (Bq dec s todo st stuck).err=0→GoodA st s (Bq dec s todo st stuck):=by
 intro todo
 induction todo with
 | nil=>
  intro st stuck hi wf _ hs _
  rw [Bq]
  exact Rj (x:=⟨s,false,14,0,stuck⟩) hi wf (fun h=>by cases h) (fun _=>hs (fun c hc=>by cases hc))
 | cons c t ih2=>
  intro st stuck hi wf hc hs he
  rw [Bq] at he ⊢
  by_cases hz:(Af st.rows s c.1 c.2).err=0
  ·rw [if_neg (by simpa using hz)] at he ⊢
   obtain ⟨o1,p1,hq⟩:=Rm hi.ok wf (hc c (by simp)) hz
   generalize Af st.rows s c.1 c.2=p at *
   have hi1:=hi.ext o1 p1 st.left
   have next:∀ (r:SA) (q:SQ),Wf p.rows q→GoodA ⟨p.rows,st.steps,st.left⟩ q r→Ax r.st r.at_=false→(Fb p.rows q→Ud st.rows s c) →
     (Bq dec s t r.st (stuck++[r.at_])).err=0→GoodA st s (Bq dec s t r.st (stuck++[r.at_])):=by
    intro r q wq hg hpv hf he
    have hp2:st.rows <+: r.st.rows:=p1.trans hg.pre
    have hfc:=hf ((If wq hg.pre).1 (hg.told.2 hpv))
    refine (ih2 r.st _ hg.inv (wf.ext hp2) (fun d hd=>(hc d (by simp [hd])).ext hi.ok wf hp2) (fun h=>?_) he).from hp2
    refine (If wf hp2).2 (hs fun d hd=>?_)
    rcases List.mem_cons.1 hd with rfl | hd
    ·exact hfc
    ·exact (h d hd).back hi.ok wf (hc d (by simp [hd])) hp2
   rcases hq with ⟨q,hq,wq,hv,hf⟩ | ⟨q,q2,hq,wq,wq2,hv,hf,hr2⟩
   ·rw [hq] at he ⊢
    simp only at he ⊢
    by_cases hz1:(dec ⟨p.rows,st.steps,st.left⟩ q).err=0
    ·rw [if_neg (by simpa using hz1)] at he ⊢
     have hg:=ih _ q hi1 wq hz1
     generalize dec ⟨p.rows,st.steps,st.left⟩ q=r at *
     cases hpv:Ax r.st r.at_ with
     | true=>
      simp only [if_true]
      have hvp:=(Ia wq hg.pre).1 (hg.told.1 hpv)
      exact (Rj (x:=⟨s,true,c.1,c.2,[r.at_]⟩) hg.inv (wf.ext (p1.trans hg.pre)) (fun _=>(Ia wf (p1.trans hg.pre)).2 (hv hvp)) (fun h=>by cases h)).from (p1.trans hg.pre)
     | false=>
      rw [hpv] at he
      simp only [Bool.false_eq_true,if_false] at he ⊢
      exact next r q wq hg hpv hf he
    ·rw [if_pos hz1] at he
     exact absurd he hz1
   ·rw [hq] at he ⊢
    simp only at he ⊢
    by_cases hz1:(dec ⟨p.rows,st.steps,st.left⟩ q).err=0
    ·rw [if_neg (by simpa using hz1)] at he ⊢
     have hg:=ih _ q hi1 wq hz1
     generalize dec ⟨p.rows,st.steps,st.left⟩ q=r at *
     cases hpv:Ax r.st r.at_ with
     | true=>
      rw [hpv] at he
      simp only [if_true] at he ⊢
      have hvp:=(Ia wq hg.pre).1 (hg.told.1 hpv)
      by_cases hz2:(dec r.st q2).err=0
      ·rw [if_neg (by simpa using hz2)] at he ⊢
       have hg2:=ih r.st q2 hg.inv (wq2.ext hg.pre) hz2
       generalize dec r.st q2=r2 at *
       have hp3:st.rows <+: r2.st.rows:=(p1.trans hg.pre).trans hg2.pre
       have hp4:p.rows <+: r2.st.rows:=hg.pre.trans hg2.pre
       cases hpv2:Ax r2.st r2.at_ with
       | true=>
        simp only [if_true]
        have hvp2:=(Ia wq2 hp4).1 (hg2.told.1 hpv2)
        exact (Rj (x:=⟨s,true,c.1,c.2,[r.at_,r2.at_]⟩) hg2.inv (wf.ext hp3) (fun _=>(Ia wf hp3).2 (hv hvp hvp2)) (fun h=>by cases h)).from hp3
       | false=>
        simp only [Bool.false_eq_true,if_false]
        have hrp2:=(If wq2 hp4).1 (hg2.told.2 hpv2)
        exact (Rj (x:=⟨s,false,c.1,c.2,[r2.at_]⟩) hg2.inv (wf.ext hp3) (fun h=>by cases h) (fun _=>(If wf hp3).2 (hr2 hrp2))).from hp3
      ·rw [if_pos hz2] at he
       exact absurd he hz2
     | false=>
      rw [hpv] at he
      simp only [Bool.false_eq_true,if_false] at he ⊢
      exact next r q wq hg hpv hf he
    ·rw [if_pos hz1] at he
     exact absurd he hz1
  ·rw [if_pos hz] at he
   exact absurd he hz
end
theorem Tv {st:SR} {s:SQ} {i:Nat} (h:Gy st s=some i):∃ x,st.steps[i]? = some x∧x.seq=s:=by
 unfold Gy at h
 rw [List.findIdx?_eq_some_iff_getElem] at h
 obtain ⟨hi,hx,_⟩:=h
 exact ⟨_,List.getElem?_eq_getElem hi,by simpa using hx⟩
theorem Ot:∀ (fuel:Nat) (st:SR) (s:SQ),InvS st→Wf st.rows s→(Bw fuel st s).err=0→GoodA st s (Bw fuel st s):=by
 intro fuel
 induction fuel with
 | zero=>
  intro st s hi wf he
  rw [Bw] at he ⊢
  cases hf:Gy st s with
  | some i=>
   rw [hf] at he
   simp only at he ⊢
   obtain ⟨x,hx,e⟩:=Tv hf
   exact ⟨hi,List.prefix_refl _,x,hx,e⟩
  | none=>rw [hf] at he;cases he
 | succ fuel ih=>
  intro st s hi wf he
  rw [Bw] at he ⊢
  cases hf:Gy st s with
  | some i=>
   rw [hf] at he
   simp only at he ⊢
   obtain ⟨x,hx,e⟩:=Tv hf
   exact ⟨hi,List.prefix_refl _,x,hx,e⟩
  | none=>
   rw [hf] at he
   simp only at he ⊢
   by_cases hl:st.left=0
   ·rw [if_pos hl] at he;cases he
   ·rw [if_neg hl] at he ⊢
    have hi1:InvS ⟨st.rows,st.steps,st.left - 1⟩:=hi.ext hi.ok (List.prefix_refl _) _
    by_cases h14:(Ak st.rows s).1=14
    ·rw [if_pos h14] at he ⊢
     exact (bJ ih s (Bj st.rows s) ⟨st.rows,st.steps,st.left - 1⟩ [] hi1 wf (fun c hc=>Zz hc) (bN hi.ok wf h14) he).from (List.prefix_refl _)
    ·rw [if_neg h14] at he ⊢
     by_cases hz:(Af st.rows s (Ak st.rows s).1 (Ak st.rows s).2).err=0
     ·rw [if_neg (by simpa using hz)] at he ⊢
      have hP:=Qk hi.ok wf h14 hz
      generalize Af st.rows s (Ak st.rows s).1 (Ak st.rows s).2=p at *
      have hi2:=hi1.ext hP.ok hP.pre (st.left - 1)
      exact (mT ih s _ _ p.seqs ⟨p.rows,st.steps,st.left - 1⟩ [] hi2 (wf.ext hP.pre) hP.inv.wf hP.inv.sound hP.inv.back he).from hP.pre
     ·rw [if_pos hz] at he
      exact absurd he hz
end Go.Dk
end
section
namespace Go.Dk
open Go.RowKit Go.Maps Go.MapKept
open Go.Proofs hiding intOf
set_option maxRecDepth 100000 in
set_option maxHeartbeats 2000000 in
theorem lH (k:Nat) (ow:Own) (w:World) (t:Value) (rows:List ND) (h:Tab k ow w t rows) (s:SQ) (main:Nat) (hm:main<rows.length) :
  Calls Tryz.prog 87 #[t,.agg (Ad s.left s.goal).toArray,.int .i64 1,.int .i64 (main:Int)] w fun e w'=>e = .returned (.tuple #[.slice none 0 0,.int .i64 0])∧Below w.heap.size w w':=by
 have HB0:=Aa (Ab w (.cells (Ad s.left s.goal).toArray 86))
 have HQ0:=Aa (Ae.new w (Ad s.left s.goal) 86)
 obtain ⟨x,hx⟩:∃ n,rowAt rows main=n:=⟨_,rfl⟩
 have HN1:=Aa (Dc k ow w t rows h main hm x hx)
 obtain ⟨kd,nm,l,r⟩:=x
 obtain ⟨y,hy⟩:∃ n,nodeAt rows l=n:=⟨_,rfl⟩
 have HN2:Hid (∀ W,Below w.heap.size w W→Calls Tryz.prog 104 #[t,.int .i64 l] W fun e w'=>e = .returned (.agg y.cells.toArray)∧Below W.heap.size W w'):=fun W hb=>hy▸Eb k ow W t rows (h.below hb) l
 obtain ⟨kd2,nm2,l2,r2⟩:=y
 have hmx:main<1024:=Nat.lt_of_lt_of_le hm h.ok.le
 have HM:=Aa hmx
 simp only at HN1
 clear h hx hy hmx hm
 go_enter Tryz.func87,Tryz.ntmps87
 go_wp2_with (first
  | (go_at_call 104;refine (HN1.o _ HB0.o).mono ?_;rintro e W1 ⟨rfl,hb1⟩;have HB1:=Aa (Ac HB0.o hb1);have HQ1:=Aa (HQ0.o.below hb1);clear hb1 HN1)
  | (refine Aj Ds (.tmp 10) (.tmp 21) rfl rfl rfl (ys:=(ND.mk kd nm l r).cells) rfl (Ae.new W1 Do.cells 31) rfl rfl (cells_one _) ?_;intro W2 hb2 ho2;have c2:=hb2.cell (i:=2) rfl;have HX2:=Aa hb2;have HB12:=Aa ((Ab W1 _).trans (ho2.below (Nat.le_refl _)));have HB2:=Aa (HB1.o.trans (HB12.o.mono HB1.o.size));have HQ2:=Aa (HQ1.o.below HB12.o);clear hb2 ho2;simp only at c2)
  | (go_at_call 104;refine (HN2.o _ HB2.o).mono ?_;rintro e W3 ⟨rfl,hb3⟩;have HB3:=Aa (Ac HB2.o hb3);have HQ3:=Aa (HQ2.o.below hb3);have HX3:=Aa (HX2.o.below hb3);clear hb3 c2)
  | (refine Aj Ds (.tmp 11) (.tmp 25) rfl rfl rfl (ys:=(ND.mk kd2 nm2 l2 r2).cells) rfl (Ae.new W3 Do.cells 31) rfl rfl (cells_one _) ?_;intro W4 hb4 ho4;have HY4:=Aa hb4;have HB34:=Aa ((Ab W3 _).trans (ho4.below (Nat.le_refl _)));have HB4:=Aa (HB3.o.trans (HB34.o.mono HB3.o.size));have HQ4:=Aa (HQ3.o.below HB34.o);have HX4:=Aa (HX3.o.below HB34.o);clear hb4 ho4)
  | (refine Ah (.tmp 5) rfl rfl rfl HQ4.o ?_)
  | (refine Ar (.tmp 12) (.tmp 26) rfl rfl rfl rfl (Ae.new W4 (Ad 0 0) 86) (Ai _ _) ?_;intro W5 hb5 ho5;have HR5:=Aa hb5;have HB45:=Aa ((Ab W4 _).trans (ho5.below (Nat.le_refl _)));have HB5:=Aa (HB4.o.trans (HB45.o.mono HB4.o.size));have HQ5:=Aa (HQ4.o.below HB45.o);have HX5:=Aa (HX4.o.below HB45.o);have HY5:=Aa (HY4.o.below HB45.o);have HZ4:=Aa HB4.o.size;have HZ5:=Aa HB45.o.size;clear hb5 ho5)
  | (refine Ap (.tmp 27) rfl rfl rfl HQ5.o ?_)
  | (go_at_call 109;refine (Fg W5 s.left main HM.o).mono ?_;rintro e W6 ⟨rfl,hb6⟩;have HB6:=Aa (HB5.o.trans (hb6.mono HB5.o.size));have HR6:=Aa (HR5.o.below hb6);have HX6:=Aa (HX5.o.below hb6);have HY6:=Aa (HY5.o.below hb6);clear hb6)
  | (refine Au (.tmp 31) (.tmp 30) rfl rfl rfl rfl HR6.o ?_;intro W7 hb7 ho7;have HR7:=Aa hb7;have HB7:=Aa (HB6.o.trans (ho7.below HZ4.o));clear hb7 ho7))
 go_ret2
 exact ⟨rfl,HB7.o⟩
set_option maxRecDepth 100000 in
set_option maxHeartbeats 2000000 in
theorem oD (k:Nat) (ow:Own) (w:World) (t:Value) (rows:List ND) (h:Tab k ow w t rows) (s:SQ) (main:Nat) (hm:main<rows.length) :
  Calls Tryz.prog 87 #[t,.agg (Ad s.left s.goal).toArray,.int .i64 2,.int .i64 (main:Int)] w fun e w'=>e = .returned (.tuple #[.slice none 0 0,.int .i64 0])∧Below w.heap.size w w':=by
 have HB0:=Aa (Ab w (.cells (Ad s.left s.goal).toArray 86))
 have HQ0:=Aa (Ae.new w (Ad s.left s.goal) 86)
 obtain ⟨x,hx⟩:∃ n,rowAt rows main=n:=⟨_,rfl⟩
 have HN1:=Aa (Dc k ow w t rows h main hm x hx)
 obtain ⟨kd,nm,l,r⟩:=x
 obtain ⟨y,hy⟩:∃ n,nodeAt rows l=n:=⟨_,rfl⟩
 have HN2:Hid (∀ W,Below w.heap.size w W→Calls Tryz.prog 104 #[t,.int .i64 l] W fun e w'=>e = .returned (.agg y.cells.toArray)∧Below W.heap.size W w'):=fun W hb=>hy▸Eb k ow W t rows (h.below hb) l
 obtain ⟨kd2,nm2,l2,r2⟩:=y
 have hmx:main<1024:=Nat.lt_of_lt_of_le hm h.ok.le
 have HM:=Aa hmx
 simp only at HN1
 clear h hx hy hmx hm
 go_enter Tryz.func87,Tryz.ntmps87
 go_wp2_with (first
  | (go_at_call 104;refine (HN1.o _ HB0.o).mono ?_;rintro e W1 ⟨rfl,hb1⟩;have HB1:=Aa (Ac HB0.o hb1);have HQ1:=Aa (HQ0.o.below hb1);clear hb1 HN1)
  | (refine Aj Ds (.tmp 10) (.tmp 21) rfl rfl rfl (ys:=(ND.mk kd nm l r).cells) rfl (Ae.new W1 Do.cells 31) rfl rfl (cells_one _) ?_;intro W2 hb2 ho2;have c2:=hb2.cell (i:=2) rfl;have HX2:=Aa hb2;have HB12:=Aa ((Ab W1 _).trans (ho2.below (Nat.le_refl _)));have HB2:=Aa (HB1.o.trans (HB12.o.mono HB1.o.size));have HQ2:=Aa (HQ1.o.below HB12.o);clear hb2 ho2;simp only at c2)
  | (go_at_call 104;refine (HN2.o _ HB2.o).mono ?_;rintro e W3 ⟨rfl,hb3⟩;have HB3:=Aa (Ac HB2.o hb3);have HQ3:=Aa (HQ2.o.below hb3);have HX3:=Aa (HX2.o.below hb3);clear hb3 c2)
  | (refine Aj Ds (.tmp 11) (.tmp 25) rfl rfl rfl (ys:=(ND.mk kd2 nm2 l2 r2).cells) rfl (Ae.new W3 Do.cells 31) rfl rfl (cells_one _) ?_;intro W4 hb4 ho4;have HY4:=Aa hb4;have HB34:=Aa ((Ab W3 _).trans (ho4.below (Nat.le_refl _)));have HB4:=Aa (HB3.o.trans (HB34.o.mono HB3.o.size));have HQ4:=Aa (HQ3.o.below HB34.o);have HX4:=Aa (HX3.o.below HB34.o);clear hb4 ho4)
  | (refine Ah (.tmp 5) rfl rfl rfl HQ4.o ?_)
  | (refine Ar (.tmp 12) (.tmp 26) rfl rfl rfl rfl (Ae.new W4 (Ad 0 0) 86) (Ai _ _) ?_;intro W5 hb5 ho5;have HR5:=Aa hb5;have HB45:=Aa ((Ab W4 _).trans (ho5.below (Nat.le_refl _)));have HB5:=Aa (HB4.o.trans (HB45.o.mono HB4.o.size));have HQ5:=Aa (HQ4.o.below HB45.o);have HX5:=Aa (HX4.o.below HB45.o);have HY5:=Aa (HY4.o.below HB45.o);have HZ4:=Aa HB4.o.size;have HZ5:=Aa HB45.o.size;clear hb5 ho5)
  | (refine Ap (.tmp 27) rfl rfl rfl HQ5.o ?_)
  | (go_at_call 109;refine (Fg W5 s.left main HM.o).mono ?_;rintro e W6 ⟨rfl,hb6⟩;have HB6:=Aa (HB5.o.trans (hb6.mono HB5.o.size));have HR6:=Aa (HR5.o.below hb6);have HX6:=Aa (HX5.o.below hb6);have HY6:=Aa (HY5.o.below hb6);clear hb6)
  | (refine Au (.tmp 31) (.tmp 30) rfl rfl rfl rfl HR6.o ?_;intro W7 hb7 ho7;have HR7:=Aa hb7;have HB7:=Aa (HB6.o.trans (ho7.below HZ4.o));clear hb7 ho7))
 go_ret2
 exact ⟨rfl,HB7.o⟩
theorem Iu {F:FP} {w:World} {t:Value} {rows:List ND} (h:Cm F w t rows) {l:List SQ} {n:Nat} {cs:List Value} (h0:l≠[]) (hn:l.length=n) (hc:(l.flatMap fun s=>Ad s.left s.goal)=cs) {e:Ending} {w':World}
  (hp:∃ b,e = .returned (.tuple #[.slice (some ⟨b,0,none⟩) n n,.int .i64 0])∧w.heap.size≤b∧Ae w' b cs 86∧Below w.heap.size w w'):Lj F w t rows ⟨rows,0,l⟩ e w':=by
 obtain ⟨b,rfl,hb,hx,hw⟩:=hp
 subst hn hc
 exact ⟨_,F,rfl,KeptF.of_below h.in_ hw,fun _=>⟨h.below hw,.inr ⟨b,h0,rfl,hb,fun hf=>by have:=h.in_ _ hf;omega,hx⟩⟩,fun h=>absurd rfl h⟩
theorem iN {F:FP} {w:World} {t:Value} {rows:List ND} (h:Cm F w t rows) {e:Ending} {w':World} (hp:e = .returned (.tuple #[.slice none 0 0,.int .i64 0])∧Below w.heap.size w w'):Lj F w t rows ⟨rows,0,[]⟩ e w':=
 ⟨_,F,hp.1,KeptF.of_below h.in_ hp.2,fun _=>⟨h.below hp.2,.inl ⟨rfl,rfl⟩⟩,fun h=>absurd rfl h⟩
theorem eF {F:FP} {w:World} {t:Value} {rows rows1:List ND} {l:List SQ} {e:Ending} {w':World} (hp:Uh F w t rows1 l e w'):Lj F w t rows ⟨rows1,0,l⟩ e w':=by
 obtain ⟨v,F',rfl,hk,ht,hs⟩:=hp
 exact ⟨v,F',rfl,hk,fun _=>⟨ht,hs⟩,fun h=>absurd rfl h⟩
theorem Vg {F:FP} {w:World} {t:Value} {rows rows1:List ND} {er:Int} (h0:er≠0) (hp1:rows <+: rows1) {e:Ending} {w':World} (hp:Xv F w t rows1 er e w'):Lj F w t rows ⟨rows,er,[]⟩ e w':=by
 obtain ⟨F',rfl,hk,ht⟩:=hp
 exact ⟨_,F',rfl,hk,fun h=>absurd h h0,fun _=>⟨rfl,rfl,rows1,hp1,ht⟩⟩
theorem Lj.eq {F:FP} {w:World} {t:Value} {rows:List ND} {p q:Prem} {e:Ending} {w':World} (h:Lj F w t rows p e w') (hq:q=p):Lj F w t rows q e w':=hq▸h
structure FitK (rows:List ND) (s:SQ) (k:Int) (main:Nat):Prop where
 lt:main<rows.length
 fit:Sz rows s k main=true
theorem Rl {rows:List ND} {s:SQ} {k:Int} {main:Nat} (h:FitK rows s k main) :
  (k=2∧main=s.goal)∨(k=8∧main=s.goal∧(rowAt rows main).kind=5)∨(k=9∧main=s.goal∧(rowAt rows main).kind=3)∨((k=11∨k=12)∧main=s.goal∧(rowAt rows main).kind=4)∨(k≠0∧s.left.testBit main=true∧onP rows s main=k):=by
 have hf:=h.fit
 unfold Sz at hf
 by_cases h2:k=2
 ·rw [if_pos h2] at hf
  simp at hf
  exact .inl ⟨h2,hf.1⟩
 ·rw [if_neg h2] at hf
  by_cases h8:k=8
  ·rw [if_pos h8] at hf
   simp at hf
   exact .inr (.inl ⟨h8,hf.1,hf.2⟩)
  ·rw [if_neg h8] at hf
   by_cases h9:k=9
   ·rw [if_pos h9] at hf
    simp at hf
    exact .inr (.inr (.inl ⟨h9,hf.1,hf.2⟩))
   ·rw [if_neg h9] at hf
    by_cases h11:k=11∨k=12
    ·rw [if_pos h11] at hf
     simp at hf
     exact .inr (.inr (.inr (.inl ⟨h11,hf.1,hf.2⟩)))
    ·rw [if_neg h11] at hf
     simp at hf
     exact .inr (.inr (.inr (.inr ⟨hf.1.1,hf.1.2,hf.2⟩)))
theorem Ri {rows:List ND} (ok:Ok rows) {i:Nat} (hi:i<rows.length) (hk:3≤(rowAt rows i).kind):∃ (kd:Int) (l r:Nat),l<i∧r<i∧rowAt rows i=⟨kd,ByteArray.empty,(l:Int),(r:Int)⟩:=by
 rcases Gh ok (Am hi) with ⟨a,e,_⟩ | ⟨e,_⟩ | ⟨l,r,hl,hr,h⟩
 ·rw [e] at hk;simp at hk
 ·rw [e] at hk;simp at hk
 ·rcases h with ⟨e,_⟩ | ⟨e,_⟩ | ⟨e,_⟩<;>exact ⟨_,l,r,hl,hr,e⟩
theorem Kr {rows:List ND} (ok:Ok rows) {a b:Nat} (ha:a<rows.length) (hb:b<rows.length) :
  ((put rows (Bo ((a:Int),(b:Int)))).err≠0)∨((put rows (Bo ((a:Int),(b:Int)))).err=0∧∃ i:Nat,(put rows (Bo ((a:Int),(b:Int)))).id=(i:Int)∧i<(put rows (Bo ((a:Int),(b:Int)))).rows.length∧Ok (put rows (Bo ((a:Int),(b:Int)))).rows):=by
 by_cases hz:(put rows (Bo ((a:Int),(b:Int)))).err=0
 ·obtain ⟨o1,o2,i,o3,o4,o5⟩:=Om (kd:=5) ok (.inr (.inr rfl)) ha hb hz
  exact .inr ⟨hz,i,o3,o4,o1⟩
 ·exact .inl hz
theorem Ii {rows0 rows:List ND} {a b:Int} {k:List ND→Nat→Prem} (h:(put rows (Bo (a,b))).err≠0):Jn rows0 rows a b k=⟨rows0,(put rows (Bo (a,b))).err,[]⟩:=by
 unfold Jn
 exact if_pos h
theorem Hq {rows0 rows:List ND} {a b:Int} {k:List ND→Nat→Prem} {i:Nat} (h:(put rows (Bo (a,b))).err=0) (hi:(put rows (Bo (a,b))).id=(i:Int)):Jn rows0 rows a b k=k (put rows (Bo (a,b))).rows i:=by
 unfold Jn
 have h1:¬ (put rows (rT a b)).err≠0:=fun hn=>hn h
 have h2:(put rows (rT a b)).id.toNat=i:=by
  have:(put rows (rT a b)).id=(i:Int):=hi
  rw [this];rfl
 simp only
 rw [if_neg h1,h2]
 rfl
theorem eD {rows:List ND} {f:Gn} (h:(put rows (Bo (f []))).err≠0):Gi [f] rows []=⟨(put rows (Bo (f []))).rows,(put rows (Bo (f []))).err,[]⟩:=by
 unfold Gi
 exact if_pos h
theorem Ta {rows:List ND} {f g:Gn} (h:(put rows (Bo (f []))).err≠0):Gi [f,g] rows []=⟨(put rows (Bo (f []))).rows,(put rows (Bo (f []))).err,[]⟩:=by
 unfold Gi
 exact if_pos h
theorem sZ {rows:List ND} {f:Gn} {i:Nat} (h:(put rows (Bo (f []))).err=0) (hi:(put rows (Bo (f []))).id=(i:Int)):Gi [f] rows []=⟨(put rows (Bo (f []))).rows,0,[(i:Int)]⟩:=by
 unfold Gi
 rw [if_neg (by simpa using h),hi]
 rfl
theorem Vf {rows:List ND} {f g:Gn} {i:Nat} (h:(put rows (Bo (f []))).err=0) (hi:(put rows (Bo (f []))).id=(i:Int)) (h2:(put (put rows (Bo (f []))).rows (Bo (g [(i:Int)]))).err≠0) :
  Gi [f,g] rows []=⟨(put (put rows (Bo (f []))).rows (Bo (g [(i:Int)]))).rows,(put (put rows (Bo (f []))).rows (Bo (g [(i:Int)]))).err,[]⟩:=by
 unfold Gi
 rw [if_neg (by simpa using h),hi]
 unfold Gi
 exact if_pos h2
theorem fM {rows:List ND} {f g:Gn} {i j:Nat} (h:(put rows (Bo (f []))).err=0) (hi:(put rows (Bo (f []))).id=(i:Int)) (h2:(put (put rows (Bo (f []))).rows (Bo (g [(i:Int)]))).err=0) (hj:(put (put rows (Bo (f []))).rows (Bo (g [(i:Int)]))).id=(j:Int)) :
  Gi [f,g] rows []=⟨(put (put rows (Bo (f []))).rows (Bo (g [(i:Int)]))).rows,0,[(i:Int),(j:Int)]⟩:=by
 unfold Gi
 rw [if_neg (by simpa using h),hi]
 unfold Gi
 simp only [List.nil_append]
 rw [if_neg (by simpa using h2),hj]
 rfl
theorem dA (F:FP) (w:World) (t:Value) (rows:List ND) (hF:Cm F w t rows) (s:SQ) (_wf:Wf rows s) (k:Int) (main:Nat) (h:FitK rows s k main) :
  Calls Tryz.prog 87 #[t,.agg (Ad s.left s.goal).toArray,.int .i64 k,.int .i64 (main:Int)] w (Lj F w t rows (Af rows s k main)):=by
 have ok:=hF.ok
 have hle:=ok.le
 have hm:=h.lt
 have ht:=hF.col 0
 rcases Rl h with ⟨rfl,rfl⟩ | ⟨rfl,rfl,h5⟩ | ⟨rfl,rfl,h3⟩ | ⟨hk,rfl,h4⟩ | ⟨h0,hb,hon⟩
 ·exact (oD 0 _ w t rows ht s _ hm).mono fun e w' hp=>(iN hF hp).eq (by simp [Af])
 ·obtain ⟨kd,l,r,hl,hr,e⟩:=Ri ok hm (by omega)
  exact (oS 0 _ w t rows ht s _ hm kd _ l r e (by omega) (by omega)).mono fun _ w' hp=>(Iu hF (l:=[⟨Aw s.left l,r⟩]) (by simp) rfl (by simp) hp).eq (by simp [Af,e])
 ·obtain ⟨kd,l,r,hl,hr,e⟩:=Ri ok hm (by omega)
  exact (qK 0 _ w t rows ht s _ hm kd _ l r e (by omega) (by omega)).mono fun _ w' hp=>(Iu hF (l:=[⟨s.left,l⟩,⟨s.left,r⟩]) (by simp) rfl (by simp) hp).eq (by simp [Af,e])
 ·obtain ⟨kd,l,r,hl,hr,e⟩:=Ri ok hm (by omega)
  rcases hk with rfl | rfl
  ·exact (lO 0 _ w t rows ht s _ hm kd _ l r e (by omega) (by omega)).mono fun _ w' hp=>(Iu hF (l:=[⟨s.left,l⟩]) (by simp) rfl (by simp) hp).eq (by simp [Af,e])
  ·exact (kE 0 _ w t rows ht s _ hm kd _ l r e (by omega) (by omega)).mono fun _ w' hp=>(Iu hF (l:=[⟨s.left,r⟩]) (by simp) rfl (by simp) hp).eq (by simp [Af,e])
 ·rcases Qq ok hm hon h0 with ⟨rfl,_⟩ | ⟨l,r,hl,hr,e,rfl,_⟩ | ⟨l,r,hl,hr,e,rfl,_⟩ | ⟨l,r,hl,hr,e,_,hc⟩
  ·exact (lH 0 _ w t rows ht s _ hm).mono fun e w' hp=>(iN hF hp).eq (by simp [Af])
  ·exact (pD 0 _ w t rows ht s _ hm _ _ l r e (by omega) (by omega)).mono fun _ w' hp=>(Iu hF (l:=[⟨Aw (Aw (Be s.left main) l) r,s.goal⟩]) (by simp) rfl (by simp) hp).eq (by simp [Af,e])
  ·exact (lL 0 _ w t rows ht s _ hm _ _ l r e (by omega) (by omega)).mono fun _ w' hp=>(Iu hF (l:=[⟨Aw (Be s.left main) l,s.goal⟩,⟨Aw (Be s.left main) r,s.goal⟩]) (by simp) rfl (by simp) hp).eq (by simp [Af,e])
  ·have hll:l<rows.length:=by omega
   rcases hc with ⟨rfl,_⟩ | ⟨rfl,_⟩ | ⟨x,y,hx,hy,⟨rfl,e2,_⟩ | ⟨rfl,e2,_⟩ | ⟨rfl,e2,_⟩⟩
   ·exact (oZ 0 _ w t rows ht s _ hm _ _ l r e (by omega)).mono fun _ w' hp=>(Iu hF (l:=[⟨Aw (Be s.left main) r,s.goal⟩]) (by simp) rfl (by simp) hp).eq (by simp [Af,e])
   ·exact (nU 0 _ w t rows ht s _ hm).mono fun _ w' hp=>(Iu hF (l:=[⟨Be s.left main,s.goal⟩]) (by simp) rfl (by simp) hp).eq (by simp [Af])
   all_goals have e3:=(Vp rows hll).trans e2
   ·have hP:Af rows s 6 main=Jn rows rows (y:Int) (r:Int) fun rows1 f=>Jn rows rows1 (x:Int) (f:Int) fun rows2 g=>⟨rows2,0,[⟨Aw (Be s.left main) g,s.goal⟩]⟩:=by simp [Af,e,e2]
    rcases Kr ok (a:=y) (b:=r) (by omega) (by omega) with hz | ⟨hz,i,hi,hil,ok1⟩
    ·exact (jR F w t rows hF s main hm _ _ l r e (by omega) _ _ _ _ e3 _ _ hz (Ta (f:=fun _=>((y:Int),(r:Int))) (g:=fun made=>((x:Int),made.headD 0)) hz)).mono fun _ _ hp=>(Vg hz (Dl _ _) hp).eq (by rw [hP,Ii hz])
    ·have p1:=Dl rows (Bo ((y:Int),(r:Int)))
     have hxl:x<(put rows (Bo ((y:Int),(r:Int)))).rows.length:=Nat.lt_of_lt_of_le (by omega) p1.length_le
     rcases Kr ok1 (a:=x) (b:=i) hxl hil with hz2 | ⟨hz2,j,hj,hjl,ok2⟩
     ·exact (jR F w t rows hF s main hm _ _ l r e (by omega) _ _ _ _ e3 _ _ hz2 (Vf (f:=fun _=>((y:Int),(r:Int))) (g:=fun made=>((x:Int),made.headD 0)) hz hi hz2)).mono fun _ _ hp=>(Vg hz2 (p1.trans (Dl _ _)) hp).eq (by rw [hP,Hq hz hi,Ii hz2])
     ·have:=ok2.le
      exact (xA F w t rows hF s main hm _ _ l r e (by omega) _ _ _ _ e3 _ i j (by omega) (fM (f:=fun _=>((y:Int),(r:Int))) (g:=fun made=>((x:Int),made.headD 0)) hz hi hz2 hj)).mono fun _ _ hp=>(eF hp).eq (by rw [hP,Hq hz hi,Hq hz2 hj];rfl)
   ·have hP:Af rows s 7 main=Jn rows rows (x:Int) (r:Int) fun rows1 f=>Jn rows rows1 (y:Int) (r:Int) fun rows2 g=>⟨rows2,0,[⟨Aw (Aw (Be s.left main) f) g,s.goal⟩]⟩:=by simp [Af,e,e2]
    rcases Kr ok (a:=x) (b:=r) (by omega) (by omega) with hz | ⟨hz,i,hi,hil,ok1⟩
    ·exact (jO F w t rows hF s main hm _ _ l r e (by omega) _ _ _ _ e3 _ _ hz (Ta (f:=fun _=>((x:Int),(r:Int))) (g:=fun _=>((y:Int),(r:Int))) hz)).mono fun _ _ hp=>(Vg hz (Dl _ _) hp).eq (by rw [hP,Ii hz])
    ·have p1:=Dl rows (Bo ((x:Int),(r:Int)))
     have hyl:y<(put rows (Bo ((x:Int),(r:Int)))).rows.length:=Nat.lt_of_lt_of_le (by omega) p1.length_le
     have hrl:r<(put rows (Bo ((x:Int),(r:Int)))).rows.length:=Nat.lt_of_lt_of_le (by omega) p1.length_le
     have:=ok1.le
     rcases Kr ok1 (a:=y) (b:=r) hyl hrl with hz2 | ⟨hz2,j,hj,hjl,ok2⟩
     ·exact (jO F w t rows hF s main hm _ _ l r e (by omega) _ _ _ _ e3 _ _ hz2 (Vf (f:=fun _=>((x:Int),(r:Int))) (g:=fun _=>((y:Int),(r:Int))) hz hi hz2)).mono fun _ _ hp=>(Vg hz2 (p1.trans (Dl _ _)) hp).eq (by rw [hP,Hq hz hi,Ii hz2])
     ·have:=ok2.le
      exact (wE F w t rows hF s main hm _ _ l r e (by omega) _ _ _ _ e3 _ i j (by omega) (by omega) (fM (f:=fun _=>((x:Int),(r:Int))) (g:=fun _=>((y:Int),(r:Int))) hz hi hz2 hj)).mono fun _ _ hp=>(eF hp).eq (by rw [hP,Hq hz hi,Hq hz2 hj])
   ·have hP:Af rows s 13 main=Jn rows rows (y:Int) (r:Int) fun rows1 f=>⟨rows1,0,[⟨Aw (Be s.left main) f,l⟩,⟨Aw (Be s.left main) r,s.goal⟩]⟩:=by simp [Af,e,e2]
    rcases Kr ok (a:=y) (b:=r) (by omega) (by omega) with hz | ⟨hz,i,hi,hil,ok1⟩
    ·exact (oO F w t rows hF s main hm _ _ l r e (by omega) _ _ _ _ e3 _ _ hz (eD (f:=fun _=>((y:Int),(r:Int))) hz)).mono fun _ _ hp=>(Vg hz (Dl _ _) hp).eq (by rw [hP,Ii hz])
    ·have:=ok1.le
     exact (uL F w t rows hF s main hm _ _ l r e (by omega) _ _ _ _ e3 _ i (by omega) (sZ (f:=fun _=>((y:Int),(r:Int))) hz hi)).mono fun _ _ hp=>(eF hp).eq (by rw [hP,Hq hz hi])
end Go.Dk
end
section
namespace Go.Dk
open Go.RowKit Go.Maps Go.MapKept
open Go.Proofs hiding intOf
theorem qG (k:Nat) (ow:Own) (w:World) (t:Value) (rows:List ND) (ht:Tab k ow w t rows) (s:SQ) (kk:Int) (main:Nat) (h:FitK rows s kk main) :
  Calls Tryz.prog 86 #[t,.agg (Ad s.left s.goal).toArray,.int .i64 kk,.int .i64 (main:Int)] w fun e w'=>e = .returned (.bool true)∧Below w.heap.size w w':=by
 have hf:=h.fit
 rcases Rl h with ⟨rfl,rfl⟩ | ⟨rfl,rfl,h5⟩ | ⟨rfl,rfl,h3⟩ | ⟨hk,rfl,h4⟩ | ⟨h0,hb,hon⟩
 ·refine (nP k ow w t rows ht s _ h.lt true (by simp)).mono ?_
  rintro e w' ⟨rfl,hb⟩
  simp [Sz] at hf
  exact ⟨by simp [hf],hb⟩
 ·refine (pJ k ow w t rows ht s _ h.lt true (by simp)).mono ?_
  rintro e w' ⟨rfl,hb⟩
  exact ⟨by simp [h5],hb⟩
 ·refine (pP k ow w t rows ht s _ h.lt true (by simp)).mono ?_
  rintro e w' ⟨rfl,hb⟩
  exact ⟨by simp [h3],hb⟩
 ·rcases hk with rfl | rfl
  ·refine (mA k ow w t rows ht s _ h.lt true (by simp)).mono ?_
   rintro e w' ⟨rfl,hb⟩
   exact ⟨by simp [h4],hb⟩
  ·refine (jX k ow w t rows ht s _ h.lt true (by simp)).mono ?_
   rintro e w' ⟨rfl,hb⟩
   exact ⟨by simp [h4],hb⟩
 ·have hc:kk=1∨kk=3∨kk=10∨kk=4∨kk=5∨kk=6∨kk=7∨kk=13:=by
   rcases Qq ht.ok h.lt hon h0 with ⟨e,_⟩ | ⟨l,r,_,_,_,e,_⟩ | ⟨l,r,_,_,_,e,_⟩ | ⟨l,r,_,_,_,_,⟨e,_⟩ | ⟨e,_⟩ | ⟨x,y,_,_,⟨e,_⟩ | ⟨e,_⟩ | ⟨e,_⟩⟩⟩<;>simp [e]
  refine (qD k ow w t rows ht s main kk h0 (by rcases hc with h | h | h | h | h | h | h | h<;>subst h<;>decide) (by rcases hc with h | h | h | h | h | h | h | h<;>subst h<;>decide) (by rcases hc with h | h | h | h | h | h | h | h<;>subst h<;>decide) (by rcases hc with h | h | h | h | h | h | h | h<;>subst h<;>decide) (by rcases hc with h | h | h | h | h | h | h | h<;>subst h<;>decide) h.lt _ rfl).mono ?_
  rintro e w' ⟨rfl,hb2⟩
  exact ⟨by simp [hb,hon],hb2⟩
def mQ (F:FP) (w:World) (t:Value) (p:Prem) (e:Ending) (w':World):Prop:=
 ∃ v F',e = .returned (.tuple #[v,.int .i64 p.err])∧KeptF F w F' w'∧Cm F' w' t p.rows∧(p.err=0→Xl w.heap.size F' w' v p.seqs)
theorem Xl.mono {B B':Nat} {F:FP} {w:World} {v:Value} {l:List SQ} (h:Xl B F w v l) (hb:B'≤B):Xl B' F w v l:=by
 rcases h with h | ⟨b,h1,h2,h3,h4⟩
 ·exact .inl h
 ·exact .inr ⟨b,h1,h2,Nat.le_trans hb h3,h4⟩
theorem Oq {rows rows1:List ND} (h:rows <+: rows1):(Rz rows1 (rows.length:Int)).2=rows:=by
 have:=h.length_le
 unfold Rz
 rw [if_pos (by omega)]
 obtain ⟨r,rfl⟩:=h
 simp
set_option maxRecDepth 100000 in
set_option maxHeartbeats 2000000 in
theorem Oj (F:FP) (w:World) (t:Value) (rows:List ND) (hF:Cm F w t rows) (hT:TabG w) (s:SQ) (wf:Wf rows s) (k:Int) (main:Nat) (h:FitK rows s k main) :
  Calls Tryz.prog 74 #[t,.agg (Ad s.left s.goal).toArray,.int .i64 k,.int .i64 (main:Int)] w (mQ F w t (Af rows s k main)):=by
 have HB0:=Aa (Ab w (.cells (Ad s.left s.goal).toArray 86))
 have HQ0:=Aa (Ae.new w (Ad s.left s.goal) 86)
 have HL:=Aa (look_ok 0 _ _ t rows ((hF.col 0).below HB0.o) (hT.below HB0.o) s wf)
 have HI:Hid (∀ W,Below w.heap.size w W→Calls Tryz.prog 86 #[t,.agg (Ad s.left s.goal).toArray,.int .i64 k,.int .i64 (main:Int)] W fun e w'=>e = .returned (.bool true)∧Below W.heap.size W w'):=fun W hb=>qG 0 _ W t rows ((hF.col 0).below hb) s k main h
 have HN:Hid (∀ W,Below w.heap.size w W→Calls Tryz.prog 31 #[t] W fun e w'=>e = .returned (.int .i64 (rows.length:Int))∧W=w'):=fun W hb=>len_any 0 _ W t rows ((hF.col 0).below hb)
 obtain ⟨p,hp⟩:∃ p,Af rows s k main=p:=⟨_,rfl⟩
 have HP:Hid (∀ W,Below w.heap.size w W→Calls Tryz.prog 87 #[t,.agg (Ad s.left s.goal).toArray,.int .i64 k,.int .i64 (main:Int)] W (Lj F W t rows p)):=fun W hb=>hp▸dA F W t rows (hF.below hb) s wf k main h
 rw [hp]
 have HF:=Aa hF
 clear hF hT wf h hp
 obtain ⟨prows,perr,pseqs⟩:=p
 by_cases hz:perr=0
 ·subst hz
  go_enter Tryz.func74,Tryz.ntmps74
  go_wp2_with (first
   | (refine Ah (.tmp 5) rfl rfl rfl HQ0.o ?_)
   | (go_at_call 83;refine HL.o.mono ?_;rintro e W1 ⟨rfl,hb1⟩;have HB1:=Aa (Ac HB0.o hb1);have HQ1:=Aa (HQ0.o.below hb1);clear hb1 HL HQ0)
   | (refine Ah (.tmp 5) rfl rfl rfl HQ1.o ?_)
   | (go_at_call 86;refine (HI.o _ HB1.o).mono ?_;rintro e W2 ⟨rfl,hb2⟩;have HB2:=Aa (Ac HB1.o hb2);have HQ2:=Aa (HQ1.o.below hb2);clear hb2 HQ1)
   | (go_at_call 31;refine (HN.o _ HB2.o).mono ?_;rintro e w' ⟨rfl,rfl⟩)
   | (refine Ah (.tmp 5) rfl rfl rfl HQ2.o ?_)
   | (go_at_call 87;refine (HP.o _ HB2.o).mono ?_;rintro e W3 ⟨v,F3,rfl,hk3,h3,_⟩;have HK3:=Aa hk3;have H3:=Aa (h3 rfl);clear hk3 h3))
  go_ret2
  exact ⟨v,F3,rfl,(KeptF.of_below HF.o.in_ HB2.o).trans HK3.o,H3.o.1,fun _=>H3.o.2.mono HB2.o.size⟩
 ·have hz2:(perr != 0)=true:=by simpa using hz
  have HZ:=Aa hz
  clear hz
  go_enter Tryz.func74,Tryz.ntmps74
  go_wp2_with (first
   | (refine Ah (.tmp 5) rfl rfl rfl HQ0.o ?_)
   | (go_at_call 83;refine HL.o.mono ?_;rintro e W1 ⟨rfl,hb1⟩;have HB1:=Aa (Ac HB0.o hb1);have HQ1:=Aa (HQ0.o.below hb1);clear hb1 HL HQ0)
   | (refine Ah (.tmp 5) rfl rfl rfl HQ1.o ?_)
   | (go_at_call 86;refine (HI.o _ HB1.o).mono ?_;rintro e W2 ⟨rfl,hb2⟩;have HB2:=Aa (Ac HB1.o hb2);have HQ2:=Aa (HQ1.o.below hb2);clear hb2 HQ1)
   | (go_at_call 31;refine (HN.o _ HB2.o).mono ?_;rintro e w' ⟨rfl,rfl⟩)
   | (refine Ah (.tmp 5) rfl rfl rfl HQ2.o ?_)
   | (go_at_call 87;refine (HP.o _ HB2.o).mono ?_;rintro e W3 ⟨v,F3,rfl,hk3,_,h3⟩;obtain ⟨rfl,hpr,rows1,hpre,ht1⟩:=h3 HZ.o;have HK3:=Aa hk3;have HPR:=Aa hpr;have HPE:=Aa hpre;have HT3:=Aa ht1;clear hk3 h3 hpr hpre ht1)
   | (go_at_call 33;refine (mM HT3.o (rows.length:Int)).mono ?_;rintro e W4 ⟨rfl,F4,hk4,ht4⟩;have HK4:=Aa hk4;have HT4:=Aa ht4;clear hk4 ht4))
  go_ret2
  have h4:=HT4.o
  rw [Oq HPE.o] at h4
  refine ⟨_,F4,rfl,((KeptF.of_below HF.o.in_ HB2.o).trans HK3.o).trans HK4.o,?_,fun h=>absurd h HZ.o⟩
  have h5:=HPR.o
  simp only at h5 ⊢
  rw [h5]
  exact h4
end Go.Dk
end
section
namespace Go.Dk
open Go.RowKit Go.Maps Go.MapKept Go.Shelf
open Go.Proofs hiding intOf
attribute [local go_sem] Oper.semAt_some
theorem Oo {W w1:World} {B:Nat} {v v':Value} {tmp:Obj} (hgrow:(W.alloc tmp).grownBy w1 v.ownBlock) {b:Nat} (hb:b<W.heap.size) (h1:v.ownBlock≠some b) (h2:b≠B):(w1.setCell ⟨B,0,none⟩ v').heap[b]? = W.heap[b]?:=by
 rw [Below.heap_setCell _ _ _ _ h2,hgrow.block b (by simp;omega) (fun e=>h1 e.symm)]
 exact Below.heap_alloc _ _ _ hb
theorem Bd {w w':World} {base:Nat} {e:TypeId} {size:Nat} {v:Value} {n:Nat} {xs:List Value} (ho:w.ownsRow base e size v n xs) (hn:∀ g,v.ownBlock=some g→w'.heap[g]? = w.heap[g]?):w'.ownsRow base e size v n xs:=by
 refine ⟨ho.1,?_⟩
 rcases ho.2 with hn' | ⟨g,cap,cur,rfl,hbg,hg,rest⟩
 ·exact .inl hn'
 ·exact .inr ⟨g,cap,cur,rfl,hbg,(hn g rfl).trans hg,rest⟩
structure ChoB (n0:Nat) (W:World) (rs ms:List Int) (v8 v9:Value):Prop where
 b8:_root_.Go.Boxed W n0 164 v8
 b9:_root_.Go.Boxed W (n0+1) 23 v9
 r8:W.ownsRow n0 120 1 v8 rs.length (ints rs)
 r9:W.ownsRow n0 3 1 v9 ms.length (ints ms)
structure Cho (w5:World) (n0 bb m:Nat) (rs ms:List Int) (W:World):Prop where
 bel:Below n0 w5 W
 bits:Ae W bb (Ag m) 77
 bx:∃ v8 v9,ChoB n0 W rs ms v8 v9
theorem ChoB.n8 {n0:Nat} {W:World} {rs ms:List Int} {v8 v9:Value} (h:ChoB n0 W rs ms v8 v9):(∀ g,v8.ownBlock=some g→v9.ownBlock≠some g):=fun g h8 h9=>by
 rcases h.r8.2 with ⟨e,_⟩ | ⟨g8,c8,cur8,e8,_,hg8,_⟩
 ·rw [e] at h8;simp [Value.ownBlock] at h8
 rcases h.r9.2 with ⟨e,_⟩ | ⟨g9,c9,cur9,e9,_,hg9,_⟩
 ·rw [e] at h9;simp [Value.ownBlock] at h9
 rw [e8] at h8;rw [e9] at h9
 simp [Value.ownBlock] at h8 h9
 subst h8 h9
 rw [hg8] at hg9
 simp at hg9
theorem ChoB.below {n0:Nat} {W W':World} {rs ms:List Int} {v8 v9:Value} (h:ChoB n0 W rs ms v8 v9) (hb:Below W.heap.size W W'):ChoB n0 W' rs ms v8 v9:=
 ⟨(hb.block _ h.b8.lt).trans h.b8,(hb.block _ h.b9.lt).trans h.b9,Bd h.r8 (fun g hg=>hb.block g (h.r8.lt g hg).2),Bd h.r9 (fun g hg=>hb.block g (h.r9.lt g hg).2)⟩
theorem Cj {W:World} {b:Nat} {cs:List Value} {T e:TypeId} (h:Ae W b cs T) (hT:T≠e) {base size n:Nat} {v:Value} {xs:List Value} (hr:W.ownsRow base e size v n xs):v.ownBlock≠some b:=
 own_ne hr h (fun cur fr e=>by cases e;exact hT rfl)
theorem ChoB.app8 {n0 bb:Nat} {W w1:World} {rs ms xs:List Int} {v8 v9 v':Value} {tmp:Obj} (h:ChoB n0 W rs ms v8 v9) {cs:List Value} {T:TypeId} (hbits:Ae W bb cs T) (hT:T≠120) (hbb:bb≠n0) (hn:n0≤W.heap.size) (hown:w1.ownsRow n0 120 1 v' (rs.length+xs.length) (ints rs++ints xs)) (hg:(W.alloc tmp).grownBy w1 v8.ownBlock) :
  _root_.Go.Boxed w1 n0 164 v8∧ChoB n0 (w1.setCell ⟨n0,0,none⟩ v') (rs++xs) ms v' v9∧Ae (w1.setCell ⟨n0,0,none⟩ v') bb cs T∧KeepsOthers W (w1.setCell ⟨n0,0,none⟩ v')∧Below n0 W (w1.setCell ⟨n0,0,none⟩ v'):=by
 obtain ⟨a1,a2,a3,a4,a5⟩:=_root_.Go.Boxed.appended h.b8 (by decide) h.r8 hn (Nat.le_refl _) hown hg
 refine ⟨a1,⟨a2,?_,by rw [List.length_append,Re];exact a3,?_⟩,?_,a4,a5⟩
 ·exact (Oo hg h.b9.lt (fun e=>h.b9.not_row (by decide) h.r8 e.symm) (by omega)).trans h.b9
 ·exact Bd h.r9 fun g hg9=>Oo hg (h.r9.lt g hg9).2 (fun e=>h.n8 g e hg9) (fun e=>h.b8.not_row (by decide) h.r9 (by rw [← e];exact hg9.symm))
 ·exact (Oo hg hbits.lt (Cj hbits hT h.r8) hbb).trans hbits
theorem ChoB.app9 {n0 bb:Nat} {W w1:World} {rs ms xs:List Int} {v8 v9 v':Value} {tmp:Obj} (h:ChoB n0 W rs ms v8 v9) {cs:List Value} {T:TypeId} (hbits:Ae W bb cs T) (hT:T≠3) (hbb:bb≠n0+1) (hn:n0≤W.heap.size) (hown:w1.ownsRow n0 3 1 v' (ms.length+xs.length) (ints ms++ints xs)) (hg:(W.alloc tmp).grownBy w1 v9.ownBlock) :
  _root_.Go.Boxed w1 (n0+1) 23 v9∧ChoB n0 (w1.setCell ⟨n0+1,0,none⟩ v') rs (ms++xs) v8 v'∧Ae (w1.setCell ⟨n0+1,0,none⟩ v') bb cs T∧KeepsOthers W (w1.setCell ⟨n0+1,0,none⟩ v')∧Below n0 W (w1.setCell ⟨n0+1,0,none⟩ v'):=by
 obtain ⟨a1,a2,a3,a4,a5⟩:=_root_.Go.Boxed.appended h.b9 (by decide) h.r9 hn (Nat.le_succ _) hown hg
 refine ⟨a1,⟨?_,a2,?_,by rw [List.length_append,Re];exact a3⟩,?_,a4,a5⟩
 ·exact (Oo hg h.b8.lt (fun e=>h.b8.not_row (by decide) h.r9 e.symm) (by omega)).trans h.b8
 ·exact Bd h.r8 fun g hg8=>Oo hg (h.r8.lt g hg8).2 (fun e=>h.n8 g hg8 e) (fun e=>h.b9.not_row (by decide) h.r8 (by rw [← e];exact hg8.symm))
 ·exact (Oo hg hbits.lt (Cj hbits hT h.r9) hbb).trans hbits
theorem ChoB.grown {n0:Nat} {W W':World} {rs ms:List Int} {v8 v9:Value} {row:Option Nat} (h:ChoB n0 W rs ms v8 v9) (hg:W.grownBy W' row) (hr:∀ r,row=some r→∃ o:Obj,W.heap[r]? = some o∧o.isCells=false):ChoB n0 W' rs ms v8 v9:=by
 have nb:∀ b,(∃ cs T fr,W.heap[b]? = some (.cells cs T fr))→some b≠row:=fun b ⟨cs,T,fr,hc⟩ e=>by
  obtain ⟨o,ho,hc2⟩:=hr b e.symm
  rw [hc] at ho;cases ho;cases hc2
 refine ⟨h.b8.kept hg (nb _ ⟨_,_,_,h.b8⟩),h.b9.kept hg (nb _ ⟨_,_,_,h.b9⟩),Bd h.r8 fun g hg8=>?_,Bd h.r9 fun g hg9=>?_⟩
 ·rcases h.r8.2 with ⟨e,_⟩ | ⟨g8,c8,cur8,e8,_,hgg,_⟩
  ·rw [e] at hg8;simp [Value.ownBlock] at hg8
  ·rw [e8] at hg8;simp [Value.ownBlock] at hg8;subst hg8
   exact hg.block _ (lt_of_block hgg) (nb _ ⟨_,_,_,hgg⟩)
 ·rcases h.r9.2 with ⟨e,_⟩ | ⟨g8,c8,cur8,e8,_,hgg,_⟩
  ·rw [e] at hg9;simp [Value.ownBlock] at hg9
  ·rw [e8] at hg9;simp [Value.ownBlock] at hg9;subst hg9
   exact hg.block _ (lt_of_block hgg) (nb _ ⟨_,_,_,hgg⟩)
theorem Cho.grown {w5 W W':World} {n0 bb m:Nat} {rs ms:List Int} {row:Option Nat} (h:Cho w5 n0 bb m rs ms W) (hg:W.grownBy W' row) (hr:∀ r,row=some r→n0≤r∧∃ o:Obj,W.heap[r]? = some o∧o.isCells=false):Cho w5 n0 bb m rs ms W':=by
 obtain ⟨v8,v9,hb⟩:=h.bx
 refine ⟨?_,h.bits.grown hg (fun r e=>(hr r e).2),v8,v9,hb.grown hg (fun r e=>(hr r e).2)⟩
 exact (h.bel.grown hg (Nat.le_trans (Nat.le_of_lt hb.b8.lt) (Nat.le_refl _)) (fun r e=>(hr r e).1))
section
variable {F:Fence} {nF:Nat} {ops:Array Oper} {rest:List Oper} {o:Oper} {a:Act} {Q:Exit→Act→World→Prop} {W:World} {b:Nat}
theorem fN {T T0:TypeId} (x y:Operand) (hop:o.op = .store T x y) (hx:a.eval x = .pointer (some ⟨b,0,none⟩)) {ad:Option Addr} {n c:Nat} (hy:a.eval y = .slice ad n c) (hi:(Tryz.prog.info? T).map (·.size)=some 1) {v0:Value} (hb:_root_.Go.Boxed W b T0 v0) :
  (execOp a.eval o).run Tryz.prog W = .ok .skip (W.setCell ⟨b,0,none⟩ (.slice ad n c)):=by
 have h1:=hb.cell
 have h2:=hb.frozen
 have:=run_storeCells_cells (P:=Tryz.prog) b 0 [.slice ad n c] 0 W (fun j hj=>by obtain rfl:j=0:=(by simpa using hj);simp [h1]) (fun j hj=>by obtain rfl:j=0:=(by simpa using hj);simp [h2]) (fun v hv=>by simp at hv;subst hv;rfl)
 cases hq:Tryz.prog.info? T with
 | none=>simp [hq] at hi
 | some i=>
  have hs:i.size=1:=by simpa [hq] using hi
  unfold execOp
  simp [hop,hx,hy,Instr.storeAt,Instr.sureAddr,storeVar,_root_.Go.sizeOf,typeInfo,hq,Value.cells,hs,this,World.setCells]
theorem Iq {T T0:TypeId} (x y:Operand) (hop:o.op = .store T x y) (hg:o.guard=none) (hx:a.eval x = .pointer (some ⟨b,0,none⟩)) {ad:Option Addr} {n c:Nat} (hy:a.eval y = .slice ad n c) (hi:(Tryz.prog.info? T).map (·.size)=some 1) {v0:Value} (hb:_root_.Go.Boxed W b T0 v0)
  (hk:∀ W',W'=W.setCell ⟨b,0,none⟩ (.slice ad n c)→wpListIn F nF Tryz.prog ops Q rest (a.put o.dst undef) W'):wpListIn F nF Tryz.prog ops Q (o::rest) a W:=by
 refine wpListIn_plain hg fun K' hK'=>?_
 unfold Oper.wpIn
 refine ⟨by simp [Oper.about,hop],?_⟩
 rw [Oper.semAt_plain F _ _ (by rw [hop];intro c hc';cases hc'),fN x y hop hx hy hi hb]
 exact hK' _ _ (hk _ rfl)
end
theorem rD:(Tryz.prog.info? 120).map (fun i=>(i.zero,i.size,i.bytes))=some (some (.int .i64 0),1,8):=by kernel_rfl
theorem bS:∃ i,Tryz.prog.info? 120=some i∧i.zero=some (.int .i64 0)∧i.size=1∧i.bytes=8:=by
 obtain ⟨i,hi,h⟩:=Option.map_eq_some_iff.1 rD
 simp only [Prod.mk.injEq] at h
 exact ⟨i,hi,h⟩
theorem fS:∃ i,Tryz.prog.info? 3=some i∧i.zero=some (.int .i64 0)∧i.size=1∧i.bytes=8:=by
 obtain ⟨i,hi,h⟩:=Option.map_eq_some_iff.1 Ef
 simp only [Prod.mk.injEq] at h
 exact ⟨i,hi,h⟩
theorem mZ (W:World):ChoB W.heap.size ((W.alloc (.cells #[.slice none 0 0] 164)).alloc (.cells #[.slice none 0 0] 23)) [] [] (.slice none 0 0) (.slice none 0 0):=by
 refine ⟨(_root_.Go.Boxed.new W _ _).alloc _,?_,World.ownsRow_nil _ _ _ _,World.ownsRow_nil _ _ _ _⟩
 have:=_root_.Go.Boxed.new (W.alloc (.cells #[.slice none 0 0] 164)) 23 (.slice none 0 0)
 simpa using this
theorem aW (W:World) (T:TypeId) (x y:Int):∀ j u,(ints [x,y])[j]? = some u→(W.alloc (.cells #[.int .i64 x,.int .i64 y] T)).cell? ((⟨W.heap.size,0,none⟩:Addr).add j)=some u:=fun j u hu=>by
 rw [Addr.add_mid]
 match j,hu with
 | 0,hu=>cases hu;exact World.cell?_alloc_at _ _ _ _ rfl
 | 1,hu=>cases hu;exact World.cell?_alloc_at _ _ _ _ rfl
 | j+2,hu=>simp [ints] at hu
theorem Rk (W:World) (T:TypeId) (x:Int):∀ j u,(ints [x])[j]? = some u→(W.alloc (.cells #[.int .i64 x] T)).cell? ((⟨W.heap.size,0,none⟩:Addr).add j)=some u:=fun j u hu=>by
 rw [Addr.add_mid]
 match j,hu with
 | 0,hu=>cases hu;exact World.cell?_alloc_at _ _ _ _ rfl
 | j+1,hu=>simp [ints] at hu
theorem own_base {w:World} {base base':Nat} {e:TypeId} {size:Nat} {v:Value} {n:Nat} {xs:List Value} (ho:w.ownsRow base e size v n xs) (hb:base'≤base):w.ownsRow base' e size v n xs:=by
 refine ⟨ho.1,?_⟩
 rcases ho.2 with hn' | ⟨g,cap,cur,rfl,hbg,hg,rest⟩
 ·exact .inl hn'
 ·exact .inr ⟨g,cap,cur,rfl,Nat.le_trans hb hbg,hg,rest⟩
theorem gI {rows:List ND} {s:SQ} (hle:rows.length≤1024) (hl:∀ i,s.left.testBit i=true→i<rows.length) {ys:List (Mem s.left)} (hy:ys.map (·.1)=upto s.left 1024) :
  ((ys.filter fun y=>onP rows s y.1 == 13).map fun y=>y.1)=(List.range rows.length).filter (fun i=>s.left.testBit i && onP rows s i == 13):=by
 have h1:((ys.filter fun y=>onP rows s y.1 == 13).map fun y=>y.1)=(ys.map (·.1)).filter fun i=>onP rows s i == 13:=by
  rw [List.filter_map];rfl
 rw [h1,hy,Wq s.left hle (fun j h1 h2=>by
  cases h:s.left.testBit j with
  | false=>rfl
  | true=>have:=hl j h;omega)]
 unfold upto
 rw [List.filter_filter]
 congr 1
 funext i
 rw [Bool.and_comm]
def Np (w:World) (l:List (Int × Nat)) (e:Ending) (w':World):Prop:=
 ∃ v8 v9,e = .returned (.tuple #[v8,v9,.int .i64 0])∧w'.ownsRow w.heap.size 120 1 v8 l.length (ints (l.map (·.1)))∧w'.ownsRow w.heap.size 3 1 v9 l.length (ints (l.map fun c=>(c.2:Int)))∧Below w.heap.size w w'
set_option maxRecDepth 100000 in
set_option maxHeartbeats 2000000 in
theorem jN (k:Nat) (ow:Own) (w:World) (t:Value) (rows:List ND) (h:Tab k ow w t rows) (hT:TabG w) (s:SQ) (hs:Wf rows s) (h14:(Ak rows s).1=14) (h4:(rowAt rows s.goal).kind=4) :
  Calls Tryz.prog 85 #[t,.agg (Ad s.left s.goal).toArray] w (Np w (Bj rows s)):=by
 obtain ⟨pb,rfl⟩:∃ pb,t = .pointer (some ⟨pb,0,none⟩):=by obtain ⟨pb,_,_,e,_⟩:=h;exact ⟨pb,e⟩
 have HB0:=Aa (Ac (Ab w (.cells #[.pointer (some ⟨pb,0,none⟩)] 24)) (Ab _ (.cells (Ad s.left s.goal).toArray 86)))
 have HQ0:Hid (Ae ((w.alloc (.cells #[.pointer (some ⟨pb,0,none⟩)] 24)).alloc (.cells (Ad s.left s.goal).toArray 86)) (w.heap.size+1) (Ad s.left s.goal) 86):=by
  have:=Ae.new (w.alloc (.cells #[.pointer (some ⟨pb,0,none⟩)] 24)) (Ad s.left s.goal) 86
  show Ae _ _ _ _
  simpa using this
 have HP0:Hid (Ae ((w.alloc (.cells #[.pointer (some ⟨pb,0,none⟩)] 24)).alloc (.cells (Ad s.left s.goal).toArray 86)) w.heap.size [.pointer (some ⟨pb,0,none⟩)] 24):=
  (Ae.new w [.pointer (some ⟨pb,0,none⟩)] 24).below (Ab _ (.cells (Ad s.left s.goal).toArray 86))
 have HL:Hid (∀ W,Below w.heap.size w W→Calls Tryz.prog 83 #[.pointer (some ⟨pb,0,none⟩),.agg (Ad s.left s.goal).toArray] W fun e w'=>e = .returned (.int .i64 0)∧Below W.heap.size W w'):=fun W hb=>look_ok k ow W _ rows (h.below hb) (hT.below hb) s hs
 have HA:Hid (∀ W,Below w.heap.size w W→Calls Tryz.prog 84 #[.pointer (some ⟨pb,0,none⟩),.agg (Ad s.left s.goal).toArray] W fun e w'=>e = .returned (.agg #[.int .i64 14,.int .i64 ((Ak rows s).2:Int)])∧Below W.heap.size W w'):=fun W hb=>by
  have:=Wb k ow W _ rows (h.below hb) (hT.below hb) s hs
  rw [h14] at this
  exact this
 obtain ⟨gn,hgn⟩:∃ gn,rowAt rows s.goal=gn:=⟨_,rfl⟩
 have HN:Hid (∀ W,Below w.heap.size w W→Calls Tryz.prog 104 #[.pointer (some ⟨pb,0,none⟩),.int .i64 (s.goal:Int)] W fun e w'=>e = .returned (.agg #[.int .i64 gn.kind,.string gn.name,.int .i64 gn.l,.int .i64 gn.r])∧Below W.heap.size W w'):=Dc k ow w _ rows h s.goal hs.goal gn hgn
 rw [hgn] at h4
 obtain ⟨gk,gm,gl,gr⟩:=gn
 simp only at h4 HN
 subst h4
 have HGN:=Aa hgn
 have H:=Aa h;have HT:=Aa hT;have HW:=Aa hs
 have hfk:=fun W=>Ft (.int .i64 4) (.string gm) (.int .i64 gl) (.int .i64 gr) W
 clear h hT hs h14 hgn
 refine (callsIn_wide (n:=8)).1 ?_
 refine callsIn_of_wp_marks Tryz.func85 rfl trivial ?_ rfl
 simp only [Tryz.ntmps85,List.size_toArray,List.length_cons,List.length_nil,Nat.reduceAdd,Nat.reduceSub,Array.replicate_succ,Array.replicate_zero,List.push_toArray,List.append_toArray,List.nil_append,List.cons_append]
 obtain ⟨i8,i81,i82,i83,i84⟩:=bS
 obtain ⟨i9,i91,i92,i93,i94⟩:=fS
 have hff:∀ W,(Instr.field 162 (.agg #[.int .i64 14,.int .i64 ((Ak rows s).2:Int)]) 0).run Tryz.prog W = .ok (.int .i64 14) W:=fun W=>by kernel_rfl
 gi_wp2_with (first
  | (refine Ea (.tmp 3) rfl rfl rfl HQ0.o ?_)
  | (refine ⟨trivial,?_⟩;gi_at_call 83;refine (callsIn_wide.2 (HL.o _ HB0.o)).mono ?_;clear HL;rintro e W1 ⟨rfl,hb1⟩;have HB1:=Aa (Ac HB0.o hb1);have HB11:=Aa (Ac (Ab W1 (.cells #[.slice none 0 0] 164)) (Ab _ (.cells #[.slice none 0 0] 23)));have HQ1:=Aa ((HQ0.o.below hb1).below HB11.o);have HP1:=Aa ((HP0.o.below hb1).below HB11.o);have c1:=HP1.o.cell (i:=0) rfl;have HC1:=Aa (mZ W1);have HS1:Hid (w.heap.size+2≤W1.heap.size):=(by have:=hb1.size;simp at this;exact this);clear hb1 HQ0 HP0)
  | (refine Ea (.tmp 3) rfl rfl rfl HQ1.o ?_)
  | (refine ⟨trivial,?_⟩;gi_at_call 84;refine (callsIn_wide.2 (HA.o _ (Ac HB1.o HB11.o))).mono ?_;clear HA;rintro e W2 ⟨rfl,hb2⟩;have HB2:=Aa (Ac HB11.o hb2);have HQ2:=Aa (HQ1.o.below hb2);have HP2:=Aa (HP1.o.below hb2);clear c1;have c1:=HP2.o.cell (i:=0) rfl;have c16:=HQ2.o.cell (Bl s.left s.goal);have HC2:=Aa (HC1.o.below hb2);clear hb2 HQ1 HP1)
  | (refine ⟨trivial,?_⟩;gi_at_call 104;refine (callsIn_wide.2 (HN.o _ (Ac HB1.o HB2.o))).mono ?_;clear HN;rintro e W3 ⟨rfl,hb3⟩;have HB3:=Aa (Ac HB2.o hb3);have HQ3:=Aa (HQ2.o.below hb3);have HP3:=Aa (HP2.o.below hb3);have HC3:=Aa (HC2.o.below hb3);have cb8:=HC3.o.b8.cell;clear c1 c16 hb3 HQ2 HP2)
  | (gi_at_builtin;go_loud (refine wpListIn_append_own _ rfl (.tmp 28) (.tmp 29) 164 rfl W1.heap.size 120 i8 (.int .i64 0) 1 8 Tryz.underlying164 i81 i82 i83 i84 rfl (by decide) (.slice none 0 0) 0 [] rfl (HC3.o.below (Ab W3 _)).r8 ⟨W3.heap.size,0,none⟩ 2 2 (ints [11,12]) rfl rfl (fun j u hu=>aW W3 120 11 12 j u hu) (by simp [ints,Value.oneCell']) (by decide) (by decide) (Nat.le_trans HB3.o.size (by simp)) ?_;intro v8 w4 hown hgr hnil;obtain ⟨g8,q8,rfl⟩:=ownsRow_succ (k:=1) (by simpa using hown);have HO4:=Aa (HC3.o.app8 (xs:=[11,12]) HQ3.o (by decide) (by have:=HS1.o;omega) HB3.o.size hown hgr);clear cb8 hown hgr hnil))
  | (refine Iq (.tmp 8) (.tmp 30) rfl rfl rfl rfl (by kernel_rfl) HO4.o.1 ?_;intro W5 hw5;have HC5:Hid (ChoB W1.heap.size W5 [11,12] [] _ _):=hw5▸HO4.o.2.1;have HQ5:Hid (Ae W5 (w.heap.size+1) (Ad s.left s.goal) 86):=hw5▸HO4.o.2.2.1;have HB5:Hid (Below W1.heap.size W3 W5):=hw5▸HO4.o.2.2.2.2;have cb9:=HC5.o.b9.cell;have c16:=HQ5.o.cell (Bl s.left s.goal);clear hw5 HO4)
  | (gi_at_builtin;go_loud (refine wpListIn_append_own _ rfl (.tmp 31) (.tmp 36) 23 rfl W1.heap.size 3 i9 (.int .i64 0) 1 8 Tryz.underlying23 i91 i92 i93 i94 rfl (by decide) (.slice none 0 0) 0 [] rfl (HC5.o.below (Ab W5 _)).r9 ⟨W5.heap.size,0,none⟩ 2 2 (ints [(s.goal:Int),(s.goal:Int)]) rfl rfl (fun j u hu=>aW W5 3 _ _ j u hu) (by simp [ints,Value.oneCell']) (by decide) (by decide) (by have:=HB3.o.size;have:=HB5.o.size;simp;omega) ?_;intro v9 w6 hown hgr hnil;obtain ⟨g9,q9,rfl⟩:=ownsRow_succ (k:=1) (by simpa using hown);have HO6:=Aa (HC5.o.app9 (xs:=[(s.goal:Int),(s.goal:Int)]) HQ5.o (by decide) (by have:=HS1.o;omega) (by have:=HB3.o.size;have:=HB5.o.size;omega) hown hgr);clear cb9 c16 hown hgr hnil))
  | (refine Iq (.tmp 9) (.tmp 37) rfl rfl rfl rfl (by kernel_rfl) HO6.o.1 ?_;intro W7 hw7;have HC7:Hid (ChoB W1.heap.size W7 [11,12] [(s.goal:Int),(s.goal:Int)] _ _):=hw7▸HO6.o.2.1;have HQ7:Hid (Ae W7 (w.heap.size+1) (Ad s.left s.goal) 86):=hw7▸HO6.o.2.2.1;have HB7:Hid (Below W1.heap.size W3 W7):=HB5.o.trans (hw7▸HO6.o.2.2.2.2);clear hw7 HO6)
  | (refine Ij (.tmp 38) rfl rfl rfl HQ7.o ?_)
  | (refine ⟨trivial,?_⟩;gi_at_call 52;refine (Rf _ _).mono ?_;rintro e w8 ⟨rfl,rfl⟩))
 have HRS:Hid (∃ v8 v9 rs ms,ChoB W1.heap.size W7 rs ms v8 v9∧rs = [11,12]∧ms = [(s.goal:Int),(s.goal:Int)]):=⟨_,_,_,_,HC7.o,rfl,rfl⟩
 clear HC7
 obtain ⟨rs,ms,HLEN,HC7,HBASE⟩:∃ rs ms:List Int,Hid (rs.length≤2∧ms.length≤2)∧Hid (∃ v8 v9,ChoB W1.heap.size W7 rs ms v8 v9)∧Hid (∀ l:List Nat,l=(List.range rows.length).filter (fun i=>s.left.testBit i && onP rows s i == 13)→(Bj rows s).map (·.1)=rs++l.map (fun _=>(13:Int))∧(Bj rows s).map (fun c=>(c.2:Int))=ms++l.map (fun i:Nat=>(i:Int))):=by
  obtain ⟨v8,v9,rs,ms,hc,rfl,rfl⟩:=HRS.o
  refine ⟨_,_,⟨by decide,by simp⟩,⟨v8,v9,hc⟩,fun l hl=>?_⟩
  unfold Bj
  rw [HGN.o,← hl]
  simp
 clear HRS hfk hff HGN
 have HB8:Hid (Below W1.heap.size W1 (W7.alloc (.cells (Ag s.left).toArray 77))):=((HB3.o.trans (HB7.o.mono (Nat.le_refl _))).trans ((Ab W7 _).mono (Nat.le_trans HB3.o.size HB7.o.size)))
 have HI0:Hid (Cho (W7.alloc (.cells (Ag s.left).toArray 77)) W1.heap.size W7.heap.size s.left rs ms (W7.alloc (.cells (Ag s.left).toArray 77))):=by
  obtain ⟨v8,v9,hc⟩:=HC7.o
  exact ⟨Below.refl _ _,Ae.new W7 (Ag s.left) 77,v8,v9,hc.below (Ab _ _)⟩
 have HQ8:=Aa (HQ7.o.below (Ab W7 (.cells (Ag s.left).toArray 77)))
 have HLT:Hid (W1.heap.size+1<W7.heap.size):=by obtain ⟨v8,v9,hc⟩:=HC7.o;exact hc.b9.lt
 have HSZ:Hid (W7.heap.size<(W7.alloc (.cells (Ag s.left).toArray 77)).heap.size):=by show W7.heap.size<_;simp
 have HLE:Hid (W1.heap.size≤W7.heap.size):=Nat.le_trans HB3.o.size HB7.o.size
 have HP8:Hid (Ae (W7.alloc (.cells (Ag s.left).toArray 77)) w.heap.size [.pointer (some ⟨pb,0,none⟩)] 24):=((HB7.o.trans ((Ab W7 _).mono HLE.o)).block w.heap.size (by have:=HS1.o;omega)).trans HP3.o
 generalize (W7.alloc (.cells (Ag s.left).toArray 77))=W8 at *
 have HZ0:Hid (∀ g,(g=0∨g=W7.heap.size)→g<W8.heap.size):=fun g hg=>by
  have:=HSZ.o
  rcases hg with rfl | rfl<;>omega
 have HTG:Hid (TabG W8):=HT.o.below (HB1.o.trans (HB8.o.mono HB1.o.size))
 refine' wpIn_rangeFunc_ownG (I:=fun pre W=>Cho W8 W1.heap.size W7.heap.size s.left (rs++(pre.filter fun y=>onP rows s y.1 == 13).map fun _=>(13:Int)) (ms++(pre.filter fun y=>onP rows s y.1 == 13).map fun y=>((y.1:Nat):Int)) W) (Ix:=fun _ _ _=>False) (Kp:=Lh fun g=>g=0∨g=W7.heap.size)
  rfl (by omega) (gf:=70) (lb:=#[.pointer (some ⟨W7.heap.size,0,none⟩)]) rfl trivial (enters_of Tryz.func70 (by kernel_rfl) rfl)
  (all_stops _ (by omega) W7.heap.size s.left _ (.inl rfl) (.inr rfl) W8 HZ0.o HTG.o HI0.o.bits) Pn (Uz HZ0.o) (Below.refl _ _) (fun _=>rfl)
  (fun _ _ _ _ hs hg hr=>hs.grown hg (fun r e=>⟨Nat.le_trans (Nat.le_of_lt (Nat.lt_of_le_of_lt HLE.o HSZ.o)) (hr r e).1,(hr r e).2⟩)) (fun _ _ _ _ _ hs _ _=>hs) (by simpa using HI0.o) _ ?assign ?body ?done ?stop
 case assign=>
  intro l x W K hK
  unfold eO
  gi_wp2
  exact hK
 case stop=>rintro _ _ _ _ _ _ h _;exact h.elim
 case body=>
  rintro l pre x W hI hpl
  have HI:=Aa hI
  have HLR:Hid ((rs++(pre.filter fun y=>onP rows s y.1 == 13).map fun _=>(13:Int)).length≤1030∧(ms++(pre.filter fun y=>onP rows s y.1 == 13).map fun y=>((y.1:Nat):Int)).length≤1030):=by
   have h1:=HLEN.o
   have h2:=List.length_filter_le (fun y:Mem s.left=>onP rows s y.1 == 13) pre
   simp only [List.length_append,List.length_map]
   constructor<;>omega
  clear hpl
  have hlt:x.1<rows.length:=HW.o.left _ x.2.2
  have hbx:Ae W w.heap.size [.pointer (some ⟨pb,0,none⟩)] 24:=(HI.o.bel.block w.heap.size (by have:=HS1.o;omega)).trans HP8.o
  have c1:W.cell? ⟨w.heap.size,0,none⟩=some (.pointer (some ⟨pb,0,none⟩)):=hbx.cell (i:=0) rfl
  clear hbx
  have HQW:Hid (Ae W (w.heap.size+1) (Ad s.left s.goal) 86):=(HI.o.bel.block _ (by have:=HS1.o;omega)).trans HQ8.o
  have HTW:Hid (Tab k ow W (.pointer (some ⟨pb,0,none⟩)) rows):=H.o.below (HB1.o.trans ((HB8.o.trans HI.o.bel).mono HB1.o.size))
  have HO:=Aa (on_any k ow W _ rows HTW.o s s.goal x.1 hlt)
  obtain ⟨kd,hkd⟩:∃ kd,kd=onP rows s x.1:=⟨_,rfl⟩
  rw [← hkd] at HO
  have HK:=Aa hkd
  have HN0:Hid (W1.heap.size≤W.heap.size):=Nat.le_trans HLE.o (Nat.le_trans (Nat.le_of_lt HSZ.o) HI.o.bel.size)
  clear hI hlt hkd
  by_cases h13:kd=13
  ·subst h13
   obtain ⟨v8,v9,hb⟩:=HI.o.bx
   have HC:=Aa hb
   clear hb
   gi_wp2_with (first
    | (refine Ea (.tmp 3) rfl rfl rfl HQW.o ?_)
    | (refine ⟨trivial,?_⟩;gi_at_call 108;refine (CallsIn.inRound l (callsIn_wide.2 HO.o)).mono ?_;rintro e W6 ⟨rfl,hb6⟩;have HB6:=Aa hb6;have HC6:=Aa (HC.o.below hb6);have HBT6:=Aa (HI.o.bits.below hb6);have cb8:=HC6.o.b8.cell;clear hb6)
    | (gi_at_builtin;go_loud (refine wpListIn_append_own _ rfl (.tmp 47) (.tmp 48) 164 rfl W1.heap.size 120 i8 (.int .i64 0) 1 8 Tryz.underlying164 i81 i82 i83 i84 rfl (by decide) v8 _ _ rfl (HC6.o.below (Ab W6 _)).r8 ⟨W6.heap.size,0,none⟩ 1 1 (ints [13]) rfl rfl (fun j u hu=>Rk W6 120 13 j u hu) (by simp [ints,Value.oneCell']) (by have:=HLR.o;unfold maxLen;omega) (by have:=HLR.o;omega) (by have:=HB6.o.size;have:=HN0.o;simp;omega) ?_;intro v8' w7 hown hgr hnil;obtain ⟨g8,q8,rfl⟩:=ownsRow_succ hown;have HO7:=Aa (HC6.o.app8 (xs:=[13]) HBT6.o (by decide) (by have:=HLT.o;omega) (by have:=HB6.o.size;have:=HN0.o;omega) hown hgr);clear cb8 hown hgr hnil))
    | (refine Iq (.tmp 8) (.tmp 49) rfl rfl rfl rfl (by kernel_rfl) HO7.o.1 ?_;intro W8' hw;have HC8:=Aa HO7.o.2.1;have HBT8:=Aa HO7.o.2.2.1;have HK8:=Aa HO7.o.2.2.2.1;have HB8':=Aa HO7.o.2.2.2.2;rw [← hw] at HC8 HBT8 HK8 HB8';have cb9:=HC8.o.b9.cell;clear hw HO7)
    | (gi_at_builtin;go_loud (refine wpListIn_append_own _ rfl (.tmp 50) (.tmp 52) 23 rfl W1.heap.size 3 i9 (.int .i64 0) 1 8 Tryz.underlying23 i91 i92 i93 i94 rfl (by decide) v9 _ _ rfl (HC8.o.below (Ab W8' _)).r9 ⟨W8'.heap.size,0,none⟩ 1 1 (ints [(x.1:Int)]) rfl rfl (fun j u hu=>Rk W8' 3 _ j u hu) (by simp [ints,Value.oneCell']) (by have:=HLR.o;unfold maxLen;omega) (by have:=HLR.o;omega) (by have:=HB6.o.size;have:=HN0.o;have:=HB8'.o.size;simp;omega) ?_;intro v9' w9 hown hgr hnil;obtain ⟨g9,q9,rfl⟩:=ownsRow_succ hown;have HO9:=Aa (HC8.o.app9 (xs:=[(x.1:Int)]) HBT8.o (by decide) (by have:=HLT.o;omega) (by have:=HB6.o.size;have:=HN0.o;have:=HB8'.o.size;omega) hown hgr);clear cb9 hown hgr hnil))
    | (refine Iq (.tmp 9) (.tmp 53) rfl rfl rfl rfl (by kernel_rfl) HO9.o.1 ?_;intro W10 hw;have HC10:=Aa HO9.o.2.1;have HBT10:=Aa HO9.o.2.2.1;have HK10:=Aa HO9.o.2.2.2.1;have HB10:=Aa HO9.o.2.2.2.2;rw [← hw] at HC10 HBT10 HK10 HB10;clear hw HO9))
   have hsel:(pre++[x]).filter (fun y=>onP rows s y.1 == 13)=pre.filter (fun y=>onP rows s y.1 == 13)++[x]:=by rw [List.filter_append];simp [← HK.o]
   have hk:KeepsFrom W8.heap.size W W10:=((KeepsFrom.of_grownBy (row:=none) (Et HB6.o) (fun j e=>by cases e)).trans (HK8.o.from _)).trans (HK10.o.from _)
   have hbl:Below W1.heap.size W W10:=((HB6.o.mono HN0.o).trans HB8'.o).trans HB10.o
   have hbx:∃ v8 v9,ChoB W1.heap.size W10 (rs++((pre++[x]).filter fun y=>onP rows s y.1 == 13).map fun _=>(13:Int)) (ms++((pre++[x]).filter fun y=>onP rows s y.1 == 13).map fun y=>((y.1:Nat):Int)) v8 v9:=by
    rw [hsel,List.map_append,List.map_append,← List.append_assoc,← List.append_assoc]
    exact ⟨_,_,HC10.o⟩
   refine ⟨hk,fun g hg=>?_,HI.o.bel.trans hbl,HBT10.o,hbx⟩
   rcases hg with rfl | rfl
   ·exact hbl.block 0 (by have:=HS1.o;omega)
   ·exact HBT10.o.trans HI.o.bits.symm
  ·have h13':(kd == 13)=false:=by simpa using h13
   have HH:=Aa h13
   clear h13
   gi_wp2_with (first
    | (refine Ea (.tmp 3) rfl rfl rfl HQW.o ?_)
    | (refine ⟨trivial,?_⟩;gi_at_call 108;refine (CallsIn.inRound l (callsIn_wide.2 HO.o)).mono ?_;rintro e W6 ⟨rfl,hb6⟩;have HB6:=Aa hb6;clear hb6))
   have hsel:(pre++[x]).filter (fun y=>onP rows s y.1 == 13)=pre.filter (fun y=>onP rows s y.1 == 13):=by rw [List.filter_append];simp [← HK.o,HH.o]
   refine ⟨KeepsFrom.of_grownBy (row:=none) (Et HB6.o) (fun j e=>by cases e),Kx (fun g hg=>Nat.lt_of_lt_of_le (HZ0.o g hg) HI.o.bel.size) HB6.o,?_⟩
   show Cho W8 W1.heap.size W7.heap.size s.left _ _ W6
   rw [hsel]
   obtain ⟨v8,v9,hb⟩:=HI.o.bx
   exact ⟨HI.o.bel.trans (HB6.o.mono HN0.o),HI.o.bits.below HB6.o,v8,v9,hb.below HB6.o⟩
 case done=>
  rintro D ys W hD hys hI hK
  have HI:=Aa hI
  obtain ⟨v8,v9,hb⟩:=HI.o.bx
  have HC:=Aa hb
  have cb8:=hb.b8.cell
  have cb9:=hb.b9.cell
  clear hb hI
  gi_wp2
  refine wpIn_region_quiet_lit rfl (by kernel_rfl) (by kernel_rfl) ?_
  repeat (
   refine wpQuietIn_step (by unfold Oper.askedIn;intros;trivial) (fun K hK=>?_)
   go_simp
   refine hK _ ?_;clear hK K)
  refine wpQuietIn_nil ?_
  intro _ hw'
  obtain ⟨nq,hw''⟩:=hw'
  subst hw''
  gi_wp2
  have hK8:(W.drewN nq).heap[D]? = some (.deferred (some [])):=by simpa using hK
  have HC2':=(HC.o.below (below_drewN W nq)).grown (grownBy_putObj' (W.drewN nq) D (.deferred none)) (fun r e=>by cases e;exact ⟨_,hK8,rfl⟩)
  have HDD:w.heap.size≤D:=by have:=HS1.o;have:=HLE.o;have:=HSZ.o;omega
  have hsl:((ys.filter fun y=>onP rows s y.1 == 13).map fun y=>y.1)=(List.range rows.length).filter (fun i=>s.left.testBit i && onP rows s i == 13):=gI H.o.ok.le HW.o.left hys
  have hbs:=HBASE.o _ hsl
  rw [List.map_map,List.map_map] at hbs
  refine ⟨by simp,.inl ⟨_,_,rfl,run_takeDeferred hK8,?_⟩⟩
  refine ⟨.tuple #[v8,v9,.int .i64 0],by simp [results,Tryz.results85,go_sem],v8,v9,rfl,?_,?_,?_⟩
  ·rw [← List.length_map (f:=fun c:Int × Nat=>c.1),hbs.1]
   exact own_base HC2'.r8 (by have:=HS1.o;omega)
  ·rw [← List.length_map (f:=fun c:Int × Nat=>(c.2:Int)),hbs.2]
   exact own_base HC2'.r9 (by have:=HS1.o;omega)
  ·exact ((HB1.o.trans ((HB8.o.trans HI.o.bel).mono HB1.o.size)).trans ((below_drewN W nq).mono (Nat.le_trans HB1.o.size (Nat.le_trans HB8.o.size HI.o.bel.size)))).trans (belowK_b (w:=w) (Nat.le_refl _) (W.drewN nq) D _ _ HDD hK8 rfl rfl)
end Go.Dk
end
section
namespace Go.Dk
open Go.RowKit Go.Maps Go.MapKept Go.Shelf
open Go.Proofs hiding intOf
attribute [local go_sem] Oper.semAt_some
set_option maxRecDepth 100000 in
set_option maxHeartbeats 2000000 in
theorem lA (k:Nat) (ow:Own) (w:World) (t:Value) (rows:List ND) (h:Tab k ow w t rows) (hT:TabG w) (s:SQ) (hs:Wf rows s) (h14:(Ak rows s).1=14) (h4:(rowAt rows s.goal).kind≠4) :
  Calls Tryz.prog 85 #[t,.agg (Ad s.left s.goal).toArray] w (Np w (Bj rows s)):=by
 obtain ⟨pb,rfl⟩:∃ pb,t = .pointer (some ⟨pb,0,none⟩):=by obtain ⟨pb,_,_,e,_⟩:=h;exact ⟨pb,e⟩
 have HB0:=Aa (Ac (Ab w (.cells #[.pointer (some ⟨pb,0,none⟩)] 24)) (Ab _ (.cells (Ad s.left s.goal).toArray 86)))
 have HQ0:Hid (Ae ((w.alloc (.cells #[.pointer (some ⟨pb,0,none⟩)] 24)).alloc (.cells (Ad s.left s.goal).toArray 86)) (w.heap.size+1) (Ad s.left s.goal) 86):=by
  have:=Ae.new (w.alloc (.cells #[.pointer (some ⟨pb,0,none⟩)] 24)) (Ad s.left s.goal) 86
  show Ae _ _ _ _
  simpa using this
 have HP0:Hid (Ae ((w.alloc (.cells #[.pointer (some ⟨pb,0,none⟩)] 24)).alloc (.cells (Ad s.left s.goal).toArray 86)) w.heap.size [.pointer (some ⟨pb,0,none⟩)] 24):=
  (Ae.new w [.pointer (some ⟨pb,0,none⟩)] 24).below (Ab _ (.cells (Ad s.left s.goal).toArray 86))
 have HL:Hid (∀ W,Below w.heap.size w W→Calls Tryz.prog 83 #[.pointer (some ⟨pb,0,none⟩),.agg (Ad s.left s.goal).toArray] W fun e w'=>e = .returned (.int .i64 0)∧Below W.heap.size W w'):=fun W hb=>look_ok k ow W _ rows (h.below hb) (hT.below hb) s hs
 have HA:Hid (∀ W,Below w.heap.size w W→Calls Tryz.prog 84 #[.pointer (some ⟨pb,0,none⟩),.agg (Ad s.left s.goal).toArray] W fun e w'=>e = .returned (.agg #[.int .i64 14,.int .i64 ((Ak rows s).2:Int)])∧Below W.heap.size W w'):=fun W hb=>by
  have:=Wb k ow W _ rows (h.below hb) (hT.below hb) s hs
  rw [h14] at this
  exact this
 obtain ⟨gn,hgn⟩:∃ gn,rowAt rows s.goal=gn:=⟨_,rfl⟩
 have HN:Hid (∀ W,Below w.heap.size w W→Calls Tryz.prog 104 #[.pointer (some ⟨pb,0,none⟩),.int .i64 (s.goal:Int)] W fun e w'=>e = .returned (.agg #[.int .i64 gn.kind,.string gn.name,.int .i64 gn.l,.int .i64 gn.r])∧Below W.heap.size W w'):=Dc k ow w _ rows h s.goal hs.goal gn hgn
 rw [hgn] at h4
 obtain ⟨gk,gm,gl,gr⟩:=gn
 simp only at h4 HN
 have h4':(gk == 4)=false:=by simpa using h4
 have HK4:=Aa h4
 have HGN:=Aa hgn
 have H:=Aa h;have HT:=Aa hT;have HW:=Aa hs
 have hfk:=fun W=>Ft (.int .i64 gk) (.string gm) (.int .i64 gl) (.int .i64 gr) W
 clear h hT hs h14 hgn h4
 refine (callsIn_wide (n:=8)).1 ?_
 refine callsIn_of_wp_marks Tryz.func85 rfl trivial ?_ rfl
 simp only [Tryz.ntmps85,List.size_toArray,List.length_cons,List.length_nil,Nat.reduceAdd,Nat.reduceSub,Array.replicate_succ,Array.replicate_zero,List.push_toArray,List.append_toArray,List.nil_append,List.cons_append]
 obtain ⟨i8,i81,i82,i83,i84⟩:=bS
 obtain ⟨i9,i91,i92,i93,i94⟩:=fS
 have hff:∀ W,(Instr.field 162 (.agg #[.int .i64 14,.int .i64 ((Ak rows s).2:Int)]) 0).run Tryz.prog W = .ok (.int .i64 14) W:=fun W=>by kernel_rfl
 gi_wp2_with (first
  | (refine Ea (.tmp 3) rfl rfl rfl HQ0.o ?_)
  | (refine ⟨trivial,?_⟩;gi_at_call 83;refine (callsIn_wide.2 (HL.o _ HB0.o)).mono ?_;clear HL;rintro e W1 ⟨rfl,hb1⟩;have HB1:=Aa (Ac HB0.o hb1);have HB11:=Aa (Ac (Ab W1 (.cells #[.slice none 0 0] 164)) (Ab _ (.cells #[.slice none 0 0] 23)));have HQ1:=Aa ((HQ0.o.below hb1).below HB11.o);have HP1:=Aa ((HP0.o.below hb1).below HB11.o);have c1:=HP1.o.cell (i:=0) rfl;have HC1:=Aa (mZ W1);have HS1:Hid (w.heap.size+2≤W1.heap.size):=(by have:=hb1.size;simp at this;exact this);clear hb1 HQ0 HP0)
  | (refine Ea (.tmp 3) rfl rfl rfl HQ1.o ?_)
  | (refine ⟨trivial,?_⟩;gi_at_call 84;refine (callsIn_wide.2 (HA.o _ (Ac HB1.o HB11.o))).mono ?_;clear HA;rintro e W2 ⟨rfl,hb2⟩;have HB2:=Aa (Ac HB11.o hb2);have HQ2:=Aa (HQ1.o.below hb2);have HP2:=Aa (HP1.o.below hb2);clear c1;have c1:=HP2.o.cell (i:=0) rfl;have c16:=HQ2.o.cell (Bl s.left s.goal);have HC2:=Aa (HC1.o.below hb2);clear hb2 HQ1 HP1)
  | (refine ⟨trivial,?_⟩;gi_at_call 104;refine (callsIn_wide.2 (HN.o _ (Ac HB1.o HB2.o))).mono ?_;clear HN;rintro e W3 ⟨rfl,hb3⟩;have HB3:=Aa (Ac HB2.o hb3);have HQ3:=Aa (HQ2.o.below hb3);have HP3:=Aa (HP2.o.below hb3);have HC3:=Aa (HC2.o.below hb3);have cb8:=HC3.o.b8.cell;clear c1 c16 hb3 HQ2 HP2)
  | (refine Ij (.tmp 38) rfl rfl rfl HQ3.o ?_)
  | (refine ⟨trivial,?_⟩;gi_at_call 52;refine (Rf _ _).mono ?_;rintro e w8 ⟨rfl,rfl⟩))
 have HB7:Hid (Below W1.heap.size W3 W3):=Below.refl _ _
 clear h4'
 have HRS:Hid (∃ v8 v9 rs ms,ChoB W1.heap.size W3 rs ms v8 v9∧rs = []∧ms = []):=⟨_,_,_,_,HC3.o,rfl,rfl⟩
 obtain ⟨rs,ms,HLEN,HC37,HBASE⟩:∃ rs ms:List Int,Hid (rs.length≤2∧ms.length≤2)∧Hid (∃ v8 v9,ChoB W1.heap.size W3 rs ms v8 v9)∧Hid (∀ l:List Nat,l=(List.range rows.length).filter (fun i=>s.left.testBit i && onP rows s i == 13)→(Bj rows s).map (·.1)=rs++l.map (fun _=>(13:Int))∧(Bj rows s).map (fun c=>(c.2:Int))=ms++l.map (fun i:Nat=>(i:Int))):=by
  obtain ⟨v8,v9,rs,ms,hc,rfl,rfl⟩:=HRS.o
  refine ⟨_,_,⟨by simp,by simp⟩,⟨v8,v9,hc⟩,fun l hl=>?_⟩
  unfold Bj
  rw [HGN.o,← hl,if_neg HK4.o]
  simp
 clear HRS hfk hff HGN
 have HB8:Hid (Below W1.heap.size W1 (W3.alloc (.cells (Ag s.left).toArray 77))):=((HB3.o.trans (HB7.o.mono (Nat.le_refl _))).trans ((Ab W3 _).mono (Nat.le_trans HB3.o.size HB7.o.size)))
 have HI0:Hid (Cho (W3.alloc (.cells (Ag s.left).toArray 77)) W1.heap.size W3.heap.size s.left rs ms (W3.alloc (.cells (Ag s.left).toArray 77))):=by
  obtain ⟨v8,v9,hc⟩:=HC37.o
  exact ⟨Below.refl _ _,Ae.new W3 (Ag s.left) 77,v8,v9,hc.below (Ab _ _)⟩
 have HQ8:=Aa (HQ3.o.below (Ab W3 (.cells (Ag s.left).toArray 77)))
 have HLT:Hid (W1.heap.size+1<W3.heap.size):=by obtain ⟨v8,v9,hc⟩:=HC37.o;exact hc.b9.lt
 have HSZ:Hid (W3.heap.size<(W3.alloc (.cells (Ag s.left).toArray 77)).heap.size):=by show W3.heap.size<_;simp
 have HLE:Hid (W1.heap.size≤W3.heap.size):=Nat.le_trans HB3.o.size HB7.o.size
 have HP8:Hid (Ae (W3.alloc (.cells (Ag s.left).toArray 77)) w.heap.size [.pointer (some ⟨pb,0,none⟩)] 24):=((HB7.o.trans ((Ab W3 _).mono HLE.o)).block w.heap.size (by have:=HS1.o;omega)).trans HP3.o
 generalize (W3.alloc (.cells (Ag s.left).toArray 77))=W8 at *
 have HZ0:Hid (∀ g,(g=0∨g=W3.heap.size)→g<W8.heap.size):=fun g hg=>by
  have:=HSZ.o
  rcases hg with rfl | rfl<;>omega
 have HTG:Hid (TabG W8):=HT.o.below (HB1.o.trans (HB8.o.mono HB1.o.size))
 refine' wpIn_rangeFunc_ownG (I:=fun pre W=>Cho W8 W1.heap.size W3.heap.size s.left (rs++(pre.filter fun y=>onP rows s y.1 == 13).map fun _=>(13:Int)) (ms++(pre.filter fun y=>onP rows s y.1 == 13).map fun y=>((y.1:Nat):Int)) W) (Ix:=fun _ _ _=>False) (Kp:=Lh fun g=>g=0∨g=W3.heap.size)
  rfl (by omega) (gf:=70) (lb:=#[.pointer (some ⟨W3.heap.size,0,none⟩)]) rfl trivial (enters_of Tryz.func70 (by kernel_rfl) rfl)
  (all_stops _ (by omega) W3.heap.size s.left _ (.inl rfl) (.inr rfl) W8 HZ0.o HTG.o HI0.o.bits) Pn (Uz HZ0.o) (Below.refl _ _) (fun _=>rfl)
  (fun _ _ _ _ hs hg hr=>hs.grown hg (fun r e=>⟨Nat.le_trans (Nat.le_of_lt (Nat.lt_of_le_of_lt HLE.o HSZ.o)) (hr r e).1,(hr r e).2⟩)) (fun _ _ _ _ _ hs _ _=>hs) (by simpa using HI0.o) _ ?assign ?body ?done ?stop
 case assign=>
  intro l x W K hK
  unfold eO
  gi_wp2
  exact hK
 case stop=>rintro _ _ _ _ _ _ h _;exact h.elim
 case body=>
  rintro l pre x W hI hpl
  have HI:=Aa hI
  have HLR:Hid ((rs++(pre.filter fun y=>onP rows s y.1 == 13).map fun _=>(13:Int)).length≤1030∧(ms++(pre.filter fun y=>onP rows s y.1 == 13).map fun y=>((y.1:Nat):Int)).length≤1030):=by
   have h1:=HLEN.o
   have h2:=List.length_filter_le (fun y:Mem s.left=>onP rows s y.1 == 13) pre
   simp only [List.length_append,List.length_map]
   constructor<;>omega
  clear hpl
  have hlt:x.1<rows.length:=HW.o.left _ x.2.2
  have hbx:Ae W w.heap.size [.pointer (some ⟨pb,0,none⟩)] 24:=(HI.o.bel.block w.heap.size (by have:=HS1.o;omega)).trans HP8.o
  have c1:W.cell? ⟨w.heap.size,0,none⟩=some (.pointer (some ⟨pb,0,none⟩)):=hbx.cell (i:=0) rfl
  clear hbx
  have HQW:Hid (Ae W (w.heap.size+1) (Ad s.left s.goal) 86):=(HI.o.bel.block _ (by have:=HS1.o;omega)).trans HQ8.o
  have HTW:Hid (Tab k ow W (.pointer (some ⟨pb,0,none⟩)) rows):=H.o.below (HB1.o.trans ((HB8.o.trans HI.o.bel).mono HB1.o.size))
  have HO:=Aa (on_any k ow W _ rows HTW.o s s.goal x.1 hlt)
  obtain ⟨kd,hkd⟩:∃ kd,kd=onP rows s x.1:=⟨_,rfl⟩
  rw [← hkd] at HO
  have HK:=Aa hkd
  have HN0:Hid (W1.heap.size≤W.heap.size):=Nat.le_trans HLE.o (Nat.le_trans (Nat.le_of_lt HSZ.o) HI.o.bel.size)
  clear hI hlt hkd
  by_cases h13:kd=13
  ·subst h13
   obtain ⟨v8,v9,hb⟩:=HI.o.bx
   have HC:=Aa hb
   clear hb
   gi_wp2_with (first
    | (refine Ea (.tmp 3) rfl rfl rfl HQW.o ?_)
    | (refine ⟨trivial,?_⟩;gi_at_call 108;refine (CallsIn.inRound l (callsIn_wide.2 HO.o)).mono ?_;rintro e W6 ⟨rfl,hb6⟩;have HB6:=Aa hb6;have HC6:=Aa (HC.o.below hb6);have HBT6:=Aa (HI.o.bits.below hb6);have cb8:=HC6.o.b8.cell;clear hb6)
    | (gi_at_builtin;go_loud (refine wpListIn_append_own _ rfl (.tmp 47) (.tmp 48) 164 rfl W1.heap.size 120 i8 (.int .i64 0) 1 8 Tryz.underlying164 i81 i82 i83 i84 rfl (by decide) v8 _ _ rfl (HC6.o.below (Ab W6 _)).r8 ⟨W6.heap.size,0,none⟩ 1 1 (ints [13]) rfl rfl (fun j u hu=>Rk W6 120 13 j u hu) (by simp [ints,Value.oneCell']) (by have:=HLR.o;unfold maxLen;omega) (by have:=HLR.o;omega) (by have:=HB6.o.size;have:=HN0.o;simp;omega) ?_;intro v8' w7 hown hgr hnil;obtain ⟨g8,q8,rfl⟩:=ownsRow_succ hown;have HO7:=Aa (HC6.o.app8 (xs:=[13]) HBT6.o (by decide) (by have:=HLT.o;omega) (by have:=HB6.o.size;have:=HN0.o;omega) hown hgr);clear cb8 hown hgr hnil))
    | (refine Iq (.tmp 8) (.tmp 49) rfl rfl rfl rfl (by kernel_rfl) HO7.o.1 ?_;intro W8' hw;have HC8:=Aa HO7.o.2.1;have HBT8:=Aa HO7.o.2.2.1;have HK8:=Aa HO7.o.2.2.2.1;have HB8':=Aa HO7.o.2.2.2.2;rw [← hw] at HC8 HBT8 HK8 HB8';have cb9:=HC8.o.b9.cell;clear hw HO7)
    | (gi_at_builtin;go_loud (refine wpListIn_append_own _ rfl (.tmp 50) (.tmp 52) 23 rfl W1.heap.size 3 i9 (.int .i64 0) 1 8 Tryz.underlying23 i91 i92 i93 i94 rfl (by decide) v9 _ _ rfl (HC8.o.below (Ab W8' _)).r9 ⟨W8'.heap.size,0,none⟩ 1 1 (ints [(x.1:Int)]) rfl rfl (fun j u hu=>Rk W8' 3 _ j u hu) (by simp [ints,Value.oneCell']) (by have:=HLR.o;unfold maxLen;omega) (by have:=HLR.o;omega) (by have:=HB6.o.size;have:=HN0.o;have:=HB8'.o.size;simp;omega) ?_;intro v9' w9 hown hgr hnil;obtain ⟨g9,q9,rfl⟩:=ownsRow_succ hown;have HO9:=Aa (HC8.o.app9 (xs:=[(x.1:Int)]) HBT8.o (by decide) (by have:=HLT.o;omega) (by have:=HB6.o.size;have:=HN0.o;have:=HB8'.o.size;omega) hown hgr);clear cb9 hown hgr hnil))
    | (refine Iq (.tmp 9) (.tmp 53) rfl rfl rfl rfl (by kernel_rfl) HO9.o.1 ?_;intro W10 hw;have HC10:=Aa HO9.o.2.1;have HBT10:=Aa HO9.o.2.2.1;have HK10:=Aa HO9.o.2.2.2.1;have HB10:=Aa HO9.o.2.2.2.2;rw [← hw] at HC10 HBT10 HK10 HB10;clear hw HO9))
   have hsel:(pre++[x]).filter (fun y=>onP rows s y.1 == 13)=pre.filter (fun y=>onP rows s y.1 == 13)++[x]:=by rw [List.filter_append];simp [← HK.o]
   have hk:KeepsFrom W8.heap.size W W10:=((KeepsFrom.of_grownBy (row:=none) (Et HB6.o) (fun j e=>by cases e)).trans (HK8.o.from _)).trans (HK10.o.from _)
   have hbl:Below W1.heap.size W W10:=((HB6.o.mono HN0.o).trans HB8'.o).trans HB10.o
   have hbx:∃ v8 v9,ChoB W1.heap.size W10 (rs++((pre++[x]).filter fun y=>onP rows s y.1 == 13).map fun _=>(13:Int)) (ms++((pre++[x]).filter fun y=>onP rows s y.1 == 13).map fun y=>((y.1:Nat):Int)) v8 v9:=by
    rw [hsel,List.map_append,List.map_append,← List.append_assoc,← List.append_assoc]
    exact ⟨_,_,HC10.o⟩
   refine ⟨hk,fun g hg=>?_,HI.o.bel.trans hbl,HBT10.o,hbx⟩
   rcases hg with rfl | rfl
   ·exact hbl.block 0 (by have:=HS1.o;omega)
   ·exact HBT10.o.trans HI.o.bits.symm
  ·have h13':(kd == 13)=false:=by simpa using h13
   have HH:=Aa h13
   clear h13
   gi_wp2_with (first
    | (refine Ea (.tmp 3) rfl rfl rfl HQW.o ?_)
    | (refine ⟨trivial,?_⟩;gi_at_call 108;refine (CallsIn.inRound l (callsIn_wide.2 HO.o)).mono ?_;rintro e W6 ⟨rfl,hb6⟩;have HB6:=Aa hb6;clear hb6))
   have hsel:(pre++[x]).filter (fun y=>onP rows s y.1 == 13)=pre.filter (fun y=>onP rows s y.1 == 13):=by rw [List.filter_append];simp [← HK.o,HH.o]
   refine ⟨KeepsFrom.of_grownBy (row:=none) (Et HB6.o) (fun j e=>by cases e),Kx (fun g hg=>Nat.lt_of_lt_of_le (HZ0.o g hg) HI.o.bel.size) HB6.o,?_⟩
   show Cho W8 W1.heap.size W3.heap.size s.left _ _ W6
   rw [hsel]
   obtain ⟨v8,v9,hb⟩:=HI.o.bx
   exact ⟨HI.o.bel.trans (HB6.o.mono HN0.o),HI.o.bits.below HB6.o,v8,v9,hb.below HB6.o⟩
 case done=>
  rintro D ys W hD hys hI hK
  have HI:=Aa hI
  obtain ⟨v8,v9,hb⟩:=HI.o.bx
  have HC:=Aa hb
  have cb8:=hb.b8.cell
  have cb9:=hb.b9.cell
  clear hb hI
  gi_wp2
  refine wpIn_region_quiet_lit rfl (by kernel_rfl) (by kernel_rfl) ?_
  repeat (
   refine wpQuietIn_step (by unfold Oper.askedIn;intros;trivial) (fun K hK=>?_)
   go_simp
   refine hK _ ?_;clear hK K)
  refine wpQuietIn_nil ?_
  intro _ hw'
  obtain ⟨nq,hw''⟩:=hw'
  subst hw''
  gi_wp2
  have hK8:(W.drewN nq).heap[D]? = some (.deferred (some [])):=by simpa using hK
  have HC2':=(HC.o.below (below_drewN W nq)).grown (grownBy_putObj' (W.drewN nq) D (.deferred none)) (fun r e=>by cases e;exact ⟨_,hK8,rfl⟩)
  have HDD:w.heap.size≤D:=by have:=HS1.o;have:=HLE.o;have:=HSZ.o;omega
  have hsl:((ys.filter fun y=>onP rows s y.1 == 13).map fun y=>y.1)=(List.range rows.length).filter (fun i=>s.left.testBit i && onP rows s i == 13):=gI H.o.ok.le HW.o.left hys
  have hbs:=HBASE.o _ hsl
  rw [List.map_map,List.map_map] at hbs
  refine ⟨by simp,.inl ⟨_,_,rfl,run_takeDeferred hK8,?_⟩⟩
  refine ⟨.tuple #[v8,v9,.int .i64 0],by simp [results,Tryz.results85,go_sem],v8,v9,rfl,?_,?_,?_⟩
  ·rw [← List.length_map (f:=fun c:Int × Nat=>c.1),hbs.1]
   exact own_base HC2'.r8 (by have:=HS1.o;omega)
  ·rw [← List.length_map (f:=fun c:Int × Nat=>(c.2:Int)),hbs.2]
   exact own_base HC2'.r9 (by have:=HS1.o;omega)
  ·exact ((HB1.o.trans ((HB8.o.trans HI.o.bel).mono HB1.o.size)).trans ((below_drewN W nq).mono (Nat.le_trans HB1.o.size (Nat.le_trans HB8.o.size HI.o.bel.size)))).trans (belowK_b (w:=w) (Nat.le_refl _) (W.drewN nq) D _ _ HDD hK8 rfl rfl)
theorem dQ (F:FP) (w:World) (t:Value) (rows:List ND) (hF:Cm F w t rows) (hT:TabG w) (s:SQ) (hs:Wf rows s) (h14:(Ak rows s).1=14) :
  Calls Tryz.prog 85 #[t,.agg (Ad s.left s.goal).toArray] w (Np w (Bj rows s)):=by
 by_cases h4:(rowAt rows s.goal).kind=4
 ·exact jN 0 _ w t rows (hF.col 0) hT s hs h14 h4
 ·exact lA 0 _ w t rows (hF.col 0) hT s hs h14 h4
end Go.Dk
end
