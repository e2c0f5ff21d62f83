/- Parts of the proof: Vp, Vq, Vr, Vs. -/
import Derived.Test.YthhokkfcdbcllaaGreatDoorR01
import Derived.Test.YthhokkfcdbcllaaGreatDoorR02
import Derived.Test.YthhokkfcdbcllaaGreatDoorR03
import Derived.Test.YthhokkfcdbcllaaGreatDoorR04
import Derived.Test.YthhokkfcdbcllaaGreatDoorR05
import Derived.Test.YthhokkfcdbcllaaGreatDoorR06
import Derived.Test.YthhokkfcdbcllaaGreatDoorR07
import Derived.Test.YthhokkfcdbcllaaGreatDoorR08
import Derived.Test.YthhokkfcdbcllaaGreatDoorR09
import Derived.Test.YthhokkfcdbcllaaGreatDoorR10
import Derived.Test.YthhokkfcdbcllaaGreatDoorR11
import Derived.Test.YthhokkfcdbcllaaGreatDoorR12
import Derived.Test.YthhokkfcdbcllaaGreatDoorR15
import Derived.Test.YthhokkfcdbcllaaGreatDoorR17
section
namespace Go.Dk
open Go.RowKit Go.Maps Go.MapKept
open Go.Proofs hiding intOf
attribute [local go_sem ↓] Dv
attribute [local go_sem] Du
set_option maxRecDepth 100000 in
set_option maxHeartbeats 2000000 in
theorem kK (F:FP) (w:World) (t:Value) (rows:List ND) (hF:Bn F w t rows) (s:SQ) (main:Nat) (hm:main<rows.length) (hfit:Az rows s 8 main=true) (kd:Int) (nm:ByteArray) (l r:Nat) (hx:rowAt rows main=⟨kd,nm,(l:Int),(r:Int)⟩) (hl:l<1024) (hr:r<1024) :
  Calls Tryz.prog 94 #[t,.agg (Ad s.left s.goal).toArray,.int .i64 8,.int .i64 (main:Int)] w (Fe F w t ⟨rows,0,[⟨Aw (Aw s.left l) l,r⟩]⟩):=by
 have HB0:=Aa (Ab w (.cells (Ad s.left s.goal).toArray 86))
 have HQ0:=Aa (Ae.new w (Ad s.left s.goal) 86)
 have HFI:Hid (∀ W,Below w.heap.size w W→Calls Tryz.prog 120 #[t,.agg (Ad s.left s.goal).toArray,.int .i64 8,.int .i64 (main:Int)] W fun e w'=>e = .returned (.bool true)∧Below W.heap.size W w'):=fun W hb=>hfit▸(hF.below hb).read fun k ow ht=>Dh k ow W t rows ht s main hm 8 (by decide) (by decide)
 have HM:Hid (main<1024):=Nat.lt_of_lt_of_le hm hF.ok.le
 have HL:=Aa hl
 have HR:=Aa hr
 have HT:=Aa hF
 obtain ⟨pb,v0,rfl,hat⟩:=hF.col 0
 obtain ⟨g,c,rfl,hrr⟩:=hat.row (Am hm)
 rw [hx] at hrr
 have HRR:=Aa hrr
 have h1:(main:Int)<(rows.length:Int):=by omega
 clear hat hrr hx hm hfit hl hr hF
 go_enter Tryz.func94,Tryz.ntmps94
 go_wp2_with (first
  | (refine Ah (.tmp 5) rfl rfl rfl HQ0.o ?_)
  | (go_at_call 120;refine (HFI.o _ HB0.o).mono ?_;rintro e W1 ⟨rfl,hb1⟩;have HB1:=Aa (Ac HB0.o hb1);have HQ1:=Aa (HQ0.o.below hb1);have hr1:=HRR.o.below HB1.o;have c0:=hr1.cp;have d0:=hr1.d0;have d1:=hr1.d1;have d2:=hr1.d2;have d3:=hr1.d3;clear hb1 hr1 HFI HQ0)
  | (have HX2:=Aa (Ae.new W1 (ND.mk kd nm (l:Int) (r:Int)).cells 31);have HB12:=Aa (Ab W1 (.cells (ND.mk kd nm (l:Int) (r:Int)).cells.toArray 31));have HQ2:=Aa (HQ1.o.below HB12.o);have e0:(.cells #[.int .i64 kd,.string nm,.int .i64 (l:Int),.int .i64 (r:Int)] 31:Obj) = .cells (ND.mk kd nm (l:Int) (r:Int)).cells.toArray 31:=rfl;rw [e0];generalize W1.alloc (.cells (ND.mk kd nm (l:Int) (r:Int)).cells.toArray 31)=W2 at *;clear e0 c0 d0 d1 d2 d3;have HB2:=Aa (Ac HB1.o HB12.o);refine Ah (.tmp 5) rfl rfl rfl HQ2.o ?_)
  | (refine Ar (.tmp 11) (.tmp 36) rfl rfl rfl rfl (Ae.new W2 (Ad 0 0) 86) (Ai _ _) ?_;intro W3 hb3 ho3;have HR3:=Aa hb3;have HB23:=Aa ((Ab W2 _).trans (ho3.below (Nat.le_refl _)));have HB3:=Aa (HB2.o.trans (HB23.o.mono HB2.o.size));have HQ3:=Aa (HQ2.o.below HB23.o);have HX3:=Aa (HX2.o.below HB23.o);clear hb3 ho3)
  | (refine Ap (.tmp 37) rfl rfl rfl HQ3.o ?_)
  | (go_at_call 121;refine (Dn W3 s.left main HM.o).mono ?_;rintro e W4 ⟨rfl,hb4⟩;have HB4:=Aa (Ac HB3.o hb4);have HR4:=Aa (HR3.o.below hb4);have HQ4:=Aa (HQ3.o.below hb4);have HX4:=Aa (HX3.o.below hb4);clear hb4)
  | (refine Au (.tmp 41) (.tmp 40) rfl rfl rfl rfl HR4.o ?_;intro W5 hb5 ho5;have HR5:=Aa hb5;have HX5:=Aa (HX4.o.only ho5 (Nat.ne_of_lt HX2.o.lt));have HQ5:=Aa (HQ4.o.only ho5 (Nat.ne_of_lt HQ2.o.lt));have c2:=HX5.o.cell (i:=2) rfl;have c3:=HX5.o.cell (i:=3) rfl;have HB5:=Aa (HB4.o.trans (ho5.below HB2.o.size));clear hb5 ho5;simp only at c2 c3))
 have hld:∀ W',Aft W5 W'→Bf 86 W' (.pointer (some ⟨w.heap.size,0,none⟩)):=fun W' hb=>(An (HQ5.o.below hb).loads).1
 have hlv:∀ W',Aft W5 W'→Dq 86 W' (.pointer (some ⟨w.heap.size,0,none⟩))=_:=fun W' hb=>(An (HQ5.o.below hb).loads).2
 have hldr:∀ W',Aft W5 W'→Bf 86 W' (.pointer (some ⟨W2.heap.size,0,none⟩)):=fun W' hb=>(An (HR5.o.below hb).loads).1
 have hlvr:∀ W',Aft W5 W'→Dq 86 W' (.pointer (some ⟨W2.heap.size,0,none⟩))=_:=fun W' hb=>(An (HR5.o.below hb).loads).2
 have hcl2:∀ W',Aft W5 W'→W'.cell? ⟨W1.heap.size,2,none⟩=some (.int .i64 (l:Int)):=fun W' hb=>(HX5.o.below hb).cell (i:=2) rfl
 have hcl3:∀ W',Aft W5 W'→W'.cell? ⟨W1.heap.size,3,none⟩=some (.int .i64 (r:Int)):=fun W' hb=>(HX5.o.below hb).cell (i:=3) rfl
 have HK:Hid (∀ W',Below W5.heap.size W5 W'→Aft W5 W'):=fun W' hb=>hb
 have HD:=Aa (below_drewN W5 1)
 have hfs:∀ (l:List (Value × Nat)) (cs:Array Value),(List.foldl (fun (cs:Array Value) (x:Value × Nat)=>cs.setIfInBounds x.2 x.1) cs l).size=cs.size:=fold_size
 have HW1:=Aa (fun W=>Fo W s.left l l s.goal HL.o HL.o)
 have HW2:=Aa (fun W=>Lr W (Aw (Aw s.left l) l) s.goal (r:Int))
 clear c2 c3
 as_aux_lemma=>
  go_region_held3 (fun W'=>Aft W5 W')
   (((refine HK.o _ ?_;repeat (with_reducible first | exact HB12.o | exact HB11.o | exact HB10.o | exact HB9.o | exact Below.refl _ _ | exact HD.o | refine Ac ?_ (Ab _ _) | refine Ac ?_ (Db _)))))
   (first
    | (go_at_call 122;refine (HW1.o _).mono ?_;clear HW1;rintro e W9 ⟨rfl,hb9⟩;have HB9:Hid (Below W5.heap.size W5 W9):=Ac (by repeat (with_reducible first | exact HB12.o | exact HB11.o | exact HB10.o | exact HB9.o | exact Below.refl _ _ | exact HD.o | refine Ac ?_ (Ab _ _) | refine Ac ?_ (Db _))) hb9;have hsl9:=Ai (Aw (Aw s.left l) l) s.goal;clear hb9)
    | (go_at_call 124;refine (HW2.o _).mono ?_;clear HW2;rintro e W10 ⟨rfl,hb10⟩;have HB10:Hid (Below W5.heap.size W5 W10):=Ac (by repeat (with_reducible first | exact HB12.o | exact HB11.o | exact HB10.o | exact HB9.o | exact Below.refl _ _ | exact HD.o | refine Ac ?_ (Ab _ _) | refine Ac ?_ (Db _))) hb10;have hsl10:=Ai (Aw (Aw s.left l) l) (r:Int);clear hb10))
  all_goals
   as_aux_lemma=>
   go_wp2_with fail
   rw [Fh]
   refine bodyPost_ret (v:=.tuple #[.slice (some ⟨W10.heap.size,0,none⟩) 1 1,.int .i64 0]) (by simp [results,Tryz.results94,go_sem]) rfl ?_
   exact Gv (KeptF.of_below HT.o.in_ HB5.o) (HT.o.below HB5.o) HB10.o rfl (by simp [-List.flatMap_toArray])
set_option maxRecDepth 100000 in
set_option maxHeartbeats 2000000 in
theorem jW (F:FP) (w:World) (t:Value) (rows:List ND) (hF:Bn F w t rows) (s:SQ) (main:Nat) (hm:main<rows.length) (hfit:Az rows s 9 main=true) (kd:Int) (nm:ByteArray) (l r:Nat) (hx:rowAt rows main=⟨kd,nm,(l:Int),(r:Int)⟩) (hl:l<1024) (hr:r<1024) :
  Calls Tryz.prog 94 #[t,.agg (Ad s.left s.goal).toArray,.int .i64 9,.int .i64 (main:Int)] w (Fe F w t ⟨rows,0,[⟨s.left,l⟩,⟨s.left,r⟩]⟩):=by
 have HB0:=Aa (Ab w (.cells (Ad s.left s.goal).toArray 86))
 have HQ0:=Aa (Ae.new w (Ad s.left s.goal) 86)
 have HFI:Hid (∀ W,Below w.heap.size w W→Calls Tryz.prog 120 #[t,.agg (Ad s.left s.goal).toArray,.int .i64 9,.int .i64 (main:Int)] W fun e w'=>e = .returned (.bool true)∧Below W.heap.size W w'):=fun W hb=>hfit▸(hF.below hb).read fun k ow ht=>Dh k ow W t rows ht s main hm 9 (by decide) (by decide)
 have HM:Hid (main<1024):=Nat.lt_of_lt_of_le hm hF.ok.le
 have HL:=Aa hl
 have HR:=Aa hr
 have HT:=Aa hF
 obtain ⟨pb,v0,rfl,hat⟩:=hF.col 0
 obtain ⟨g,c,rfl,hrr⟩:=hat.row (Am hm)
 rw [hx] at hrr
 have HRR:=Aa hrr
 have h1:(main:Int)<(rows.length:Int):=by omega
 clear hat hrr hx hm hfit hl hr hF
 go_enter Tryz.func94,Tryz.ntmps94
 go_wp2_with (first
  | (refine Ah (.tmp 5) rfl rfl rfl HQ0.o ?_)
  | (go_at_call 120;refine (HFI.o _ HB0.o).mono ?_;rintro e W1 ⟨rfl,hb1⟩;have HB1:=Aa (Ac HB0.o hb1);have HQ1:=Aa (HQ0.o.below hb1);have hr1:=HRR.o.below HB1.o;have c0:=hr1.cp;have d0:=hr1.d0;have d1:=hr1.d1;have d2:=hr1.d2;have d3:=hr1.d3;clear hb1 hr1 HFI HQ0)
  | (have HX2:=Aa (Ae.new W1 (ND.mk kd nm (l:Int) (r:Int)).cells 31);have HB12:=Aa (Ab W1 (.cells (ND.mk kd nm (l:Int) (r:Int)).cells.toArray 31));have HQ2:=Aa (HQ1.o.below HB12.o);have e0:(.cells #[.int .i64 kd,.string nm,.int .i64 (l:Int),.int .i64 (r:Int)] 31:Obj) = .cells (ND.mk kd nm (l:Int) (r:Int)).cells.toArray 31:=rfl;rw [e0];generalize W1.alloc (.cells (ND.mk kd nm (l:Int) (r:Int)).cells.toArray 31)=W2 at *;clear e0 c0 d0 d1 d2 d3;have HB2:=Aa (Ac HB1.o HB12.o);refine Ah (.tmp 5) rfl rfl rfl HQ2.o ?_)
  | (refine Ar (.tmp 11) (.tmp 36) rfl rfl rfl rfl (Ae.new W2 (Ad 0 0) 86) (Ai _ _) ?_;intro W3 hb3 ho3;have HR3:=Aa hb3;have HB23:=Aa ((Ab W2 _).trans (ho3.below (Nat.le_refl _)));have HB3:=Aa (HB2.o.trans (HB23.o.mono HB2.o.size));have HQ3:=Aa (HQ2.o.below HB23.o);have HX3:=Aa (HX2.o.below HB23.o);clear hb3 ho3)
  | (refine Ap (.tmp 37) rfl rfl rfl HQ3.o ?_)
  | (go_at_call 121;refine (Dn W3 s.left main HM.o).mono ?_;rintro e W4 ⟨rfl,hb4⟩;have HB4:=Aa (Ac HB3.o hb4);have HR4:=Aa (HR3.o.below hb4);have HQ4:=Aa (HQ3.o.below hb4);have HX4:=Aa (HX3.o.below hb4);clear hb4)
  | (refine Au (.tmp 41) (.tmp 40) rfl rfl rfl rfl HR4.o ?_;intro W5 hb5 ho5;have HR5:=Aa hb5;have HX5:=Aa (HX4.o.only ho5 (Nat.ne_of_lt HX2.o.lt));have HQ5:=Aa (HQ4.o.only ho5 (Nat.ne_of_lt HQ2.o.lt));have c2:=HX5.o.cell (i:=2) rfl;have c3:=HX5.o.cell (i:=3) rfl;have HB5:=Aa (HB4.o.trans (ho5.below HB2.o.size));clear hb5 ho5;simp only at c2 c3))
 have hld:∀ W',Aft W5 W'→Bf 86 W' (.pointer (some ⟨w.heap.size,0,none⟩)):=fun W' hb=>(An (HQ5.o.below hb).loads).1
 have hlv:∀ W',Aft W5 W'→Dq 86 W' (.pointer (some ⟨w.heap.size,0,none⟩))=_:=fun W' hb=>(An (HQ5.o.below hb).loads).2
 have hldr:∀ W',Aft W5 W'→Bf 86 W' (.pointer (some ⟨W2.heap.size,0,none⟩)):=fun W' hb=>(An (HR5.o.below hb).loads).1
 have hlvr:∀ W',Aft W5 W'→Dq 86 W' (.pointer (some ⟨W2.heap.size,0,none⟩))=_:=fun W' hb=>(An (HR5.o.below hb).loads).2
 have hcl2:∀ W',Aft W5 W'→W'.cell? ⟨W1.heap.size,2,none⟩=some (.int .i64 (l:Int)):=fun W' hb=>(HX5.o.below hb).cell (i:=2) rfl
 have hcl3:∀ W',Aft W5 W'→W'.cell? ⟨W1.heap.size,3,none⟩=some (.int .i64 (r:Int)):=fun W' hb=>(HX5.o.below hb).cell (i:=3) rfl
 have HK:Hid (∀ W',Below W5.heap.size W5 W'→Aft W5 W'):=fun W' hb=>hb
 have HD:=Aa (below_drewN W5 1)
 have hfs:∀ (l:List (Value × Nat)) (cs:Array Value),(List.foldl (fun (cs:Array Value) (x:Value × Nat)=>cs.setIfInBounds x.2 x.1) cs l).size=cs.size:=fold_size
 have HW1:=Aa (fun W=>Lr W s.left s.goal (l:Int))
 have HW2:=Aa (fun W=>Lr W s.left s.goal (r:Int))
 clear c2 c3
 as_aux_lemma=>
  go_region_held3 (fun W'=>Aft W5 W')
   (((refine HK.o _ ?_;repeat (with_reducible first | exact HB12.o | exact HB11.o | exact HB10.o | exact HB9.o | exact Below.refl _ _ | exact HD.o | refine Ac ?_ (Ab _ _) | refine Ac ?_ (Db _)))))
   (first
    | (go_at_call 124;refine (HW1.o _).mono ?_;clear HW1;rintro e W9 ⟨rfl,hb9⟩;have HB9:Hid (Below W5.heap.size W5 W9):=Ac (by repeat (with_reducible first | exact HB12.o | exact HB11.o | exact HB10.o | exact HB9.o | exact Below.refl _ _ | exact HD.o | refine Ac ?_ (Ab _ _) | refine Ac ?_ (Db _))) hb9;have hsl9:=Ai s.left (l:Int);clear hb9)
    | (go_at_call 124;refine (HW2.o _).mono ?_;clear HW2;rintro e W10 ⟨rfl,hb10⟩;have HB10:Hid (Below W5.heap.size W5 W10):=Ac (by repeat (with_reducible first | exact HB12.o | exact HB11.o | exact HB10.o | exact HB9.o | exact Below.refl _ _ | exact HD.o | refine Ac ?_ (Ab _ _) | refine Ac ?_ (Db _))) hb10;have hsl10:=Ai s.left (r:Int);clear hb10))
  all_goals
   as_aux_lemma=>
   go_wp2_with fail
   rw [Lq _ _ _ _ _ rfl]
   refine bodyPost_ret (v:=.tuple #[.slice (some ⟨W10.heap.size,0,none⟩) 2 2,.int .i64 0]) (by simp [results,Tryz.results94,go_sem]) rfl ?_
   exact Gv (KeptF.of_below HT.o.in_ HB5.o) (HT.o.below HB5.o) HB10.o rfl (by simp [-List.flatMap_toArray])
set_option maxRecDepth 100000 in
set_option maxHeartbeats 2000000 in
theorem fY (F:FP) (w:World) (t:Value) (rows:List ND) (hF:Bn F w t rows) (s:SQ) (main:Nat) (hm:main<rows.length) (hfit:Az rows s 10 main=true) (kd:Int) (nm:ByteArray) (l r:Nat) (hx:rowAt rows main=⟨kd,nm,(l:Int),(r:Int)⟩) (hl:l<1024) (hr:r<1024) :
  Calls Tryz.prog 94 #[t,.agg (Ad s.left s.goal).toArray,.int .i64 10,.int .i64 (main:Int)] w (Fe F w t ⟨rows,0,[⟨Aw (Aw (Be s.left main) l) l,s.goal⟩,⟨Aw (Aw (Be s.left main) r) r,s.goal⟩]⟩):=by
 have HB0:=Aa (Ab w (.cells (Ad s.left s.goal).toArray 86))
 have HQ0:=Aa (Ae.new w (Ad s.left s.goal) 86)
 have HFI:Hid (∀ W,Below w.heap.size w W→Calls Tryz.prog 120 #[t,.agg (Ad s.left s.goal).toArray,.int .i64 10,.int .i64 (main:Int)] W fun e w'=>e = .returned (.bool true)∧Below W.heap.size W w'):=fun W hb=>hfit▸(hF.below hb).read fun k ow ht=>Dh k ow W t rows ht s main hm 10 (by decide) (by decide)
 have HM:Hid (main<1024):=Nat.lt_of_lt_of_le hm hF.ok.le
 have HL:=Aa hl
 have HR:=Aa hr
 have HT:=Aa hF
 obtain ⟨pb,v0,rfl,hat⟩:=hF.col 0
 obtain ⟨g,c,rfl,hrr⟩:=hat.row (Am hm)
 rw [hx] at hrr
 have HRR:=Aa hrr
 have h1:(main:Int)<(rows.length:Int):=by omega
 clear hat hrr hx hm hfit hl hr hF
 go_enter Tryz.func94,Tryz.ntmps94
 go_wp2_with (first
  | (refine Ah (.tmp 5) rfl rfl rfl HQ0.o ?_)
  | (go_at_call 120;refine (HFI.o _ HB0.o).mono ?_;rintro e W1 ⟨rfl,hb1⟩;have HB1:=Aa (Ac HB0.o hb1);have HQ1:=Aa (HQ0.o.below hb1);have hr1:=HRR.o.below HB1.o;have c0:=hr1.cp;have d0:=hr1.d0;have d1:=hr1.d1;have d2:=hr1.d2;have d3:=hr1.d3;clear hb1 hr1 HFI HQ0)
  | (have HX2:=Aa (Ae.new W1 (ND.mk kd nm (l:Int) (r:Int)).cells 31);have HB12:=Aa (Ab W1 (.cells (ND.mk kd nm (l:Int) (r:Int)).cells.toArray 31));have HQ2:=Aa (HQ1.o.below HB12.o);have e0:(.cells #[.int .i64 kd,.string nm,.int .i64 (l:Int),.int .i64 (r:Int)] 31:Obj) = .cells (ND.mk kd nm (l:Int) (r:Int)).cells.toArray 31:=rfl;rw [e0];generalize W1.alloc (.cells (ND.mk kd nm (l:Int) (r:Int)).cells.toArray 31)=W2 at *;clear e0 c0 d0 d1 d2 d3;have HB2:=Aa (Ac HB1.o HB12.o);refine Ah (.tmp 5) rfl rfl rfl HQ2.o ?_)
  | (refine Ar (.tmp 11) (.tmp 36) rfl rfl rfl rfl (Ae.new W2 (Ad 0 0) 86) (Ai _ _) ?_;intro W3 hb3 ho3;have HR3:=Aa hb3;have HB23:=Aa ((Ab W2 _).trans (ho3.below (Nat.le_refl _)));have HB3:=Aa (HB2.o.trans (HB23.o.mono HB2.o.size));have HQ3:=Aa (HQ2.o.below HB23.o);have HX3:=Aa (HX2.o.below HB23.o);clear hb3 ho3)
  | (refine Ap (.tmp 37) rfl rfl rfl HQ3.o ?_)
  | (go_at_call 121;refine (Dn W3 s.left main HM.o).mono ?_;rintro e W4 ⟨rfl,hb4⟩;have HB4:=Aa (Ac HB3.o hb4);have HR4:=Aa (HR3.o.below hb4);have HQ4:=Aa (HQ3.o.below hb4);have HX4:=Aa (HX3.o.below hb4);clear hb4)
  | (refine Au (.tmp 41) (.tmp 40) rfl rfl rfl rfl HR4.o ?_;intro W5 hb5 ho5;have HR5:=Aa hb5;have HX5:=Aa (HX4.o.only ho5 (Nat.ne_of_lt HX2.o.lt));have HQ5:=Aa (HQ4.o.only ho5 (Nat.ne_of_lt HQ2.o.lt));have c2:=HX5.o.cell (i:=2) rfl;have c3:=HX5.o.cell (i:=3) rfl;have HB5:=Aa (HB4.o.trans (ho5.below HB2.o.size));clear hb5 ho5;simp only at c2 c3))
 have hld:∀ W',Aft W5 W'→Bf 86 W' (.pointer (some ⟨w.heap.size,0,none⟩)):=fun W' hb=>(An (HQ5.o.below hb).loads).1
 have hlv:∀ W',Aft W5 W'→Dq 86 W' (.pointer (some ⟨w.heap.size,0,none⟩))=_:=fun W' hb=>(An (HQ5.o.below hb).loads).2
 have hldr:∀ W',Aft W5 W'→Bf 86 W' (.pointer (some ⟨W2.heap.size,0,none⟩)):=fun W' hb=>(An (HR5.o.below hb).loads).1
 have hlvr:∀ W',Aft W5 W'→Dq 86 W' (.pointer (some ⟨W2.heap.size,0,none⟩))=_:=fun W' hb=>(An (HR5.o.below hb).loads).2
 have hcl2:∀ W',Aft W5 W'→W'.cell? ⟨W1.heap.size,2,none⟩=some (.int .i64 (l:Int)):=fun W' hb=>(HX5.o.below hb).cell (i:=2) rfl
 have hcl3:∀ W',Aft W5 W'→W'.cell? ⟨W1.heap.size,3,none⟩=some (.int .i64 (r:Int)):=fun W' hb=>(HX5.o.below hb).cell (i:=3) rfl
 have HK:Hid (∀ W',Below W5.heap.size W5 W'→Aft W5 W'):=fun W' hb=>hb
 have HD:=Aa (below_drewN W5 1)
 have hfs:∀ (l:List (Value × Nat)) (cs:Array Value),(List.foldl (fun (cs:Array Value) (x:Value × Nat)=>cs.setIfInBounds x.2 x.1) cs l).size=cs.size:=fold_size
 have HW1:=Aa (fun W=>Fo W (Be s.left main) l l s.goal HL.o HL.o)
 have HW2:=Aa (fun W=>Fo W (Be s.left main) r r s.goal HR.o HR.o)
 clear c2 c3
 as_aux_lemma=>
  go_region_held3 (fun W'=>Aft W5 W')
   (((refine HK.o _ ?_;repeat (with_reducible first | exact HB12.o | exact HB11.o | exact HB10.o | exact HB9.o | exact Below.refl _ _ | exact HD.o | refine Ac ?_ (Ab _ _) | refine Ac ?_ (Db _)))))
   (first
    | (go_at_call 122;refine (HW1.o _).mono ?_;clear HW1;rintro e W9 ⟨rfl,hb9⟩;have HB9:Hid (Below W5.heap.size W5 W9):=Ac (by repeat (with_reducible first | exact HB12.o | exact HB11.o | exact HB10.o | exact HB9.o | exact Below.refl _ _ | exact HD.o | refine Ac ?_ (Ab _ _) | refine Ac ?_ (Db _))) hb9;have hsl9:=Ai (Aw (Aw (Be s.left main) l) l) s.goal;clear hb9)
    | (go_at_call 122;refine (HW2.o _).mono ?_;clear HW2;rintro e W10 ⟨rfl,hb10⟩;have HB10:Hid (Below W5.heap.size W5 W10):=Ac (by repeat (with_reducible first | exact HB12.o | exact HB11.o | exact HB10.o | exact HB9.o | exact Below.refl _ _ | exact HD.o | refine Ac ?_ (Ab _ _) | refine Ac ?_ (Db _))) hb10;have hsl10:=Ai (Aw (Aw (Be s.left main) r) r) s.goal;clear hb10))
  all_goals
   as_aux_lemma=>
   go_wp2_with fail
   rw [Lq _ _ _ _ _ rfl]
   refine bodyPost_ret (v:=.tuple #[.slice (some ⟨W10.heap.size,0,none⟩) 2 2,.int .i64 0]) (by simp [results,Tryz.results94,go_sem]) rfl ?_
   exact Gv (KeptF.of_below HT.o.in_ HB5.o) (HT.o.below HB5.o) HB10.o rfl (by simp [-List.flatMap_toArray])
end Go.Dk
end
section
namespace Go.Dk
open Go.RowKit Go.Maps Go.MapKept
open Go.Proofs hiding intOf
attribute [local go_sem ↓] Dv
attribute [local go_sem] Du
set_option maxRecDepth 100000 in
set_option maxHeartbeats 2000000 in
theorem cU (F:FP) (w:World) (t:Value) (rows:List ND) (hF:Bn F w t rows) (s:SQ) (main:Nat) (hm:main<rows.length) (hfit:Az rows s 13 main=true) (kd:Int) (nm:ByteArray) (l r:Nat) (hx:rowAt rows main=⟨kd,nm,(l:Int),(r:Int)⟩) (hl:l<1024) (hr:r<1024)
  (hll:l<rows.length) (kd2:Int) (nm2:ByteArray) (l2 r2:Int) (hy:rowAt rows l=⟨kd2,nm2,l2,r2⟩) (er:Int) (her:er≠0) (id:Int) (hR:put rows ⟨5,⟨#[]⟩,r2,(r:Int)⟩=⟨rows,id,er⟩) :
  Calls Tryz.prog 94 #[t,.agg (Ad s.left s.goal).toArray,.int .i64 13,.int .i64 (main:Int)] w (Fe F w t ⟨rows,er,[]⟩):=by
 have HB0:=Aa (Ab w (.cells (Ad s.left s.goal).toArray 86))
 have HQ0:=Aa (Ae.new w (Ad s.left s.goal) 86)
 have HFI:Hid (∀ W,Below w.heap.size w W→Calls Tryz.prog 120 #[t,.agg (Ad s.left s.goal).toArray,.int .i64 13,.int .i64 (main:Int)] W fun e w'=>e = .returned (.bool true)∧Below W.heap.size W w'):=fun W hb=>hfit▸(hF.below hb).read fun k ow ht=>Dh k ow W t rows ht s main hm 13 (by decide) (by decide)
 have HM:Hid (main<1024):=Nat.lt_of_lt_of_le hm hF.ok.le
 have HL:=Aa hl
 have HR:=Aa hr
 have HT:=Aa hF
 obtain ⟨pb,v0,rfl,hat⟩:=hF.col 0
 obtain ⟨g,c,rfl,hrr⟩:=hat.row (Am hm)
 rw [hx] at hrr
 have HRR:=Aa hrr
 have h1:(main:Int)<(rows.length:Int):=by omega
 obtain ⟨g',c',he',hrl⟩:=hat.row (Am hll)
 cases he'
 rw [hy] at hrl
 have HRL:=Aa hrl
 have h2:(l:Int)<(rows.length:Int):=by omega
 have HIM:Hid (∀ W,Bn F W (.pointer (some ⟨pb,0,none⟩)) rows→Calls Tryz.prog 61 #[.pointer (some ⟨pb,0,none⟩),.int .i64 r2,.int .i64 (r:Int)] W (jD F W (.pointer (some ⟨pb,0,none⟩)) ⟨rows,id,er⟩)):=fun W ht=>hR▸Uw ht r2 (r:Int)
 have HERR:Hid (er≠0):=her
 have hez:(er != 0)=true:=by simpa using her
 clear hR her
 clear hrl hll hy
 clear hat hrr hx hm hfit hl hr hF
 go_enter Tryz.func94,Tryz.ntmps94
 go_wp2_with (first
  | (refine Ah (.tmp 5) rfl rfl rfl HQ0.o ?_)
  | (go_at_call 120;refine (HFI.o _ HB0.o).mono ?_;rintro e W1 ⟨rfl,hb1⟩;have HB1:=Aa (Ac HB0.o hb1);have HQ1:=Aa (HQ0.o.below hb1);have hr1:=HRR.o.below HB1.o;have c0:=hr1.cp;have d0:=hr1.d0;have d1:=hr1.d1;have d2:=hr1.d2;have d3:=hr1.d3;clear hb1 hr1 HFI HQ0)
  | (have HX2:=Aa (Ae.new W1 (ND.mk kd nm (l:Int) (r:Int)).cells 31);have HB12:=Aa (Ab W1 (.cells (ND.mk kd nm (l:Int) (r:Int)).cells.toArray 31));have HQ2:=Aa (HQ1.o.below HB12.o);have e0:(.cells #[.int .i64 kd,.string nm,.int .i64 (l:Int),.int .i64 (r:Int)] 31:Obj) = .cells (ND.mk kd nm (l:Int) (r:Int)).cells.toArray 31:=rfl;rw [e0];generalize W1.alloc (.cells (ND.mk kd nm (l:Int) (r:Int)).cells.toArray 31)=W2 at *;clear e0 c0 d0 d1 d2 d3;have HB2:=Aa (Ac HB1.o HB12.o);refine Ah (.tmp 5) rfl rfl rfl HQ2.o ?_)
  | (refine Ar (.tmp 11) (.tmp 36) rfl rfl rfl rfl (Ae.new W2 (Ad 0 0) 86) (Ai _ _) ?_;intro W3 hb3 ho3;have HR3:=Aa hb3;have HB23:=Aa ((Ab W2 _).trans (ho3.below (Nat.le_refl _)));have HB3:=Aa (HB2.o.trans (HB23.o.mono HB2.o.size));have HQ3:=Aa (HQ2.o.below HB23.o);have HX3:=Aa (HX2.o.below HB23.o);clear hb3 ho3)
  | (refine Ap (.tmp 37) rfl rfl rfl HQ3.o ?_)
  | (go_at_call 121;refine (Dn W3 s.left main HM.o).mono ?_;rintro e W4 ⟨rfl,hb4⟩;have HB4:=Aa (Ac HB3.o hb4);have HR4:=Aa (HR3.o.below hb4);have HQ4:=Aa (HQ3.o.below hb4);have HX4:=Aa (HX3.o.below hb4);clear hb4)
  | (refine Au (.tmp 41) (.tmp 40) rfl rfl rfl rfl HR4.o ?_;intro W5 hb5 ho5;have HR5:=Aa hb5;have HX5:=Aa (HX4.o.only ho5 (Nat.ne_of_lt HX2.o.lt));have HQ5:=Aa (HQ4.o.only ho5 (Nat.ne_of_lt HQ2.o.lt));have c2:=HX5.o.cell (i:=2) rfl;have c3:=HX5.o.cell (i:=3) rfl;have HB5:=Aa (HB4.o.trans (ho5.below HB2.o.size));clear hb5 ho5;simp only at c2 c3))
 have hr5:=HRL.o.below HB5.o
 have q0:=hr5.cp;have q1:=hr5.d0;have q2:=hr5.d1;have q3:=hr5.d2;have q4:=hr5.d3
 obtain ⟨I0,_,Fw,i0,i1,hF⟩:=kQ W5.drew (W5.drew.alloc (.cells #[.int .i64 0,.string ByteArray.empty,.int .i64 0,.int .i64 0] 31))
 have a0:=Bc hF c2
 have b0:=Bc hF q0;have b1:=Bc hF q1;have b2:=Bc hF q2;have b3:=Bc hF q3;have b4:=Bc hF q4
 have HFw:=Aa hF
 clear hF
 refine Jz 9 _ (.pointer (some ⟨W5.heap.size,0,none⟩)) HFw.o (by kernel_rfl) (by kernel_rfl) rfl (fun ρ=>by simp [go_sem];rfl) rfl ?_
 simp only [Nat.reduceSub,List.take_succ_cons,List.take_zero,List.drop_succ_cons,List.drop_zero]
 repeat (go_big_quiet_step (fail))
 refine wpQuiet_nil ?_
 clear a0 b0 b1 b2 b3 b4 q0 q1 q2 q3 q4 hr5
 have HD5:=Aa (below_drewN W5 1)
 go_wp2_with (first
  | (refine Aj Ds (.tmp 20) (.tmp 189) rfl rfl rfl (ys:=(ND.mk kd2 nm2 l2 r2).cells) rfl (Ae.new W5.drew Do.cells 31) rfl rfl (cells_one _) ?_;intro W6 hb6 ho6;have HY6:=Aa hb6;have HB56:=Aa (Ac HD5.o ((Ab W5.drew _).trans (ho6.below (Nat.le_refl _))));have HB6:=Aa (Ac HB5.o HB56.o);have HX6:=Aa (HX5.o.below HB56.o);have HQ6:=Aa (HQ5.o.below HB56.o);have HR6:=Aa (HR5.o.below HB56.o);clear c2 c3 hb6 ho6;have c2:=HX6.o.cell (i:=2) rfl;have c3:=HX6.o.cell (i:=3) rfl;have e2:=HY6.o.cell (i:=2) rfl;have e3:=HY6.o.cell (i:=3) rfl;simp only at c2 c3 e2 e3;have HT6:=Aa (HT.o.below HB6.o))
  | (go_at_call 61;refine (HIM.o _ HT6.o).mono ?_;rintro e W7 ⟨rfl,F7,hk7,ht7⟩;have HK7:=Aa hk7;have HT7:=Aa ht7;clear hk7 ht7))
 go_ret2
 exact ⟨_,F7,rfl,(KeptF.of_below HT.o.in_ HB6.o).trans HK7.o,HT7.o,fun h=>absurd h HERR.o⟩
set_option maxRecDepth 100000 in
set_option maxHeartbeats 2000000 in
theorem iS (F:FP) (w:World) (t:Value) (rows:List ND) (hF:Bn F w t rows) (s:SQ) (main:Nat) (hm:main<rows.length) (hfit:Az rows s 13 main=true) (kd:Int) (nm:ByteArray) (l r:Nat) (hx:rowAt rows main=⟨kd,nm,(l:Int),(r:Int)⟩) (hl:l<1024) (hr:r<1024)
  (hll:l<rows.length) (kd2:Int) (nm2:ByteArray) (l2 r2:Int) (hy:rowAt rows l=⟨kd2,nm2,l2,r2⟩) (rows1:List ND) (i:Nat) (hi:i<1024) (hR:put rows ⟨5,⟨#[]⟩,r2,(r:Int)⟩=⟨rows1,(i:Int),0⟩) :
  Calls Tryz.prog 94 #[t,.agg (Ad s.left s.goal).toArray,.int .i64 13,.int .i64 (main:Int)] w (Fe F w t ⟨rows1,0,[⟨Aw (Aw (Be s.left main) i) i,l⟩,⟨Aw (Aw (Be s.left main) r) r,s.goal⟩]⟩):=by
 have HB0:=Aa (Ab w (.cells (Ad s.left s.goal).toArray 86))
 have HQ0:=Aa (Ae.new w (Ad s.left s.goal) 86)
 have HFI:Hid (∀ W,Below w.heap.size w W→Calls Tryz.prog 120 #[t,.agg (Ad s.left s.goal).toArray,.int .i64 13,.int .i64 (main:Int)] W fun e w'=>e = .returned (.bool true)∧Below W.heap.size W w'):=fun W hb=>hfit▸(hF.below hb).read fun k ow ht=>Dh k ow W t rows ht s main hm 13 (by decide) (by decide)
 have HM:Hid (main<1024):=Nat.lt_of_lt_of_le hm hF.ok.le
 have HL:=Aa hl
 have HR:=Aa hr
 have HT:=Aa hF
 obtain ⟨pb,v0,rfl,hat⟩:=hF.col 0
 obtain ⟨g,c,rfl,hrr⟩:=hat.row (Am hm)
 rw [hx] at hrr
 have HRR:=Aa hrr
 have h1:(main:Int)<(rows.length:Int):=by omega
 obtain ⟨g',c',he',hrl⟩:=hat.row (Am hll)
 cases he'
 rw [hy] at hrl
 have HRL:=Aa hrl
 have h2:(l:Int)<(rows.length:Int):=by omega
 have HIM:Hid (∀ W,Bn F W (.pointer (some ⟨pb,0,none⟩)) rows→Calls Tryz.prog 61 #[.pointer (some ⟨pb,0,none⟩),.int .i64 r2,.int .i64 (r:Int)] W (jD F W (.pointer (some ⟨pb,0,none⟩)) ⟨rows1,(i:Int),0⟩)):=fun W ht=>hR▸Uw ht r2 (r:Int)
 have HII:=Aa hi
 clear hR hi
 clear hrl hll hy
 clear hat hrr hx hm hfit hl hr hF
 go_enter Tryz.func94,Tryz.ntmps94
 go_wp2_with (first
  | (refine Ah (.tmp 5) rfl rfl rfl HQ0.o ?_)
  | (go_at_call 120;refine (HFI.o _ HB0.o).mono ?_;rintro e W1 ⟨rfl,hb1⟩;have HB1:=Aa (Ac HB0.o hb1);have HQ1:=Aa (HQ0.o.below hb1);have hr1:=HRR.o.below HB1.o;have c0:=hr1.cp;have d0:=hr1.d0;have d1:=hr1.d1;have d2:=hr1.d2;have d3:=hr1.d3;clear hb1 hr1 HFI HQ0)
  | (have HX2:=Aa (Ae.new W1 (ND.mk kd nm (l:Int) (r:Int)).cells 31);have HB12:=Aa (Ab W1 (.cells (ND.mk kd nm (l:Int) (r:Int)).cells.toArray 31));have HQ2:=Aa (HQ1.o.below HB12.o);have e0:(.cells #[.int .i64 kd,.string nm,.int .i64 (l:Int),.int .i64 (r:Int)] 31:Obj) = .cells (ND.mk kd nm (l:Int) (r:Int)).cells.toArray 31:=rfl;rw [e0];generalize W1.alloc (.cells (ND.mk kd nm (l:Int) (r:Int)).cells.toArray 31)=W2 at *;clear e0 c0 d0 d1 d2 d3;have HB2:=Aa (Ac HB1.o HB12.o);refine Ah (.tmp 5) rfl rfl rfl HQ2.o ?_)
  | (refine Ar (.tmp 11) (.tmp 36) rfl rfl rfl rfl (Ae.new W2 (Ad 0 0) 86) (Ai _ _) ?_;intro W3 hb3 ho3;have HR3:=Aa hb3;have HB23:=Aa ((Ab W2 _).trans (ho3.below (Nat.le_refl _)));have HB3:=Aa (HB2.o.trans (HB23.o.mono HB2.o.size));have HQ3:=Aa (HQ2.o.below HB23.o);have HX3:=Aa (HX2.o.below HB23.o);clear hb3 ho3)
  | (refine Ap (.tmp 37) rfl rfl rfl HQ3.o ?_)
  | (go_at_call 121;refine (Dn W3 s.left main HM.o).mono ?_;rintro e W4 ⟨rfl,hb4⟩;have HB4:=Aa (Ac HB3.o hb4);have HR4:=Aa (HR3.o.below hb4);have HQ4:=Aa (HQ3.o.below hb4);have HX4:=Aa (HX3.o.below hb4);clear hb4)
  | (refine Au (.tmp 41) (.tmp 40) rfl rfl rfl rfl HR4.o ?_;intro W5 hb5 ho5;have HR5:=Aa hb5;have HX5:=Aa (HX4.o.only ho5 (Nat.ne_of_lt HX2.o.lt));have HQ5:=Aa (HQ4.o.only ho5 (Nat.ne_of_lt HQ2.o.lt));have c2:=HX5.o.cell (i:=2) rfl;have c3:=HX5.o.cell (i:=3) rfl;have HB5:=Aa (HB4.o.trans (ho5.below HB2.o.size));clear hb5 ho5;simp only at c2 c3))
 have hr5:=HRL.o.below HB5.o
 have q0:=hr5.cp;have q1:=hr5.d0;have q2:=hr5.d1;have q3:=hr5.d2;have q4:=hr5.d3
 obtain ⟨I0,_,Fw,i0,i1,hF⟩:=kQ W5.drew (W5.drew.alloc (.cells #[.int .i64 0,.string ByteArray.empty,.int .i64 0,.int .i64 0] 31))
 have a0:=Bc hF c2
 have b0:=Bc hF q0;have b1:=Bc hF q1;have b2:=Bc hF q2;have b3:=Bc hF q3;have b4:=Bc hF q4
 have HFw:=Aa hF
 clear hF
 refine Jz 9 _ (.pointer (some ⟨W5.heap.size,0,none⟩)) HFw.o (by kernel_rfl) (by kernel_rfl) rfl (fun ρ=>by simp [go_sem];rfl) rfl ?_
 simp only [Nat.reduceSub,List.take_succ_cons,List.take_zero,List.drop_succ_cons,List.drop_zero]
 repeat (go_big_quiet_step (fail))
 refine wpQuiet_nil ?_
 clear a0 b0 b1 b2 b3 b4 q0 q1 q2 q3 q4 hr5
 have HD5:=Aa (below_drewN W5 1)
 go_wp2_with (first
  | (refine Aj Ds (.tmp 20) (.tmp 189) rfl rfl rfl (ys:=(ND.mk kd2 nm2 l2 r2).cells) rfl (Ae.new W5.drew Do.cells 31) rfl rfl (cells_one _) ?_;intro W6 hb6 ho6;have HY6:=Aa hb6;have HB56:=Aa (Ac HD5.o ((Ab W5.drew _).trans (ho6.below (Nat.le_refl _))));have HB6:=Aa (Ac HB5.o HB56.o);have HX6:=Aa (HX5.o.below HB56.o);have HQ6:=Aa (HQ5.o.below HB56.o);have HR6:=Aa (HR5.o.below HB56.o);clear c2 c3 hb6 ho6;have c2:=HX6.o.cell (i:=2) rfl;have c3:=HX6.o.cell (i:=3) rfl;have e2:=HY6.o.cell (i:=2) rfl;have e3:=HY6.o.cell (i:=3) rfl;simp only at c2 c3 e2 e3;have HT6:=Aa (HT.o.below HB6.o))
  | (go_at_call 61;refine (HIM.o _ HT6.o).mono ?_;rintro e W7 ⟨rfl,F7,hk7,ht7⟩;have HK7:=Aa hk7;have HT7:=Aa ht7;clear hk7 ht7))
 have HNF:Hid (∀ b,w.heap.size≤b→b<W6.heap.size→¬ F b):=fun b h1 _ hf=>by have:=HT.o.in_ _ hf;omega
 have HX7:=Aa (HX6.o.keptF HK7.o (HNF.o _ HB1.o.size HX6.o.lt))
 have HQ7:=Aa (HQ6.o.keptF HK7.o (HNF.o _ (Nat.le_refl _) HQ6.o.lt))
 have HR7:=Aa (HR6.o.keptF HK7.o (HNF.o _ HB2.o.size HR6.o.lt))
 clear c2 c3 e2 e3
 have c2:=HX7.o.cell (i:=2) rfl;have c3:=HX7.o.cell (i:=3) rfl
 simp only at c2 c3
 have hld:∀ W',Aft W7 W'→Bf 86 W' (.pointer (some ⟨w.heap.size,0,none⟩)):=fun W' hb=>(An (HQ7.o.below hb).loads).1
 have hlv:∀ W',Aft W7 W'→Dq 86 W' (.pointer (some ⟨w.heap.size,0,none⟩))=_:=fun W' hb=>(An (HQ7.o.below hb).loads).2
 have hldr:∀ W',Aft W7 W'→Bf 86 W' (.pointer (some ⟨W2.heap.size,0,none⟩)):=fun W' hb=>(An (HR7.o.below hb).loads).1
 have hlvr:∀ W',Aft W7 W'→Dq 86 W' (.pointer (some ⟨W2.heap.size,0,none⟩))=_:=fun W' hb=>(An (HR7.o.below hb).loads).2
 have hcl2:∀ W',Aft W7 W'→W'.cell? ⟨W1.heap.size,2,none⟩=some (.int .i64 (l:Int)):=fun W' hb=>(HX7.o.below hb).cell (i:=2) rfl
 have hcl3:∀ W',Aft W7 W'→W'.cell? ⟨W1.heap.size,3,none⟩=some (.int .i64 (r:Int)):=fun W' hb=>(HX7.o.below hb).cell (i:=3) rfl
 have HK:Hid (∀ W',Below W7.heap.size W7 W'→Aft W7 W'):=fun W' hb=>hb
 have HD:=Aa (below_drewN W7 1)
 have hfs:∀ (l:List (Value × Nat)) (cs:Array Value),(List.foldl (fun (cs:Array Value) (x:Value × Nat)=>cs.setIfInBounds x.2 x.1) cs l).size=cs.size:=fold_size
 have HW1:=Aa (fun W=>Fo W (Be s.left main) i i s.goal HII.o HII.o)
 have HW2:=Aa (fun W=>Lr W (Aw (Aw (Be s.left main) i) i) s.goal (l:Int))
 have HW3:=Aa (fun W=>Fo W (Be s.left main) r r s.goal HR.o HR.o)
 clear c2 c3
 as_aux_lemma=>
  go_region_held3 (fun W'=>Aft W7 W')
   (((refine HK.o _ ?_;repeat (with_reducible first | exact HB12.o | exact HB11.o | exact HB10.o | exact HB9.o | exact Below.refl _ _ | exact HD.o | refine Ac ?_ (Ab _ _) | refine Ac ?_ (Db _)))))
   (first
    | (go_at_call 122;refine (HW1.o _).mono ?_;clear HW1;rintro e W9 ⟨rfl,hb9⟩;have HB9:Hid (Below W7.heap.size W7 W9):=Ac (by repeat (with_reducible first | exact HB12.o | exact HB11.o | exact HB10.o | exact HB9.o | exact Below.refl _ _ | exact HD.o | refine Ac ?_ (Ab _ _) | refine Ac ?_ (Db _))) hb9;have hsl9:=Ai (Aw (Aw (Be s.left main) i) i) s.goal;clear hb9)
    | (go_at_call 124;refine (HW2.o _).mono ?_;clear HW2;rintro e W10 ⟨rfl,hb10⟩;have HB10:Hid (Below W7.heap.size W7 W10):=Ac (by repeat (with_reducible first | exact HB12.o | exact HB11.o | exact HB10.o | exact HB9.o | exact Below.refl _ _ | exact HD.o | refine Ac ?_ (Ab _ _) | refine Ac ?_ (Db _))) hb10;have hsl10:=Ai (Aw (Aw (Be s.left main) i) i) (l:Int);clear hb10)
    | (go_at_call 122;refine (HW3.o _).mono ?_;clear HW3;rintro e W11 ⟨rfl,hb11⟩;have HB11:Hid (Below W7.heap.size W7 W11):=Ac (by repeat (with_reducible first | exact HB12.o | exact HB11.o | exact HB10.o | exact HB9.o | exact Below.refl _ _ | exact HD.o | refine Ac ?_ (Ab _ _) | refine Ac ?_ (Db _))) hb11;have hsl11:=Ai (Aw (Aw (Be s.left main) r) r) s.goal;clear hb11))
  all_goals
   as_aux_lemma=>
   go_wp2_with fail
   rw [Lq _ _ _ _ _ rfl]
   refine bodyPost_ret (v:=.tuple #[.slice (some ⟨W11.heap.size,0,none⟩) 2 2,.int .i64 0]) (by simp [results,Tryz.results94,go_sem]) rfl ?_
   exact Gv ((KeptF.of_below HT.o.in_ HB6.o).trans HK7.o) HT7.o HB11.o rfl (by simp [-List.flatMap_toArray])
end Go.Dk
end
section
namespace Go.Dk
open Go.RowKit Go.Maps Go.MapKept
open Go.Proofs hiding intOf
set_option maxRecDepth 100000 in
set_option maxHeartbeats 2000000 in
theorem Wx (F:FP) (w:World) (t:Value) (rows:List ND) (hF:Bn F w t rows) (s:SQ) (main:Nat) (hm:main<rows.length) (hfit:Az rows s 6 main=true) (kd:Int) (nm:ByteArray) (l r:Nat) (hx:rowAt rows main=⟨kd,nm,(l:Int),(r:Int)⟩) (hl:l<1024) (hr:r<1024)
  (hll:l<rows.length) (kd2:Int) (nm2:ByteArray) (l2 r2:Int) (hy:rowAt rows l=⟨kd2,nm2,l2,r2⟩) (er:Int) (her:er≠0) (hR:Le rows r2 (r:Int) l2 (-1)=⟨0,0,er,rows⟩) :
  Calls Tryz.prog 94 #[t,.agg (Ad s.left s.goal).toArray,.int .i64 6,.int .i64 (main:Int)] w (Fe F w t ⟨rows,er,[]⟩):=by
 have HB0:=Aa (Ab w (.cells (Ad s.left s.goal).toArray 86))
 have HQ0:=Aa (Ae.new w (Ad s.left s.goal) 86)
 have HFI:Hid (∀ W,Below w.heap.size w W→Calls Tryz.prog 120 #[t,.agg (Ad s.left s.goal).toArray,.int .i64 6,.int .i64 (main:Int)] W fun e w'=>e = .returned (.bool true)∧Below W.heap.size W w'):=fun W hb=>hfit▸(hF.below hb).read fun k ow ht=>Dh k ow W t rows ht s main hm 6 (by decide) (by decide)
 have HM:Hid (main<1024):=Nat.lt_of_lt_of_le hm hF.ok.le
 have HL:=Aa hl
 have HR:=Aa hr
 have HT:=Aa hF
 obtain ⟨pb,v0,rfl,hat⟩:=hF.col 0
 obtain ⟨g,c,rfl,hrr⟩:=hat.row (Am hm)
 rw [hx] at hrr
 have HRR:=Aa hrr
 have h1:(main:Int)<(rows.length:Int):=by omega
 obtain ⟨g',c',he',hrl⟩:=hat.row (Am hll)
 cases he'
 rw [hy] at hrl
 have HRL:=Aa hrl
 have h2:(l:Int)<(rows.length:Int):=by omega
 have HIM:Hid (∀ W,Bn F W (.pointer (some ⟨pb,0,none⟩)) rows→Calls Tryz.prog 123 #[.pointer (some ⟨pb,0,none⟩),.int .i64 r2,.int .i64 (r:Int),.int .i64 l2,.int .i64 (-1)] W (Wa F W (.pointer (some ⟨pb,0,none⟩)) ⟨0,0,er,rows⟩)):=fun W ht=>hR▸Ln F W _ rows ht r2 (r:Int) l2 (-1)
 have HERR:Hid (er≠0):=her
 have hez:(er != 0)=true:=by simpa using her
 clear hR her
 clear hrl hll hy
 clear hat hrr hx hm hfit hl hr hF
 go_enter Tryz.func94,Tryz.ntmps94
 go_wp2_with (first
  | (refine Ah (.tmp 5) rfl rfl rfl HQ0.o ?_)
  | (go_at_call 120;refine (HFI.o _ HB0.o).mono ?_;rintro e W1 ⟨rfl,hb1⟩;have HB1:=Aa (Ac HB0.o hb1);have HQ1:=Aa (HQ0.o.below hb1);have hr1:=HRR.o.below HB1.o;have c0:=hr1.cp;have d0:=hr1.d0;have d1:=hr1.d1;have d2:=hr1.d2;have d3:=hr1.d3;clear hb1 hr1 HFI HQ0)
  | (have HX2:=Aa (Ae.new W1 (ND.mk kd nm (l:Int) (r:Int)).cells 31);have HB12:=Aa (Ab W1 (.cells (ND.mk kd nm (l:Int) (r:Int)).cells.toArray 31));have HQ2:=Aa (HQ1.o.below HB12.o);have e0:(.cells #[.int .i64 kd,.string nm,.int .i64 (l:Int),.int .i64 (r:Int)] 31:Obj) = .cells (ND.mk kd nm (l:Int) (r:Int)).cells.toArray 31:=rfl;rw [e0];generalize W1.alloc (.cells (ND.mk kd nm (l:Int) (r:Int)).cells.toArray 31)=W2 at *;clear e0 c0 d0 d1 d2 d3;have HB2:=Aa (Ac HB1.o HB12.o);refine Ah (.tmp 5) rfl rfl rfl HQ2.o ?_)
  | (refine Ar (.tmp 11) (.tmp 36) rfl rfl rfl rfl (Ae.new W2 (Ad 0 0) 86) (Ai _ _) ?_;intro W3 hb3 ho3;have HR3:=Aa hb3;have HB23:=Aa ((Ab W2 _).trans (ho3.below (Nat.le_refl _)));have HB3:=Aa (HB2.o.trans (HB23.o.mono HB2.o.size));have HQ3:=Aa (HQ2.o.below HB23.o);have HX3:=Aa (HX2.o.below HB23.o);clear hb3 ho3)
  | (refine Ap (.tmp 37) rfl rfl rfl HQ3.o ?_)
  | (go_at_call 121;refine (Dn W3 s.left main HM.o).mono ?_;rintro e W4 ⟨rfl,hb4⟩;have HB4:=Aa (Ac HB3.o hb4);have HR4:=Aa (HR3.o.below hb4);have HQ4:=Aa (HQ3.o.below hb4);have HX4:=Aa (HX3.o.below hb4);clear hb4)
  | (refine Au (.tmp 41) (.tmp 40) rfl rfl rfl rfl HR4.o ?_;intro W5 hb5 ho5;have HR5:=Aa hb5;have HX5:=Aa (HX4.o.only ho5 (Nat.ne_of_lt HX2.o.lt));have HQ5:=Aa (HQ4.o.only ho5 (Nat.ne_of_lt HQ2.o.lt));have c2:=HX5.o.cell (i:=2) rfl;have c3:=HX5.o.cell (i:=3) rfl;have HB5:=Aa (HB4.o.trans (ho5.below HB2.o.size));clear hb5 ho5;simp only at c2 c3))
 have hr5:=HRL.o.below HB5.o
 have q0:=hr5.cp;have q1:=hr5.d0;have q2:=hr5.d1;have q3:=hr5.d2;have q4:=hr5.d3
 obtain ⟨I0,_,Fw,i0,i1,hF⟩:=kQ W5.drew (W5.drew.alloc (.cells #[.int .i64 0,.string ByteArray.empty,.int .i64 0,.int .i64 0] 31))
 have a0:=Bc hF c2
 have b0:=Bc hF q0;have b1:=Bc hF q1;have b2:=Bc hF q2;have b3:=Bc hF q3;have b4:=Bc hF q4
 have HFw:=Aa hF
 clear hF
 refine Jz 9 _ (.pointer (some ⟨W5.heap.size,0,none⟩)) HFw.o (by kernel_rfl) (by kernel_rfl) rfl (fun ρ=>by simp [go_sem];rfl) rfl ?_
 simp only [Nat.reduceSub,List.take_succ_cons,List.take_zero,List.drop_succ_cons,List.drop_zero]
 repeat (go_big_quiet_step (fail))
 refine wpQuiet_nil ?_
 clear a0 b0 b1 b2 b3 b4 q0 q1 q2 q3 q4 hr5
 have HD5:=Aa (below_drewN W5 1)
 go_wp2_with (first
  | (refine Aj Ds (.tmp 12) (.tmp 77) rfl rfl rfl (ys:=(ND.mk kd2 nm2 l2 r2).cells) rfl (Ae.new W5.drew Do.cells 31) rfl rfl (cells_one _) ?_;intro W6 hb6 ho6;have HY6:=Aa hb6;have HB56:=Aa (Ac HD5.o ((Ab W5.drew _).trans (ho6.below (Nat.le_refl _))));have HB6:=Aa (Ac HB5.o HB56.o);have HX6:=Aa (HX5.o.below HB56.o);have HQ6:=Aa (HQ5.o.below HB56.o);have HR6:=Aa (HR5.o.below HB56.o);clear c2 c3 hb6 ho6;have c2:=HX6.o.cell (i:=2) rfl;have c3:=HX6.o.cell (i:=3) rfl;have e2:=HY6.o.cell (i:=2) rfl;have e3:=HY6.o.cell (i:=3) rfl;simp only at c2 c3 e2 e3;have HT6:=Aa (HT.o.below HB6.o))
  | (go_at_call 123;refine (HIM.o _ HT6.o).mono ?_;rintro e W7 ⟨rfl,F7,hk7,ht7⟩;have HK7:=Aa hk7;have HT7:=Aa ht7;clear hk7 ht7))
 go_ret2
 exact ⟨_,F7,rfl,(KeptF.of_below HT.o.in_ HB6.o).trans HK7.o,HT7.o,fun h=>absurd h HERR.o⟩
set_option maxRecDepth 100000 in
set_option maxHeartbeats 2000000 in
theorem lT (F:FP) (w:World) (t:Value) (rows:List ND) (hF:Bn F w t rows) (s:SQ) (main:Nat) (hm:main<rows.length) (hfit:Az rows s 6 main=true) (kd:Int) (nm:ByteArray) (l r:Nat) (hx:rowAt rows main=⟨kd,nm,(l:Int),(r:Int)⟩) (hl:l<1024) (hr:r<1024)
  (hll:l<rows.length) (kd2:Int) (nm2:ByteArray) (l2 r2:Int) (hy:rowAt rows l=⟨kd2,nm2,l2,r2⟩) (rows1:List ND) (i j:Nat) (hi:i<1024) (hj:j<1024) (hR:Le rows r2 (r:Int) l2 (-1)=⟨(i:Int),(j:Int),0,rows1⟩) :
  Calls Tryz.prog 94 #[t,.agg (Ad s.left s.goal).toArray,.int .i64 6,.int .i64 (main:Int)] w (Fe F w t ⟨rows1,0,[⟨Aw (Aw (Be s.left main) j) j,s.goal⟩]⟩):=by
 have HB0:=Aa (Ab w (.cells (Ad s.left s.goal).toArray 86))
 have HQ0:=Aa (Ae.new w (Ad s.left s.goal) 86)
 have HFI:Hid (∀ W,Below w.heap.size w W→Calls Tryz.prog 120 #[t,.agg (Ad s.left s.goal).toArray,.int .i64 6,.int .i64 (main:Int)] W fun e w'=>e = .returned (.bool true)∧Below W.heap.size W w'):=fun W hb=>hfit▸(hF.below hb).read fun k ow ht=>Dh k ow W t rows ht s main hm 6 (by decide) (by decide)
 have HM:Hid (main<1024):=Nat.lt_of_lt_of_le hm hF.ok.le
 have HL:=Aa hl
 have HR:=Aa hr
 have HT:=Aa hF
 obtain ⟨pb,v0,rfl,hat⟩:=hF.col 0
 obtain ⟨g,c,rfl,hrr⟩:=hat.row (Am hm)
 rw [hx] at hrr
 have HRR:=Aa hrr
 have h1:(main:Int)<(rows.length:Int):=by omega
 obtain ⟨g',c',he',hrl⟩:=hat.row (Am hll)
 cases he'
 rw [hy] at hrl
 have HRL:=Aa hrl
 have h2:(l:Int)<(rows.length:Int):=by omega
 have HIM:Hid (∀ W,Bn F W (.pointer (some ⟨pb,0,none⟩)) rows→Calls Tryz.prog 123 #[.pointer (some ⟨pb,0,none⟩),.int .i64 r2,.int .i64 (r:Int),.int .i64 l2,.int .i64 (-1)] W (Wa F W (.pointer (some ⟨pb,0,none⟩)) ⟨(i:Int),(j:Int),0,rows1⟩)):=fun W ht=>hR▸Ln F W _ rows ht r2 (r:Int) l2 (-1)
 have HII:=Aa hi
 have HJJ:=Aa hj
 clear hR hi hj
 clear hrl hll hy
 clear hat hrr hx hm hfit hl hr hF
 go_enter Tryz.func94,Tryz.ntmps94
 go_wp2_with (first
  | (refine Ah (.tmp 5) rfl rfl rfl HQ0.o ?_)
  | (go_at_call 120;refine (HFI.o _ HB0.o).mono ?_;rintro e W1 ⟨rfl,hb1⟩;have HB1:=Aa (Ac HB0.o hb1);have HQ1:=Aa (HQ0.o.below hb1);have hr1:=HRR.o.below HB1.o;have c0:=hr1.cp;have d0:=hr1.d0;have d1:=hr1.d1;have d2:=hr1.d2;have d3:=hr1.d3;clear hb1 hr1 HFI HQ0)
  | (have HX2:=Aa (Ae.new W1 (ND.mk kd nm (l:Int) (r:Int)).cells 31);have HB12:=Aa (Ab W1 (.cells (ND.mk kd nm (l:Int) (r:Int)).cells.toArray 31));have HQ2:=Aa (HQ1.o.below HB12.o);have e0:(.cells #[.int .i64 kd,.string nm,.int .i64 (l:Int),.int .i64 (r:Int)] 31:Obj) = .cells (ND.mk kd nm (l:Int) (r:Int)).cells.toArray 31:=rfl;rw [e0];generalize W1.alloc (.cells (ND.mk kd nm (l:Int) (r:Int)).cells.toArray 31)=W2 at *;clear e0 c0 d0 d1 d2 d3;have HB2:=Aa (Ac HB1.o HB12.o);refine Ah (.tmp 5) rfl rfl rfl HQ2.o ?_)
  | (refine Ar (.tmp 11) (.tmp 36) rfl rfl rfl rfl (Ae.new W2 (Ad 0 0) 86) (Ai _ _) ?_;intro W3 hb3 ho3;have HR3:=Aa hb3;have HB23:=Aa ((Ab W2 _).trans (ho3.below (Nat.le_refl _)));have HB3:=Aa (HB2.o.trans (HB23.o.mono HB2.o.size));have HQ3:=Aa (HQ2.o.below HB23.o);have HX3:=Aa (HX2.o.below HB23.o);clear hb3 ho3)
  | (refine Ap (.tmp 37) rfl rfl rfl HQ3.o ?_)
  | (go_at_call 121;refine (Dn W3 s.left main HM.o).mono ?_;rintro e W4 ⟨rfl,hb4⟩;have HB4:=Aa (Ac HB3.o hb4);have HR4:=Aa (HR3.o.below hb4);have HQ4:=Aa (HQ3.o.below hb4);have HX4:=Aa (HX3.o.below hb4);clear hb4)
  | (refine Au (.tmp 41) (.tmp 40) rfl rfl rfl rfl HR4.o ?_;intro W5 hb5 ho5;have HR5:=Aa hb5;have HX5:=Aa (HX4.o.only ho5 (Nat.ne_of_lt HX2.o.lt));have HQ5:=Aa (HQ4.o.only ho5 (Nat.ne_of_lt HQ2.o.lt));have c2:=HX5.o.cell (i:=2) rfl;have c3:=HX5.o.cell (i:=3) rfl;have HB5:=Aa (HB4.o.trans (ho5.below HB2.o.size));clear hb5 ho5;simp only at c2 c3))
 have hr5:=HRL.o.below HB5.o
 have q0:=hr5.cp;have q1:=hr5.d0;have q2:=hr5.d1;have q3:=hr5.d2;have q4:=hr5.d3
 obtain ⟨I0,_,Fw,i0,i1,hF⟩:=kQ W5.drew (W5.drew.alloc (.cells #[.int .i64 0,.string ByteArray.empty,.int .i64 0,.int .i64 0] 31))
 have a0:=Bc hF c2
 have b0:=Bc hF q0;have b1:=Bc hF q1;have b2:=Bc hF q2;have b3:=Bc hF q3;have b4:=Bc hF q4
 have HFw:=Aa hF
 clear hF
 refine Jz 9 _ (.pointer (some ⟨W5.heap.size,0,none⟩)) HFw.o (by kernel_rfl) (by kernel_rfl) rfl (fun ρ=>by simp [go_sem];rfl) rfl ?_
 simp only [Nat.reduceSub,List.take_succ_cons,List.take_zero,List.drop_succ_cons,List.drop_zero]
 repeat (go_big_quiet_step (fail))
 refine wpQuiet_nil ?_
 clear a0 b0 b1 b2 b3 b4 q0 q1 q2 q3 q4 hr5
 have HD5:=Aa (below_drewN W5 1)
 go_wp2_with (first
  | (refine Aj Ds (.tmp 12) (.tmp 77) rfl rfl rfl (ys:=(ND.mk kd2 nm2 l2 r2).cells) rfl (Ae.new W5.drew Do.cells 31) rfl rfl (cells_one _) ?_;intro W6 hb6 ho6;have HY6:=Aa hb6;have HB56:=Aa (Ac HD5.o ((Ab W5.drew _).trans (ho6.below (Nat.le_refl _))));have HB6:=Aa (Ac HB5.o HB56.o);have HX6:=Aa (HX5.o.below HB56.o);have HQ6:=Aa (HQ5.o.below HB56.o);have HR6:=Aa (HR5.o.below HB56.o);clear c2 c3 hb6 ho6;have c2:=HX6.o.cell (i:=2) rfl;have c3:=HX6.o.cell (i:=3) rfl;have e2:=HY6.o.cell (i:=2) rfl;have e3:=HY6.o.cell (i:=3) rfl;simp only at c2 c3 e2 e3;have HT6:=Aa (HT.o.below HB6.o))
  | (go_at_call 123;refine (HIM.o _ HT6.o).mono ?_;rintro e W7 ⟨rfl,F7,hk7,ht7⟩;have HK7:=Aa hk7;have HT7:=Aa ht7;have HR7:=Aa (HR6.o.keptF HK7.o (fun hf=>by have:=HT.o.in_ _ hf;have:=HB2.o.size;omega));clear hk7 ht7)
  | (refine Ah (.tmp 11) rfl rfl rfl HR7.o ?_)
  | (go_at_call 122;refine (Fo W7 (Be s.left main) j j s.goal HJJ.o HJJ.o).mono ?_;rintro e W8 ⟨rfl,hb8⟩;have HB8:=Aa hb8;have hsl:=Ai (Aw (Aw (Be s.left main) j) j) s.goal;clear hb8))
 rw [Fh]
 refine bodyPost_ret (v:=.tuple #[.slice (some ⟨W8.heap.size,0,none⟩) 1 1,.int .i64 0]) (by simp [results,Tryz.results94,go_sem]) rfl ?_
 exact Gv ((KeptF.of_below HT.o.in_ HB6.o).trans HK7.o) HT7.o HB8.o (by simp) (by simp [-List.flatMap_toArray])
end Go.Dk
end
section
namespace Go.Dk
open Go.RowKit Go.Maps Go.MapKept
open Go.Proofs hiding intOf
set_option maxRecDepth 100000 in
set_option maxHeartbeats 2000000 in
theorem Wz (F:FP) (w:World) (t:Value) (rows:List ND) (hF:Bn F w t rows) (s:SQ) (main:Nat) (hm:main<rows.length) (hfit:Az rows s 7 main=true) (kd:Int) (nm:ByteArray) (l r:Nat) (hx:rowAt rows main=⟨kd,nm,(l:Int),(r:Int)⟩) (hl:l<1024) (hr:r<1024)
  (hll:l<rows.length) (kd2:Int) (nm2:ByteArray) (l2 r2:Int) (hy:rowAt rows l=⟨kd2,nm2,l2,r2⟩) (er:Int) (her:er≠0) (hR:Le rows l2 (r:Int) r2 (r:Int)=⟨0,0,er,rows⟩) :
  Calls Tryz.prog 94 #[t,.agg (Ad s.left s.goal).toArray,.int .i64 7,.int .i64 (main:Int)] w (Fe F w t ⟨rows,er,[]⟩):=by
 have HB0:=Aa (Ab w (.cells (Ad s.left s.goal).toArray 86))
 have HQ0:=Aa (Ae.new w (Ad s.left s.goal) 86)
 have HFI:Hid (∀ W,Below w.heap.size w W→Calls Tryz.prog 120 #[t,.agg (Ad s.left s.goal).toArray,.int .i64 7,.int .i64 (main:Int)] W fun e w'=>e = .returned (.bool true)∧Below W.heap.size W w'):=fun W hb=>hfit▸(hF.below hb).read fun k ow ht=>Dh k ow W t rows ht s main hm 7 (by decide) (by decide)
 have HM:Hid (main<1024):=Nat.lt_of_lt_of_le hm hF.ok.le
 have HL:=Aa hl
 have HR:=Aa hr
 have HT:=Aa hF
 obtain ⟨pb,v0,rfl,hat⟩:=hF.col 0
 obtain ⟨g,c,rfl,hrr⟩:=hat.row (Am hm)
 rw [hx] at hrr
 have HRR:=Aa hrr
 have h1:(main:Int)<(rows.length:Int):=by omega
 obtain ⟨g',c',he',hrl⟩:=hat.row (Am hll)
 cases he'
 rw [hy] at hrl
 have HRL:=Aa hrl
 have h2:(l:Int)<(rows.length:Int):=by omega
 have HIM:Hid (∀ W,Bn F W (.pointer (some ⟨pb,0,none⟩)) rows→Calls Tryz.prog 123 #[.pointer (some ⟨pb,0,none⟩),.int .i64 l2,.int .i64 (r:Int),.int .i64 r2,.int .i64 (r:Int)] W (Wa F W (.pointer (some ⟨pb,0,none⟩)) ⟨0,0,er,rows⟩)):=fun W ht=>hR▸Ln F W _ rows ht l2 (r:Int) r2 (r:Int)
 have HERR:Hid (er≠0):=her
 have hez:(er != 0)=true:=by simpa using her
 clear hR her
 clear hrl hll hy
 clear hat hrr hx hm hfit hl hr hF
 go_enter Tryz.func94,Tryz.ntmps94
 go_wp2_with (first
  | (refine Ah (.tmp 5) rfl rfl rfl HQ0.o ?_)
  | (go_at_call 120;refine (HFI.o _ HB0.o).mono ?_;rintro e W1 ⟨rfl,hb1⟩;have HB1:=Aa (Ac HB0.o hb1);have HQ1:=Aa (HQ0.o.below hb1);have hr1:=HRR.o.below HB1.o;have c0:=hr1.cp;have d0:=hr1.d0;have d1:=hr1.d1;have d2:=hr1.d2;have d3:=hr1.d3;clear hb1 hr1 HFI HQ0)
  | (have HX2:=Aa (Ae.new W1 (ND.mk kd nm (l:Int) (r:Int)).cells 31);have HB12:=Aa (Ab W1 (.cells (ND.mk kd nm (l:Int) (r:Int)).cells.toArray 31));have HQ2:=Aa (HQ1.o.below HB12.o);have e0:(.cells #[.int .i64 kd,.string nm,.int .i64 (l:Int),.int .i64 (r:Int)] 31:Obj) = .cells (ND.mk kd nm (l:Int) (r:Int)).cells.toArray 31:=rfl;rw [e0];generalize W1.alloc (.cells (ND.mk kd nm (l:Int) (r:Int)).cells.toArray 31)=W2 at *;clear e0 c0 d0 d1 d2 d3;have HB2:=Aa (Ac HB1.o HB12.o);refine Ah (.tmp 5) rfl rfl rfl HQ2.o ?_)
  | (refine Ar (.tmp 11) (.tmp 36) rfl rfl rfl rfl (Ae.new W2 (Ad 0 0) 86) (Ai _ _) ?_;intro W3 hb3 ho3;have HR3:=Aa hb3;have HB23:=Aa ((Ab W2 _).trans (ho3.below (Nat.le_refl _)));have HB3:=Aa (HB2.o.trans (HB23.o.mono HB2.o.size));have HQ3:=Aa (HQ2.o.below HB23.o);have HX3:=Aa (HX2.o.below HB23.o);clear hb3 ho3)
  | (refine Ap (.tmp 37) rfl rfl rfl HQ3.o ?_)
  | (go_at_call 121;refine (Dn W3 s.left main HM.o).mono ?_;rintro e W4 ⟨rfl,hb4⟩;have HB4:=Aa (Ac HB3.o hb4);have HR4:=Aa (HR3.o.below hb4);have HQ4:=Aa (HQ3.o.below hb4);have HX4:=Aa (HX3.o.below hb4);clear hb4)
  | (refine Au (.tmp 41) (.tmp 40) rfl rfl rfl rfl HR4.o ?_;intro W5 hb5 ho5;have HR5:=Aa hb5;have HX5:=Aa (HX4.o.only ho5 (Nat.ne_of_lt HX2.o.lt));have HQ5:=Aa (HQ4.o.only ho5 (Nat.ne_of_lt HQ2.o.lt));have c2:=HX5.o.cell (i:=2) rfl;have c3:=HX5.o.cell (i:=3) rfl;have HB5:=Aa (HB4.o.trans (ho5.below HB2.o.size));clear hb5 ho5;simp only at c2 c3))
 have hr5:=HRL.o.below HB5.o
 have q0:=hr5.cp;have q1:=hr5.d0;have q2:=hr5.d1;have q3:=hr5.d2;have q4:=hr5.d3
 obtain ⟨I0,_,Fw,i0,i1,hF⟩:=kQ W5.drew (W5.drew.alloc (.cells #[.int .i64 0,.string ByteArray.empty,.int .i64 0,.int .i64 0] 31))
 have a0:=Bc hF c2
 have b0:=Bc hF q0;have b1:=Bc hF q1;have b2:=Bc hF q2;have b3:=Bc hF q3;have b4:=Bc hF q4
 have HFw:=Aa hF
 clear hF
 refine Jz 9 _ (.pointer (some ⟨W5.heap.size,0,none⟩)) HFw.o (by kernel_rfl) (by kernel_rfl) rfl (fun ρ=>by simp [go_sem];rfl) rfl ?_
 simp only [Nat.reduceSub,List.take_succ_cons,List.take_zero,List.drop_succ_cons,List.drop_zero]
 repeat (go_big_quiet_step (fail))
 refine wpQuiet_nil ?_
 clear a0 b0 b1 b2 b3 b4 q0 q1 q2 q3 q4 hr5
 have HD5:=Aa (below_drewN W5 1)
 go_wp2_with (first
  | (refine Aj Ds (.tmp 16) (.tmp 107) rfl rfl rfl (ys:=(ND.mk kd2 nm2 l2 r2).cells) rfl (Ae.new W5.drew Do.cells 31) rfl rfl (cells_one _) ?_;intro W6 hb6 ho6;have HY6:=Aa hb6;have HB56:=Aa (Ac HD5.o ((Ab W5.drew _).trans (ho6.below (Nat.le_refl _))));have HB6:=Aa (Ac HB5.o HB56.o);have HX6:=Aa (HX5.o.below HB56.o);have HQ6:=Aa (HQ5.o.below HB56.o);have HR6:=Aa (HR5.o.below HB56.o);clear c2 c3 hb6 ho6;have c2:=HX6.o.cell (i:=2) rfl;have c3:=HX6.o.cell (i:=3) rfl;have e2:=HY6.o.cell (i:=2) rfl;have e3:=HY6.o.cell (i:=3) rfl;simp only at c2 c3 e2 e3;have HT6:=Aa (HT.o.below HB6.o))
  | (go_at_call 123;refine (HIM.o _ HT6.o).mono ?_;rintro e W7 ⟨rfl,F7,hk7,ht7⟩;have HK7:=Aa hk7;have HT7:=Aa ht7;clear hk7 ht7))
 go_ret2
 exact ⟨_,F7,rfl,(KeptF.of_below HT.o.in_ HB6.o).trans HK7.o,HT7.o,fun h=>absurd h HERR.o⟩
set_option maxRecDepth 100000 in
set_option maxHeartbeats 2000000 in
theorem lK (F:FP) (w:World) (t:Value) (rows:List ND) (hF:Bn F w t rows) (s:SQ) (main:Nat) (hm:main<rows.length) (hfit:Az rows s 7 main=true) (kd:Int) (nm:ByteArray) (l r:Nat) (hx:rowAt rows main=⟨kd,nm,(l:Int),(r:Int)⟩) (hl:l<1024) (hr:r<1024)
  (hll:l<rows.length) (kd2:Int) (nm2:ByteArray) (l2 r2:Int) (hy:rowAt rows l=⟨kd2,nm2,l2,r2⟩) (rows1:List ND) (i j:Nat) (hi:i<1024) (hj:j<1024) (hR:Le rows l2 (r:Int) r2 (r:Int)=⟨(i:Int),(j:Int),0,rows1⟩) :
  Calls Tryz.prog 94 #[t,.agg (Ad s.left s.goal).toArray,.int .i64 7,.int .i64 (main:Int)] w (Fe F w t ⟨rows1,0,[⟨Aw (Aw (Be s.left main) i) j,s.goal⟩]⟩):=by
 have HB0:=Aa (Ab w (.cells (Ad s.left s.goal).toArray 86))
 have HQ0:=Aa (Ae.new w (Ad s.left s.goal) 86)
 have HFI:Hid (∀ W,Below w.heap.size w W→Calls Tryz.prog 120 #[t,.agg (Ad s.left s.goal).toArray,.int .i64 7,.int .i64 (main:Int)] W fun e w'=>e = .returned (.bool true)∧Below W.heap.size W w'):=fun W hb=>hfit▸(hF.below hb).read fun k ow ht=>Dh k ow W t rows ht s main hm 7 (by decide) (by decide)
 have HM:Hid (main<1024):=Nat.lt_of_lt_of_le hm hF.ok.le
 have HL:=Aa hl
 have HR:=Aa hr
 have HT:=Aa hF
 obtain ⟨pb,v0,rfl,hat⟩:=hF.col 0
 obtain ⟨g,c,rfl,hrr⟩:=hat.row (Am hm)
 rw [hx] at hrr
 have HRR:=Aa hrr
 have h1:(main:Int)<(rows.length:Int):=by omega
 obtain ⟨g',c',he',hrl⟩:=hat.row (Am hll)
 cases he'
 rw [hy] at hrl
 have HRL:=Aa hrl
 have h2:(l:Int)<(rows.length:Int):=by omega
 have HIM:Hid (∀ W,Bn F W (.pointer (some ⟨pb,0,none⟩)) rows→Calls Tryz.prog 123 #[.pointer (some ⟨pb,0,none⟩),.int .i64 l2,.int .i64 (r:Int),.int .i64 r2,.int .i64 (r:Int)] W (Wa F W (.pointer (some ⟨pb,0,none⟩)) ⟨(i:Int),(j:Int),0,rows1⟩)):=fun W ht=>hR▸Ln F W _ rows ht l2 (r:Int) r2 (r:Int)
 have HII:=Aa hi
 have HJJ:=Aa hj
 clear hR hi hj
 clear hrl hll hy
 clear hat hrr hx hm hfit hl hr hF
 go_enter Tryz.func94,Tryz.ntmps94
 go_wp2_with (first
  | (refine Ah (.tmp 5) rfl rfl rfl HQ0.o ?_)
  | (go_at_call 120;refine (HFI.o _ HB0.o).mono ?_;rintro e W1 ⟨rfl,hb1⟩;have HB1:=Aa (Ac HB0.o hb1);have HQ1:=Aa (HQ0.o.below hb1);have hr1:=HRR.o.below HB1.o;have c0:=hr1.cp;have d0:=hr1.d0;have d1:=hr1.d1;have d2:=hr1.d2;have d3:=hr1.d3;clear hb1 hr1 HFI HQ0)
  | (have HX2:=Aa (Ae.new W1 (ND.mk kd nm (l:Int) (r:Int)).cells 31);have HB12:=Aa (Ab W1 (.cells (ND.mk kd nm (l:Int) (r:Int)).cells.toArray 31));have HQ2:=Aa (HQ1.o.below HB12.o);have e0:(.cells #[.int .i64 kd,.string nm,.int .i64 (l:Int),.int .i64 (r:Int)] 31:Obj) = .cells (ND.mk kd nm (l:Int) (r:Int)).cells.toArray 31:=rfl;rw [e0];generalize W1.alloc (.cells (ND.mk kd nm (l:Int) (r:Int)).cells.toArray 31)=W2 at *;clear e0 c0 d0 d1 d2 d3;have HB2:=Aa (Ac HB1.o HB12.o);refine Ah (.tmp 5) rfl rfl rfl HQ2.o ?_)
  | (refine Ar (.tmp 11) (.tmp 36) rfl rfl rfl rfl (Ae.new W2 (Ad 0 0) 86) (Ai _ _) ?_;intro W3 hb3 ho3;have HR3:=Aa hb3;have HB23:=Aa ((Ab W2 _).trans (ho3.below (Nat.le_refl _)));have HB3:=Aa (HB2.o.trans (HB23.o.mono HB2.o.size));have HQ3:=Aa (HQ2.o.below HB23.o);have HX3:=Aa (HX2.o.below HB23.o);clear hb3 ho3)
  | (refine Ap (.tmp 37) rfl rfl rfl HQ3.o ?_)
  | (go_at_call 121;refine (Dn W3 s.left main HM.o).mono ?_;rintro e W4 ⟨rfl,hb4⟩;have HB4:=Aa (Ac HB3.o hb4);have HR4:=Aa (HR3.o.below hb4);have HQ4:=Aa (HQ3.o.below hb4);have HX4:=Aa (HX3.o.below hb4);clear hb4)
  | (refine Au (.tmp 41) (.tmp 40) rfl rfl rfl rfl HR4.o ?_;intro W5 hb5 ho5;have HR5:=Aa hb5;have HX5:=Aa (HX4.o.only ho5 (Nat.ne_of_lt HX2.o.lt));have HQ5:=Aa (HQ4.o.only ho5 (Nat.ne_of_lt HQ2.o.lt));have c2:=HX5.o.cell (i:=2) rfl;have c3:=HX5.o.cell (i:=3) rfl;have HB5:=Aa (HB4.o.trans (ho5.below HB2.o.size));clear hb5 ho5;simp only at c2 c3))
 have hr5:=HRL.o.below HB5.o
 have q0:=hr5.cp;have q1:=hr5.d0;have q2:=hr5.d1;have q3:=hr5.d2;have q4:=hr5.d3
 obtain ⟨I0,_,Fw,i0,i1,hF⟩:=kQ W5.drew (W5.drew.alloc (.cells #[.int .i64 0,.string ByteArray.empty,.int .i64 0,.int .i64 0] 31))
 have a0:=Bc hF c2
 have b0:=Bc hF q0;have b1:=Bc hF q1;have b2:=Bc hF q2;have b3:=Bc hF q3;have b4:=Bc hF q4
 have HFw:=Aa hF
 clear hF
 refine Jz 9 _ (.pointer (some ⟨W5.heap.size,0,none⟩)) HFw.o (by kernel_rfl) (by kernel_rfl) rfl (fun ρ=>by simp [go_sem];rfl) rfl ?_
 simp only [Nat.reduceSub,List.take_succ_cons,List.take_zero,List.drop_succ_cons,List.drop_zero]
 repeat (go_big_quiet_step (fail))
 refine wpQuiet_nil ?_
 clear a0 b0 b1 b2 b3 b4 q0 q1 q2 q3 q4 hr5
 have HD5:=Aa (below_drewN W5 1)
 go_wp2_with (first
  | (refine Aj Ds (.tmp 16) (.tmp 107) rfl rfl rfl (ys:=(ND.mk kd2 nm2 l2 r2).cells) rfl (Ae.new W5.drew Do.cells 31) rfl rfl (cells_one _) ?_;intro W6 hb6 ho6;have HY6:=Aa hb6;have HB56:=Aa (Ac HD5.o ((Ab W5.drew _).trans (ho6.below (Nat.le_refl _))));have HB6:=Aa (Ac HB5.o HB56.o);have HX6:=Aa (HX5.o.below HB56.o);have HQ6:=Aa (HQ5.o.below HB56.o);have HR6:=Aa (HR5.o.below HB56.o);clear c2 c3 hb6 ho6;have c2:=HX6.o.cell (i:=2) rfl;have c3:=HX6.o.cell (i:=3) rfl;have e2:=HY6.o.cell (i:=2) rfl;have e3:=HY6.o.cell (i:=3) rfl;simp only at c2 c3 e2 e3;have HT6:=Aa (HT.o.below HB6.o))
  | (go_at_call 123;refine (HIM.o _ HT6.o).mono ?_;rintro e W7 ⟨rfl,F7,hk7,ht7⟩;have HK7:=Aa hk7;have HT7:=Aa ht7;have HR7:=Aa (HR6.o.keptF HK7.o (fun hf=>by have:=HT.o.in_ _ hf;have:=HB2.o.size;omega));clear hk7 ht7)
  | (refine Ah (.tmp 11) rfl rfl rfl HR7.o ?_)
  | (go_at_call 122;refine (Fo W7 (Be s.left main) i j s.goal HII.o HJJ.o).mono ?_;rintro e W8 ⟨rfl,hb8⟩;have HB8:=Aa hb8;have hsl:=Ai (Aw (Aw (Be s.left main) i) j) s.goal;clear hb8))
 rw [Fh]
 refine bodyPost_ret (v:=.tuple #[.slice (some ⟨W8.heap.size,0,none⟩) 1 1,.int .i64 0]) (by simp [results,Tryz.results94,go_sem]) rfl ?_
 exact Gv ((KeptF.of_below HT.o.in_ HB6.o).trans HK7.o) HT7.o HB8.o (by simp) (by simp [-List.flatMap_toArray])
end Go.Dk
end
