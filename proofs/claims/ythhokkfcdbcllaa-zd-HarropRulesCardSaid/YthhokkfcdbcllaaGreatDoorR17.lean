/- Parts of the proof: Vo. -/
import Derived.Test.YthhokkfcdbcllaaGreatDoorR01
import Derived.Test.YthhokkfcdbcllaaGreatDoorR02
import Derived.Test.YthhokkfcdbcllaaGreatDoorR03
import Derived.Test.YthhokkfcdbcllaaGreatDoorR04
import Derived.Test.YthhokkfcdbcllaaGreatDoorR05
import Derived.Test.YthhokkfcdbcllaaGreatDoorR06
import Derived.Test.YthhokkfcdbcllaaGreatDoorR07
import Derived.Test.YthhokkfcdbcllaaGreatDoorR08
import Derived.Test.YthhokkfcdbcllaaGreatDoorR09
import Derived.Test.YthhokkfcdbcllaaGreatDoorR10
import Derived.Test.YthhokkfcdbcllaaGreatDoorR11
import Derived.Test.YthhokkfcdbcllaaGreatDoorR12
import Derived.Test.YthhokkfcdbcllaaGreatDoorR15
import Derived.Test.YthhokkfcdbcllaaGreatDoorR16
section
namespace Go.Dk
open Go.RowKit Go.Maps Go.MapKept
open Go.Proofs hiding intOf
def Fe (F:FP) (w:World) (t:Value) (p:Prem) (e:Ending) (w':World):Prop:=
 ∃ v F',e = .returned (.tuple #[v,.int .i64 p.err])∧KeptF F w F' w'∧Bn F' w' t p.rows∧(p.err=0→Xl w.heap.size F' w' v p.seqs)
theorem Gv {F F1:FP} {w W W':World} {t:Value} {rows1:List ND} {l:List SQ} {n:Nat} {cs:Array Value} (hk:KeptF F w F1 W) (ht:Bn F1 W t rows1) (hb:Below W.heap.size W W') (hn:l.length=n) (hc:cs=(l.flatMap fun s=>Ad s.left s.goal).toArray) (h0:l≠[]:=by simp) :
  Fe F w t ⟨rows1,0,l⟩ (.returned (.tuple #[.slice (some ⟨W'.heap.size,0,none⟩) n n,.int .i64 0])) (W'.alloc (.cells cs 86)):=by
 subst hn hc
 have hb2:=Ac hb (Ab W' (.cells (l.flatMap fun s=>Ad s.left s.goal).toArray 86))
 refine ⟨_,F1,rfl,hk.trans (KeptF.of_below ht.in_ hb2),ht.below hb2,fun _=>.inr ⟨_,h0,rfl,Nat.le_trans hk.size hb.size,fun hf=>?_,Ae.new W' _ _⟩⟩
 have:=ht.in_ _ hf
 have:=hb.size
 omega
theorem Yg {F:FP} {w W:World} {t:Value} {rows:List ND} (ht:Bn F w t rows) (hb:Below w.heap.size w W):Fe F w t ⟨rows,0,[]⟩ (.returned (.tuple #[.slice none 0 0,.int .i64 0])) W:=
 ⟨_,F,rfl,KeptF.of_below ht.in_ hb,ht.below hb,fun _=>.inl ⟨rfl,rfl⟩⟩
set_option maxRecDepth 100000 in
set_option maxHeartbeats 2000000 in
theorem lQ (F:FP) (w:World) (t:Value) (rows:List ND) (hF:Bn F w t rows) (s:SQ) (main:Nat) (hm:main<rows.length) (hfit:Az rows s 3 main=true) (kd:Int) (nm:ByteArray) (l r:Nat) (hx:rowAt rows main=⟨kd,nm,(l:Int),(r:Int)⟩) (hl:l<1024) (hr:r<1024) :
  Calls Tryz.prog 94 #[t,.agg (Ad s.left s.goal).toArray,.int .i64 3,.int .i64 (main:Int)] w (Fe F w t ⟨rows,0,[⟨Aw (Aw (Be s.left main) l) r,s.goal⟩]⟩):=by
 have HB0:=Aa (Ab w (.cells (Ad s.left s.goal).toArray 86))
 have HQ0:=Aa (Ae.new w (Ad s.left s.goal) 86)
 have HFI:Hid (∀ W,Below w.heap.size w W→Calls Tryz.prog 120 #[t,.agg (Ad s.left s.goal).toArray,.int .i64 3,.int .i64 (main:Int)] W fun e w'=>e = .returned (.bool true)∧Below W.heap.size W w'):=fun W hb=>hfit▸(hF.below hb).read fun k ow ht=>Dh k ow W t rows ht s main hm 3 (by decide) (by decide)
 have HM:Hid (main<1024):=Nat.lt_of_lt_of_le hm hF.ok.le
 have HL:=Aa hl
 have HR:=Aa hr
 have HT:=Aa hF
 obtain ⟨pb,v0,rfl,hat⟩:=hF.col 0
 obtain ⟨g,c,rfl,hrr⟩:=hat.row (Am hm)
 rw [hx] at hrr
 have HRR:=Aa hrr
 have h1:(main:Int)<(rows.length:Int):=by omega
 clear hat hrr hx hm hfit hl hr hF
 go_enter Tryz.func94,Tryz.ntmps94
 go_wp2_with (first
  | (refine Ah (.tmp 5) rfl rfl rfl HQ0.o ?_)
  | (go_at_call 120;refine (HFI.o _ HB0.o).mono ?_;rintro e W1 ⟨rfl,hb1⟩;have HB1:=Aa (Ac HB0.o hb1);have HQ1:=Aa (HQ0.o.below hb1);have hr1:=HRR.o.below HB1.o;have c0:=hr1.cp;have d0:=hr1.d0;have d1:=hr1.d1;have d2:=hr1.d2;have d3:=hr1.d3;clear hb1 hr1 HFI HQ0)
  | (have HX2:=Aa (Ae.new W1 (ND.mk kd nm (l:Int) (r:Int)).cells 31);have HB12:=Aa (Ab W1 (.cells (ND.mk kd nm (l:Int) (r:Int)).cells.toArray 31));have HQ2:=Aa (HQ1.o.below HB12.o);have e0:(.cells #[.int .i64 kd,.string nm,.int .i64 (l:Int),.int .i64 (r:Int)] 31:Obj) = .cells (ND.mk kd nm (l:Int) (r:Int)).cells.toArray 31:=rfl;rw [e0];generalize W1.alloc (.cells (ND.mk kd nm (l:Int) (r:Int)).cells.toArray 31)=W2 at *;clear e0 c0 d0 d1 d2 d3;have HB2:=Aa (Ac HB1.o HB12.o);refine Ah (.tmp 5) rfl rfl rfl HQ2.o ?_)
  | (refine Ar (.tmp 11) (.tmp 36) rfl rfl rfl rfl (Ae.new W2 (Ad 0 0) 86) (Ai _ _) ?_;intro W3 hb3 ho3;have HR3:=Aa hb3;have HB23:=Aa ((Ab W2 _).trans (ho3.below (Nat.le_refl _)));have HB3:=Aa (HB2.o.trans (HB23.o.mono HB2.o.size));have HQ3:=Aa (HQ2.o.below HB23.o);have HX3:=Aa (HX2.o.below HB23.o);clear hb3 ho3)
  | (refine Ap (.tmp 37) rfl rfl rfl HQ3.o ?_)
  | (go_at_call 121;refine (Dn W3 s.left main HM.o).mono ?_;rintro e W4 ⟨rfl,hb4⟩;have HB4:=Aa (Ac HB3.o hb4);have HR4:=Aa (HR3.o.below hb4);have HQ4:=Aa (HQ3.o.below hb4);have HX4:=Aa (HX3.o.below hb4);clear hb4)
  | (refine Au (.tmp 41) (.tmp 40) rfl rfl rfl rfl HR4.o ?_;intro W5 hb5 ho5;have HR5:=Aa hb5;have HX5:=Aa (HX4.o.only ho5 (Nat.ne_of_lt HX2.o.lt));have HQ5:=Aa (HQ4.o.only ho5 (Nat.ne_of_lt HQ2.o.lt));have c2:=HX5.o.cell (i:=2) rfl;have c3:=HX5.o.cell (i:=3) rfl;have HB5:=Aa (HB4.o.trans (ho5.below HB2.o.size));clear hb5 ho5;simp only at c2 c3)
  | (refine Ah (.tmp 11) rfl rfl rfl HR5.o ?_)
  | (go_at_call 122;refine (Fo W5 (Be s.left main) l r s.goal HL.o HR.o).mono ?_;rintro e W6 ⟨rfl,hb6⟩;have HB6:=Aa hb6;have hsl:=Ai (Aw (Aw (Be s.left main) l) r) s.goal;clear hb6))
 rw [Fh]
 refine bodyPost_ret (v:=.tuple #[.slice (some ⟨W6.heap.size,0,none⟩) 1 1,.int .i64 0]) (by simp [results,Tryz.results94,go_sem]) rfl ?_
 exact Gv (KeptF.of_below HT.o.in_ HB5.o) (HT.o.below HB5.o) HB6.o (by simp) (by simp [-List.flatMap_toArray])
set_option maxRecDepth 100000 in
set_option maxHeartbeats 2000000 in
theorem kC (F:FP) (w:World) (t:Value) (rows:List ND) (hF:Bn F w t rows) (s:SQ) (main:Nat) (hm:main<rows.length) (hfit:Az rows s 4 main=true) (kd:Int) (nm:ByteArray) (l r:Nat) (hx:rowAt rows main=⟨kd,nm,(l:Int),(r:Int)⟩) (hl:l<1024) (hr:r<1024) :
  Calls Tryz.prog 94 #[t,.agg (Ad s.left s.goal).toArray,.int .i64 4,.int .i64 (main:Int)] w (Fe F w t ⟨rows,0,[⟨Aw (Aw (Be s.left main) r) r,s.goal⟩]⟩):=by
 have HB0:=Aa (Ab w (.cells (Ad s.left s.goal).toArray 86))
 have HQ0:=Aa (Ae.new w (Ad s.left s.goal) 86)
 have HFI:Hid (∀ W,Below w.heap.size w W→Calls Tryz.prog 120 #[t,.agg (Ad s.left s.goal).toArray,.int .i64 4,.int .i64 (main:Int)] W fun e w'=>e = .returned (.bool true)∧Below W.heap.size W w'):=fun W hb=>hfit▸(hF.below hb).read fun k ow ht=>Dh k ow W t rows ht s main hm 4 (by decide) (by decide)
 have HM:Hid (main<1024):=Nat.lt_of_lt_of_le hm hF.ok.le
 have HL:=Aa hl
 have HR:=Aa hr
 have HT:=Aa hF
 obtain ⟨pb,v0,rfl,hat⟩:=hF.col 0
 obtain ⟨g,c,rfl,hrr⟩:=hat.row (Am hm)
 rw [hx] at hrr
 have HRR:=Aa hrr
 have h1:(main:Int)<(rows.length:Int):=by omega
 clear hat hrr hx hm hfit hl hr hF
 go_enter Tryz.func94,Tryz.ntmps94
 go_wp2_with (first
  | (refine Ah (.tmp 5) rfl rfl rfl HQ0.o ?_)
  | (go_at_call 120;refine (HFI.o _ HB0.o).mono ?_;rintro e W1 ⟨rfl,hb1⟩;have HB1:=Aa (Ac HB0.o hb1);have HQ1:=Aa (HQ0.o.below hb1);have hr1:=HRR.o.below HB1.o;have c0:=hr1.cp;have d0:=hr1.d0;have d1:=hr1.d1;have d2:=hr1.d2;have d3:=hr1.d3;clear hb1 hr1 HFI HQ0)
  | (have HX2:=Aa (Ae.new W1 (ND.mk kd nm (l:Int) (r:Int)).cells 31);have HB12:=Aa (Ab W1 (.cells (ND.mk kd nm (l:Int) (r:Int)).cells.toArray 31));have HQ2:=Aa (HQ1.o.below HB12.o);have e0:(.cells #[.int .i64 kd,.string nm,.int .i64 (l:Int),.int .i64 (r:Int)] 31:Obj) = .cells (ND.mk kd nm (l:Int) (r:Int)).cells.toArray 31:=rfl;rw [e0];generalize W1.alloc (.cells (ND.mk kd nm (l:Int) (r:Int)).cells.toArray 31)=W2 at *;clear e0 c0 d0 d1 d2 d3;have HB2:=Aa (Ac HB1.o HB12.o);refine Ah (.tmp 5) rfl rfl rfl HQ2.o ?_)
  | (refine Ar (.tmp 11) (.tmp 36) rfl rfl rfl rfl (Ae.new W2 (Ad 0 0) 86) (Ai _ _) ?_;intro W3 hb3 ho3;have HR3:=Aa hb3;have HB23:=Aa ((Ab W2 _).trans (ho3.below (Nat.le_refl _)));have HB3:=Aa (HB2.o.trans (HB23.o.mono HB2.o.size));have HQ3:=Aa (HQ2.o.below HB23.o);have HX3:=Aa (HX2.o.below HB23.o);clear hb3 ho3)
  | (refine Ap (.tmp 37) rfl rfl rfl HQ3.o ?_)
  | (go_at_call 121;refine (Dn W3 s.left main HM.o).mono ?_;rintro e W4 ⟨rfl,hb4⟩;have HB4:=Aa (Ac HB3.o hb4);have HR4:=Aa (HR3.o.below hb4);have HQ4:=Aa (HQ3.o.below hb4);have HX4:=Aa (HX3.o.below hb4);clear hb4)
  | (refine Au (.tmp 41) (.tmp 40) rfl rfl rfl rfl HR4.o ?_;intro W5 hb5 ho5;have HR5:=Aa hb5;have HX5:=Aa (HX4.o.only ho5 (Nat.ne_of_lt HX2.o.lt));have HQ5:=Aa (HQ4.o.only ho5 (Nat.ne_of_lt HQ2.o.lt));have c2:=HX5.o.cell (i:=2) rfl;have c3:=HX5.o.cell (i:=3) rfl;have HB5:=Aa (HB4.o.trans (ho5.below HB2.o.size));clear hb5 ho5;simp only at c2 c3)
  | (refine Ah (.tmp 11) rfl rfl rfl HR5.o ?_)
  | (go_at_call 122;refine (Fo W5 (Be s.left main) r r s.goal HR.o HR.o).mono ?_;rintro e W6 ⟨rfl,hb6⟩;have HB6:=Aa hb6;have hsl:=Ai (Aw (Aw (Be s.left main) r) r) s.goal;clear hb6))
 rw [Fh]
 refine bodyPost_ret (v:=.tuple #[.slice (some ⟨W6.heap.size,0,none⟩) 1 1,.int .i64 0]) (by simp [results,Tryz.results94,go_sem]) rfl ?_
 exact Gv (KeptF.of_below HT.o.in_ HB5.o) (HT.o.below HB5.o) HB6.o (by simp) (by simp [-List.flatMap_toArray])
set_option maxRecDepth 100000 in
set_option maxHeartbeats 2000000 in
theorem lG (F:FP) (w:World) (t:Value) (rows:List ND) (hF:Bn F w t rows) (s:SQ) (main:Nat) (hm:main<rows.length) (hfit:Az rows s 5 main=true) (kd:Int) (nm:ByteArray) (l r:Nat) (hx:rowAt rows main=⟨kd,nm,(l:Int),(r:Int)⟩) (hl:l<1024) (hr:r<1024) :
  Calls Tryz.prog 94 #[t,.agg (Ad s.left s.goal).toArray,.int .i64 5,.int .i64 (main:Int)] w (Fe F w t ⟨rows,0,[⟨Be s.left main,s.goal⟩]⟩):=by
 have HB0:=Aa (Ab w (.cells (Ad s.left s.goal).toArray 86))
 have HQ0:=Aa (Ae.new w (Ad s.left s.goal) 86)
 have HFI:Hid (∀ W,Below w.heap.size w W→Calls Tryz.prog 120 #[t,.agg (Ad s.left s.goal).toArray,.int .i64 5,.int .i64 (main:Int)] W fun e w'=>e = .returned (.bool true)∧Below W.heap.size W w'):=fun W hb=>hfit▸(hF.below hb).read fun k ow ht=>Dh k ow W t rows ht s main hm 5 (by decide) (by decide)
 have HM:Hid (main<1024):=Nat.lt_of_lt_of_le hm hF.ok.le
 have HL:=Aa hl
 have HR:=Aa hr
 have HT:=Aa hF
 obtain ⟨pb,v0,rfl,hat⟩:=hF.col 0
 obtain ⟨g,c,rfl,hrr⟩:=hat.row (Am hm)
 rw [hx] at hrr
 have HRR:=Aa hrr
 have h1:(main:Int)<(rows.length:Int):=by omega
 clear hat hrr hx hm hfit hl hr hF
 go_enter Tryz.func94,Tryz.ntmps94
 go_wp2_with (first
  | (refine Ah (.tmp 5) rfl rfl rfl HQ0.o ?_)
  | (go_at_call 120;refine (HFI.o _ HB0.o).mono ?_;rintro e W1 ⟨rfl,hb1⟩;have HB1:=Aa (Ac HB0.o hb1);have HQ1:=Aa (HQ0.o.below hb1);have hr1:=HRR.o.below HB1.o;have c0:=hr1.cp;have d0:=hr1.d0;have d1:=hr1.d1;have d2:=hr1.d2;have d3:=hr1.d3;clear hb1 hr1 HFI HQ0)
  | (have HX2:=Aa (Ae.new W1 (ND.mk kd nm (l:Int) (r:Int)).cells 31);have HB12:=Aa (Ab W1 (.cells (ND.mk kd nm (l:Int) (r:Int)).cells.toArray 31));have HQ2:=Aa (HQ1.o.below HB12.o);have e0:(.cells #[.int .i64 kd,.string nm,.int .i64 (l:Int),.int .i64 (r:Int)] 31:Obj) = .cells (ND.mk kd nm (l:Int) (r:Int)).cells.toArray 31:=rfl;rw [e0];generalize W1.alloc (.cells (ND.mk kd nm (l:Int) (r:Int)).cells.toArray 31)=W2 at *;clear e0 c0 d0 d1 d2 d3;have HB2:=Aa (Ac HB1.o HB12.o);refine Ah (.tmp 5) rfl rfl rfl HQ2.o ?_)
  | (refine Ar (.tmp 11) (.tmp 36) rfl rfl rfl rfl (Ae.new W2 (Ad 0 0) 86) (Ai _ _) ?_;intro W3 hb3 ho3;have HR3:=Aa hb3;have HB23:=Aa ((Ab W2 _).trans (ho3.below (Nat.le_refl _)));have HB3:=Aa (HB2.o.trans (HB23.o.mono HB2.o.size));have HQ3:=Aa (HQ2.o.below HB23.o);have HX3:=Aa (HX2.o.below HB23.o);clear hb3 ho3)
  | (refine Ap (.tmp 37) rfl rfl rfl HQ3.o ?_)
  | (go_at_call 121;refine (Dn W3 s.left main HM.o).mono ?_;rintro e W4 ⟨rfl,hb4⟩;have HB4:=Aa (Ac HB3.o hb4);have HR4:=Aa (HR3.o.below hb4);have HQ4:=Aa (HQ3.o.below hb4);have HX4:=Aa (HX3.o.below hb4);clear hb4)
  | (refine Au (.tmp 41) (.tmp 40) rfl rfl rfl rfl HR4.o ?_;intro W5 hb5 ho5;have HR5:=Aa hb5;have HX5:=Aa (HX4.o.only ho5 (Nat.ne_of_lt HX2.o.lt));have HQ5:=Aa (HQ4.o.only ho5 (Nat.ne_of_lt HQ2.o.lt));have c2:=HX5.o.cell (i:=2) rfl;have c3:=HX5.o.cell (i:=3) rfl;have HB5:=Aa (HB4.o.trans (ho5.below HB2.o.size));clear hb5 ho5;simp only at c2 c3)
  | (have hsl:=Ai (Be s.left main) s.goal;refine Ah (.tmp 11) rfl rfl rfl HR5.o ?_))
 rw [Fh]
 refine bodyPost_ret (v:=.tuple #[.slice (some ⟨W5.heap.size,0,none⟩) 1 1,.int .i64 0]) (by simp [results,Tryz.results94,go_sem]) rfl ?_
 exact Gv (KeptF.of_below HT.o.in_ HB5.o) (HT.o.below HB5.o) (Below.refl _ _) (by simp) (by simp [-List.flatMap_toArray])
set_option maxRecDepth 100000 in
set_option maxHeartbeats 2000000 in
theorem fQ (F:FP) (w:World) (t:Value) (rows:List ND) (hF:Bn F w t rows) (s:SQ) (main:Nat) (hm:main<rows.length) (hfit:Az rows s 11 main=true) (kd:Int) (nm:ByteArray) (l r:Nat) (hx:rowAt rows main=⟨kd,nm,(l:Int),(r:Int)⟩) (hl:l<1024) (hr:r<1024) :
  Calls Tryz.prog 94 #[t,.agg (Ad s.left s.goal).toArray,.int .i64 11,.int .i64 (main:Int)] w (Fe F w t ⟨rows,0,[⟨s.left,l⟩]⟩):=by
 have HB0:=Aa (Ab w (.cells (Ad s.left s.goal).toArray 86))
 have HQ0:=Aa (Ae.new w (Ad s.left s.goal) 86)
 have HFI:Hid (∀ W,Below w.heap.size w W→Calls Tryz.prog 120 #[t,.agg (Ad s.left s.goal).toArray,.int .i64 11,.int .i64 (main:Int)] W fun e w'=>e = .returned (.bool true)∧Below W.heap.size W w'):=fun W hb=>hfit▸(hF.below hb).read fun k ow ht=>Dh k ow W t rows ht s main hm 11 (by decide) (by decide)
 have HM:Hid (main<1024):=Nat.lt_of_lt_of_le hm hF.ok.le
 have HL:=Aa hl
 have HR:=Aa hr
 have HT:=Aa hF
 obtain ⟨pb,v0,rfl,hat⟩:=hF.col 0
 obtain ⟨g,c,rfl,hrr⟩:=hat.row (Am hm)
 rw [hx] at hrr
 have HRR:=Aa hrr
 have h1:(main:Int)<(rows.length:Int):=by omega
 clear hat hrr hx hm hfit hl hr hF
 go_enter Tryz.func94,Tryz.ntmps94
 go_wp2_with (first
  | (refine Ah (.tmp 5) rfl rfl rfl HQ0.o ?_)
  | (go_at_call 120;refine (HFI.o _ HB0.o).mono ?_;rintro e W1 ⟨rfl,hb1⟩;have HB1:=Aa (Ac HB0.o hb1);have HQ1:=Aa (HQ0.o.below hb1);have hr1:=HRR.o.below HB1.o;have c0:=hr1.cp;have d0:=hr1.d0;have d1:=hr1.d1;have d2:=hr1.d2;have d3:=hr1.d3;clear hb1 hr1 HFI HQ0)
  | (have HX2:=Aa (Ae.new W1 (ND.mk kd nm (l:Int) (r:Int)).cells 31);have HB12:=Aa (Ab W1 (.cells (ND.mk kd nm (l:Int) (r:Int)).cells.toArray 31));have HQ2:=Aa (HQ1.o.below HB12.o);have e0:(.cells #[.int .i64 kd,.string nm,.int .i64 (l:Int),.int .i64 (r:Int)] 31:Obj) = .cells (ND.mk kd nm (l:Int) (r:Int)).cells.toArray 31:=rfl;rw [e0];generalize W1.alloc (.cells (ND.mk kd nm (l:Int) (r:Int)).cells.toArray 31)=W2 at *;clear e0 c0 d0 d1 d2 d3;have HB2:=Aa (Ac HB1.o HB12.o);refine Ah (.tmp 5) rfl rfl rfl HQ2.o ?_)
  | (refine Ar (.tmp 11) (.tmp 36) rfl rfl rfl rfl (Ae.new W2 (Ad 0 0) 86) (Ai _ _) ?_;intro W3 hb3 ho3;have HR3:=Aa hb3;have HB23:=Aa ((Ab W2 _).trans (ho3.below (Nat.le_refl _)));have HB3:=Aa (HB2.o.trans (HB23.o.mono HB2.o.size));have HQ3:=Aa (HQ2.o.below HB23.o);have HX3:=Aa (HX2.o.below HB23.o);clear hb3 ho3)
  | (refine Ap (.tmp 37) rfl rfl rfl HQ3.o ?_)
  | (go_at_call 121;refine (Dn W3 s.left main HM.o).mono ?_;rintro e W4 ⟨rfl,hb4⟩;have HB4:=Aa (Ac HB3.o hb4);have HR4:=Aa (HR3.o.below hb4);have HQ4:=Aa (HQ3.o.below hb4);have HX4:=Aa (HX3.o.below hb4);clear hb4)
  | (refine Au (.tmp 41) (.tmp 40) rfl rfl rfl rfl HR4.o ?_;intro W5 hb5 ho5;have HR5:=Aa hb5;have HX5:=Aa (HX4.o.only ho5 (Nat.ne_of_lt HX2.o.lt));have HQ5:=Aa (HQ4.o.only ho5 (Nat.ne_of_lt HQ2.o.lt));have c2:=HX5.o.cell (i:=2) rfl;have c3:=HX5.o.cell (i:=3) rfl;have HB5:=Aa (HB4.o.trans (ho5.below HB2.o.size));clear hb5 ho5;simp only at c2 c3)
  | (refine Ah (.tmp 5) rfl rfl rfl HQ5.o ?_)
  | (go_at_call 124;refine (Lr W5 s.left s.goal (l:Int)).mono ?_;rintro e W6 ⟨rfl,hb6⟩;have HB6:=Aa hb6;have hsl:=Ai s.left (l:Int);clear hb6))
 rw [Fh]
 refine bodyPost_ret (v:=.tuple #[.slice (some ⟨W6.heap.size,0,none⟩) 1 1,.int .i64 0]) (by simp [results,Tryz.results94,go_sem]) rfl ?_
 exact Gv (KeptF.of_below HT.o.in_ HB5.o) (HT.o.below HB5.o) HB6.o (by simp) (by simp [-List.flatMap_toArray])
set_option maxRecDepth 100000 in
set_option maxHeartbeats 2000000 in
theorem fX (F:FP) (w:World) (t:Value) (rows:List ND) (hF:Bn F w t rows) (s:SQ) (main:Nat) (hm:main<rows.length) (hfit:Az rows s 12 main=true) (kd:Int) (nm:ByteArray) (l r:Nat) (hx:rowAt rows main=⟨kd,nm,(l:Int),(r:Int)⟩) (hl:l<1024) (hr:r<1024) :
  Calls Tryz.prog 94 #[t,.agg (Ad s.left s.goal).toArray,.int .i64 12,.int .i64 (main:Int)] w (Fe F w t ⟨rows,0,[⟨s.left,r⟩]⟩):=by
 have HB0:=Aa (Ab w (.cells (Ad s.left s.goal).toArray 86))
 have HQ0:=Aa (Ae.new w (Ad s.left s.goal) 86)
 have HFI:Hid (∀ W,Below w.heap.size w W→Calls Tryz.prog 120 #[t,.agg (Ad s.left s.goal).toArray,.int .i64 12,.int .i64 (main:Int)] W fun e w'=>e = .returned (.bool true)∧Below W.heap.size W w'):=fun W hb=>hfit▸(hF.below hb).read fun k ow ht=>Dh k ow W t rows ht s main hm 12 (by decide) (by decide)
 have HM:Hid (main<1024):=Nat.lt_of_lt_of_le hm hF.ok.le
 have HL:=Aa hl
 have HR:=Aa hr
 have HT:=Aa hF
 obtain ⟨pb,v0,rfl,hat⟩:=hF.col 0
 obtain ⟨g,c,rfl,hrr⟩:=hat.row (Am hm)
 rw [hx] at hrr
 have HRR:=Aa hrr
 have h1:(main:Int)<(rows.length:Int):=by omega
 clear hat hrr hx hm hfit hl hr hF
 go_enter Tryz.func94,Tryz.ntmps94
 go_wp2_with (first
  | (refine Ah (.tmp 5) rfl rfl rfl HQ0.o ?_)
  | (go_at_call 120;refine (HFI.o _ HB0.o).mono ?_;rintro e W1 ⟨rfl,hb1⟩;have HB1:=Aa (Ac HB0.o hb1);have HQ1:=Aa (HQ0.o.below hb1);have hr1:=HRR.o.below HB1.o;have c0:=hr1.cp;have d0:=hr1.d0;have d1:=hr1.d1;have d2:=hr1.d2;have d3:=hr1.d3;clear hb1 hr1 HFI HQ0)
  | (have HX2:=Aa (Ae.new W1 (ND.mk kd nm (l:Int) (r:Int)).cells 31);have HB12:=Aa (Ab W1 (.cells (ND.mk kd nm (l:Int) (r:Int)).cells.toArray 31));have HQ2:=Aa (HQ1.o.below HB12.o);have e0:(.cells #[.int .i64 kd,.string nm,.int .i64 (l:Int),.int .i64 (r:Int)] 31:Obj) = .cells (ND.mk kd nm (l:Int) (r:Int)).cells.toArray 31:=rfl;rw [e0];generalize W1.alloc (.cells (ND.mk kd nm (l:Int) (r:Int)).cells.toArray 31)=W2 at *;clear e0 c0 d0 d1 d2 d3;have HB2:=Aa (Ac HB1.o HB12.o);refine Ah (.tmp 5) rfl rfl rfl HQ2.o ?_)
  | (refine Ar (.tmp 11) (.tmp 36) rfl rfl rfl rfl (Ae.new W2 (Ad 0 0) 86) (Ai _ _) ?_;intro W3 hb3 ho3;have HR3:=Aa hb3;have HB23:=Aa ((Ab W2 _).trans (ho3.below (Nat.le_refl _)));have HB3:=Aa (HB2.o.trans (HB23.o.mono HB2.o.size));have HQ3:=Aa (HQ2.o.below HB23.o);have HX3:=Aa (HX2.o.below HB23.o);clear hb3 ho3)
  | (refine Ap (.tmp 37) rfl rfl rfl HQ3.o ?_)
  | (go_at_call 121;refine (Dn W3 s.left main HM.o).mono ?_;rintro e W4 ⟨rfl,hb4⟩;have HB4:=Aa (Ac HB3.o hb4);have HR4:=Aa (HR3.o.below hb4);have HQ4:=Aa (HQ3.o.below hb4);have HX4:=Aa (HX3.o.below hb4);clear hb4)
  | (refine Au (.tmp 41) (.tmp 40) rfl rfl rfl rfl HR4.o ?_;intro W5 hb5 ho5;have HR5:=Aa hb5;have HX5:=Aa (HX4.o.only ho5 (Nat.ne_of_lt HX2.o.lt));have HQ5:=Aa (HQ4.o.only ho5 (Nat.ne_of_lt HQ2.o.lt));have c2:=HX5.o.cell (i:=2) rfl;have c3:=HX5.o.cell (i:=3) rfl;have HB5:=Aa (HB4.o.trans (ho5.below HB2.o.size));clear hb5 ho5;simp only at c2 c3)
  | (refine Ah (.tmp 5) rfl rfl rfl HQ5.o ?_)
  | (go_at_call 124;refine (Lr W5 s.left s.goal (r:Int)).mono ?_;rintro e W6 ⟨rfl,hb6⟩;have HB6:=Aa hb6;have hsl:=Ai s.left (r:Int);clear hb6))
 rw [Fh]
 refine bodyPost_ret (v:=.tuple #[.slice (some ⟨W6.heap.size,0,none⟩) 1 1,.int .i64 0]) (by simp [results,Tryz.results94,go_sem]) rfl ?_
 exact Gv (KeptF.of_below HT.o.in_ HB5.o) (HT.o.below HB5.o) HB6.o (by simp) (by simp [-List.flatMap_toArray])
set_option maxRecDepth 100000 in
set_option maxHeartbeats 2000000 in
theorem kN (F:FP) (w:World) (t:Value) (rows:List ND) (hF:Bn F w t rows) (s:SQ) (main:Nat) (hm:main<rows.length) (hfit:Az rows s 1 main=true) (kd:Int) (nm:ByteArray) (l r:Nat) (hx:rowAt rows main=⟨kd,nm,(l:Int),(r:Int)⟩) (hl:l<1024) (hr:r<1024) :
  Calls Tryz.prog 94 #[t,.agg (Ad s.left s.goal).toArray,.int .i64 1,.int .i64 (main:Int)] w (Fe F w t ⟨rows,0,[]⟩):=by
 have HB0:=Aa (Ab w (.cells (Ad s.left s.goal).toArray 86))
 have HQ0:=Aa (Ae.new w (Ad s.left s.goal) 86)
 have HFI:Hid (∀ W,Below w.heap.size w W→Calls Tryz.prog 120 #[t,.agg (Ad s.left s.goal).toArray,.int .i64 1,.int .i64 (main:Int)] W fun e w'=>e = .returned (.bool true)∧Below W.heap.size W w'):=fun W hb=>hfit▸(hF.below hb).read fun k ow ht=>Dh k ow W t rows ht s main hm 1 (by decide) (by decide)
 have HM:Hid (main<1024):=Nat.lt_of_lt_of_le hm hF.ok.le
 have HL:=Aa hl
 have HR:=Aa hr
 have HT:=Aa hF
 obtain ⟨pb,v0,rfl,hat⟩:=hF.col 0
 obtain ⟨g,c,rfl,hrr⟩:=hat.row (Am hm)
 rw [hx] at hrr
 have HRR:=Aa hrr
 have h1:(main:Int)<(rows.length:Int):=by omega
 clear hat hrr hx hm hfit hl hr hF
 go_enter Tryz.func94,Tryz.ntmps94
 go_wp2_with (first
  | (refine Ah (.tmp 5) rfl rfl rfl HQ0.o ?_)
  | (go_at_call 120;refine (HFI.o _ HB0.o).mono ?_;rintro e W1 ⟨rfl,hb1⟩;have HB1:=Aa (Ac HB0.o hb1);have HQ1:=Aa (HQ0.o.below hb1);have hr1:=HRR.o.below HB1.o;have c0:=hr1.cp;have d0:=hr1.d0;have d1:=hr1.d1;have d2:=hr1.d2;have d3:=hr1.d3;clear hb1 hr1 HFI HQ0)
  | (have HX2:=Aa (Ae.new W1 (ND.mk kd nm (l:Int) (r:Int)).cells 31);have HB12:=Aa (Ab W1 (.cells (ND.mk kd nm (l:Int) (r:Int)).cells.toArray 31));have HQ2:=Aa (HQ1.o.below HB12.o);have e0:(.cells #[.int .i64 kd,.string nm,.int .i64 (l:Int),.int .i64 (r:Int)] 31:Obj) = .cells (ND.mk kd nm (l:Int) (r:Int)).cells.toArray 31:=rfl;rw [e0];generalize W1.alloc (.cells (ND.mk kd nm (l:Int) (r:Int)).cells.toArray 31)=W2 at *;clear e0 c0 d0 d1 d2 d3;have HB2:=Aa (Ac HB1.o HB12.o);refine Ah (.tmp 5) rfl rfl rfl HQ2.o ?_)
  | (refine Ar (.tmp 11) (.tmp 36) rfl rfl rfl rfl (Ae.new W2 (Ad 0 0) 86) (Ai _ _) ?_;intro W3 hb3 ho3;have HR3:=Aa hb3;have HB23:=Aa ((Ab W2 _).trans (ho3.below (Nat.le_refl _)));have HB3:=Aa (HB2.o.trans (HB23.o.mono HB2.o.size));have HQ3:=Aa (HQ2.o.below HB23.o);have HX3:=Aa (HX2.o.below HB23.o);clear hb3 ho3)
  | (refine Ap (.tmp 37) rfl rfl rfl HQ3.o ?_)
  | (go_at_call 121;refine (Dn W3 s.left main HM.o).mono ?_;rintro e W4 ⟨rfl,hb4⟩;have HB4:=Aa (Ac HB3.o hb4);have HR4:=Aa (HR3.o.below hb4);have HQ4:=Aa (HQ3.o.below hb4);have HX4:=Aa (HX3.o.below hb4);clear hb4)
  | (refine Au (.tmp 41) (.tmp 40) rfl rfl rfl rfl HR4.o ?_;intro W5 hb5 ho5;have HR5:=Aa hb5;have HX5:=Aa (HX4.o.only ho5 (Nat.ne_of_lt HX2.o.lt));have HQ5:=Aa (HQ4.o.only ho5 (Nat.ne_of_lt HQ2.o.lt));have c2:=HX5.o.cell (i:=2) rfl;have c3:=HX5.o.cell (i:=3) rfl;have HB5:=Aa (HB4.o.trans (ho5.below HB2.o.size));clear hb5 ho5;simp only at c2 c3))
 go_ret2
 exact Yg HT.o HB5.o
set_option maxRecDepth 100000 in
set_option maxHeartbeats 2000000 in
theorem kW (F:FP) (w:World) (t:Value) (rows:List ND) (hF:Bn F w t rows) (s:SQ) (main:Nat) (hm:main<rows.length) (hfit:Az rows s 2 main=true) (kd:Int) (nm:ByteArray) (l r:Nat) (hx:rowAt rows main=⟨kd,nm,(l:Int),(r:Int)⟩) (hl:l<1024) (hr:r<1024) :
  Calls Tryz.prog 94 #[t,.agg (Ad s.left s.goal).toArray,.int .i64 2,.int .i64 (main:Int)] w (Fe F w t ⟨rows,0,[]⟩):=by
 have HB0:=Aa (Ab w (.cells (Ad s.left s.goal).toArray 86))
 have HQ0:=Aa (Ae.new w (Ad s.left s.goal) 86)
 have HFI:Hid (∀ W,Below w.heap.size w W→Calls Tryz.prog 120 #[t,.agg (Ad s.left s.goal).toArray,.int .i64 2,.int .i64 (main:Int)] W fun e w'=>e = .returned (.bool true)∧Below W.heap.size W w'):=fun W hb=>hfit▸(hF.below hb).read fun k ow ht=>Dh k ow W t rows ht s main hm 2 (by decide) (by decide)
 have HM:Hid (main<1024):=Nat.lt_of_lt_of_le hm hF.ok.le
 have HL:=Aa hl
 have HR:=Aa hr
 have HT:=Aa hF
 obtain ⟨pb,v0,rfl,hat⟩:=hF.col 0
 obtain ⟨g,c,rfl,hrr⟩:=hat.row (Am hm)
 rw [hx] at hrr
 have HRR:=Aa hrr
 have h1:(main:Int)<(rows.length:Int):=by omega
 clear hat hrr hx hm hfit hl hr hF
 go_enter Tryz.func94,Tryz.ntmps94
 go_wp2_with (first
  | (refine Ah (.tmp 5) rfl rfl rfl HQ0.o ?_)
  | (go_at_call 120;refine (HFI.o _ HB0.o).mono ?_;rintro e W1 ⟨rfl,hb1⟩;have HB1:=Aa (Ac HB0.o hb1);have HQ1:=Aa (HQ0.o.below hb1);have hr1:=HRR.o.below HB1.o;have c0:=hr1.cp;have d0:=hr1.d0;have d1:=hr1.d1;have d2:=hr1.d2;have d3:=hr1.d3;clear hb1 hr1 HFI HQ0)
  | (have HX2:=Aa (Ae.new W1 (ND.mk kd nm (l:Int) (r:Int)).cells 31);have HB12:=Aa (Ab W1 (.cells (ND.mk kd nm (l:Int) (r:Int)).cells.toArray 31));have HQ2:=Aa (HQ1.o.below HB12.o);have e0:(.cells #[.int .i64 kd,.string nm,.int .i64 (l:Int),.int .i64 (r:Int)] 31:Obj) = .cells (ND.mk kd nm (l:Int) (r:Int)).cells.toArray 31:=rfl;rw [e0];generalize W1.alloc (.cells (ND.mk kd nm (l:Int) (r:Int)).cells.toArray 31)=W2 at *;clear e0 c0 d0 d1 d2 d3;have HB2:=Aa (Ac HB1.o HB12.o);refine Ah (.tmp 5) rfl rfl rfl HQ2.o ?_)
  | (refine Ar (.tmp 11) (.tmp 36) rfl rfl rfl rfl (Ae.new W2 (Ad 0 0) 86) (Ai _ _) ?_;intro W3 hb3 ho3;have HR3:=Aa hb3;have HB23:=Aa ((Ab W2 _).trans (ho3.below (Nat.le_refl _)));have HB3:=Aa (HB2.o.trans (HB23.o.mono HB2.o.size));have HQ3:=Aa (HQ2.o.below HB23.o);have HX3:=Aa (HX2.o.below HB23.o);clear hb3 ho3)
  | (refine Ap (.tmp 37) rfl rfl rfl HQ3.o ?_)
  | (go_at_call 121;refine (Dn W3 s.left main HM.o).mono ?_;rintro e W4 ⟨rfl,hb4⟩;have HB4:=Aa (Ac HB3.o hb4);have HR4:=Aa (HR3.o.below hb4);have HQ4:=Aa (HQ3.o.below hb4);have HX4:=Aa (HX3.o.below hb4);clear hb4)
  | (refine Au (.tmp 41) (.tmp 40) rfl rfl rfl rfl HR4.o ?_;intro W5 hb5 ho5;have HR5:=Aa hb5;have HX5:=Aa (HX4.o.only ho5 (Nat.ne_of_lt HX2.o.lt));have HQ5:=Aa (HQ4.o.only ho5 (Nat.ne_of_lt HQ2.o.lt));have c2:=HX5.o.cell (i:=2) rfl;have c3:=HX5.o.cell (i:=3) rfl;have HB5:=Aa (HB4.o.trans (ho5.below HB2.o.size));clear hb5 ho5;simp only at c2 c3))
 go_ret2
 exact Yg HT.o HB5.o
end Go.Dk
end
