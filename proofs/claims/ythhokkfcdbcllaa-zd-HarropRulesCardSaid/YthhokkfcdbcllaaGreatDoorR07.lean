/- Parts of the proof: Kz. -/
import Derived.Test.YthhokkfcdbcllaaGreatDoorR01
import Derived.Test.YthhokkfcdbcllaaGreatDoorR02
import Derived.Test.YthhokkfcdbcllaaGreatDoorR03
import Derived.Test.YthhokkfcdbcllaaGreatDoorR04
import Derived.Test.YthhokkfcdbcllaaGreatDoorR05
import Derived.Test.YthhokkfcdbcllaaGreatDoorR06
section
namespace Go.Dk
open Go.RowKit Go.Maps Go.MapKept
open Go.Proofs hiding intOf
theorem pT {W':World} {b m:Nat} {g:Int} {T:TypeId} (h:Ae W' b (Ad m g) T):W'.cell? ⟨b,0,none⟩=some (.int .u64 (wd m 0:Int))∧W'.cell? ⟨b,1,none⟩=some (.int .u64 (wd m 1:Int))∧W'.cell? ⟨b,2,none⟩=some (.int .u64 (wd m 2:Int))∧W'.cell? ⟨b,3,none⟩=some (.int .u64 (wd m 3:Int))∧W'.cell? ⟨b,4,none⟩=some (.int .u64 (wd m 4:Int))∧W'.cell? ⟨b,5,none⟩=some (.int .u64 (wd m 5:Int))∧W'.cell? ⟨b,6,none⟩=some (.int .u64 (wd m 6:Int))∧W'.cell? ⟨b,7,none⟩=some (.int .u64 (wd m 7:Int))∧W'.cell? ⟨b,8,none⟩=some (.int .u64 (wd m 8:Int))∧W'.cell? ⟨b,9,none⟩=some (.int .u64 (wd m 9:Int))∧W'.cell? ⟨b,10,none⟩=some (.int .u64 (wd m 10:Int))∧W'.cell? ⟨b,11,none⟩=some (.int .u64 (wd m 11:Int))∧W'.cell? ⟨b,12,none⟩=some (.int .u64 (wd m 12:Int))∧W'.cell? ⟨b,13,none⟩=some (.int .u64 (wd m 13:Int))∧W'.cell? ⟨b,14,none⟩=some (.int .u64 (wd m 14:Int))∧W'.cell? ⟨b,15,none⟩=some (.int .u64 (wd m 15:Int))∧W'.cell? ⟨b,16,none⟩=some (.int .i64 g):=by
 refine ⟨?_,?_,?_,?_,?_,?_,?_,?_,?_,?_,?_,?_,?_,?_,?_,?_,?_⟩
 all_goals exact h.cell rfl
set_option maxRecDepth 100000 in
set_option maxHeartbeats 2000000 in
theorem lO (k:Nat) (ow:Own) (w:World) (t:Value) (rows:List ND) (h:Tab k ow w t rows) (s:SQ) (main:Nat) (hm:main<rows.length) (kd:Int) (nm:ByteArray) (l r:Nat) (hx:rowAt rows main=⟨kd,nm,(l:Int),(r:Int)⟩) (hl:l<1024) (hr:r<1024) :
  Calls Tryz.prog 87 #[t,.agg (Ad s.left s.goal).toArray,.int .i64 11,.int .i64 (main:Int)] w fun e w'=>∃ b,e = .returned (.tuple #[.slice (some ⟨b,0,none⟩) 1 1,.int .i64 0])∧w.heap.size≤b∧Ae w' b (Ad s.left (l:Int)) 86∧Below w.heap.size w w':=by
 have HB0:=Aa (Ab w (.cells (Ad s.left s.goal).toArray 86))
 have HQ0:=Aa (Ae.new w (Ad s.left s.goal) 86)
 have HN1:=Aa (Dc k ow w t rows h main hm _ hx)
 have HL:=Aa hl
 have HR:=Aa hr
 clear hr hl
 obtain ⟨y,hy⟩:∃ n,nodeAt rows (l:Int)=n:=⟨_,rfl⟩
 have HN2:Hid (∀ W,Below w.heap.size w W→Calls Tryz.prog 104 #[t,.int .i64 (l:Int)] W fun e w'=>e = .returned (.agg y.cells.toArray)∧Below W.heap.size W w'):=fun W hb=>hy▸Eb k ow W t rows (h.below hb) (l:Int)
 obtain ⟨kd2,nm2,l2,r2⟩:=y
 have hmx:main<1024:=Nat.lt_of_lt_of_le hm h.ok.le
 have HM:=Aa hmx
 simp only at HN1
 clear h hx hy hmx hm
 go_enter Tryz.func87,Tryz.ntmps87
 go_wp2_with (first
  | (go_at_call 104;refine (HN1.o _ HB0.o).mono ?_;rintro e W1 ⟨rfl,hb1⟩;have HB1:=Aa (Ac HB0.o hb1);have HQ1:=Aa (HQ0.o.below hb1);clear hb1 HN1)
  | (refine Aj Ds (.tmp 10) (.tmp 21) rfl rfl rfl (ys:=(ND.mk kd nm (l:Int) (r:Int)).cells) rfl (Ae.new W1 Do.cells 31) rfl rfl (cells_one _) ?_;intro W2 hb2 ho2;have c2:=hb2.cell (i:=2) rfl;have HX2:=Aa hb2;have HB12:=Aa ((Ab W1 _).trans (ho2.below (Nat.le_refl _)));have HB2:=Aa (HB1.o.trans (HB12.o.mono HB1.o.size));have HQ2:=Aa (HQ1.o.below HB12.o);clear hb2 ho2;simp only at c2)
  | (go_at_call 104;refine (HN2.o _ HB2.o).mono ?_;rintro e W3 ⟨rfl,hb3⟩;have HB3:=Aa (Ac HB2.o hb3);have HQ3:=Aa (HQ2.o.below hb3);have HX3:=Aa (HX2.o.below hb3);clear hb3 c2)
  | (refine Aj Ds (.tmp 11) (.tmp 25) rfl rfl rfl (ys:=(ND.mk kd2 nm2 l2 r2).cells) rfl (Ae.new W3 Do.cells 31) rfl rfl (cells_one _) ?_;intro W4 hb4 ho4;have HY4:=Aa hb4;have HB34:=Aa ((Ab W3 _).trans (ho4.below (Nat.le_refl _)));have HB4:=Aa (HB3.o.trans (HB34.o.mono HB3.o.size));have HQ4:=Aa (HQ3.o.below HB34.o);have HX4:=Aa (HX3.o.below HB34.o);clear hb4 ho4)
  | (refine Ah (.tmp 5) rfl rfl rfl HQ4.o ?_)
  | (refine Ar (.tmp 12) (.tmp 26) rfl rfl rfl rfl (Ae.new W4 (Ad 0 0) 86) (Ai _ _) ?_;intro W5 hb5 ho5;have HR5:=Aa hb5;have HB45:=Aa ((Ab W4 _).trans (ho5.below (Nat.le_refl _)));have HB5:=Aa (HB4.o.trans (HB45.o.mono HB4.o.size));have HQ5:=Aa (HQ4.o.below HB45.o);have HX5:=Aa (HX4.o.below HB45.o);have HY5:=Aa (HY4.o.below HB45.o);have HZ4:=Aa HB4.o.size;have HZ5:=Aa HB45.o.size;clear hb5 ho5)
  | (refine Ap (.tmp 27) rfl rfl rfl HQ5.o ?_)
  | (go_at_call 109;refine (Fg W5 s.left main HM.o).mono ?_;rintro e W6 ⟨rfl,hb6⟩;have HB6:=Aa (HB5.o.trans (hb6.mono HB5.o.size));have HR6:=Aa (HR5.o.below hb6);have HQ6:=Aa (HQ5.o.below hb6);have HX6:=Aa (HX5.o.below hb6);have HY6:=Aa (HY5.o.below hb6);clear hb6)
  | (refine Au (.tmp 31) (.tmp 30) rfl rfl rfl rfl HR6.o ?_;intro W7 hb7 ho7;have HR7:=Aa hb7;have HX7:=Aa (HX6.o.only ho7 (Nat.ne_of_lt HX4.o.lt));have HQ7:=Aa (HQ6.o.only ho7 (Nat.ne_of_lt HQ4.o.lt));have c7:=HX7.o.cell (i:=3) rfl;have c6:=HX7.o.cell (i:=2) rfl;have HB7:=Aa (HB6.o.trans (ho7.below HZ4.o));clear hb7 ho7;simp only at c7 c6)
  | (refine Ah (.tmp 5) rfl rfl rfl HQ7.o ?_)
  | (go_at_call 114;refine (Wn W7 s.left s.goal (l:Int)).mono ?_;rintro e W9 ⟨rfl,hb9⟩;have HB9:=Aa (Ac HB7.o hb9);have hsl:=Ai s.left (l:Int);clear hb9))
 rw [Fh]
 exact bodyPost_ret (v:=.tuple #[.slice (some ⟨W9.heap.size,0,none⟩) 1 1,.int .i64 0]) (by simp [results,Tryz.results87,go_sem]) rfl ⟨W9.heap.size,rfl,HB9.o.size,Ae.new W9 _ _,Ac HB9.o (Ab _ _)⟩
set_option maxRecDepth 100000 in
set_option maxHeartbeats 2000000 in
theorem kE (k:Nat) (ow:Own) (w:World) (t:Value) (rows:List ND) (h:Tab k ow w t rows) (s:SQ) (main:Nat) (hm:main<rows.length) (kd:Int) (nm:ByteArray) (l r:Nat) (hx:rowAt rows main=⟨kd,nm,(l:Int),(r:Int)⟩) (hl:l<1024) (hr:r<1024) :
  Calls Tryz.prog 87 #[t,.agg (Ad s.left s.goal).toArray,.int .i64 12,.int .i64 (main:Int)] w fun e w'=>∃ b,e = .returned (.tuple #[.slice (some ⟨b,0,none⟩) 1 1,.int .i64 0])∧w.heap.size≤b∧Ae w' b (Ad s.left (r:Int)) 86∧Below w.heap.size w w':=by
 have HB0:=Aa (Ab w (.cells (Ad s.left s.goal).toArray 86))
 have HQ0:=Aa (Ae.new w (Ad s.left s.goal) 86)
 have HN1:=Aa (Dc k ow w t rows h main hm _ hx)
 have HL:=Aa hl
 have HR:=Aa hr
 clear hr hl
 obtain ⟨y,hy⟩:∃ n,nodeAt rows (l:Int)=n:=⟨_,rfl⟩
 have HN2:Hid (∀ W,Below w.heap.size w W→Calls Tryz.prog 104 #[t,.int .i64 (l:Int)] W fun e w'=>e = .returned (.agg y.cells.toArray)∧Below W.heap.size W w'):=fun W hb=>hy▸Eb k ow W t rows (h.below hb) (l:Int)
 obtain ⟨kd2,nm2,l2,r2⟩:=y
 have hmx:main<1024:=Nat.lt_of_lt_of_le hm h.ok.le
 have HM:=Aa hmx
 simp only at HN1
 clear h hx hy hmx hm
 go_enter Tryz.func87,Tryz.ntmps87
 go_wp2_with (first
  | (go_at_call 104;refine (HN1.o _ HB0.o).mono ?_;rintro e W1 ⟨rfl,hb1⟩;have HB1:=Aa (Ac HB0.o hb1);have HQ1:=Aa (HQ0.o.below hb1);clear hb1 HN1)
  | (refine Aj Ds (.tmp 10) (.tmp 21) rfl rfl rfl (ys:=(ND.mk kd nm (l:Int) (r:Int)).cells) rfl (Ae.new W1 Do.cells 31) rfl rfl (cells_one _) ?_;intro W2 hb2 ho2;have c2:=hb2.cell (i:=2) rfl;have HX2:=Aa hb2;have HB12:=Aa ((Ab W1 _).trans (ho2.below (Nat.le_refl _)));have HB2:=Aa (HB1.o.trans (HB12.o.mono HB1.o.size));have HQ2:=Aa (HQ1.o.below HB12.o);clear hb2 ho2;simp only at c2)
  | (go_at_call 104;refine (HN2.o _ HB2.o).mono ?_;rintro e W3 ⟨rfl,hb3⟩;have HB3:=Aa (Ac HB2.o hb3);have HQ3:=Aa (HQ2.o.below hb3);have HX3:=Aa (HX2.o.below hb3);clear hb3 c2)
  | (refine Aj Ds (.tmp 11) (.tmp 25) rfl rfl rfl (ys:=(ND.mk kd2 nm2 l2 r2).cells) rfl (Ae.new W3 Do.cells 31) rfl rfl (cells_one _) ?_;intro W4 hb4 ho4;have HY4:=Aa hb4;have HB34:=Aa ((Ab W3 _).trans (ho4.below (Nat.le_refl _)));have HB4:=Aa (HB3.o.trans (HB34.o.mono HB3.o.size));have HQ4:=Aa (HQ3.o.below HB34.o);have HX4:=Aa (HX3.o.below HB34.o);clear hb4 ho4)
  | (refine Ah (.tmp 5) rfl rfl rfl HQ4.o ?_)
  | (refine Ar (.tmp 12) (.tmp 26) rfl rfl rfl rfl (Ae.new W4 (Ad 0 0) 86) (Ai _ _) ?_;intro W5 hb5 ho5;have HR5:=Aa hb5;have HB45:=Aa ((Ab W4 _).trans (ho5.below (Nat.le_refl _)));have HB5:=Aa (HB4.o.trans (HB45.o.mono HB4.o.size));have HQ5:=Aa (HQ4.o.below HB45.o);have HX5:=Aa (HX4.o.below HB45.o);have HY5:=Aa (HY4.o.below HB45.o);have HZ4:=Aa HB4.o.size;have HZ5:=Aa HB45.o.size;clear hb5 ho5)
  | (refine Ap (.tmp 27) rfl rfl rfl HQ5.o ?_)
  | (go_at_call 109;refine (Fg W5 s.left main HM.o).mono ?_;rintro e W6 ⟨rfl,hb6⟩;have HB6:=Aa (HB5.o.trans (hb6.mono HB5.o.size));have HR6:=Aa (HR5.o.below hb6);have HQ6:=Aa (HQ5.o.below hb6);have HX6:=Aa (HX5.o.below hb6);have HY6:=Aa (HY5.o.below hb6);clear hb6)
  | (refine Au (.tmp 31) (.tmp 30) rfl rfl rfl rfl HR6.o ?_;intro W7 hb7 ho7;have HR7:=Aa hb7;have HX7:=Aa (HX6.o.only ho7 (Nat.ne_of_lt HX4.o.lt));have HQ7:=Aa (HQ6.o.only ho7 (Nat.ne_of_lt HQ4.o.lt));have c7:=HX7.o.cell (i:=3) rfl;have c6:=HX7.o.cell (i:=2) rfl;have HB7:=Aa (HB6.o.trans (ho7.below HZ4.o));clear hb7 ho7;simp only at c7 c6)
  | (refine Ah (.tmp 5) rfl rfl rfl HQ7.o ?_)
  | (go_at_call 114;refine (Wn W7 s.left s.goal (r:Int)).mono ?_;rintro e W9 ⟨rfl,hb9⟩;have HB9:=Aa (Ac HB7.o hb9);have hsl:=Ai s.left (r:Int);clear hb9))
 rw [Fh]
 exact bodyPost_ret (v:=.tuple #[.slice (some ⟨W9.heap.size,0,none⟩) 1 1,.int .i64 0]) (by simp [results,Tryz.results87,go_sem]) rfl ⟨W9.heap.size,rfl,HB9.o.size,Ae.new W9 _ _,Ac HB9.o (Ab _ _)⟩
set_option maxRecDepth 100000 in
set_option maxHeartbeats 2000000 in
theorem oS (k:Nat) (ow:Own) (w:World) (t:Value) (rows:List ND) (h:Tab k ow w t rows) (s:SQ) (main:Nat) (hm:main<rows.length) (kd:Int) (nm:ByteArray) (l r:Nat) (hx:rowAt rows main=⟨kd,nm,(l:Int),(r:Int)⟩) (hl:l<1024) (hr:r<1024) :
  Calls Tryz.prog 87 #[t,.agg (Ad s.left s.goal).toArray,.int .i64 8,.int .i64 (main:Int)] w fun e w'=>∃ b,e = .returned (.tuple #[.slice (some ⟨b,0,none⟩) 1 1,.int .i64 0])∧w.heap.size≤b∧Ae w' b (Ad (Aw s.left l) (r:Int)) 86∧Below w.heap.size w w':=by
 have HB0:=Aa (Ab w (.cells (Ad s.left s.goal).toArray 86))
 have HQ0:=Aa (Ae.new w (Ad s.left s.goal) 86)
 have HN1:=Aa (Dc k ow w t rows h main hm _ hx)
 have HL:=Aa hl
 have HR:=Aa hr
 clear hr hl
 obtain ⟨y,hy⟩:∃ n,nodeAt rows (l:Int)=n:=⟨_,rfl⟩
 have HN2:Hid (∀ W,Below w.heap.size w W→Calls Tryz.prog 104 #[t,.int .i64 (l:Int)] W fun e w'=>e = .returned (.agg y.cells.toArray)∧Below W.heap.size W w'):=fun W hb=>hy▸Eb k ow W t rows (h.below hb) (l:Int)
 obtain ⟨kd2,nm2,l2,r2⟩:=y
 have hmx:main<1024:=Nat.lt_of_lt_of_le hm h.ok.le
 have HM:=Aa hmx
 simp only at HN1
 clear h hx hy hmx hm
 go_enter Tryz.func87,Tryz.ntmps87
 go_wp2_with (first
  | (go_at_call 104;refine (HN1.o _ HB0.o).mono ?_;rintro e W1 ⟨rfl,hb1⟩;have HB1:=Aa (Ac HB0.o hb1);have HQ1:=Aa (HQ0.o.below hb1);clear hb1 HN1)
  | (refine Aj Ds (.tmp 10) (.tmp 21) rfl rfl rfl (ys:=(ND.mk kd nm (l:Int) (r:Int)).cells) rfl (Ae.new W1 Do.cells 31) rfl rfl (cells_one _) ?_;intro W2 hb2 ho2;have c2:=hb2.cell (i:=2) rfl;have HX2:=Aa hb2;have HB12:=Aa ((Ab W1 _).trans (ho2.below (Nat.le_refl _)));have HB2:=Aa (HB1.o.trans (HB12.o.mono HB1.o.size));have HQ2:=Aa (HQ1.o.below HB12.o);clear hb2 ho2;simp only at c2)
  | (go_at_call 104;refine (HN2.o _ HB2.o).mono ?_;rintro e W3 ⟨rfl,hb3⟩;have HB3:=Aa (Ac HB2.o hb3);have HQ3:=Aa (HQ2.o.below hb3);have HX3:=Aa (HX2.o.below hb3);clear hb3 c2)
  | (refine Aj Ds (.tmp 11) (.tmp 25) rfl rfl rfl (ys:=(ND.mk kd2 nm2 l2 r2).cells) rfl (Ae.new W3 Do.cells 31) rfl rfl (cells_one _) ?_;intro W4 hb4 ho4;have HY4:=Aa hb4;have HB34:=Aa ((Ab W3 _).trans (ho4.below (Nat.le_refl _)));have HB4:=Aa (HB3.o.trans (HB34.o.mono HB3.o.size));have HQ4:=Aa (HQ3.o.below HB34.o);have HX4:=Aa (HX3.o.below HB34.o);clear hb4 ho4)
  | (refine Ah (.tmp 5) rfl rfl rfl HQ4.o ?_)
  | (refine Ar (.tmp 12) (.tmp 26) rfl rfl rfl rfl (Ae.new W4 (Ad 0 0) 86) (Ai _ _) ?_;intro W5 hb5 ho5;have HR5:=Aa hb5;have HB45:=Aa ((Ab W4 _).trans (ho5.below (Nat.le_refl _)));have HB5:=Aa (HB4.o.trans (HB45.o.mono HB4.o.size));have HQ5:=Aa (HQ4.o.below HB45.o);have HX5:=Aa (HX4.o.below HB45.o);have HY5:=Aa (HY4.o.below HB45.o);have HZ4:=Aa HB4.o.size;have HZ5:=Aa HB45.o.size;clear hb5 ho5)
  | (refine Ap (.tmp 27) rfl rfl rfl HQ5.o ?_)
  | (go_at_call 109;refine (Fg W5 s.left main HM.o).mono ?_;rintro e W6 ⟨rfl,hb6⟩;have HB6:=Aa (HB5.o.trans (hb6.mono HB5.o.size));have HR6:=Aa (HR5.o.below hb6);have HQ6:=Aa (HQ5.o.below hb6);have HX6:=Aa (HX5.o.below hb6);have HY6:=Aa (HY5.o.below hb6);clear hb6)
  | (refine Au (.tmp 31) (.tmp 30) rfl rfl rfl rfl HR6.o ?_;intro W7 hb7 ho7;have HR7:=Aa hb7;have HX7:=Aa (HX6.o.only ho7 (Nat.ne_of_lt HX4.o.lt));have HQ7:=Aa (HQ6.o.only ho7 (Nat.ne_of_lt HQ4.o.lt));have c7:=HX7.o.cell (i:=3) rfl;have c6:=HX7.o.cell (i:=2) rfl;have HB7:=Aa (HB6.o.trans (ho7.below HZ4.o));clear hb7 ho7;simp only at c7 c6))
 have HK:Hid (∀ W',Below W7.heap.size W7 W'→(W'.cell? ⟨w.heap.size,0,none⟩=some (.int .u64 (wd s.left 0:Int))∧W'.cell? ⟨w.heap.size,1,none⟩=some (.int .u64 (wd s.left 1:Int))∧W'.cell? ⟨w.heap.size,2,none⟩=some (.int .u64 (wd s.left 2:Int))∧W'.cell? ⟨w.heap.size,3,none⟩=some (.int .u64 (wd s.left 3:Int))∧W'.cell? ⟨w.heap.size,4,none⟩=some (.int .u64 (wd s.left 4:Int))∧W'.cell? ⟨w.heap.size,5,none⟩=some (.int .u64 (wd s.left 5:Int))∧W'.cell? ⟨w.heap.size,6,none⟩=some (.int .u64 (wd s.left 6:Int))∧W'.cell? ⟨w.heap.size,7,none⟩=some (.int .u64 (wd s.left 7:Int))∧W'.cell? ⟨w.heap.size,8,none⟩=some (.int .u64 (wd s.left 8:Int))∧W'.cell? ⟨w.heap.size,9,none⟩=some (.int .u64 (wd s.left 9:Int))∧W'.cell? ⟨w.heap.size,10,none⟩=some (.int .u64 (wd s.left 10:Int))∧W'.cell? ⟨w.heap.size,11,none⟩=some (.int .u64 (wd s.left 11:Int))∧W'.cell? ⟨w.heap.size,12,none⟩=some (.int .u64 (wd s.left 12:Int))∧W'.cell? ⟨w.heap.size,13,none⟩=some (.int .u64 (wd s.left 13:Int))∧W'.cell? ⟨w.heap.size,14,none⟩=some (.int .u64 (wd s.left 14:Int))∧W'.cell? ⟨w.heap.size,15,none⟩=some (.int .u64 (wd s.left 15:Int))∧W'.cell? ⟨w.heap.size,16,none⟩=some (.int .i64 (s.goal:Int)))∧W'.cell? ⟨W1.heap.size,2,none⟩=some (.int .i64 (l:Int))∧W'.cell? ⟨W1.heap.size,3,none⟩=some (.int .i64 (r:Int))):=fun W' hb=>⟨pT (HQ7.o.below hb),(HX7.o.below hb).cell (i:=2) rfl,(HX7.o.below hb).cell (i:=3) rfl⟩
 have HD:=Aa (below_drewN W7 1)
 clear c6 c7
 have HW8:Hid (∀ W:World,(∀ j (h:j < [l].length),W.cell? ⟨(W7.drewN 1).heap.size,0+j,none⟩=some (.int .i64 ([l][j]:Int)))→Calls Tryz.prog 110 #[.agg #[.int .u64 (wd s.left 0:Int),.int .u64 (wd s.left 1:Int),.int .u64 (wd s.left 2:Int),.int .u64 (wd s.left 3:Int),.int .u64 (wd s.left 4:Int),.int .u64 (wd s.left 5:Int),.int .u64 (wd s.left 6:Int),.int .u64 (wd s.left 7:Int),.int .u64 (wd s.left 8:Int),.int .u64 (wd s.left 9:Int),.int .u64 (wd s.left 10:Int),.int .u64 (wd s.left 11:Int),.int .u64 (wd s.left 12:Int),.int .u64 (wd s.left 13:Int),.int .u64 (wd s.left 14:Int),.int .u64 (wd s.left 15:Int),.int .i64 (s.goal:Int)],.slice (some ⟨(W7.drewN 1).heap.size,0,none⟩) 1 1] W fun e w'=>e = .returned (.agg (Ad (s.left ||| 1 <<< l) s.goal).toArray)∧Below W.heap.size W w'):=fun W hj=>by
  have:=Jg W s.left s.goal (W7.drewN 1).heap.size 0 1 [l] (by simp) (by simpa using HL.o) hj
  rw [Hy] at this
  exact this
 go_region_held3 (fun W'=>(W'.cell? ⟨w.heap.size,0,none⟩=some (.int .u64 (wd s.left 0:Int))∧W'.cell? ⟨w.heap.size,1,none⟩=some (.int .u64 (wd s.left 1:Int))∧W'.cell? ⟨w.heap.size,2,none⟩=some (.int .u64 (wd s.left 2:Int))∧W'.cell? ⟨w.heap.size,3,none⟩=some (.int .u64 (wd s.left 3:Int))∧W'.cell? ⟨w.heap.size,4,none⟩=some (.int .u64 (wd s.left 4:Int))∧W'.cell? ⟨w.heap.size,5,none⟩=some (.int .u64 (wd s.left 5:Int))∧W'.cell? ⟨w.heap.size,6,none⟩=some (.int .u64 (wd s.left 6:Int))∧W'.cell? ⟨w.heap.size,7,none⟩=some (.int .u64 (wd s.left 7:Int))∧W'.cell? ⟨w.heap.size,8,none⟩=some (.int .u64 (wd s.left 8:Int))∧W'.cell? ⟨w.heap.size,9,none⟩=some (.int .u64 (wd s.left 9:Int))∧W'.cell? ⟨w.heap.size,10,none⟩=some (.int .u64 (wd s.left 10:Int))∧W'.cell? ⟨w.heap.size,11,none⟩=some (.int .u64 (wd s.left 11:Int))∧W'.cell? ⟨w.heap.size,12,none⟩=some (.int .u64 (wd s.left 12:Int))∧W'.cell? ⟨w.heap.size,13,none⟩=some (.int .u64 (wd s.left 13:Int))∧W'.cell? ⟨w.heap.size,14,none⟩=some (.int .u64 (wd s.left 14:Int))∧W'.cell? ⟨w.heap.size,15,none⟩=some (.int .u64 (wd s.left 15:Int))∧W'.cell? ⟨w.heap.size,16,none⟩=some (.int .i64 (s.goal:Int)))∧W'.cell? ⟨W1.heap.size,2,none⟩=some (.int .i64 (l:Int))∧W'.cell? ⟨W1.heap.size,3,none⟩=some (.int .i64 (r:Int)))
  (first | exact HK.o _ HD.o | exact HK.o _ (Ac HD.o (Ab _ _)) | exact HK.o _ HB8.o | exact HK.o _ HB9.o | exact HK.o _ (Ac HB9.o (Ab _ _)))
  (first
   | (go_at_call 110;refine (HW8.o _ (fun j hj=>by simp at hj;subst hj;exact World.cell?_alloc_at _ _ _ _ rfl)).mono ?_;rintro e W8 ⟨rfl,hb8⟩;have HB8:=Aa (Ac (Ac HD.o (Ab _ (.cells #[.int .i64 (l:Int)] 3))) hb8);clear hb8)
   | (go_at_call 114;refine (Wn W8 (s.left ||| 1 <<< l) s.goal (r:Int)).mono ?_;rintro e W9 ⟨rfl,hb9⟩;have HB9:=Aa (Ac HB8.o hb9);have hsl:=Ai (s.left ||| 1 <<< l) (r:Int);clear hb9))
 go_wp2_with fail
 rw [Fh]
 exact bodyPost_ret (v:=.tuple #[.slice (some ⟨W9.heap.size,0,none⟩) 1 1,.int .i64 0]) (by simp [results,Tryz.results87,go_sem]) rfl ⟨W9.heap.size,rfl,(Ac HB7.o HB9.o).size,Ae.new W9 _ _,Ac (Ac HB7.o HB9.o) (Ab _ _)⟩
end Go.Dk
end
