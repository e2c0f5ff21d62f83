/- Parts of the proof: Qc. -/
import Derived.Test.YthhokkfcdbcllaaGreatDoorR01
import Derived.Test.YthhokkfcdbcllaaGreatDoorR02
import Derived.Test.YthhokkfcdbcllaaGreatDoorR03
import Derived.Test.YthhokkfcdbcllaaGreatDoorR04
import Derived.Test.YthhokkfcdbcllaaGreatDoorR05
import Derived.Test.YthhokkfcdbcllaaGreatDoorR06
import Derived.Test.YthhokkfcdbcllaaGreatDoorR07
import Derived.Test.YthhokkfcdbcllaaGreatDoorR08
section
namespace Go.Dk
open Go.RowKit Go.Maps Go.MapKept
open Go.Proofs hiding intOf
attribute [local go_sem ↓] Dv
attribute [local go_sem] Du
set_option maxRecDepth 100000 in
set_option maxHeartbeats 2000000 in
theorem lL (k:Nat) (ow:Own) (w:World) (t:Value) (rows:List ND) (h:Tab k ow w t rows) (s:SQ) (main:Nat) (hm:main<rows.length) (kd:Int) (nm:ByteArray) (l r:Nat) (hx:rowAt rows main=⟨kd,nm,(l:Int),(r:Int)⟩) (hl:l<1024) (hr:r<1024) :
  Calls Tryz.prog 87 #[t,.agg (Ad s.left s.goal).toArray,.int .i64 10,.int .i64 (main:Int)] w fun e w'=>∃ b,e = .returned (.tuple #[.slice (some ⟨b,0,none⟩) 2 2,.int .i64 0])∧w.heap.size≤b∧Ae w' b (Ad (Aw (Be s.left main) l) s.goal++Ad (Aw (Be s.left main) r) s.goal) 86∧Below w.heap.size w w':=by
 have HB0:=Aa (Ab w (.cells (Ad s.left s.goal).toArray 86))
 have HQ0:=Aa (Ae.new w (Ad s.left s.goal) 86)
 have HN1:=Aa (Dc k ow w t rows h main hm _ hx)
 have HL:=Aa hl
 have HR:=Aa hr
 clear hr hl
 obtain ⟨y,hy⟩:∃ n,nodeAt rows (l:Int)=n:=⟨_,rfl⟩
 have HN2:Hid (∀ W,Below w.heap.size w W→Calls Tryz.prog 104 #[t,.int .i64 (l:Int)] W fun e w'=>e = .returned (.agg y.cells.toArray)∧Below W.heap.size W w'):=fun W hb=>hy▸Eb k ow W t rows (h.below hb) (l:Int)
 obtain ⟨kd2,nm2,l2,r2⟩:=y
 have hmx:main<1024:=Nat.lt_of_lt_of_le hm h.ok.le
 have HM:=Aa hmx
 simp only at HN1
 clear h hx hy hmx hm
 go_enter Tryz.func87,Tryz.ntmps87
 go_wp2_with (first
  | (go_at_call 104;refine (HN1.o _ HB0.o).mono ?_;rintro e W1 ⟨rfl,hb1⟩;have HB1:=Aa (Ac HB0.o hb1);have HQ1:=Aa (HQ0.o.below hb1);clear hb1 HN1)
  | (refine Aj Ds (.tmp 10) (.tmp 21) rfl rfl rfl (ys:=(ND.mk kd nm (l:Int) (r:Int)).cells) rfl (Ae.new W1 Do.cells 31) rfl rfl (cells_one _) ?_;intro W2 hb2 ho2;have c2:=hb2.cell (i:=2) rfl;have HX2:=Aa hb2;have HB12:=Aa ((Ab W1 _).trans (ho2.below (Nat.le_refl _)));have HB2:=Aa (HB1.o.trans (HB12.o.mono HB1.o.size));have HQ2:=Aa (HQ1.o.below HB12.o);clear hb2 ho2;simp only at c2)
  | (go_at_call 104;refine (HN2.o _ HB2.o).mono ?_;rintro e W3 ⟨rfl,hb3⟩;have HB3:=Aa (Ac HB2.o hb3);have HQ3:=Aa (HQ2.o.below hb3);have HX3:=Aa (HX2.o.below hb3);clear hb3 c2)
  | (refine Aj Ds (.tmp 11) (.tmp 25) rfl rfl rfl (ys:=(ND.mk kd2 nm2 l2 r2).cells) rfl (Ae.new W3 Do.cells 31) rfl rfl (cells_one _) ?_;intro W4 hb4 ho4;have HY4:=Aa hb4;have HB34:=Aa ((Ab W3 _).trans (ho4.below (Nat.le_refl _)));have HB4:=Aa (HB3.o.trans (HB34.o.mono HB3.o.size));have HQ4:=Aa (HQ3.o.below HB34.o);have HX4:=Aa (HX3.o.below HB34.o);clear hb4 ho4)
  | (refine Ah (.tmp 5) rfl rfl rfl HQ4.o ?_)
  | (refine Ar (.tmp 12) (.tmp 26) rfl rfl rfl rfl (Ae.new W4 (Ad 0 0) 86) (Ai _ _) ?_;intro W5 hb5 ho5;have HR5:=Aa hb5;have HB45:=Aa ((Ab W4 _).trans (ho5.below (Nat.le_refl _)));have HB5:=Aa (HB4.o.trans (HB45.o.mono HB4.o.size));have HQ5:=Aa (HQ4.o.below HB45.o);have HX5:=Aa (HX4.o.below HB45.o);have HY5:=Aa (HY4.o.below HB45.o);have HZ4:=Aa HB4.o.size;have HZ5:=Aa HB45.o.size;clear hb5 ho5)
  | (refine Ap (.tmp 27) rfl rfl rfl HQ5.o ?_)
  | (go_at_call 109;refine (Fg W5 s.left main HM.o).mono ?_;rintro e W6 ⟨rfl,hb6⟩;have HB6:=Aa (HB5.o.trans (hb6.mono HB5.o.size));have HR6:=Aa (HR5.o.below hb6);have HQ6:=Aa (HQ5.o.below hb6);have HX6:=Aa (HX5.o.below hb6);have HY6:=Aa (HY5.o.below hb6);clear hb6)
  | (refine Au (.tmp 31) (.tmp 30) rfl rfl rfl rfl HR6.o ?_;intro W7 hb7 ho7;have HR7:=Aa hb7;have HX7:=Aa (HX6.o.only ho7 (Nat.ne_of_lt HX4.o.lt));have HQ7:=Aa (HQ6.o.only ho7 (Nat.ne_of_lt HQ4.o.lt));have c7:=HX7.o.cell (i:=3) rfl;have c6:=HX7.o.cell (i:=2) rfl;have HB7:=Aa (HB6.o.trans (ho7.below HZ4.o));clear hb7 ho7;simp only at c7 c6))
 have HK:Hid (∀ W',Below W7.heap.size W7 W'→Aft W7 W'):=fun W' hb=>hb
 have hld:∀ W',Aft W7 W'→Bf 86 W' (.pointer (some ⟨W4.heap.size,0,none⟩)):=fun W' hb=>(An (HR7.o.below hb).loads).1
 have hlv:∀ W',Aft W7 W'→Dq 86 W' (.pointer (some ⟨W4.heap.size,0,none⟩))=_:=fun W' hb=>(An (HR7.o.below hb).loads).2
 have hcl0:∀ W',Aft W7 W'→W'.cell? ⟨W1.heap.size,2,none⟩=some (.int .i64 (l:Int)):=fun W' hb=>(HX7.o.below hb).cell (i:=2) rfl
 have hcl1:∀ W',Aft W7 W'→W'.cell? ⟨W1.heap.size,3,none⟩=some (.int .i64 (r:Int)):=fun W' hb=>(HX7.o.below hb).cell (i:=3) rfl
 have HD:=Aa (below_drewN W7 1)
 have HW8:Hid (∀ (W:World) (g:Nat),W.cell? ⟨g,0,none⟩=some (.int .i64 (l:Int))→Calls Tryz.prog 110 #[.agg (Ad (Be s.left main) s.goal).toArray,.slice (some ⟨g,0,none⟩) 1 1] W fun e w'=>e = .returned (.agg (Ad (Aw (Be s.left main) l) s.goal).toArray)∧Below W.heap.size W w'):=fun W g hj=>by
  have:=Jg W (Be s.left main) s.goal g 0 1 [l] (by simp) (by simpa using HL.o) (Zd hj)
  rw [Hy] at this
  exact this
 have HW9:Hid (∀ (W:World) (g:Nat),W.cell? ⟨g,0,none⟩=some (.int .i64 (r:Int))→Calls Tryz.prog 110 #[.agg (Ad (Be s.left main) s.goal).toArray,.slice (some ⟨g,0,none⟩) 1 1] W fun e w'=>e = .returned (.agg (Ad (Aw (Be s.left main) r) s.goal).toArray)∧Below W.heap.size W w'):=fun W g hj=>by
  have:=Jg W (Be s.left main) s.goal g 0 1 [r] (by simp) (by simpa using HR.o) (Zd hj)
  rw [Hy] at this
  exact this
 have hfs:∀ (l:List (Value × Nat)) (cs:Array Value),(List.foldl (fun (cs:Array Value) (x:Value × Nat)=>cs.setIfInBounds x.2 x.1) cs l).size=cs.size:=fold_size
 clear c6 c7
 as_aux_lemma=>
  go_region_held3 (fun W'=>Aft W7 W')
   (((refine HK.o _ ?_;repeat (with_reducible first | exact Below.refl _ _ | exact HD.o | exact HB9.o | exact HB8.o | refine Ac ?_ (Ab _ _) | refine Ac ?_ (Db _)))))
   (first
    | (go_at_call 110;refine (HW8.o _ _ (by repeat (first | (with_reducible refine Um ?_) | ((with_reducible refine cell_new1 ?_);first | rfl | (simp;done)) | (with_reducible refine Ao (Ab _ _) ?_)))).mono ?_;clear HW8;rintro e W8 ⟨rfl,hb8⟩;have HB8:Hid (Below W7.heap.size W7 W8):=Ac (by repeat (with_reducible first | exact Below.refl _ _ | exact HD.o | refine Ac ?_ (Ab _ _) | refine Ac ?_ (Db _))) hb8;have HB88:=Aa hb8;have hsl:=Ai (Aw (Be s.left main) l) s.goal;clear hb8)
    | (go_at_call 110;refine (HW9.o _ _ (by repeat (first | (with_reducible refine Um ?_) | ((with_reducible refine cell_new1 ?_);first | rfl | (simp;done)) | (with_reducible refine Ao (Ab _ _) ?_) | (with_reducible refine Ao HB88.o ?_)))).mono ?_;rintro e W9 ⟨rfl,hb9⟩;have HB9:Hid (Below W7.heap.size W7 W9):=Ac (by repeat (with_reducible first | exact Below.refl _ _ | exact HD.o | exact HB8.o | refine Ac ?_ (Ab _ _) | refine Ac ?_ (Db _))) hb9;have hsl2:=Ai (Aw (Be s.left main) r) s.goal;clear hb9))
  all_goals
   as_aux_lemma=>
   go_wp2_with fail
   rw [Lq _ _ _ _ _ rfl]
   exact bodyPost_ret (v:=.tuple #[.slice (some ⟨W9.heap.size,0,none⟩) 2 2,.int .i64 0]) (by simp [results,Tryz.results87,go_sem]) rfl ⟨W9.heap.size,rfl,(Ac HB7.o HB9.o).size,Ae.new W9 _ _,Ac (Ac HB7.o HB9.o) (Ab _ _)⟩
end Go.Dk
end
