/- Parts of the proof: Qb. -/
import Derived.Test.YthhokkfcdbcllaaGreatDoorR01
import Derived.Test.YthhokkfcdbcllaaGreatDoorR02
import Derived.Test.YthhokkfcdbcllaaGreatDoorR03
import Derived.Test.YthhokkfcdbcllaaGreatDoorR04
import Derived.Test.YthhokkfcdbcllaaGreatDoorR05
import Derived.Test.YthhokkfcdbcllaaGreatDoorR06
import Derived.Test.YthhokkfcdbcllaaGreatDoorR07
section
namespace Go.Dk
open Go.RowKit Go.Maps Go.MapKept
open Go.Proofs hiding intOf
theorem fold_size (l:List (Value × Nat)):∀ (cs:Array Value),(List.foldl (fun (cs:Array Value) (x:Value × Nat)=>cs.setIfInBounds x.2 x.1) cs l).size=cs.size:=by
 induction l with
 | nil=>intro cs;rfl
 | cons x l ih=>intro cs;rw [List.foldl_cons,ih];simp
theorem fold_at (o:Nat) (vs:List Value):∀ (k:Nat) (cs:Array Value),o+k+vs.length≤cs.size→List.foldl (fun (cs:Array Value) (x:Value × Nat)=>cs.setIfInBounds (o+x.2) x.1) cs (vs.zipIdx k)=(cs.toList.take (o+k)++vs++cs.toList.drop (o+k+vs.length)).toArray:=by
 induction vs with
 | nil=>intro k cs h;simp
 | cons v vs ih=>
  intro k cs h
  rw [List.zipIdx_cons,List.foldl_cons,ih (k+1) _ (by simp at h ⊢;omega)]
  rw [Array.toList_setIfInBounds,show o+(k+1)=o+k+1 by omega,take_set _ _ _ (by simp at h ⊢;omega)]
  rw [List.drop_set_of_lt (by omega)]
  congr 1
  simp only [List.append_assoc,List.singleton_append,List.length_cons]
  rw [show o+k+1+vs.length=o+k+(vs.length+1) by omega]
theorem Lq (m m2:Nat) (g g2:Int) (z:Array Value) (hz:z.size=34):List.foldl (fun (cs:Array Value) (x:Value × Nat)=>cs.setIfInBounds (17+x.2) x.1) (List.foldl (fun (cs:Array Value) (x:Value × Nat)=>cs.setIfInBounds x.2 x.1) z (Ad m g).zipIdx) (Ad m2 g2).zipIdx=(Ad m g++Ad m2 g2).toArray:=by
 have h1:=fold_at 0 (Ad m g) 0 z (by rw [Ai];omega)
 simp only [Nat.zero_add] at h1
 rw [h1,fold_at 17 (Ad m2 g2) 0 _ (by simp [Ai,hz])]
 simp only [Nat.add_zero,List.take_zero,List.nil_append,Ai]
 rw [List.take_append_of_le_length (by rw [Ai];omega),List.take_of_length_le (by rw [Ai];omega)]
 rw [List.drop_of_length_le (by simp [Ai,hz]),List.append_nil]
theorem Zd {W:World} {g r:Nat} (h:W.cell? ⟨g,0,none⟩=some (.int .i64 (r:Int))):∀ j (h:j < [r].length),W.cell? ⟨g,0+j,none⟩=some (.int .i64 (([r][j]:Nat):Int)):=fun j hj=>by
 obtain rfl:j=0:=by simpa using hj
 exact h
theorem Ao {W W':World} (hb:Below W.heap.size W W') {a:Addr} {v:Value} (h:W.cell? a=some v):W'.cell? a=some v:=(hb.cell (World.block_lt_of_cell? _ _ h)).trans h
theorem Db (w:World):Below w.heap.size w w.drew:=⟨rfl,rfl,rfl,Nat.le_refl _,fun _ _=>rfl⟩
theorem Um {W:World} {a:Addr} {v:Value} (h:W.cell? a=some v):W.drew.cell? a=some v:=Ao (Db W) h
theorem cell_new1 {W:World} {v:Value} {T:TypeId} {n:Nat} (h:n=W.heap.size):(W.alloc (.cells #[v] T)).cell? ⟨n,0,none⟩=some v:=h▸World.cell?_alloc_at _ _ _ _ rfl
def Aft (W W':World):Prop:=Below W.heap.size W W'
def Vy (T:TypeId) (W:World) (p v:Value):Prop:=(Instr.loadAt T p).run Tryz.prog W = .ok v W
def Bf (T:TypeId) (W:World) (p:Value):Prop:=∃ v,Vy T W p v
open Classical in
noncomputable def Dq (T:TypeId) (W:World) (p:Value):Value:=if h:Bf T W p then Classical.choose h else undef
def nG (p:Value):_root_.Go.Sem Value:=Instr.loadAt 86 p
theorem Dv (p:Value):Instr.loadAt 86 p=nG p:=rfl
theorem Du {W:World} {p:Value} (h:Bf 86 W p):(nG p).run Tryz.prog W = .ok (Dq 86 W p) W:=by
 unfold Dq
 rw [dif_pos h]
 exact Classical.choose_spec h
theorem An {T:TypeId} {W:World} {p v:Value} (h:Vy T W p v):Bf T W p∧Dq T W p=v:=by
 have h1:Bf T W p:=⟨v,h⟩
 refine ⟨h1,?_⟩
 unfold Dq
 rw [dif_pos h1]
 have h2:=Classical.choose_spec h1
 have h3:=Eq.trans (Eq.symm h2) h
 injection h3
theorem Ae.loads {W:World} {b m:Nat} {g:Int} {T:TypeId} (h:Ae W b (Ad m g) T):Vy 86 W (.pointer (some ⟨b,0,none⟩)) (.agg (Ad m g).toArray):=by
 obtain ⟨d,hu,hd⟩:=fR
 exact run_loadAt_mid (P:=Tryz.prog) W b 0 86 (Ad m g) d (h.range (by simp)) hu hd (by rw [Ai];exact cE)
attribute [local go_sem ↓] Dv
attribute [local go_sem] Du
set_option maxRecDepth 100000 in
set_option maxHeartbeats 2000000 in
theorem qK (k:Nat) (ow:Own) (w:World) (t:Value) (rows:List ND) (h:Tab k ow w t rows) (s:SQ) (main:Nat) (hm:main<rows.length) (kd:Int) (nm:ByteArray) (l r:Nat) (hx:rowAt rows main=⟨kd,nm,(l:Int),(r:Int)⟩) (hl:l<1024) (hr:r<1024) :
  Calls Tryz.prog 87 #[t,.agg (Ad s.left s.goal).toArray,.int .i64 9,.int .i64 (main:Int)] w fun e w'=>∃ b,e = .returned (.tuple #[.slice (some ⟨b,0,none⟩) 2 2,.int .i64 0])∧w.heap.size≤b∧Ae w' b (Ad s.left (l:Int)++Ad s.left (r:Int)) 86∧Below w.heap.size w w':=by
 have HB0:=Aa (Ab w (.cells (Ad s.left s.goal).toArray 86))
 have HQ0:=Aa (Ae.new w (Ad s.left s.goal) 86)
 have HN1:=Aa (Dc k ow w t rows h main hm _ hx)
 have HL:=Aa hl
 have HR:=Aa hr
 clear hr hl
 obtain ⟨y,hy⟩:∃ n,nodeAt rows (l:Int)=n:=⟨_,rfl⟩
 have HN2:Hid (∀ W,Below w.heap.size w W→Calls Tryz.prog 104 #[t,.int .i64 (l:Int)] W fun e w'=>e = .returned (.agg y.cells.toArray)∧Below W.heap.size W w'):=fun W hb=>hy▸Eb k ow W t rows (h.below hb) (l:Int)
 obtain ⟨kd2,nm2,l2,r2⟩:=y
 have hmx:main<1024:=Nat.lt_of_lt_of_le hm h.ok.le
 have HM:=Aa hmx
 simp only at HN1
 clear h hx hy hmx hm
 go_enter Tryz.func87,Tryz.ntmps87
 go_wp2_with (first
  | (go_at_call 104;refine (HN1.o _ HB0.o).mono ?_;rintro e W1 ⟨rfl,hb1⟩;have HB1:=Aa (Ac HB0.o hb1);have HQ1:=Aa (HQ0.o.below hb1);clear hb1 HN1)
  | (refine Aj Ds (.tmp 10) (.tmp 21) rfl rfl rfl (ys:=(ND.mk kd nm (l:Int) (r:Int)).cells) rfl (Ae.new W1 Do.cells 31) rfl rfl (cells_one _) ?_;intro W2 hb2 ho2;have c2:=hb2.cell (i:=2) rfl;have HX2:=Aa hb2;have HB12:=Aa ((Ab W1 _).trans (ho2.below (Nat.le_refl _)));have HB2:=Aa (HB1.o.trans (HB12.o.mono HB1.o.size));have HQ2:=Aa (HQ1.o.below HB12.o);clear hb2 ho2;simp only at c2)
  | (go_at_call 104;refine (HN2.o _ HB2.o).mono ?_;rintro e W3 ⟨rfl,hb3⟩;have HB3:=Aa (Ac HB2.o hb3);have HQ3:=Aa (HQ2.o.below hb3);have HX3:=Aa (HX2.o.below hb3);clear hb3 c2)
  | (refine Aj Ds (.tmp 11) (.tmp 25) rfl rfl rfl (ys:=(ND.mk kd2 nm2 l2 r2).cells) rfl (Ae.new W3 Do.cells 31) rfl rfl (cells_one _) ?_;intro W4 hb4 ho4;have HY4:=Aa hb4;have HB34:=Aa ((Ab W3 _).trans (ho4.below (Nat.le_refl _)));have HB4:=Aa (HB3.o.trans (HB34.o.mono HB3.o.size));have HQ4:=Aa (HQ3.o.below HB34.o);have HX4:=Aa (HX3.o.below HB34.o);clear hb4 ho4)
  | (refine Ah (.tmp 5) rfl rfl rfl HQ4.o ?_)
  | (refine Ar (.tmp 12) (.tmp 26) rfl rfl rfl rfl (Ae.new W4 (Ad 0 0) 86) (Ai _ _) ?_;intro W5 hb5 ho5;have HR5:=Aa hb5;have HB45:=Aa ((Ab W4 _).trans (ho5.below (Nat.le_refl _)));have HB5:=Aa (HB4.o.trans (HB45.o.mono HB4.o.size));have HQ5:=Aa (HQ4.o.below HB45.o);have HX5:=Aa (HX4.o.below HB45.o);have HY5:=Aa (HY4.o.below HB45.o);have HZ4:=Aa HB4.o.size;have HZ5:=Aa HB45.o.size;clear hb5 ho5)
  | (refine Ap (.tmp 27) rfl rfl rfl HQ5.o ?_)
  | (go_at_call 109;refine (Fg W5 s.left main HM.o).mono ?_;rintro e W6 ⟨rfl,hb6⟩;have HB6:=Aa (HB5.o.trans (hb6.mono HB5.o.size));have HR6:=Aa (HR5.o.below hb6);have HQ6:=Aa (HQ5.o.below hb6);have HX6:=Aa (HX5.o.below hb6);have HY6:=Aa (HY5.o.below hb6);clear hb6)
  | (refine Au (.tmp 31) (.tmp 30) rfl rfl rfl rfl HR6.o ?_;intro W7 hb7 ho7;have HR7:=Aa hb7;have HX7:=Aa (HX6.o.only ho7 (Nat.ne_of_lt HX4.o.lt));have HQ7:=Aa (HQ6.o.only ho7 (Nat.ne_of_lt HQ4.o.lt));have c7:=HX7.o.cell (i:=3) rfl;have c6:=HX7.o.cell (i:=2) rfl;have HB7:=Aa (HB6.o.trans (ho7.below HZ4.o));clear hb7 ho7;simp only at c7 c6))
 have HK:Hid (∀ W',Below W7.heap.size W7 W'→Aft W7 W'):=fun W' hb=>hb
 have hld:∀ W',Aft W7 W'→Bf 86 W' (.pointer (some ⟨w.heap.size,0,none⟩)):=fun W' hb=>(An (HQ7.o.below hb).loads).1
 have hlv:∀ W',Aft W7 W'→Dq 86 W' (.pointer (some ⟨w.heap.size,0,none⟩))=_:=fun W' hb=>(An (HQ7.o.below hb).loads).2
 have hcl0:∀ W',Aft W7 W'→W'.cell? ⟨W1.heap.size,2,none⟩=some (.int .i64 (l:Int)):=fun W' hb=>(HX7.o.below hb).cell (i:=2) rfl
 have hcl1:∀ W',Aft W7 W'→W'.cell? ⟨W1.heap.size,3,none⟩=some (.int .i64 (r:Int)):=fun W' hb=>(HX7.o.below hb).cell (i:=3) rfl
 have HD:=Aa (below_drewN W7 1)
 have hfs:∀ (l:List (Value × Nat)) (cs:Array Value),(List.foldl (fun (cs:Array Value) (x:Value × Nat)=>cs.setIfInBounds x.2 x.1) cs l).size=cs.size:=fold_size
 clear c6 c7
 as_aux_lemma=>
  go_region_held3 (fun W'=>Aft W7 W')
   (((refine HK.o _ ?_;repeat (with_reducible first | exact Below.refl _ _ | exact HD.o | exact HB9.o | exact HB8.o | refine Ac ?_ (Ab _ _) | refine Ac ?_ (Db _)))))
   (first
    | (go_at_call 114;refine (Wn _ s.left s.goal (l:Int)).mono ?_;rintro e W8 ⟨rfl,hb8⟩;have HB8:Hid (Below W7.heap.size W7 W8):=Ac (by repeat (with_reducible first | exact Below.refl _ _ | exact HD.o | refine Ac ?_ (Ab _ _) | refine Ac ?_ (Db _))) hb8;have hsl:=Ai s.left (l:Int);clear hb8)
    | (go_at_call 114;refine (Wn _ s.left s.goal (r:Int)).mono ?_;rintro e W9 ⟨rfl,hb9⟩;have HB9:Hid (Below W7.heap.size W7 W9):=Ac (by repeat (with_reducible first | exact Below.refl _ _ | exact HD.o | exact HB8.o | refine Ac ?_ (Ab _ _) | refine Ac ?_ (Db _))) hb9;have hsl2:=Ai s.left (r:Int);clear hb9))
  all_goals
   as_aux_lemma=>
   go_wp2_with fail
   rw [Lq _ _ _ _ _ rfl]
   exact bodyPost_ret (v:=.tuple #[.slice (some ⟨W9.heap.size,0,none⟩) 2 2,.int .i64 0]) (by simp [results,Tryz.results87,go_sem]) rfl ⟨W9.heap.size,rfl,(Ac HB7.o HB9.o).size,Ae.new W9 _ _,Ac (Ac HB7.o HB9.o) (Ab _ _)⟩
end Go.Dk
end
