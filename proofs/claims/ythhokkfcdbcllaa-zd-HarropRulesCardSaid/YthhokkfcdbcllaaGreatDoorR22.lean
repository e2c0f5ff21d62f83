/- Parts of the proof: Hm, Hn, Hp, Wj, Ho, Wk, Wl, Wm, Wn, Wo. -/
import Derived.Outline
import Derived.IntWalk
import Derived.BigQuiet
import Derived.Deep.QuietTactic
import Derived.Lib.LaidTab
import Derived.Test.YthhokkfcdbcllaaGreatDoorR01
import Derived.Test.YthhokkfcdbcllaaGreatDoorR02
import Derived.Test.YthhokkfcdbcllaaGreatDoorR03
import Derived.Test.YthhokkfcdbcllaaGreatDoorR04
import Derived.Test.YthhokkfcdbcllaaGreatDoorR05
import Derived.Test.YthhokkfcdbcllaaGreatDoorR06
import Derived.Test.YthhokkfcdbcllaaGreatDoorR07
import Derived.Test.YthhokkfcdbcllaaGreatDoorR08
import Derived.Test.YthhokkfcdbcllaaGreatDoorR09
import Derived.Test.YthhokkfcdbcllaaGreatDoorR10
import Derived.Test.YthhokkfcdbcllaaGreatDoorR11
import Derived.Test.YthhokkfcdbcllaaGreatDoorR12
import Derived.Test.YthhokkfcdbcllaaGreatDoorR13
import Derived.Test.YthhokkfcdbcllaaGreatDoorR14
import Derived.Test.YthhokkfcdbcllaaGreatDoorR15
import Derived.Test.YthhokkfcdbcllaaGreatDoorR16
import Derived.Test.YthhokkfcdbcllaaGreatDoorR17
import Derived.Test.YthhokkfcdbcllaaGreatDoorR18
import Derived.Test.YthhokkfcdbcllaaGreatDoorR19
import Derived.Test.YthhokkfcdbcllaaGreatDoorR20
import Derived.Test.YthhokkfcdbcllaaGreatDoorR21
section
namespace Go.Dk
open Go.RowKit Go.Maps Go.MapKept Go.Shelf
open Go.Proofs hiding intOf
theorem xN (w:World) (v:Value) (rows:List ND) (hn:∀ n ∈ rows,n.name.size≤maxLen) (hr:Rd w v rows.length 4 (As rows)) (hm:rows.length≤maxLen) (h0:Hw [] rows=0) :
  Calls Tryz.prog 24 #[v] w fun e w'=>∃ t F,e = .returned (.tuple #[t,.int .i64 0])∧Cm F w' t rows∧(∀ b,F b→w.heap.size≤b)∧Below w.heap.size w w':=by
 refine (fU 1 (fun _=>0) w v rows hn hr hm).mono ?_
 rintro e w' ⟨t,he,hb,ht,_⟩
 rw [h0] at he
 subst he
 obtain ⟨ow,hk,ht⟩:=ht h0
 refine ⟨t,_,rfl,Cm.of_tab ht,fun b hb=>?_,hb⟩
 apply Classical.byContradiction
 intro hn
 have:=hk.own b (by omega)
 rw [hb.2] at this
 cases this
theorem Xc {b o n m n' m':Nat} {ad:Addr} (h:(Value.slice (some ⟨b,o,none⟩) n m) = .slice (some ad) n' m'):ad.block=b:=by cases h;rfl
set_option maxRecDepth 100000 in
set_option maxHeartbeats 4000000 in
theorem jB (w:World) (hT:TabG w):Calls Tryz.prog 10 #[] w fun e w'=>e = .returned (.bool true)∧Below w.heap.size w w':=by
 have HT:=Aa hT
 have HF:Hid (∀ W:World,Below w.heap.size w W→∀ v,Rd W v h27.length 4 (As h27)→Calls Tryz.prog 24 #[v] W fun e w'=>∃ t F,e = .returned (.tuple #[t,.int .i64 0])∧Cm F w' t h27∧(∀ b,F b→w.heap.size≤b)∧Below W.heap.size W w'):=fun W hb v hr=>
  (xN W v h27 (by decide) hr (by decide) (by kernel_rfl)).mono fun e w' ⟨t,F,a,b,c,d⟩=>⟨t,F,a,b,fun x hx=>Nat.le_trans hb.size (c x hx),d⟩
 clear hT
 go_enter Tryz.func10,Tryz.ntmps10
 go_wp2_with fail
 refine (HF.o _ (Ab _ _) _ (Oa (n:=7) (size:=4) w _ _ rfl rfl)).mono ?_
 rintro e w2 ⟨t,F,rfl,ht2,hf2,hb2⟩
 have HT2:=Aa ht2
 have HN2:=Aa hf2
 have HB2:=Aa (Ac (Ab w _) hb2)
 have HG2:=Aa (HT.o.below HB2.o)
 clear ht2 hf2 hb2 HF
 have HIS:Hid (∀ (W:World) (id:Int) (b:Bool),Below w2.heap.size w2 W→isP h27 id=(b,0)→Calls Tryz.prog 11 #[t,.int .i64 id] W fun e w'=>e = .returned (.tuple #[.bool b,.int .i64 0])∧Below W.heap.size W w'):=fun W id b hb he=>by
  have:=lC F W t h27 (HT2.o.below hb) id
  rwa [he] at this
 have HDJ:Hid (∀ (W:World) (v:Value) (zs:List Int) (g x y:Int),Below w2.heap.size w2 W→Rd W v zs.length 1 (ints zs)→zs.length≤1→Gq h27 zs g=(x,y)→Calls Tryz.prog 12 #[t,v,.int .i64 g] W fun e w'=>e = .returned (.tuple #[.int .i64 x,.int .i64 y])∧Below W.heap.size W w'):=fun W v zs g x y hb hr hl he=>by
  have:=iL F W t v h27 (HT2.o.below hb) (HG2.o.below hb) zs hr (by omega) g
  rw [he] at this
  exact this
 have e1:(.int .i64 5:Value) = .int .i64 5:=rfl
 go_wp2_with fail
 refine (HIS.o w2 5 true (Below.refl _ _) vI).mono ?_
 rintro e w3 ⟨rfl,hb3⟩
 have HB3:=Aa hb3
 clear hb3
 go_wp2_with fail
 refine (HIS.o w3 4 false HB3.o wQ).mono ?_
 rintro e w4 ⟨rfl,hb4⟩
 have HB4:=Aa (Ac HB3.o hb4)
 clear hb4 HB3
 go_wp2_with fail
 refine (HDJ.o (w4.alloc _) _ [0] 3 _ _ (Ac HB4.o (Ab _ _)) (Oa (n:=1) (size:=1) w4 _ _ rfl rfl) (by simp) yD).mono ?_
 rintro e w5 ⟨rfl,hb5⟩
 have HB5:=Aa (Ac (Ac HB4.o (Ab _ _)) hb5)
 clear hb5 HB4
 go_wp2_with fail
 refine (HDJ.o (w5.alloc _) _ [3] 3 _ _ (Ac HB5.o (Ab _ _)) (Oa (n:=1) (size:=1) w5 _ _ rfl rfl) (by simp) yQ).mono ?_
 rintro e w6 ⟨rfl,hb6⟩
 have HB6:=Aa (Ac (Ac HB5.o (Ab _ _)) hb6)
 clear hb6 HB5
 go_wp2_with fail
 refine (HDJ.o w6 _ [] 6 _ _ HB6.o (lV w6) (by simp) xK).mono ?_
 rintro e w7 ⟨rfl,hb7⟩
 have HB7:=Aa (Ac HB6.o hb7)
 clear hb7 HB6
 go_wp2_with fail
 have HB8:=Aa (Ac HB7.o (Ac (Ab w7 (.cells #[.int .i64 0] 3)) (Ab _ (.cells #[.int .i64 2] 3))))
 have HR8:Hid (Rd ((w7.alloc (.cells #[.int .i64 0] 3)).alloc (.cells #[.int .i64 2] 3)) (.slice (some ⟨w7.heap.size,0,none⟩) 1 1) [(0:Int)].length 1 (ints [0])∧Rd ((w7.alloc (.cells #[.int .i64 0] 3)).alloc (.cells #[.int .i64 2] 3)) (.slice (some ⟨w7.heap.size+1,0,none⟩) 1 1) [(2:Int)].length 1 (ints [2])):=
  ⟨(Oa (n:=1) (size:=1) w7 _ _ rfl rfl).below (Ab _ _),rdH (n:=1) (size:=1) _ (by simp) _ _ rfl rfl⟩
 have HS8:Hid (((w7.alloc (.cells #[.int .i64 0] 3)).alloc (.cells #[.int .i64 2] 3)).heap.size=w7.heap.size+2):=by unfold Hid;simp
 generalize (w7.alloc (.cells #[.int .i64 0] 3)).alloc (.cells #[.int .i64 2] 3)=w8 at *
 have HAD:=Aa (lP F w8 t _ _ h27 (HT2.o.below HB8.o) (HG2.o.below HB8.o) [0] [2] HR8.o.1 HR8.o.2 (by decide) (by decide) 1 5)
 rw [xW] at HAD
 refine HAD.o.mono ?_
 rintro e w9 ⟨rfl,hb9⟩
 have HB9:=Aa (Ac HB8.o hb9)
 clear hb9 HB8 HAD HR8 HS8
 go_wp2_with fail
 have HB10:=Aa (Ac HB9.o (Ac (Ab w9 (.cells #[.int .i64 0] 3)) (Ab _ (.cells #[.int .i64 2] 3))))
 have HR10:Hid (Rd ((w9.alloc (.cells #[.int .i64 0] 3)).alloc (.cells #[.int .i64 2] 3)) (.slice (some ⟨w9.heap.size,0,none⟩) 1 1) [(0:Int)].length 1 (ints [0])∧Rd ((w9.alloc (.cells #[.int .i64 0] 3)).alloc (.cells #[.int .i64 2] 3)) (.slice (some ⟨w9.heap.size+1,0,none⟩) 1 1) [(2:Int)].length 1 (ints [2])):=
  ⟨(Oa (n:=1) (size:=1) w9 _ _ rfl rfl).below (Ab _ _),rdH (n:=1) (size:=1) _ (by simp) _ _ rfl rfl⟩
 have HS9:Hid (w2.heap.size≤w9.heap.size):=HB9.o.size
 generalize (w9.alloc (.cells #[.int .i64 0] 3)).alloc (.cells #[.int .i64 2] 3)=w10 at *
 have HVI:=Aa (Zg F w10 t _ _ h27 (HT2.o.below HB10.o) [0] [2] (fun F1 W hk=>hk.rd HR10.o.1 (fun ad m c e hf=>by have:=Xc e;have:=HT2.o.in_ _ hf;have:=HS9.o;omega)) (fun F1 W hk=>hk.rd HR10.o.2 (fun ad m c e hf=>by have:=Xc e;have:=HT2.o.in_ _ hf;have:=HS9.o;omega)) (by decide) (by decide) 1 0)
 rw [xR] at HVI
 refine HVI.o.mono ?_
 rintro e w11 ⟨pv,F11,rfl,hk11,ht11,ho11⟩
 obtain ⟨qa,qc,rfl⟩:=Ba ho11.own
 have HK11:=Aa ((KeptF.of_below HT2.o.in_ HB10.o).trans hk11)
 have HT11:=Aa ht11
 have HB11:Hid (Below w.heap.size w w11):=HB2.o.trans (HK11.o.below HB2.o.size (fun b hb hf=>by have:=HN2.o b hf;omega))
 clear hk11 ht11 ho11 HVI HR10 HS9 HB9 HB10
 go_wp2_with fail
 have HX12:=Aa (qP F11 (w11.alloc (.cells #[.string ⟨#[113]⟩,.int .i64 5] 64)) t _ v27 (HT11.o.below (Ab _ _)) ((HT.o.below HB11.o).below (Ab _ _)) 1 0 vY (by decide) (Oa (n:=1) (size:=2) w11 _ _ rfl rfl) (by decide))
 rw [zA] at HX12
 refine HX12.o.mono ?_
 rintro e w13 ⟨rfl,hb13⟩
 have HB13:=Aa (Ac (Ac HB11.o (Ab _ _)) hb13)
 clear hb13 HX12
 go_wp2_with fail
 go_ret
 exact ⟨rfl,HB13.o⟩
end Go.Dk
end
section
namespace Go.Dk
open Go.RowKit Go.Maps Go.MapKept Go.Shelf
open Go.Proofs hiding intOf
def yW (w:World) (rows:List ND) (e:Ending) (w':World):Prop:=
 ∃ t r F ow,e = .returned (.tuple #[t,r,.bool true])∧Cm F w' t rows∧RTab 2 ow w' r rows∧(∀ b,F b→w.heap.size≤b)∧Below w.heap.size w w'
section
variable (w:World) (v:Value) (rows:List ND) (hn:∀ n ∈ rows,n.name.size≤maxLen) (hr:Rd w v rows.length 4 (As rows)) (hm:rows.length≤maxLen) (hl:rows.length * 40≤140737488355328)
include hn hr hm hl
theorem tZ (h0:Hw [] rows=0):Calls Tryz.prog 8 #[v] w (yW w rows):=by
 refine (both_any w v rows hn hr hm hl).mono ?_
 rintro e w' ⟨hb,_,h⟩
 obtain ⟨t,r,ow,rfl,hp,ho⟩:=h h0
 refine ⟨t,r,_,ow,rfl,Cm.of_tab hp.t,hp.r,fun b hf=>?_,hb⟩
 apply Classical.byContradiction
 intro hn
 have:=ho b (by omega)
 rw [hf.2] at this
 cases this
theorem vU (h0:Hw [] rows≠0):Calls Tryz.prog 8 #[v] w fun e w'=>e = .returned (.tuple #[.pointer none,.pointer none,.bool false])∧Below w.heap.size w w':=by
 refine (both_any w v rows hn hr hm hl).mono ?_
 rintro e w' ⟨hb,h,_⟩
 exact ⟨h h0,hb⟩
end
end Go.Dk
end
section
namespace Go.Dk
open Go.RowKit Go.Maps Go.MapKept Go.Shelf
open Go.Proofs hiding intOf
theorem AT (rows:List ND):ctx rows []=fun _=>False:=by
 funext f
 unfold ctx
 simp
theorem All2.right {α β:Type} {R:α→β→Prop} {l:List α} {m:List β} (h:All2 R l m):∀ y ∈ m,∃ x ∈ l,R x y:=by
 induction h with
 | nil=>intro y hy;cases hy
 | cons a _ ih=>
  intro y hy
  rcases List.mem_cons.1 hy with rfl | hy
  ·exact ⟨_,List.mem_cons_self,a⟩
  ·obtain ⟨x,hx,hr⟩:=ih y hy
   exact ⟨x,List.mem_cons_of_mem _ hx,hr⟩
end Go.Dk
end
section
namespace Go.Dk
open Go.RowKit Go.Maps Go.MapKept Go.Shelf
open Go.Proofs hiding intOf
theorem qV (F:FP) (w:World) (t:Value) (rows:List ND) (h:Bn F w t rows) (id:Int) :
  Calls Tryz.prog 17 #[t,.int .i64 id] w fun e w'=>e = .returned (.tuple #[.bool (isP rows id).1,.int .i64 (isP rows id).2])∧Below w.heap.size w w':=by
 cases hb:hasB rows.length id with
 | true=>
  obtain ⟨x,rfl,hx⟩:=Dx hb
  have:isP rows (x:Int)=(Ee rows x,0):=by unfold isP;rw [if_pos hb,Int.toNat_natCast]
  rw [this]
  exact aQ 0 _ w t rows (h.col 0) x hx
 | false=>
  have:isP rows id=(false,31):=by unfold isP;rw [if_neg (by simp [hb])]
  rw [this]
  exact sP 0 _ w t rows (h.col 0) id hb
set_option maxRecDepth 100000 in
set_option maxHeartbeats 2000000 in
theorem tellsLaw_any (w:World) (hT:TabG w) (v0:Value) (rows:List ND) (hn:∀ n ∈ rows,n.name.size≤maxLen) (hr:Rd w v0 rows.length 4 (As rows)) (hm:rows.length≤maxLen) (hl:rows.length * 40≤140737488355328)
  (id:Int) (vl:Value) (zs:List Int) (hv:Rd w vl zs.length 1 (ints zs)) (hzl:zs.length * 8≤140737488355328) :
  Calls Tryz.prog 6 #[v0,.int .i64 id,vl] w fun e w'=>e = .returned (.bool true)∧Below w.heap.size w w':=by
 have HT:=Aa hT
 have HH:Hid (∀ W:World,Below w.heap.size w W→Calls Tryz.prog 10 #[] W fun e w'=>e = .returned (.bool true)∧Below W.heap.size W w'):=fun W hb=>jB W (hT.below hb)
 by_cases h0:Hw [] rows=0
 case neg=>
  have HB:=Aa (vU w v0 rows hn hr hm hl h0)
  clear h0 hn hr hm hl hT hv hzl
  go_enter Tryz.func6,Tryz.ntmps6
  go_wp2_with (first
   | (go_at_call 8;refine HB.o.mono ?_;rintro e w2 ⟨rfl,hb2⟩;have HB2:=Aa hb2;clear hb2)
   | (go_at_call 10;refine (HH.o _ HB2.o).mono ?_;rintro e w3 ⟨rfl,hb3⟩;have HB3:=Aa (Ac HB2.o hb3);clear hb3))
  go_ret
  exact ⟨rfl,HB3.o⟩
 case pos=>
  have HB:=Aa (tZ w v0 rows hn hr hm hl h0)
  have HV:=Aa hv
  have HDI:Hid (∀ (W:World) (F:FP) (t v:Value),Below w.heap.size w W→Cm F W t rows→Rd W v zs.length 1 (ints zs)→Calls Tryz.prog 12 #[t,v,.int .i64 id] W (Tz W (Gq rows zs id))):=fun W F t v hb ht hr=>iL F W t v rows ht (hT.below hb) zs hr (by omega) id
  have HRD:Hid (∀ (W:World) (F:FP) (t v:Value),Bn F W t rows→Rd W v zs.length 1 (ints zs)→Calls Tryz.prog 18 #[t,v,.int .i64 id] W (Tz W (Gq rows zs id))):=fun W F t v ht hr=>gG F W t v rows ht zs hr (by omega) id
  have HIS:Hid (∀ (W:World) (F:FP) (t:Value),Cm F W t rows→Calls Tryz.prog 11 #[t,.int .i64 id] W fun e w'=>e = .returned (.tuple #[.bool (isP rows id).1,.int .i64 (isP rows id).2])∧Below W.heap.size W w'):=fun W F t ht=>lC F W t rows ht id
  have HRI:Hid (∀ (W:World) (F:FP) (t:Value),Bn F W t rows→Calls Tryz.prog 17 #[t,.int .i64 id] W fun e w'=>e = .returned (.tuple #[.bool (isP rows id).1,.int .i64 (isP rows id).2])∧Below W.heap.size W w'):=fun W F t ht=>qV F W t rows ht id
  obtain ⟨va,vc,rfl⟩:=hv.slice
  have HZL:=Aa hzl
  have HML:Hid (zs.length≤maxLen):=by unfold Hid maxLen;omega
  generalize isP rows id=p at *
  generalize Gq rows zs id=q at *
  obtain ⟨p1,p2⟩:=p
  obtain ⟨q1,q2⟩:=q
  simp only at HIS HRI
  unfold Tz at HDI HRD
  simp only at HDI HRD
  clear h0 hn hr hm hl hT hv hzl
  go_enter Tryz.func6,Tryz.ntmps6
  go_wp2_with (first
   | (go_at_call 8;refine HB.o.mono ?_;rintro e w2 ⟨t,r2,F,ow,rfl,ht2,hr2,hf2,hb2⟩;have HT2:=Aa ht2;have HR2:=Aa (Bn.of_tab hr2);have HF2:=Aa hf2;have HB2:=Aa hb2;clear ht2 hr2 hf2 hb2)
   | (at_builtin;refine By rfl (.tmp 28) (.tmp 29) 23 rfl w2.heap.size 3 _ 1 8 Tryz.underlying23 Ef rfl (by decide) (by decide) _ 0 [] rfl (World.ownsRow_made w2 _ 0 (Nat.le_refl _) (by decide) (by simp)) _ zs.length (ints zs) rfl (HV.o.below (Ac HB2.o (Ab _ _))) (Ws zs) (by have:=HZL.o;omega) (by simp) ?_;intro v3 w3 hown3 hgr3 hat3 hnil3;rw [Nat.zero_add,List.nil_append] at hown3;have HO3:=Aa hown3;have HB23:Hid (Below w2.heap.size w2 w3):=((Ab w2 _).grown hgr3 (by simp) (fun q hq=>by cases hq;exact Nat.le_refl _));obtain ⟨a3,c3,h3⟩:=Ba hown3;subst h3;have HB3:=Aa (Ac HB2.o HB23.o);have HT3:=Aa (HT2.o.below HB23.o);have HR3:=Aa (HR2.o.below HB23.o);clear hown3 hgr3 hat3 hnil3)
   | (go_at_call 11;refine (HIS.o _ F t HT3.o).mono ?_;rintro e w4 ⟨rfl,hb4⟩;have HB4:=Aa hb4;clear hb4)
   | (go_at_call 17;refine (HRI.o _ _ r2 (HR3.o.below HB4.o)).mono ?_;rintro e w5 ⟨rfl,hb5⟩;have HB5:=Aa (Ac HB4.o hb5);clear hb5)
   | (go_at_call 12;refine (HDI.o _ F t _ (Ac HB3.o HB5.o) (HT3.o.below HB5.o) ((Hv HO3.o).below HB5.o)).mono ?_;rintro e w6 ⟨rfl,hb6⟩;have HB6:=Aa (Ac HB5.o hb6);clear hb6)
   | (go_at_call 18;refine (HRD.o _ _ r2 _ (HR3.o.below HB6.o) (HV.o.below (Ac HB3.o HB6.o))).mono ?_;rintro e w7 ⟨rfl,hb7⟩;have HB7:=Aa (Ac HB6.o hb7);clear hb7)
   | (go_at_call 19;refine (sD 0 0 _ _ _ _ _ rows ((HT3.o.below HB7.o).col 0) ((HR3.o.below HB7.o).col 0)).mono ?_;rintro e w8 ⟨rfl,hb8⟩;have HB8:=Aa (Ac HB7.o hb8);clear hb8)
   | (go_at_call 20;refine (eG _ _ _ zs.length zs.length zs zs HML.o ((Hv HO3.o).below HB8.o) (HV.o.below (Ac HB3.o HB8.o))).mono ?_;rintro e w9 ⟨rfl,hb9⟩;have HB9:=Aa (Ac HB8.o hb9);clear hb9)
   | (go_at_call 10;refine (HH.o _ (Ac HB3.o HB9.o)).mono ?_;rintro e w10 ⟨rfl,hb10⟩;have HB10:=Aa (Ac HB9.o hb10);clear hb10))
  go_ret
  exact ⟨Ce (by simp),Ac HB3.o HB10.o⟩
end Go.Dk
end
section
namespace Go.Dk
open Go.RowKit
theorem tab_of {P:Program} {W:World} {name:String} (t:Lib.TabIs P W name .u8 (Lib.deBruijn64tab.map fun n:Nat=>(n:Int))) (g:P.globalNamed name=some 0):TabG W:=fun j hj=>by
 have hl:Lib.deBruijn64tab.length=64:=by decide
 have h:=t.cell g j (by rw [List.length_map,hl];exact hj)
 rw [h]
 congr 2
 rw [List.getD_eq_getElem?_getD,List.getD_eq_getElem?_getD,List.getElem?_map,List.getElem?_eq_getElem (by rw [hl];exact hj)]
 rfl
end Go.Dk
end
section
namespace Go.Dk
open Go.RowKit Go.Maps Go.MapKept Go.Shelf
open Go.Proofs hiding intOf
theorem zP {m:MK} (h:m.e≠0) (n:ND):Dm m n=m:=if_pos h
theorem AC {m:MK} (h:m.e≠0):∀ (ps:List (Int × Int)) (l:List Int),(Kv ps m l).1=m
 | [],_=>rfl
 | p::t,l=>by unfold Kv;rw [zP h];exact AC h t _
theorem zW {m:MK} (h:m.e≠0):∀ (ys:List Int) (x:Int),(Uu ys m x).1=m
 | [],_=>rfl
 | y::t,x=>by unfold Uu;rw [zP h];exact zW h t _
theorem zQ {m:MK} (h:m.e≠0) (al:Int):∀ (gs:List Int) (l:List Int),(Hn al gs m l).1=m
 | [],_=>rfl
 | g::t,l=>by unfold Hn;rw [zP h];exact zQ h al t _
theorem AX {m:MK} (h:m.e≠0):(zD m).1=m:=by unfold zD;rw [zP h,zP h]
theorem AM {m:MK} (h:m.e≠0):∀ ids:List Int,(Ss ids m).1=m
 | []=>AX h
 | x::t=>zW h t x
theorem AE:∀ (ps qs:List (Int × Int)) (m:MK) (l:List Int),Kv (ps++qs) m l=Kv qs (Kv ps m l).1 (Kv ps m l).2
 | [],_,_,_=>rfl
 | _p::t,qs,_m,_l=>AE t qs _ _
theorem AG:∀ (ys zs:List Int) (m:MK) (x:Int),Uu (ys++zs) m x=Uu zs (Uu ys m x).1 (Uu ys m x).2
 | [],_,_,_=>rfl
 | _y::t,zs,_m,_x=>AG t zs _ _
theorem AB (al:Int):∀ (ps qs:List Int) (m:MK) (l:List Int),Hn al (ps++qs) m l=Hn al qs (Hn al ps m l).1 (Hn al ps m l).2
 | [],_,_,_=>rfl
 | _p::t,qs,_m,_l=>AB al t qs _ _
section
variable {rows:List ND} {ab:List (Int × Int)} {gs:List Int} {c d:Int} {m:MK}
theorem AV {m1:MK} {l:List Int} {j:Nat} (h:Kv (ab.take j) ⟨rows,0⟩ []=(m1,l)) (he:m1.e≠0):(Tc rows ab gs c d).1=m1:=by
 have h1:(Kv ab ⟨rows,0⟩ []).1=m1:=by
  rw [← List.take_append_drop j ab,AE,h];exact AC he _ _
 unfold Tc
 simp only [h1]
 rw [AM he,zP he,zP he,zQ he]
theorem zX {m1 m3:MK} {l:List Int} (h:Kv ab ⟨rows,0⟩ []=(m1,l)) (h2:(Ss l m1).1=m3) (he:m3.e≠0):(Tc rows ab gs c d).1=m3:=by
 unfold Tc
 simp only [h,h2]
 rw [zP he,zP he,zQ he]
theorem AW {m1 m3:MK} {l:List Int} {al:Int} (h:Kv ab ⟨rows,0⟩ []=(m1,l)) (h2:Ss l m1=(m3,al)) (he:(Dm m3 (nd2 4 c d)).e≠0):(Tc rows ab gs c d).1=Dm m3 (nd2 4 c d):=by
 unfold Tc
 simp only [h,h2]
 rw [zP he,zQ he]
theorem AD {m1 m3:MK} {l l2:List Int} {al:Int} (h:Kv ab ⟨rows,0⟩ []=(m1,l)) (h2:Ss l m1=(m3,al)) {j:Nat} (h3:Hn al (gs.take j) (Dm (Dm m3 (nd2 4 c d)) (nd2 5 al (Ei m3 (nd2 4 c d)))) []=(m,l2)) (he:m.e≠0):(Tc rows ab gs c d).1=m:=by
 unfold Tc
 simp only [h,h2]
 rw [← List.take_append_drop j gs,AB,h3]
 exact zQ he al _ _
theorem BF {ids:List Int} {m1 m2:MK} {all:Int} {j:Nat} (h:Va ids m1 (j+1) m2 all) (he:m2.e≠0):(Ss ids m1).1=m2:=by
 rcases h with ⟨h0,_⟩ | ⟨x,t,h1,h2⟩
 ·cases h0
 ·have:ids=x::(t++ids.drop (j+1)):=by
   conv=>lhs;rw [← List.take_append_drop (j+1) ids,h1]
   rfl
  rw [this]
  show (Uu (t++ids.drop (j+1)) m1 x).1=m2
  rw [AG,h2]
  exact zW he _ _
end
theorem Bn.grown {F:FP} {w w':World} {t:Value} {rows:List ND} (h:Bn F w t rows) {row:Option Nat} (g:w.grownBy w' row) (hr:∀ b,row=some b→¬ F b):Bn F w' t rows:=
 h.kept (G:=fun b=>row=some b) (G':=FP.none) ⟨g.os,g.tape,g.output,g.size,fun _ _ h=>h.elim,fun _ h=>h.elim,fun b hb hn=>g.block b hb (fun e=>hn e.symm)⟩ (fun b hf e=>hr b e hf)
structure RVS (F0 F:FP) (w W:World) (t:Value) (m:MK) (v:Value) (ids:List Int):Prop where
 tab:Bn F W t m.rows
 kp:KeptF F0 w F W
 own:OwnI w.heap.size F W v ids
section
variable {F0 F:FP} {w W W':World} {t v:Value} {m:MK} {ids:List Int}
theorem RVS.below (h:RVS F0 F w W t m v ids) (hb:Below W.heap.size W W'):RVS F0 F w W' t m v ids:=
 ⟨h.tab.below hb,h.kp.trans (KeptF.of_below h.tab.in_ hb),h.own.below hb⟩
theorem RVS.puts (h:RVS F0 F w W t m v ids) (he:m.e=0) {n:ND} {e:Ending} (hp:jD F W t (put m.rows n) e W') :
  e = .returned (.tuple #[.int .i64 (Ei m n),.int .i64 (Dm m n).e])∧∃ F',KeptF F W F' W'∧RVS F0 F' w W' t (Dm m n) v ids:=by
 obtain ⟨hx,F',h1,h2⟩:=hp
 have e1:Dm m n=⟨(put m.rows n).rows,(put m.rows n).err⟩:=if_neg (by simpa using he)
 have e2:Ei m n=(put m.rows n).id:=if_neg (by simpa using he)
 rw [e1,e2]
 exact ⟨hx,F',h1,h2,h.kp.trans h1,h.own.kept h1⟩
theorem RVS.app {w0:World} {v':Value} {x:Int} (h:RVS F0 F w W t m v ids) (hown:W'.ownsRow w.heap.size 3 1 v' (ids.length+1) (ints ids++[.int .i64 x])) (hg:W.grownBy W' v.ownBlock) (hat:v'.ownBlock=v.ownBlock∨v'.ownBlock=some w0.heap.size) (hz:W.heap.size≤w0.heap.size):RVS F0 F w W' t m v' (ids++[x]):=
 ⟨h.tab.grown hg (fun b hb hf=>h.own.o b hb hf),h.kp.later hg (fun b hb=>(h.own.own.lt b hb).1),h.own.append hown hat h.tab.in_ hz⟩
theorem RVS.again (h:RVS F0 F w W t m v ids):RVS F F W W t m (.slice none 0 0) []:=⟨h.tab,KeptF.refl h.tab.in_,OwnI.nil _ _ _⟩
theorem RVS.new {rows:List ND} (h:Bn F w t rows):RVS F F w w t ⟨rows,0⟩ (.slice none 0 0) []:=⟨h,KeptF.refl h.in_,OwnI.nil _ _ _⟩
end
def zV (F:FP) (w:World) (t:Value) (r:MK × Int × List Int) (e:Ending) (w':World):Prop:=
 ∃ p pv F',e = .returned (.tuple #[.int .i64 p,pv,.int .i64 r.1.e])∧KeptF F w F' w'∧Bn F' w' t r.1.rows∧(r.1.e≠0→p=0∧pv = .slice none 0 0)∧(r.1.e=0→p=r.2.1∧OwnI w.heap.size F' w' pv r.2.2)
theorem zS {F F':FP} {w W:World} {t v:Value} {m:MK} {ids:List Int} {r:MK × Int × List Int} (h:RVS F F' w W t m v ids) (hr:r.1=m) (he:m.e≠0):zV F w t r (.returned (.tuple #[.int .i64 0,.slice none 0 0,.int .i64 m.e])) W:=by
 obtain ⟨r1,r2⟩:=r
 subst hr
 exact ⟨0,_,F',rfl,h.kp,h.tab,fun _=>⟨rfl,rfl⟩,fun h0=>absurd h0 he⟩
theorem BD {F F6 F':FP} {w w6 W:World} {t v v6:Value} {m m6:MK} {ids ids6:List Int} {r:MK × Int × List Int} (h6:RVS F F6 w w6 t m6 v6 ids6) (h:RVS F6 F' w6 W t m v ids) (hr:r.1=m) (he:m.e≠0):zV F w t r (.returned (.tuple #[.int .i64 0,.slice none 0 0,.int .i64 m.e])) W:=by
 obtain ⟨r1,r2⟩:=r
 subst hr
 exact ⟨0,_,F',rfl,h6.kp.trans h.kp,h.tab,fun _=>⟨rfl,rfl⟩,fun h0=>absurd h0 he⟩
theorem BB {F F6 F':FP} {w w6 W:World} {t v v6:Value} {m m6:MK} {ps ids6:List Int} {r:MK × Int × List Int} {p:Int} (h6:RVS F F6 w w6 t m6 v6 ids6) (h:RVS F6 F' w6 W t m v ps) (hr:r=(m,p,ps)) (he:m.e=0):zV F w t r (.returned (.tuple #[.int .i64 p,v,.int .i64 0])) W:=by
 subst hr
 exact ⟨p,v,F',by rw [he],h6.kp.trans h.kp,h.tab,fun h0=>absurd he h0,fun _=>⟨rfl,h.own.base h6.kp.size⟩⟩
end Go.Dk
end
section
namespace Go.Dk
open Go.RowKit Go.Maps Go.MapKept Go.Shelf
open Go.Proofs hiding intOf
def zZ (ids:List Int) (m:MK) (j:Nat) (m':MK) (all:Int):Prop:=(ids = []∧zD m=(m',all))∨(ids≠[]∧Va ids m j m' all)
theorem zZ.last {ids:List Int} {m m':MK} {all:Int} (h:zZ ids m ids.length m' all):Ss ids m=(m',all):=by
 rcases h with ⟨rfl,h⟩ | ⟨h0,h⟩
 ·exact h
 ·exact h.last h0
theorem zZ.conj {ids:List Int} {m m':MK} {all:Int} {j:Nat} (h:zZ ids m j m' all) (hj:j<ids.length):Va ids m j m' all:=by
 rcases h with ⟨rfl,_⟩ | ⟨_,h⟩
 ·simp at hj
 ·exact h
set_option maxRecDepth 100000 in
set_option maxHeartbeats 4000000 in
theorem AL (F:FP) (w:World) (t va vb:Value) (rows:List ND) (h:Bn F w t rows) (a b:List Int) (hva:∀ (F1:FP) (W:World),KeptF F w F1 W→Rd W va a.length 1 (ints a)) (hvb:∀ (F1:FP) (W:World),KeptF F w F1 W→Rd W vb b.length 1 (ints b)) (hab:a.length=b.length) (hla:a.length≤8) (c d:Int) :
  Calls Tryz.prog 40 #[t,va,vb,.int .i64 c,.int .i64 d] w (zV F w t (Tc rows (a.zip b) (a++[c,d]) c d)):=by
 obtain ⟨pb,rfl⟩:∃ pb,t = .pointer (some ⟨pb,0,none⟩):=by obtain ⟨pb,_,e,_⟩:=h.col 0;exact ⟨pb,e⟩
 have HS0:=Aa (RVS.new h)
 have ha:=hva F w (KeptF.refl h.in_)
 have hb:=hvb F w (KeptF.refl h.in_)
 have HVA:=Aa hva
 have HVB:=Aa hvb
 have HAB:Hid (a.length=b.length∧a.length≤8):=⟨hab,hla⟩
 obtain ⟨aa,ac,rfl⟩:=ha.slice
 obtain ⟨ba,bc,rfl⟩:=hb.slice
 rw [← hab] at HVB ⊢
 obtain ⟨gs,hgs⟩:∃ gs,gs=a++[c,d]:=⟨_,rfl⟩
 have HGS:Hid (a.length+2=gs.length∧ints a++[.int .i64 c,.int .i64 d]=ints gs):=by rw [hgs];exact ⟨by simp,by simp [ints]⟩
 rw [← hgs]
 clear h ha hb hva hvb hab hla hgs
 go_enter Tryz.func40,Tryz.ntmps40
 go_wp2_with fail
 go_loopw [13,14] (fun v u W=>∃ (j:Nat) (F1:FP) (m:MK) (ids:List Int),j≤a.length∧u = .int .i64 (j:Int)∧RVS F F1 w W (.pointer (some ⟨pb,0,none⟩)) m v ids∧Kv ((a.zip b).take j) ⟨rows,0⟩ []=(m,ids)∧ids.length=j∧m.e=0) (fun _ u _=>a.length - (intOf u).toNat)
 case atStart=>exact ⟨0,F,⟨rows,0⟩,[],Nat.zero_le _,rfl,HS0.o,rfl,rfl,rfl⟩
 case round=>
  obtain ⟨j,F1,m,ids,hj,rfl,hs,hi,hlen,he0⟩:=hrel
  have HS:=Aa hs;have HI:=Aa hi;have HN:=Aa hlen;have HE0:=Aa he0
  obtain ⟨oa,oc,rfl⟩:=Ba hs.own.own
  clear hs hi hlen he0
  by_cases hlt:j<a.length
  ·as_aux_lemma=>
   have hji:(j:Int)<(a.length:Int):=by omega
   obtain ⟨ab,ao,ac',x,he,hca,hax⟩:=ints_at (HVA.o _ _ HS.o.kp) hlt
   cases he
   obtain ⟨bb,bo,bc',y,he,hcb,hby⟩:=ints_at (HVB.o _ _ HS.o.kp) hlt
   cases he
   have HZ:=Aa (kA (vC hax hby) HI.o)
   have hcla:∀ W',Dp F1 wr W'→W'.cell? ⟨ab,ao+j,none⟩=some (.int .i64 x):=fun W' ⟨F',hk⟩=>by
    obtain ⟨_,_,_,x',he',hc',hx'⟩:=ints_at (HVA.o _ _ (HS.o.kp.trans hk)) hlt
    cases he';rw [hax] at hx';cases hx';exact hc'
   have hclb:∀ W',Dp F1 wr W'→W'.cell? ⟨bb,bo+j,none⟩=some (.int .i64 y):=fun W' ⟨F',hk⟩=>by
    obtain ⟨_,_,_,y',he',hc',hy'⟩:=ints_at (HVB.o _ _ (HS.o.kp.trans hk)) hlt
    cases he';rw [hby] at hy';cases hy';exact hc'
   have HD:=Aa (below_drewN wr 1)
   have HKD:Hid (Dp F1 wr (wr.drewN 1)):=⟨F1,KeptF.of_below HS.o.tab.in_ HD.o⟩
   clear hca hcb
   have HJ8:Hid (ids.length≤8):=by have:=HAB.o.2;have:=HN.o;unfold Hid;omega
   have HIM:=Aa (Uw (HS.o.below HD.o).tab x y)
   by_cases hz:(Dm m (nd2 5 x y)).e=0
   ·have hz2:((Dm m (nd2 5 x y)).e != 0)=false:=by simpa using hz
    have HZ0:=Aa hz
    have hl8:=HAB.o.2
    clear hz
    as_aux_lemma=>
    go_wp2_with fail
    go_region_held3 (fun W'=>Dp F1 wr W') (first | exact HKI.o | exact HKD.o) ((go_at_call 61;refine HIM.o.mono ?_;intro e w7 hp7;obtain ⟨rfl,F7,hk7,hs7⟩:=(HS.o.below HD.o).puts HE0.o (n:=nd2 5 x y) hp7;have HS7:=Aa hs7;have HKI:Hid (Dp F1 wr w7):=⟨F7,(KeptF.of_below HS.o.tab.in_ HD.o).trans hk7⟩;clear hs7 hk7 hp7))
    clear hcla hclb
    go_wp2_with (first
     | (at_builtin;refine By rfl (.tmp 54) (.tmp 56) 23 rfl w.heap.size 3 _ 1 8 Tryz.underlying23 Ef rfl (by decide) (by decide) _ ids.length (ints ids) rfl ((HS7.o.below (Ab w7 _)).own.own) _ 1 [.int .i64 (Ei m (nd2 5 x y))] rfl (Gs w7 _ _) (by simp [Value.oneCell']) (by have:=HJ8.o;omega) (by have:=HS7.o.kp.size;simp;omega) ?_;intro v8 w8 hown8 hgr8 hat8 hnil8;have HS8:=Aa ((HS7.o.below (Ab w7 _)).app hown8 hgr8 hat8 (Nat.le_refl _));clear hown8 hgr8 hat8 hnil8))
    exact ⟨⟨j+1,F7,_,_,by omega,by go_num,HS8.o,HZ.o,by rw [List.length_append,HN.o];rfl,HZ0.o⟩,by simp [intOf];omega⟩
   ·have hz2:((Dm m (nd2 5 x y)).e != 0)=true:=by simpa using hz
    have HZ0:=Aa hz
    have hl8:=HAB.o.2
    clear hz
    as_aux_lemma=>
    go_wp2_with fail
    go_region_held3 (fun W'=>Dp F1 wr W') (first | exact HKI.o | exact HKD.o) ((go_at_call 61;refine HIM.o.mono ?_;intro e w7 hp7;obtain ⟨rfl,F7,hk7,hs7⟩:=(HS.o.below HD.o).puts HE0.o (n:=nd2 5 x y) hp7;have HS7:=Aa hs7;have HKI:Hid (Dp F1 wr w7):=⟨F7,(KeptF.of_below HS.o.tab.in_ HD.o).trans hk7⟩;clear hs7 hk7 hp7))
    clear hcla hclb
    go_wp2_with fail
    go_ret3
    exact zS HS7.o (AV HZ.o HZ0.o) HZ0.o
  ·as_aux_lemma=>
   obtain rfl:j=a.length:=by omega
   have hI:=HI.o
   rw [show (a.zip b).take a.length=a.zip b from List.take_of_length_le (by rw [List.length_zip];omega)] at hI
   have HI1:=Aa hI
   have HJ8:Hid (ids.length≤8):=by have:=HAB.o.2;have:=HN.o;unfold Hid;omega
   clear hI
   have hnn:¬ (a.length:Int)<(a.length:Int):=Int.lt_irrefl _
   obtain ⟨wo,hwo⟩:∃ wo:World,wo=wr:=⟨_,rfl⟩
   have HEX:Hid ((ids = []∧(Dm m (nd2 2 0 0)).e≠0)∨(ids = []∧(Dm m (nd2 2 0 0)).e=0∧(Dm (Dm m (nd2 2 0 0)) (nd2 5 (Ei m (nd2 2 0 0)) (Ei m (nd2 2 0 0)))).e≠0)∨(ids = []∧(Dm m (nd2 2 0 0)).e=0∧(Dm (Dm m (nd2 2 0 0)) (nd2 5 (Ei m (nd2 2 0 0)) (Ei m (nd2 2 0 0)))).e=0)∨ids≠[]):=by
    unfold Hid
    by_cases h1:ids = []<;>by_cases h2:(Dm m (nd2 2 0 0)).e=0<;>by_cases h3:(Dm (Dm m (nd2 2 0 0)) (nd2 5 (Ei m (nd2 2 0 0)) (Ei m (nd2 2 0 0)))).e=0<;>simp [h1,h2,h3]
   have HBO:=Aa (BH HS.o.tab)
   clear hwo
   rcases HEX.o with h | h | h | h
   case inl=>
    have hne:((ids.length:Int) == 0)=true:=by simp [h.1]
    have hz2:((Dm m (nd2 2 0 0)).e != 0)=true:=by simpa using h.2
    have HH:=Aa h
    clear h
    as_aux_lemma=>
    go_wp2_with (go_at_call 62;refine HBO.o.mono ?_;intro e w7 hp7;obtain ⟨rfl,F7,_,hs7⟩:=HS.o.puts HE0.o (n:=nd2 2 0 0) hp7;have HS7:=Aa hs7;clear hs7 hp7)
    go_ret3
    exact zS HS7.o (zX HI1.o (by rw [HH.o.1];exact zP HH.o.2 _) HH.o.2) HH.o.2
   case inr.inl=>
    have hne:((ids.length:Int) == 0)=true:=by simp [h.1]
    have hz2:((Dm m (nd2 2 0 0)).e != 0)=false:=by simpa using h.2.1
    have hz3:((Dm (Dm m (nd2 2 0 0)) (nd2 5 (Ei m (nd2 2 0 0)) (Ei m (nd2 2 0 0)))).e != 0)=true:=by simpa using h.2.2
    have HH:=Aa h
    clear h
    as_aux_lemma=>
    go_wp2_with (first
     | (go_at_call 62;refine HBO.o.mono ?_;intro e w7 hp7;obtain ⟨rfl,F7,_,hs7⟩:=HS.o.puts HE0.o (n:=nd2 2 0 0) hp7;have HS7:=Aa hs7;clear hs7 hp7)
     | (go_at_call 61;refine (Uw HS7.o.tab (Ei m (nd2 2 0 0)) (Ei m (nd2 2 0 0))).mono ?_;intro e w8 hp8;obtain ⟨rfl,F8,_,hs8⟩:=HS7.o.puts HH.o.2.1 (n:=nd2 5 (Ei m (nd2 2 0 0)) (Ei m (nd2 2 0 0))) hp8;have HS8:=Aa hs8;clear hs8 hp8))
    go_ret3
    exact zS HS8.o (zX HI1.o (by rw [HH.o.1];rfl) HH.o.2.2) HH.o.2.2
   case' inr.inr.inl=>
    have hne:((ids.length:Int) == 0)=true:=by simp [h.1]
    have hz2:((Dm m (nd2 2 0 0)).e != 0)=false:=by simpa using h.2.1
    have hz3:((Dm (Dm m (nd2 2 0 0)) (nd2 5 (Ei m (nd2 2 0 0)) (Ei m (nd2 2 0 0)))).e != 0)=false:=by simpa using h.2.2
    have HH:=Aa h
    clear h
    go_wp2_with (first
     | (go_at_call 62;refine HBO.o.mono ?_;intro e w7 hp7;obtain ⟨rfl,F7,_,hs7⟩:=HS.o.puts HE0.o (n:=nd2 2 0 0) hp7;have HS7:=Aa hs7;clear hs7 hp7)
     | (go_at_call 61;refine (Uw HS7.o.tab (Ei m (nd2 2 0 0)) (Ei m (nd2 2 0 0))).mono ?_;intro e w8 hp8;obtain ⟨rfl,F8,_,hs8⟩:=HS7.o.puts HH.o.2.1 (n:=nd2 5 (Ei m (nd2 2 0 0)) (Ei m (nd2 2 0 0))) hp8;have HS8:=Aa hs8;clear hs8 hp8))
    obtain ⟨W2,hW2⟩:∃ W,W=w8:=⟨_,rfl⟩
    have HS2:Hid (∃ F2,RVS F F2 w W2 (.pointer (some ⟨pb,0,none⟩)) (Dm (Dm m (nd2 2 0 0)) (nd2 5 (Ei m (nd2 2 0 0)) (Ei m (nd2 2 0 0)))) (.slice oa ids.length oc) ids):=by rw [hW2];exact ⟨_,HS8.o⟩
    have HC2:Hid (zZ ids m 0 (Dm (Dm m (nd2 2 0 0)) (nd2 5 (Ei m (nd2 2 0 0)) (Ei m (nd2 2 0 0)))) (Ei (Dm m (nd2 2 0 0)) (nd2 5 (Ei m (nd2 2 0 0)) (Ei m (nd2 2 0 0))))∧(Dm (Dm m (nd2 2 0 0)) (nd2 5 (Ei m (nd2 2 0 0)) (Ei m (nd2 2 0 0)))).e=0):=⟨.inl ⟨HH.o.1,rfl⟩,HH.o.2.2⟩
    clear hz2 hz3 HH HBO HS7 HS8 hne
    generalize Ei (Dm m (nd2 2 0 0)) (nd2 5 (Ei m (nd2 2 0 0)) (Ei m (nd2 2 0 0)))=al at *
    generalize Dm (Dm m (nd2 2 0 0)) (nd2 5 (Ei m (nd2 2 0 0)) (Ei m (nd2 2 0 0)))=m2 at *
    subst hW2
   case' inr.inr.inr=>
    have hne:((ids.length:Int) == 0)=false:=by
     have:=List.length_pos_iff.2 h
     simp;omega
    have HC2:Hid (zZ ids m 0 m 0∧m.e=0):=⟨.inr ⟨h,.inl ⟨rfl,rfl,rfl⟩⟩,HE0.o⟩
    have HS2:Hid (∃ F2,RVS F F2 w wr (.pointer (some ⟨pb,0,none⟩)) m (.slice oa ids.length oc) ids):=⟨_,HS.o⟩
    clear h HBO
    go_wp2_with fail
   all_goals
    as_aux_lemma=>
    obtain ⟨F2,hs2⟩:=HS2.o
    have HS2':=Aa hs2
    clear hs2 HS2 HS
    obtain ⟨wo,rfl⟩:∃ wo:World,wo=wr:=⟨_,rfl⟩
    go_loopw [17,21] (fun av u W=>∃ (j:Nat) (F3:FP) (m3:MK) (all:Int),j≤ids.length∧u = .int .i64 (j:Int)∧av = .int .i64 all∧RVS F F3 w W (.pointer (some ⟨pb,0,none⟩)) m3 (.slice oa ids.length oc) ids∧zZ ids m j m3 all∧m3.e=0) (fun _ u _=>ids.length - (intOf u).toNat)
    case atStart=>exact ⟨0,F2,_,_,Nat.zero_le _,rfl,rfl,HS2'.o,HC2.o.1,HC2.o.2⟩
    case round=>
     obtain ⟨j,F3,m3,all,hj,rfl,rfl,hs,hc,he3⟩:=hrel
     have HS3:=Aa hs;have HC3:=Aa hc;have HE3:=Aa he3
     clear hs hc he3 HS2' HC2
     by_cases hlt:j<ids.length
     ·as_aux_lemma=>
      have hji:(j:Int)<(ids.length:Int):=by omega
      obtain ⟨ib,io,ic,x,he,hcx,hidx⟩:=ints_at HS3.o.own.rd hlt
      cases he
      have HX:=Aa hidx
      have HJ9:=HJ8.o
      have HCJ:=Aa (HC3.o.conj hlt)
      have HNE:Hid (ids≠[]):=fun e=>by rw [e] at hlt;simp at hlt
      clear hidx HC3
      match j,hj,hlt,hji,hcx,HCJ,HX with
      | 0,hj,hlt,hji,hcx,HCJ,HX=>
       obtain ⟨rfl,hc1⟩:=HCJ.o.first HX.o
       have HC1:=Aa hc1
       rw [Nat.add_zero] at hcx
       clear hc1
       go_wp2_with fail
       exact ⟨⟨1,F3,_,_,by omega,by go_num,rfl,HS3.o,.inr ⟨HNE.o,HC1.o⟩,HE3.o⟩,by simp [intOf];omega⟩
      | j+1,hj,hlt,hji,hcx,HCJ,HX=>
       have HC1:=Aa (HCJ.o.next HX.o)
       have hj0:(((j+1:Nat):Int) == 0)=false:=by simp;omega
       have HTW:=Aa (AI HS3.o.tab 3 all x)
       by_cases hz:(Dm m3 (nd2 3 all x)).e=0
       ·have hz2:((Dm m3 (nd2 3 all x)).e != 0)=false:=by simpa using hz
        have HZ0:=Aa hz
        clear hz
        as_aux_lemma=>
        go_wp2_with (go_at_call 63;refine HTW.o.mono ?_;intro e w7 hp7;obtain ⟨rfl,F7,_,hs7⟩:=HS3.o.puts HE3.o (n:=nd2 3 all x) hp7;have HS7:=Aa hs7;clear hs7 hp7)
        exact ⟨⟨j+1+1,F7,_,_,by omega,by go_num,rfl,HS7.o,.inr ⟨HNE.o,HC1.o⟩,HZ0.o⟩,by simp [intOf];omega⟩
       ·have hz2:((Dm m3 (nd2 3 all x)).e != 0)=true:=by simpa using hz
        have HZ0:=Aa hz
        clear hz
        as_aux_lemma=>
        go_wp2_with (go_at_call 63;refine HTW.o.mono ?_;intro e w7 hp7;obtain ⟨rfl,F7,_,hs7⟩:=HS3.o.puts HE3.o (n:=nd2 3 all x) hp7;have HS7:=Aa hs7;clear hs7 hp7)
        go_ret3
        exact zS HS7.o (zX HI1.o (BF HC1.o HZ0.o) HZ0.o) HZ0.o
     ·as_aux_lemma=>
      obtain rfl:j=ids.length:=by omega
      have hnn:¬ (ids.length:Int)<(ids.length:Int):=Int.lt_irrefl _
      have HCJ:=Aa HC3.o.last
      have HTW:=Aa (AI HS3.o.tab 4 c d)
      clear HC3
      by_cases hz:(Dm m3 (nd2 4 c d)).e=0
      case neg=>
       have hz2:((Dm m3 (nd2 4 c d)).e != 0)=true:=by simpa using hz
       have HZ0:=Aa hz
       clear hz
       as_aux_lemma=>
       go_wp2_with (go_at_call 63;refine HTW.o.mono ?_;intro e w5 hp5;obtain ⟨rfl,F5,_,hs5⟩:=HS3.o.puts HE3.o (n:=nd2 4 c d) hp5;have HS5:=Aa hs5;clear hs5 hp5)
       go_ret3
       exact zS HS5.o (AW HI1.o HCJ.o HZ0.o) HZ0.o
      have hz2:((Dm m3 (nd2 4 c d)).e != 0)=false:=by simpa using hz
      have HZ0:=Aa hz
      clear hz
      go_wp2_with (go_at_call 63;refine HTW.o.mono ?_;intro e w5 hp5;obtain ⟨rfl,F5,_,hs5⟩:=HS3.o.puts HE3.o (n:=nd2 4 c d) hp5;have HS5:=Aa hs5;clear hs5 hp5)
      obtain ⟨oi,hoi⟩:∃ x,Ei m3 (nd2 4 c d)=x:=⟨_,rfl⟩
      have HOI:=Aa hoi
      rw [hoi]
      have HZ5:=Aa HZ0.o
      have HIM:=Aa (Uw HS5.o.tab all oi)
      clear hoi HZ0 hz2
      by_cases hz:(Dm (Dm m3 (nd2 4 c d)) (nd2 5 all oi)).e=0
      case neg=>
       have hz2:((Dm (Dm m3 (nd2 4 c d)) (nd2 5 all oi)).e != 0)=true:=by simpa using hz
       have HZ0:=Aa hz
       clear hz
       as_aux_lemma=>
       go_wp2_with (go_at_call 61;refine HIM.o.mono ?_;intro e w6 hp6;obtain ⟨rfl,F6,_,hs6⟩:=HS5.o.puts HZ5.o (n:=nd2 5 all oi) hp6;have HS6:=Aa hs6;clear hs6 hp6)
       go_ret3
       exact zS HS6.o (AD HI1.o HCJ.o (j:=0) (by rw [HOI.o];rfl) HZ0.o) HZ0.o
      have hz2:((Dm (Dm m3 (nd2 4 c d)) (nd2 5 all oi)).e != 0)=false:=by simpa using hz
      have HZ0:=Aa hz
      clear hz
      have HL8:=Aa HAB.o.2
      go_wp2_with (first
       | (go_at_call 61;refine HIM.o.mono ?_;intro e w6 hp6;obtain ⟨rfl,F6,_,hs6⟩:=HS5.o.puts HZ5.o (n:=nd2 5 all oi) hp6;have HS6:=Aa hs6;clear hs6 hp6)
       | (at_builtin;refine By rfl (.tmp 125) (.tmp 126) 23 rfl w6.heap.size 3 _ 1 8 Tryz.underlying23 Ef rfl (by decide) (by decide) _ 0 [] rfl (World.ownsRow_made w6 _ 0 (Nat.le_refl _) (by decide) (by simp)) _ a.length (ints a) rfl ((HVA.o _ _ HS6.o.kp).below (Ab _ _)) (Ws a) (by have:=HL8.o;omega) (by simp) ?_;intro v7 w7 hown7 hgr7 hat7 hnil7;simp only [Nat.zero_add,List.nil_append] at hown7;have HO7:=Aa hown7;have HB7:=Aa (Xz (Ab w6 _) (World.ownsRow_made (e:=3) (size:=1) w6 #[] 0 (Nat.le_refl _) (by decide) (by simp)) hgr7);clear hown7 hgr7 hat7 hnil7)
       | (at_builtin;refine By rfl (.tmp 128) (.tmp 131) 23 rfl w6.heap.size 3 _ 1 8 Tryz.underlying23 Ef rfl (by decide) (by decide) _ a.length (ints a) rfl (Ip HO7.o (Ab _ _)) _ 2 [.int .i64 c,.int .i64 d] rfl (Oa w7 _ _ rfl rfl) (by simp [Value.oneCell']) (by have:=HL8.o;omega) (by have:=HB7.o.size;simp;omega) ?_;intro v8 w8 hown8 hgr8 hat8 hnil8;rw [HGS.o.1,HGS.o.2] at hown8;have HB8:=Aa (Xz (Ac HB7.o (Ab w7 _)) (Ip HO7.o (Ab _ _)) hgr8);obtain ⟨qa,qc,rfl⟩:=Ba hown8;have HO8:=Aa hown8;clear hown8 hgr8 hat8 hnil8))
      have HS8:=Aa (HS6.o.below HB8.o)
      have HG8:Hid (∀ (F9:FP) (W:World),KeptF F6 w8 F9 W→Rd W (.slice qa gs.length qc) gs.length 1 (ints gs)):=fun F9 W hk=>hk.rd (Hv HO8.o) (fun ad k c he hf=>by
       have h1:=(HO8.o.lt ad.block (by cases he;rfl)).1
       have h2:=HS6.o.tab.in_ _ hf
       omega)
      obtain ⟨m6,hm6⟩:∃ m6,m6=Dm (Dm m3 (nd2 4 c d)) (nd2 5 all oi):=⟨_,rfl⟩
      obtain ⟨pi,hpi⟩:∃ x,x=Ei (Dm m3 (nd2 4 c d)) (nd2 5 all oi):=⟨_,rfl⟩
      have HM6:=Aa hm6
      have HPI:=Aa hpi
      rw [← hm6] at HS8 HZ0
      rw [← hpi]
      clear hm6 hpi hz2 HIM HTW HS5 HS6 HB8 HO7 HO8 HB7
      obtain ⟨wi,rfl⟩:∃ wi:World,wi=wr:=⟨_,rfl⟩
      have HL9:Hid (gs.length≤10):=by have:=HGS.o.1;have:=HL8.o;unfold Hid;omega
      go_loopw [28,29] (fun pv u W=>∃ (j:Nat) (F9:FP) (m9:MK) (ps:List Int),j≤gs.length∧u = .int .i64 (j:Int)∧RVS F6 F9 w8 W (.pointer (some ⟨pb,0,none⟩)) m9 pv ps∧Hn all (gs.take j) m6 []=(m9,ps)∧ps.length=j∧m9.e=0) (fun _ u _=>gs.length - (intOf u).toNat)
      case atStart=>exact ⟨0,F6,m6,[],Nat.zero_le _,rfl,HS8.o.again,rfl,rfl,HZ0.o⟩
      case round=>
       obtain ⟨j,F9,m9,ps,hj,rfl,hs,hi,hlen,he9⟩:=hrel
       have HS9:=Aa hs;have HI9:=Aa hi;have HN9:=Aa hlen;have HE9:=Aa he9
       obtain ⟨pa,pc,rfl⟩:=Ba hs.own.own
       clear hs hi hlen he9
       by_cases hlt:j<gs.length
       ·have hji:(j:Int)<(gs.length:Int):=by omega
        obtain ⟨ib,io,ic,x,he,hcx,hidx⟩:=ints_at (HG8.o _ _ HS9.o.kp) hlt
        cases he
        have HST:=Aa (Xf hidx HI9.o)
        have HL10:=HL9.o
        have HP8:Hid (ps.length≤10):=by have:=HN9.o;unfold Hid;omega
        have HIM:=Aa (Uw HS9.o.tab all x)
        clear hidx
        by_cases hz:(Dm m9 (nd2 5 all x)).e=0
        ·have hz2:((Dm m9 (nd2 5 all x)).e != 0)=false:=by simpa using hz
         have HZ1:=Aa hz
         clear hz
         as_aux_lemma=>
         go_wp2_with (first
          | (go_at_call 61;refine HIM.o.mono ?_;intro e w10 hp10;obtain ⟨rfl,F10,_,hs10⟩:=HS9.o.puts HE9.o (n:=nd2 5 all x) hp10;have HS10:=Aa hs10;clear hs10 hp10)
          | (at_builtin;refine By rfl (.tmp 152) (.tmp 154) 23 rfl w8.heap.size 3 _ 1 8 Tryz.underlying23 Ef rfl (by decide) (by decide) _ ps.length (ints ps) rfl ((HS10.o.below (Ab w10 _)).own.own) _ 1 [.int .i64 (Ei m9 (nd2 5 all x))] rfl (Gs w10 _ _) (by simp [Value.oneCell']) (by have:=HP8.o;omega) (by have:=HS10.o.kp.size;simp;omega) ?_;intro v11 w11 hown11 hgr11 hat11 hnil11;have HS11:=Aa ((HS10.o.below (Ab w10 _)).app hown11 hgr11 hat11 (Nat.le_refl _));clear hown11 hgr11 hat11 hnil11))
         exact ⟨⟨j+1,F10,_,_,by omega,by go_num,HS11.o,HST.o,by rw [List.length_append,HN9.o];rfl,HZ1.o⟩,by simp [intOf];omega⟩
        ·have hz2:((Dm m9 (nd2 5 all x)).e != 0)=true:=by simpa using hz
         have HZ1:=Aa hz
         clear hz
         as_aux_lemma=>
         go_wp2_with (go_at_call 61;refine HIM.o.mono ?_;intro e w10 hp10;obtain ⟨rfl,F10,_,hs10⟩:=HS9.o.puts HE9.o (n:=nd2 5 all x) hp10;have HS10:=Aa hs10;clear hs10 hp10)
         go_ret3
         have hst:=HST.o
         rw [HM6.o,← HOI.o] at hst
         exact BD HS8.o HS10.o (AD HI1.o HCJ.o hst HZ1.o) HZ1.o
       ·as_aux_lemma=>
        obtain rfl:j=gs.length:=by omega
        have hI:=HI9.o
        rw [List.take_length,HM6.o,← HOI.o] at hI
        have HRE:=Aa (nC HI1.o HCJ.o hI)
        have hnn:¬ (gs.length:Int)<(gs.length:Int):=Int.lt_irrefl _
        clear hI
        go_wp2_with fail
        go_ret3
        exact BB HS8.o HS9.o (by rw [HRE.o.1,HPI.o,← HOI.o]) HE9.o
end Go.Dk
end
section
namespace Go.Dk
open Go.RowKit Go.Maps Go.MapKept Go.Shelf
open Go.Proofs hiding intOf
def zR (F:FP) (w:World) (t:Value) (r:VR) (e:Ending) (w':World):Prop:=
 ∃ pv F',e = .returned (.tuple #[.int .i64 r.prem,pv,.int .i64 r.err])∧KeptF F w F' w'∧Bn F' w' t r.rows∧OwnI w.heap.size F' w' pv r.parts
theorem zY {F:FP} {w w':World} {t:Value} {r:VR} {rows:List ND} {x:Int} (h:Bn F w t rows) (hb:Below w.heap.size w w') (hr:r=⟨rows,0,[],x⟩):zR F w t r (.returned (.tuple #[.int .i64 0,.slice none 0 0,.int .i64 x])) w':=by
 subst hr
 exact ⟨_,F,rfl,KeptF.of_below h.in_ hb,h.below hb,OwnI.nil _ _ _⟩
theorem AY {rows:List ND} {ab:List (Int × Int)} {gs:List Int} {c d:Int}:rows <+: (Tc rows ab gs c d).1.rows:=
 (nC (rows:=rows) (ab:=ab) (gs:=gs) (c:=c) (d:=d) (m:=(Kv ab ⟨rows,0⟩ []).1) (ids:=(Kv ab ⟨rows,0⟩ []).2) (m3:=(Ss (Kv ab ⟨rows,0⟩ []).2 (Kv ab ⟨rows,0⟩ []).1).1) (al:=(Ss (Kv ab ⟨rows,0⟩ []).2 (Kv ab ⟨rows,0⟩ []).1).2) rfl rfl rfl).2
theorem BM {rows:List ND} {a b:List Int} {c d:Int} {p1 p2 p3 p4:Bool} (h1:(a.all fun z=>hasB rows.length z)=p1) (h2:(b.all fun z=>hasB rows.length z)=p2) (h3:hasB rows.length c=p3) (h4:hasB rows.length d=p4) :
  Fa rows (a++b++[c,d])=if (p1 && p2 && p3 && p4)=true then 0 else 31:=by
 subst h1 h2 h3 h4
 unfold Fa
 simp only [List.all_append,List.all_cons,List.all_nil,Bool.and_true,Bool.and_assoc]
set_option maxRecDepth 100000 in
set_option maxHeartbeats 4000000 in
theorem zT (F:FP) (w:World) (t va vb:Value) (rows:List ND) (h:Bn F w t rows) (a b:List Int) (hva:∀ (F1:FP) (W:World),KeptF F w F1 W→Rd W va a.length 1 (ints a)) (hvb:∀ (F1:FP) (W:World),KeptF F w F1 W→Rd W vb b.length 1 (ints b)) (hla:a.length<2 ^ 62) (hlb:b.length<2 ^ 62) (c d:Int) :
  Calls Tryz.prog 22 #[t,va,vb,.int .i64 c,.int .i64 d] w (zR F w t (Ej rows a b c d)):=by
 obtain ⟨pb,v,rfl,hat⟩:=h.col 0
 obtain ⟨na,nc,rfl⟩:=hat.hr.slice
 have c0:w.cell? ⟨pb,0,none⟩=some (.slice na rows.length nc):=cell_of hat.hp rfl
 have ha:=hva F w (KeptF.refl h.in_)
 have hb:=hvb F w (KeptF.refl h.in_)
 have HA:=Aa (dG 0 _ w _ va rows (h.col 0) a ha hla)
 have HB:=Aa (dG 0 _ w _ vb rows (h.col 0) b hb hlb)
 have HC:=Aa (Bz 0 _ w _ rows (h.col 0) c)
 have HD:=Aa (Bz 0 _ w _ rows (h.col 0) d)
 obtain ⟨p1,h1⟩:∃ p,(a.all fun z=>hasB rows.length z)=p:=⟨_,rfl⟩
 obtain ⟨p2,h2⟩:∃ p,(b.all fun z=>hasB rows.length z)=p:=⟨_,rfl⟩
 obtain ⟨p3,h3⟩:∃ p,hasB rows.length c=p:=⟨_,rfl⟩
 obtain ⟨p4,h4⟩:∃ p,hasB rows.length d=p:=⟨_,rfl⟩
 have HLK:=Aa (BM h1 h2 h3 h4)
 rw [h1] at HA
 rw [h2] at HB
 rw [h3] at HC
 rw [h4] at HD
 have H:=Aa h
 have HVA:=Aa hva
 have HVB:=Aa hvb
 have HRU:Hid (a.length=b.length→a.length≤8→Calls Tryz.prog 40 #[.pointer (some ⟨pb,0,none⟩),va,vb,.int .i64 c,.int .i64 d] w (zV F w (.pointer (some ⟨pb,0,none⟩)) (Tc rows (a.zip b) (a++[c,d]) c d))):=fun e l=>AL F w _ va vb rows h a b hva hvb e l c d
 obtain ⟨aa,ac,rfl⟩:=ha.slice
 obtain ⟨ba,bc,rfl⟩:=hb.slice
 have HX:Hid (p1=false∨(p1=true∧p2=false)∨(p1=true∧p2=true∧p3=false)∨(p1=true∧p2=true∧p3=true∧p4=false)∨(p1=true∧p2=true∧p3=true∧p4=true)):=by
  unfold Hid;cases p1<;>cases p2<;>cases p3<;>cases p4<;>simp
 clear h1 h2 h3 h4 ha hb hva hvb h hat
 rcases HX.o with rfl | ⟨rfl,rfl⟩ | ⟨rfl,rfl,rfl⟩ | ⟨rfl,rfl,rfl,rfl⟩ | ⟨rfl,rfl,rfl,rfl⟩
 case inr.inr.inr.inr=>
  have hE:Fa rows (a++b++[c,d])=0:=by rw [HLK.o];simp
  by_cases hab:a.length=b.length
  case neg=>
   have HP:Hid (Ej rows a b c d=⟨rows,0,[],270⟩):=by unfold Hid Ej;rw [if_neg (by simpa using hE),if_pos (.inl hab)]
   have h1:((a.length:Int) != (b.length:Int))=true:=by simp;omega
   clear hE hab HRU
   as_aux_lemma=>
   go_enter Tryz.func22,Tryz.ntmps22
   go_wp2_with (first
    | (go_at_call 35;first | (refine HA.o.mono ?_;clear HA;rintro e w' ⟨rfl,rfl⟩) | (refine HB.o.mono ?_;rintro e w' ⟨rfl,rfl⟩))
    | (go_at_call 9;first | (refine HC.o.mono ?_;clear HC;rintro e w' ⟨rfl,rfl⟩) | (refine HD.o.mono ?_;rintro e w' ⟨rfl,rfl⟩)))
   go_ret3
   exact zY H.o (Below.refl _ _) HP.o
  by_cases h8:a.length≤8
  case neg=>
   have HP:Hid (Ej rows a b c d=⟨rows,0,[],270⟩):=by unfold Hid Ej;rw [if_neg (by simpa using hE),if_pos (.inr (by omega))]
   have h2:(8:Int)<(a.length:Int):=by omega
   rw [← hab] at HB ⊢
   clear hE hab HRU HVB h8
   as_aux_lemma=>
   go_enter Tryz.func22,Tryz.ntmps22
   go_wp2_with (first
    | (go_at_call 35;first | (refine HA.o.mono ?_;clear HA;rintro e w' ⟨rfl,rfl⟩) | (refine HB.o.mono ?_;rintro e w' ⟨rfl,rfl⟩))
    | (go_at_call 9;first | (refine HC.o.mono ?_;clear HC;rintro e w' ⟨rfl,rfl⟩) | (refine HD.o.mono ?_;rintro e w' ⟨rfl,rfl⟩)))
   go_ret3
   exact zY H.o (Below.refl _ _) HP.o
  have HR:=Aa (HRU.o hab h8)
  have HVE:Hid (∀ m6 p ps,Tc rows (a.zip b) (a++[c,d]) c d=(m6,p,ps)→Ej rows a b c d=if m6.e≠0 then ⟨rows,0,[],m6.e⟩ else ⟨m6.rows,p,ps,0⟩):=fun m6 p ps hr=>sT hE ⟨hab,h8⟩ hr
  have HPR:=Aa (AY (rows:=rows) (ab:=a.zip b) (gs:=a++[c,d]) (c:=c) (d:=d))
  have h2:¬ (8:Int)<(a.length:Int):=by omega
  rw [← hab] at HB HR ⊢
  generalize Tc rows (a.zip b) (a++[c,d]) c d=r at *
  obtain ⟨m6,p6,ps6⟩:=r
  have HVV:=Aa (HVE.o m6 p6 ps6 rfl)
  simp only at HPR HR
  have hle:=H.o.ok.le
  clear HVE hE hab HRU HVB HVA h8 HLK
  by_cases hz:m6.e=0
  ·have hve:=HVV.o
   rw [if_neg (by simpa using hz)] at hve
   have HVG:=Aa hve
   have hz2:(m6.e != 0)=false:=by simpa using hz
   have HZ:=Aa hz
   clear hve hz HVV
   as_aux_lemma=>
   go_enter Tryz.func22,Tryz.ntmps22
   go_wp2_with (first
    | (go_at_call 35;first | (refine HA.o.mono ?_;clear HA;rintro e w' ⟨rfl,rfl⟩) | (refine HB.o.mono ?_;rintro e w' ⟨rfl,rfl⟩))
    | (go_at_call 9;first | (refine HC.o.mono ?_;clear HC;rintro e w' ⟨rfl,rfl⟩) | (refine HD.o.mono ?_;rintro e w' ⟨rfl,rfl⟩))
    | (go_at_call 40;refine HR.o.mono ?_;rintro e w2 ⟨p,pv,F2,rfl,hk2,ht2,_,hg2⟩;obtain ⟨rfl,ho2⟩:=hg2 HZ.o;obtain ⟨qa,qc,rfl⟩:=Ba ho2.own;have HK2:=Aa hk2;have HT2:=Aa ht2;have HO2:=Aa ho2;clear hk2 ht2 hg2 ho2))
   go_ret3
   rw [HVG.o,HZ.o]
   exact ⟨_,F2,rfl,HK2.o,HT2.o,HO2.o⟩
  ·have hve:=HVV.o
   rw [if_pos hz] at hve
   have HVG:=Aa hve
   have hz2:(m6.e != 0)=true:=by simpa using hz
   have HZ:=Aa hz
   clear hve hz HVV
   as_aux_lemma=>
   go_enter Tryz.func22,Tryz.ntmps22
   go_wp2_with (first
    | (go_at_call 35;first | (refine HA.o.mono ?_;clear HA;rintro e w' ⟨rfl,rfl⟩) | (refine HB.o.mono ?_;rintro e w' ⟨rfl,rfl⟩))
    | (go_at_call 9;first | (refine HC.o.mono ?_;clear HC;rintro e w' ⟨rfl,rfl⟩) | (refine HD.o.mono ?_;rintro e w' ⟨rfl,rfl⟩))
    | (go_at_call 40;refine HR.o.mono ?_;rintro e w2 ⟨p,pv,F2,rfl,hk2,ht2,hg2,_⟩;obtain ⟨rfl,rfl⟩:=hg2 HZ.o;have HK2:=Aa hk2;have HT2:=Aa ht2;clear hk2 ht2 hg2)
    | (go_at_call 41;refine (iF HT2.o (rows.length:Int)).mono ?_;rintro e w3 ⟨rfl,F3,hk3,ht3⟩;rw [Oq HPR.o] at ht3;have HK3:=Aa (HK2.o.trans hk3);have HT3:=Aa ht3;clear hk3 ht3))
   go_ret3
   rw [HVG.o]
   exact ⟨_,F3,rfl,HK3.o,HT3.o,OwnI.nil _ _ _⟩
 all_goals
  have HP:Hid (Ej rows a b c d=⟨rows,0,[],31⟩):=by unfold Hid Ej;rw [if_pos (by rw [HLK.o];simp)]
  clear HX HLK HRU HVA HVB
  as_aux_lemma=>
  go_enter Tryz.func22,Tryz.ntmps22
  go_wp2_with (first
   | (go_at_call 35;first | (refine HA.o.mono ?_;clear HA;rintro e w' ⟨rfl,rfl⟩) | (refine HB.o.mono ?_;rintro e w' ⟨rfl,rfl⟩))
   | (go_at_call 9;first | (refine HC.o.mono ?_;clear HC;rintro e w' ⟨rfl,rfl⟩) | (refine HD.o.mono ?_;rintro e w' ⟨rfl,rfl⟩)))
  go_ret3
  exact zY H.o (Below.refl _ _) HP.o
end Go.Dk
end
section
namespace Go.Dk
open Go.RowKit Go.Maps Go.MapKept Go.Shelf
open Go.Proofs hiding intOf
theorem BG {rows:List ND} (ok:Ok rows) {a b:List Int} {c d:Int} (he:(Ej rows a b c d).err=0) {p:Nat} (hp:(Ej rows a b c d).prem=(p:Int)) (hb:Gz (Ej rows a b c d).rows [] p=true) :
  ¬ ∀ z ∈ (Ej rows a b c d).parts,Hf (Ej rows a b c d).rows [] z.toNat=0∧Gz (Ej rows a b c d).rows [] z.toNat=false:=by
 intro h
 obtain ⟨hv,_,_,_⟩:=bI ok he
 generalize Ej rows a b c d=r at *
 obtain ⟨p',hp',hpl,hpt⟩:=hv.prem
 rw [hp] at hp'
 have e:p=p':=by omega
 subst e
 have nn:∀ n ∈ ([]:List Nat),n<r.rows.length:=fun n hn=>by cases hn
 have hval:=BJ hv.ok nn hpl hb
 rw [AT,hpt] at hval
 refine AS (fun _=>none) _ _ _ (by rw [AH];exact hval) (fun T hT=>?_)
 obtain ⟨z,hz,n,rfl,hn,ht⟩:=hv.parts.right T hT
 obtain ⟨e1,e2⟩:=h _ hz
 rw [Int.toNat_natCast] at e1 e2
 have:=BK hv.ok nn hn e1 e2
 rw [AT,ht] at this
 rw [AH];exact this
set_option maxRecDepth 100000 in
set_option maxHeartbeats 4000000 in
theorem AQ (F:FP) (w:World) (t va vb:Value) (rows:List ND) (h:Bn F w t rows) (a b:List Int) (ha:Rd w va a.length 1 (ints a)) (hb:Rd w vb b.length 1 (ints b)) (hla:a.length<2 ^ 62) (hlb:b.length<2 ^ 62) (c d:Int) :
  Calls Tryz.prog 21 #[t,va,vb,.int .i64 c,.int .i64 d] w (Tz w (aN rows a b c d)):=by
 have HCP:=Aa (qN h)
 have HOK:=Aa h.ok
 have HVI:Hid (∀ (F1:FP) (W:World) (t1:Value),Below w.heap.size w W→Bn F1 W t1 rows→(∀ b,F1 b→w.heap.size≤b)→Calls Tryz.prog 22 #[t1,va,vb,.int .i64 c,.int .i64 d] W (zR F1 W t1 (Ej rows a b c d))):=fun F1 W t1 hbw ht hn=>
  zT F1 W t1 va vb rows ht a b (fun F2 W2 hk=>ha.below (hk.from_ hbw hn)) (fun F2 W2 hk=>hb.below (hk.from_ hbw hn)) hla hlb c d
 clear h ha hb
 have HNO:Hid (∀ r,r=Ej rows a b c d→r.err=0→∀ p:Nat,r.prem=(p:Int)→Gz r.rows [] p=true→¬ ∀ z ∈ r.parts,Hf r.rows [] z.toNat=0∧Gz r.rows [] z.toNat=false):=fun r hr he p hp hb=>by
  subst hr;exact BG HOK.o he hp hb
 obtain ⟨r,hr⟩:∃ r,r=Ej rows a b c d:=⟨_,rfl⟩
 have HNO2:=Aa (HNO.o r hr)
 have HAD:Hid (aN rows a b c d=if r.err≠0 then (0,if r.err=30 then 110 else r.err) else if Hf r.rows [] r.prem.toNat≠0 then (0,110) else if Gz r.rows [] r.prem.toNat=false then (0,2) else Wy r.rows r.parts 0):=by
  unfold Hid aN;rw [← hr]
 have HVO:Hid (r.err=0→(∃ n:Nat,r.prem=(n:Int)∧n<r.rows.length)∧(∀ z ∈ r.parts,hasB r.rows.length z=true)∧r.parts.length<2 ^ 62):=fun he=>by
  rw [hr] at he
  have h1:=(bI HOK.o he).1
  have h2:=(bI HOK.o he).2.2.1
  rw [← hr] at h1
  refine ⟨h1.prem.has,h1.parts.has,?_⟩
  have:=h1.parts.len
  simp at this
  have:=List.length_zip (l₁:=a) (l₂:=b)
  omega
 rw [← hr] at HVI
 clear hr HNO
 by_cases h30:r.err=30
 ·have g30:(r.err == 30)=true:=by simpa using h30
  have HP:Hid (aN rows a b c d=(0,110)):=by unfold Hid;rw [HAD.o,if_pos (by omega),if_pos h30]
  clear h30
  as_aux_lemma=>
  go_enter Tryz.func21,Tryz.ntmps21
  go_wp2_with (first
   | (go_at_call 39;refine HCP.o.mono ?_;rintro e w3 ⟨c1,Fc,rfl,ht3,hf3,hb3⟩;have HT3:=Aa ht3;have HF3:=Aa hf3;have HB3:=Aa hb3;clear ht3 hf3 hb3)
   | (go_at_call 22;refine (HVI.o Fc _ c1 HB3.o HT3.o HF3.o).mono ?_;rintro e w4 ⟨pv,F4,rfl,hk4,ht4,ho4⟩;have HB4:Hid (Below w.heap.size w w4):=HB3.o.trans (hk4.below HB3.o.size (fun b hb hf=>by have:=HF3.o b hf;omega));obtain ⟨qa,qc,rfl⟩:=Ba ho4.own;clear hk4 ht4 ho4))
  go_ret2
  exact Cf HP.o HB4.o
 ·have g30:(r.err == 30)=false:=by simpa using h30
  by_cases h0:r.err=0
  case neg=>
   have g0:(r.err != 0)=true:=by simpa using h0
   have HP:Hid (aN rows a b c d=(0,r.err)):=by unfold Hid;rw [HAD.o,if_pos h0,if_neg h30]
   clear h30 h0
   as_aux_lemma=>
   go_enter Tryz.func21,Tryz.ntmps21
   go_wp2_with (first
    | (go_at_call 39;refine HCP.o.mono ?_;rintro e w3 ⟨c1,Fc,rfl,ht3,hf3,hb3⟩;have HT3:=Aa ht3;have HF3:=Aa hf3;have HB3:=Aa hb3;clear ht3 hf3 hb3)
    | (go_at_call 22;refine (HVI.o Fc _ c1 HB3.o HT3.o HF3.o).mono ?_;rintro e w4 ⟨pv,F4,rfl,hk4,ht4,ho4⟩;have HB4:Hid (Below w.heap.size w w4):=HB3.o.trans (hk4.below HB3.o.size (fun b hb hf=>by have:=HF3.o b hf;omega));obtain ⟨qa,qc,rfl⟩:=Ba ho4.own;clear hk4 ht4 ho4))
   go_ret2
   exact Cf HP.o HB4.o
  case pos=>
   have g0:(r.err != 0)=false:=by simpa using h0
   have HP:Hid (aN rows a b c d=if Hf r.rows [] r.prem.toNat≠0 then (0,110) else if Gz r.rows [] r.prem.toNat=false then (0,2) else Wy r.rows r.parts 0):=by unfold Hid;rw [HAD.o,if_neg (by simpa using h0)]
   obtain ⟨⟨p,hp,hpl⟩,hps,hpn⟩:=HVO.o h0
   have HPS:=Aa hps
   have HPL:Hid (p<r.rows.length∧r.parts.length<2 ^ 62):=⟨hpl,hpn⟩
   have HNO:=Aa (HNO2.o h0 p hp)
   obtain ⟨prows,pprem,pparts,perr⟩:=r
   simp only at hp HP HPS HPL g0 g30 HVI h0 HNO
   subst hp
   subst h0
   rw [Int.toNat_natCast] at HP
   clear HVO HAD hps hpl hpn h30 HNO2
   go_enter Tryz.func21,Tryz.ntmps21
   go_wp2_with (first
    | (go_at_call 39;refine HCP.o.mono ?_;rintro e w3 ⟨c1,Fc,rfl,ht3,hf3,hb3⟩;have HT3:=Aa ht3;have HF3:=Aa hf3;have HB3:=Aa hb3;clear ht3 hf3 hb3)
    | (go_at_call 22;refine (HVI.o Fc _ c1 HB3.o HT3.o HF3.o).mono ?_;rintro e w4 ⟨pv,F4,rfl,hk4,ht4,ho4⟩;have HB4:Hid (Below w.heap.size w w4):=HB3.o.trans (hk4.below HB3.o.size (fun b hb hf=>by have:=HF3.o b hf;omega));obtain ⟨qa,qc,rfl⟩:=Ba ho4.own;have HO4:=Aa ho4;have HT4:=Aa ht4;clear hk4 ht4 ho4))
   have HASK:Hid (∀ (W:World) (x:Nat),Below w4.heap.size w4 W→x<prows.length→Calls Tryz.prog 36 #[c1,.slice none 0 0,.int .i64 (x:Int)] W fun e w'=>e = .returned (.tuple #[.bool (Gz prows [] x),.int .i64 (Hf prows [] x)])∧Below W.heap.size W w'):=
    fun W x hb hx=>dM F4 W c1 prows (HT4.o.below hb) _ [] (lV W) (by simp) (fun z hz=>by cases hz) x hx
   refine (HASK.o _ p (Below.refl _ _) HPL.o.1).mono ?_
   rintro e w5 ⟨rfl,hb5⟩
   have HB5:=Aa hb5
   clear hb5 HVI HCP
   rcases Gl prows [] p with he0 | he0
   case inr=>
    rw [he0]
    have hp:=HP.o
    rw [he0,if_pos (by simp)] at hp
    have HP2:=Aa hp
    clear hp he0
    as_aux_lemma=>
    go_wp2_with fail
    go_ret2
    exact Cf HP2.o (Ac HB4.o HB5.o)
   rw [he0]
   cases hbp:Gz prows [] p with
   | false=>
    have hp:=HP.o
    rw [he0,hbp,if_neg (by simp),if_pos rfl] at hp
    have HP2:=Aa hp
    clear hp he0 hbp
    as_aux_lemma=>
    go_wp2_with fail
    go_ret2
    exact Cf HP2.o (Ac HB4.o HB5.o)
   | true=>
    have hp:=HP.o
    rw [he0,hbp,if_neg (by simp),if_neg (by simp)] at hp
    have HP2:=Aa hp
    have HN:=Aa (HNO.o hbp)
    clear hp he0 hbp HNO HP
    go_wp2_with fail
    go_loopw [17] (fun u W=>∃ j:Nat,j≤pparts.length∧u = .int .i64 (j:Int)∧Wy prows pparts 0=Wy prows (pparts.drop j) j∧(∀ (k:Nat) (z:Int),k<j→pparts[k]? = some z→Hf prows [] z.toNat=0∧Gz prows [] z.toNat=false)∧Below w4.heap.size w4 W) (fun u _=>pparts.length - (intOf u).toNat)
    case atStart=>exact ⟨0,Nat.zero_le _,rfl,rfl,fun k z hk=>absurd hk (Nat.not_lt_zero _),HB5.o⟩
    case round=>
     obtain ⟨j,hj,rfl,hall,hno,hb⟩:=hrel
     have HA:=Aa hall;have HB:=Aa hb;have HNO:=Aa hno
     clear hall hb hno
     by_cases hlt:j<pparts.length
     ·as_aux_lemma=>
      obtain ⟨ib,io,ic,z,he,hc1,hzk⟩:=ints_at ((HO4.o.below HB.o).rd) hlt
      cases he
      have hji:(j:Int)<(pparts.length:Int):=by omega
      obtain ⟨x,rfl,hx⟩:=Dx (HPS.o z (List.mem_of_getElem? hzk))
      have HAT:=Aa (rG (rows:=prows) (k:=j) hzk)
      rw [Int.toNat_natCast] at HAT
      have HX:=Aa hx
      have HZK:=Aa hzk
      have HPL2:=HPL.o.2
      clear hzk hx
      go_wp2_with fail
      refine (HASK.o _ x HB.o HX.o).mono ?_
      rintro e w7 ⟨rfl,hb7⟩
      have HB7:=Aa (Ac HB.o hb7)
      clear hb7
      rcases Gl prows [] x with hx0 | hx0
      ·rw [hx0]
       cases hbx:Gz prows [] x with
       | true=>
        have hp:=HAT.o
        rw [hx0,hbx,if_neg (by simp),if_pos rfl] at hp
        have HP3:Hid (aN rows a b c d=((j:Int),0)):=by unfold Hid;rw [HP2.o,HA.o,hp]
        clear hp hx0 hbx
        as_aux_lemma=>
        go_wp2_with fail
        go_ret2
        exact Cf HP3.o (Ac HB4.o HB7.o)
       | false=>
        have hp:=HAT.o
        rw [hx0,hbx,if_neg (by simp),if_neg (by simp)] at hp
        have HP3:=Aa hp
        have HN1:Hid (∀ (k:Nat) (z:Int),k<j+1→pparts[k]? = some z→Hf prows [] z.toNat=0∧Gz prows [] z.toNat=false):=fun k z hk hz=>by
         by_cases e:k<j
         ·exact HNO.o k z e hz
         ·have e:k=j:=by omega
          subst e
          rw [HZK.o] at hz
          cases hz
          exact ⟨by rw [Int.toNat_natCast];exact hx0,by rw [Int.toNat_natCast];exact hbx⟩
        clear hp hx0 hbx
        as_aux_lemma=>
        go_wp2_with fail
        exact ⟨⟨j+1,by omega,by go_num,by rw [HA.o,HP3.o],HN1.o,HB7.o⟩,by simp [intOf];omega⟩
      ·rw [hx0]
       have hp:=HAT.o
       rw [hx0,if_pos (by simp)] at hp
       have HP3:Hid (aN rows a b c d=(0,110)):=by unfold Hid;rw [HP2.o,HA.o,hp]
       clear hp hx0
       as_aux_lemma=>
       go_wp2_with fail
       go_ret2
       exact Cf HP3.o (Ac HB4.o HB7.o)
     ·obtain rfl:j=pparts.length:=by omega
      exact absurd (fun z hz=>by
       obtain ⟨k,hk⟩:=List.getElem?_of_mem hz
       exact HNO.o k z (List.getElem?_eq_some_iff.1 hk).1 hk) HN.o
end Go.Dk
end
section
namespace Go.Dk
open Go.RowKit Go.Maps Go.MapKept Go.Shelf
open Go.Proofs hiding intOf
theorem AN (w:World) (v:Value) (rows:List ND) (hn:∀ n ∈ rows,n.name.size≤maxLen) (hr:Rd w v rows.length 4 (As rows)) (hm:rows.length≤maxLen) (hl:rows.length * 40≤140737488355328) (h0:Hw [] rows=0) :
  Calls Tryz.prog 8 #[v] w fun e w'=>∃ t r F G,e = .returned (.tuple #[t,r,.bool true])∧Cm F w' t rows∧Bn G w' r rows∧F.apart G∧(∀ b,F b→w.heap.size≤b)∧(∀ b,G b→w.heap.size≤b)∧Below w.heap.size w w':=by
 refine (both_any w v rows hn hr hm hl).mono ?_
 rintro e w' ⟨hb,_,h⟩
 obtain ⟨t,r,ow,rfl,hp,ho⟩:=h h0
 have far:∀ k,k≠0→∀ b,(b<w'.heap.size∧ow b=k)→w.heap.size≤b:=fun k hk b hf=>by
  apply Classical.byContradiction
  intro hn
  have:=ho b (by omega)
  exact hk (hf.2.symm.trans this)
 exact ⟨t,r,_,_,rfl,Cm.of_tab hp.t,Bn.of_tab hp.r,fun b h1 h2=>by have e1:=h1.2;have e2:=h2.2;omega,far 1 (by decide),far 2 (by decide),hb⟩
theorem AA (al:Int):∀ (gs:List Int) (m:MK) (l:List Int),(Hn al gs m l).2.length=l.length+gs.length
 | [],_,_=>rfl
 | g::t,m,l=>by unfold Hn;rw [AA al t];simp;omega
theorem BI (rows:List ND) (a b:List Int) (c d:Int):(Ej rows a b c d).parts.length≤10:=by
 unfold Ej
 by_cases h1:Fa rows (a++b++[c,d])≠0
 ·rw [if_pos h1];simp
 rw [if_neg h1]
 by_cases h2:a.length≠b.length∨8<a.length
 ·rw [if_pos h2];simp
 rw [if_neg h2]
 split
 ·simp
 ·show (Tc rows (a.zip b) (a++[c,d]) c d).2.2.length≤10
  unfold Tc
  simp only [AA]
  simp
  omega
set_option maxRecDepth 100000 in
set_option maxHeartbeats 4000000 in
theorem rulesLaw_any (w:World) (hT:TabG w) (v0:Value) (rows:List ND) (hn:∀ n ∈ rows,n.name.size≤maxLen) (hr:Rd w v0 rows.length 4 (As rows)) (hm:rows.length≤maxLen) (hl:rows.length * 40≤140737488355328)
  (va vb:Value) (a b:List Int) (ha:Rd w va a.length 1 (ints a)) (hb:Rd w vb b.length 1 (ints b)) (hal:a.length * 8≤140737488355328) (hbl:b.length * 8≤140737488355328) (c d:Int) :
  Calls Tryz.prog 7 #[v0,va,vb,.int .i64 c,.int .i64 d] w fun e w'=>e = .returned (.bool true)∧Below w.heap.size w w':=by
 have HT:=Aa hT
 have HH:Hid (∀ W:World,Below w.heap.size w W→Calls Tryz.prog 10 #[] W fun e w'=>e = .returned (.bool true)∧Below W.heap.size W w'):=fun W hb=>jB W (hT.below hb)
 by_cases h0:Hw [] rows=0
 case neg=>
  have HB:=Aa (vU w v0 rows hn hr hm hl h0)
  clear h0 hn hr hm hl hT ha hb hal hbl
  as_aux_lemma=>
  go_enter Tryz.func7,Tryz.ntmps7
  go_wp2_with (first
   | (go_at_call 8;refine HB.o.mono ?_;rintro e w2 ⟨rfl,hb2⟩;have HB2:=Aa hb2;clear hb2)
   | (go_at_call 10;refine (HH.o _ HB2.o).mono ?_;rintro e w3 ⟨rfl,hb3⟩;have HB3:=Aa (Ac HB2.o hb3);clear hb3))
  go_ret
  exact ⟨rfl,HB3.o⟩
 case pos=>
  have HB:=Aa (AN w v0 rows hn hr hm hl h0)
  have HVA:=Aa ha
  have HVB:=Aa hb
  have HLL:Hid (a.length * 8≤140737488355328∧b.length * 8≤140737488355328):=⟨hal,hbl⟩
  have HMA:Hid (a.length≤maxLen∧b.length≤maxLen):=by unfold Hid maxLen;omega
  have HAD:Hid (∀ (W:World) (F:FP) (t x y:Value),Below w.heap.size w W→Cm F W t rows→Rd W x a.length 1 (ints a)→Rd W y b.length 1 (ints b)→Calls Tryz.prog 14 #[t,x,y,.int .i64 c,.int .i64 d] W (Tz W (aN rows a b c d))):=fun W F t x y hw ht hx hy=>lP F W t x y rows ht (hT.below hw) a b hx hy (by omega) (by omega) c d
  have HRA:Hid (∀ (W:World) (F:FP) (t:Value),Below w.heap.size w W→Bn F W t rows→Calls Tryz.prog 21 #[t,va,vb,.int .i64 c,.int .i64 d] W (Tz W (aN rows a b c d))):=fun W F t hw ht=>AQ F W t va vb rows ht a b (ha.below hw) (hb.below hw) (by omega) (by omega) c d
  have HVI:Hid (∀ (W:World) (F:FP) (t x y:Value),Cm F W t rows→(∀ F1 W1,KeptF F W F1 W1→Rd W1 x a.length 1 (ints a))→(∀ F1 W1,KeptF F W F1 W1→Rd W1 y b.length 1 (ints b))→Calls Tryz.prog 15 #[t,x,y,.int .i64 c,.int .i64 d] W (Ue F W t (Ej rows a b c d))):=fun W F t x y ht hx hy=>Zg F W t x y rows ht a b hx hy (by omega) (by omega) c d
  have HRV:Hid (∀ (W:World) (F:FP) (t:Value),Below w.heap.size w W→Bn F W t rows→(∀ b,F b→w.heap.size≤b)→Calls Tryz.prog 22 #[t,va,vb,.int .i64 c,.int .i64 d] W (zR F W t (Ej rows a b c d))):=fun W F t hw ht hn=>zT F W t va vb rows ht a b (fun F1 W1 hk=>ha.below (hk.from_ hw hn)) (fun F1 W1 hk=>hb.below (hk.from_ hw hn)) (by omega) (by omega) c d
  have HVL:=Aa (BI rows a b c d)
  obtain ⟨aa,ac,rfl⟩:=ha.slice
  obtain ⟨ba,bc,rfl⟩:=hb.slice
  generalize aN rows a b c d=q at *
  generalize Ej rows a b c d=r at *
  obtain ⟨q1,q2⟩:=q
  obtain ⟨rr,rp,rps,re⟩:=r
  unfold Tz at HAD HRA
  unfold Ue at HVI
  unfold zR at HRV
  simp only at HAD HRA HVI HRV HVL
  have HMP:Hid (rps.length≤maxLen):=by have:=HVL.o;unfold Hid maxLen;omega
  clear h0 hn hr hm hl hT ha hb hal hbl HVL
  go_enter Tryz.func7,Tryz.ntmps7
  go_wp2_with (first
   | (go_at_call 8;refine HB.o.mono ?_;rintro e w2 ⟨t,r2,F,G,rfl,ht2,hr2,hfg,hf2,hg2,hb2⟩;have HT2:=Aa ht2;have HR2:=Aa hr2;have HFG:=Aa hfg;have HF2:=Aa hf2;have HG2:=Aa hg2;have HB2:=Aa hb2;clear ht2 hr2 hfg hf2 hg2 hb2 HB)
   | (at_builtin;refine By rfl (.tmp 35) (.tmp 36) 23 rfl w2.heap.size 3 _ 1 8 Tryz.underlying23 Ef rfl (by decide) (by decide) _ 0 [] rfl (World.ownsRow_made w2 _ 0 (Nat.le_refl _) (by decide) (by simp)) _ a.length (ints a) rfl (HVA.o.below (Ac HB2.o (Ab _ _))) (Ws a) (by have:=HLL.o.1;omega) (by simp) ?_;intro v3 w3 hown3 hgr3 hat3 hnil3;rw [Nat.zero_add,List.nil_append] at hown3;have HO3:=Aa hown3;have HB23:Hid (Below w2.heap.size w2 w3):=((Ab w2 _).grown hgr3 (by simp) (fun q hq=>by cases hq;exact Nat.le_refl _));obtain ⟨a3,c3,h3⟩:=Ba hown3;subst h3;have HB3:=Aa (Ac HB2.o HB23.o);clear hown3 hgr3 hat3 hnil3)
   | (at_builtin;refine By rfl (.tmp 38) (.tmp 39) 23 rfl w3.heap.size 3 _ 1 8 Tryz.underlying23 Ef rfl (by decide) (by decide) _ 0 [] rfl (World.ownsRow_made w3 _ 0 (Nat.le_refl _) (by decide) (by simp)) _ b.length (ints b) rfl (HVB.o.below (Ac HB3.o (Ab _ _))) (Ws b) (by have:=HLL.o.2;omega) (by simp) ?_;intro v4 w4 hown4 hgr4 hat4 hnil4;rw [Nat.zero_add,List.nil_append] at hown4;have HO4:=Aa hown4;have HB34:Hid (Below w3.heap.size w3 w4):=((Ab w3 _).grown hgr4 (by simp) (fun q hq=>by cases hq;exact Nat.le_refl _));obtain ⟨a4,c4,h4⟩:=Ba hown4;subst h4;have HB4:=Aa (Ac HB3.o HB34.o);clear hown4 hgr4 hat4 hnil4)
   | (go_at_call 14;refine (HAD.o _ F t _ _ HB4.o (HT2.o.below (Ac HB23.o HB34.o)) ((Hv HO3.o).below HB34.o) (Hv HO4.o)).mono ?_;rintro e w5 ⟨rfl,hb5⟩;have HB45:=Aa hb5;clear hb5 HAD)
   | (go_at_call 21;refine (HRA.o _ G r2 (Ac HB4.o HB45.o) (HR2.o.below (Ac (Ac HB23.o HB34.o) HB45.o))).mono ?_;rintro e w6 ⟨rfl,hb6⟩;have HB46:=Aa (Ac HB45.o hb6);clear hb6 HRA)
   | (go_at_call 19;refine (sD 0 0 _ _ _ _ _ rows ((HT2.o.below (Ac (Ac HB23.o HB34.o) HB46.o)).col 0) ((HR2.o.below (Ac (Ac HB23.o HB34.o) HB46.o)).col 0)).mono ?_;rintro e w7 ⟨rfl,hb7⟩;have HB47:=Aa (Ac HB46.o hb7);clear hb7))
  have HB27:=Aa (Ac (Ac HB23.o HB34.o) HB47.o)
  have HW7:=Aa (Ac HB4.o HB47.o)
  have HT7:=Aa (HT2.o.below HB27.o)
  have HR7:=Aa (HR2.o.below HB27.o)
  have HX7:=Aa (((Hv HO3.o).below HB34.o).below HB47.o)
  have HY7:=Aa ((Hv HO4.o).below HB47.o)
  have HNX:Hid (∀ (H:FP),H.in_ w2→∀ ad k c,(.slice a3 a.length c3:Value) = .slice (some ad) k c→¬ H ad.block):=fun H hi ad k c he hf=>by
   have h1:=(HO3.o.lt ad.block (by cases he;rfl)).1
   have h2:=hi _ hf
   omega
  have HNY:Hid (∀ (H:FP),H.in_ w2→∀ ad k c,(.slice a4 b.length c4:Value) = .slice (some ad) k c→¬ H ad.block):=fun H hi ad k c he hf=>by
   have h1:=(HO4.o.lt ad.block (by cases he;rfl)).1
   have h2:=hi _ hf
   have h3:=HB23.o.size
   omega
  refine (HVI.o _ F t _ _ HT7.o (fun F1 W1 hk=>hk.rd HX7.o (HNX.o F HT2.o.in_)) (fun F1 W1 hk=>hk.rd HY7.o (HNY.o F HT2.o.in_))).mono ?_
  rintro e w8 ⟨lv,F8,rfl,hk8,ht8,ho8⟩
  obtain ⟨l1,l2,rfl⟩:=Ba ho8.own
  have HK8:=Aa hk8
  have HT8:=Aa ht8
  have HO8:=Aa ho8
  have HW8:=Aa (hk8.from_ HW7.o HF2.o)
  have HR8:=Aa (HR7.o.kept hk8 HFG.o.symm)
  have HX8:=Aa (hk8.rd HX7.o (HNX.o F HT2.o.in_))
  have HY8:=Aa (hk8.rd HY7.o (HNY.o F HT2.o.in_))
  clear hk8 ht8 ho8 HVI
  go_wp2_with fail
  refine (HRV.o _ G r2 HW8.o HR8.o HG2.o).mono ?_
  rintro e w9 ⟨mv,G9,rfl,hk9,ht9,ho9⟩
  obtain ⟨m1,m2,rfl⟩:=Ba ho9.own
  have HW9:=Aa (hk9.from_ HW8.o HG2.o)
  have HT9:=Aa (HT8.o.kept hk9 (fun b hf hg=>by
   have h1:=HR7.o.in_ _ hg
   exact HFG.o b (HK8.o.sub b h1 hf) hg))
  have HR9:=Aa ht9
  have HX9:=Aa (hk9.rd HX8.o (HNX.o G HR2.o.in_))
  have HY9:=Aa (hk9.rd HY8.o (HNY.o G HR2.o.in_))
  have HL9:=Aa (hk9.rd HO8.o.rd (fun ad k c he hg=>by
   have h1:=(HO8.o.own.lt ad.block (by cases he;rfl)).1
   have h2:=HR7.o.in_ _ hg
   omega))
  have HM9:=Aa ho9.rd
  clear hk9 ht9 ho9 HRV HX8 HY8 HT8 HR8 HX7 HY7 HT7 HR7
  go_wp2_with (first
   | (go_at_call 20;first
    | (refine (eG _ _ _ rps.length rps.length rps rps HMP.o HL9.o HM9.o).mono ?_;clear HL9;rintro e w10 ⟨rfl,hb10⟩;have HB10:=Aa hb10;clear hb10)
    | (refine (eG _ _ _ a.length a.length a a HMA.o.1 (HX9.o.below HB11.o) (HVA.o.below (Ac HW9.o HB11.o))).mono ?_;clear HX9;rintro e w12 ⟨rfl,hb12⟩;have HB12:=Aa (Ac HB11.o hb12);clear hb12)
    | (refine (eG _ _ _ b.length b.length b b HMA.o.2 (HY9.o.below HB12.o) (HVB.o.below (Ac HW9.o HB12.o))).mono ?_;rintro e w13 ⟨rfl,hb13⟩;have HB13:=Aa (Ac HB12.o hb13);clear hb13))
   | (go_at_call 19;refine (sD 0 0 _ _ _ _ _ rr ((HT9.o.below HB10.o).col 0) ((HR9.o.below HB10.o).col 0)).mono ?_;rintro e w11 ⟨rfl,hb11⟩;have HB11:=Aa (Ac HB10.o hb11);clear hb11)
   | (go_at_call 10;refine (HH.o _ (Ac HW9.o HB13.o)).mono ?_;rintro e w14 ⟨rfl,hb14⟩;have HB14:=Aa (Ac HB13.o hb14);clear hb14))
  go_ret
  exact ⟨Ce (by simp),Ac HW9.o HB14.o⟩
end Go.Dk
end
