/- Parts of the proof: Vk, Vl, Vn, Wb. -/
import Derived.Test.YthhokkfcdbcllaaGreatDoorR01
import Derived.Test.YthhokkfcdbcllaaGreatDoorR02
import Derived.Test.YthhokkfcdbcllaaGreatDoorR03
import Derived.Test.YthhokkfcdbcllaaGreatDoorR04
import Derived.Test.YthhokkfcdbcllaaGreatDoorR05
import Derived.Test.YthhokkfcdbcllaaGreatDoorR06
import Derived.Test.YthhokkfcdbcllaaGreatDoorR07
import Derived.Test.YthhokkfcdbcllaaGreatDoorR08
import Derived.Test.YthhokkfcdbcllaaGreatDoorR09
import Derived.Test.YthhokkfcdbcllaaGreatDoorR10
import Derived.Test.YthhokkfcdbcllaaGreatDoorR11
import Derived.Test.YthhokkfcdbcllaaGreatDoorR12
import Derived.Test.YthhokkfcdbcllaaGreatDoorR15
import Derived.Test.YthhokkfcdbcllaaGreatDoorR16
import Derived.Test.YthhokkfcdbcllaaGreatDoorR25
section
namespace Go.Dk
def Ge (rows:List ND) (s:SQ) (ks:List Int) (i:Nat):Option (Int × Nat):=(ks.find? fun k=>Az rows s k i).map fun k=>(k,i)
def Hh (rows:List ND) (s:SQ) (ks:List Int):Option (Int × Nat):=(List.range rows.length).findSome? (Ge rows s ks)
def Kt:List (List Int):=[[1],[2],[3,4,5,6,7],[8],[9],[10]]
def Ru (rows:List ND) (s:SQ):Int × Nat:=(Kt.findSome? (Hh rows s)).getD (14,0)
theorem Vz {A:Type} {p:A→Bool} {l:List A} {k:Nat} {y:A} (h:l[k]? = some y):(l.take (k+1)).all p=((l.take k).all p && p y):=by
 rw [List.take_add_one,h,List.all_append]
 simp
theorem Nz {A B:Type} (p:A→Bool) (f:A→B) (l:List A):(l.find? p).map f=l.findSome? fun i=>if p i then some (f i) else none:=by
 induction l with
 | nil=>rfl
 | cons a t ih=>
  rw [List.find?_cons,List.findSome?_cons]
  cases h:p a with
  | true=>simp
  | false=>simpa using ih
theorem Nj {A B:Type} {f g:A→Option B} (l:List A) (h:∀ a ∈ l,f a=g a):l.findSome? f=l.findSome? g:=by
 induction l with
 | nil=>rfl
 | cons a t ih=>
  rw [List.findSome?_cons,List.findSome?_cons,h a (by simp),ih fun b hb=>h b (by simp [hb])]
theorem Qb {B:Type} {n g:Nat} (hg:g<n) (f:Nat→Option B) (h:∀ i,i≠g→f i=none):(List.range n).findSome? f=f g:=by
 cases hf:f g with
 | none=>rw [List.findSome?_eq_none_iff];intro x _;by_cases e:x=g;· rw [e,hf]
         ·exact h x e
 | some b=>
  rw [show n=g+1+(n - g - 1) by omega,List.range_add,List.findSome?_append,List.range_succ,List.findSome?_append]
  have:(List.range g).findSome? f=none:=by
   rw [List.findSome?_eq_none_iff]
   intro x hx
   exact h x (by have:=List.mem_range.1 hx;omega)
  rw [this]
  simp [hf]
theorem yS (rows:List ND) (s:SQ):Hh rows s [1]=Bt rows s (fun k=>k == 1):=by
 unfold Hh Bt
 rw [Nz]
 refine Nj _ fun i _=>?_
 unfold Ge
 rw [List.find?_cons,Io rows s i (by omega)]
 cases h1:s.left.testBit i<;>cases h2:(onP rows s i == 1)<;>simp only [Bool.false_and,Bool.true_and,h2,if_true,if_false,Option.map_some,Option.map_none,List.find?_nil,Bool.false_eq_true]
 rw [eq_of_beq h2]
theorem wI (rows:List ND) (s:SQ):Hh rows s [10]=Bt rows s (fun k=>k == 10):=by
 unfold Hh Bt
 rw [Nz]
 refine Nj _ fun i _=>?_
 unfold Ge
 rw [List.find?_cons,Io rows s i (by omega)]
 cases h1:s.left.testBit i<;>cases h2:(onP rows s i == 10)<;>simp only [Bool.false_and,Bool.true_and,h2,if_true,if_false,Option.map_some,Option.map_none,List.find?_nil,Bool.false_eq_true]
 rw [eq_of_beq h2]
theorem yN (rows:List ND) (s:SQ):Hh rows s [3,4,5,6,7]=Bt rows s (fun k=>decide (3≤k) && decide (k≤7)):=by
 unfold Hh Bt
 rw [Nz]
 refine Nj _ fun i _=>?_
 unfold Ge
 simp only [List.find?_cons,List.find?_nil]
 rw [Io rows s i (k:=3) (by omega),Io rows s i (k:=4) (by omega),Io rows s i (k:=5) (by omega),Io rows s i (k:=6) (by omega),Io rows s i (k:=7) (by omega)]
 generalize onP rows s i=k
 cases h1:s.left.testBit i with
 | false=>simp
 | true=>
  by_cases e3:k=3
  ·subst e3;simp
  by_cases e4:k=4
  ·subst e4;simp
  by_cases e5:k=5
  ·subst e5;simp
  by_cases e6:k=6
  ·subst e6;simp
  by_cases e7:k=7
  ·subst e7;simp
  have h37:(decide (3≤k) && decide (k≤7))=false:=by
   cases h:(decide (3≤k) && decide (k≤7)) with
   | false=>rfl
   | true=>simp at h;omega
  have f3:(k == 3)=false:=by simpa using e3
  have f4:(k == 4)=false:=by simpa using e4
  have f5:(k == 5)=false:=by simpa using e5
  have f6:(k == 6)=false:=by simpa using e6
  have f7:(k == 7)=false:=by simpa using e7
  simp only [f3,f4,f5,f6,f7,h37,Bool.and_false,Bool.false_eq_true,if_false,Option.map_none]
theorem xQ {rows:List ND} {s:SQ} (hg:s.goal<rows.length):Hh rows s [2]=if s.left.testBit s.goal then some (2,s.goal) else none:=by
 have hf:∀ i,Az rows s 2 i=(s.left.testBit i && ((i:Int) == (s.goal:Int))):=fun i=>by unfold Az;simp
 unfold Hh
 rw [Qb hg (Ge rows s [2])]
 ·unfold Ge
  rw [List.find?_cons,hf]
  cases s.left.testBit s.goal<;>simp
 ·intro i hi
  unfold Ge
  rw [List.find?_cons,hf]
  have:((i:Int) == (s.goal:Int))=false:=by simp;omega
  simp [this]
theorem yA {rows:List ND} {s:SQ} (hg:s.goal<rows.length):Hh rows s [8]=if (rowAt rows s.goal).kind=5 then some (8,s.goal) else none:=by
 have hf:∀ i,Az rows s 8 i=(((i:Int) == (s.goal:Int)) && (rowAt rows i).kind == 5):=fun i=>by unfold Az;simp
 unfold Hh
 rw [Qb hg (Ge rows s [8])]
 ·unfold Ge
  rw [List.find?_cons,hf]
  cases h:((rowAt rows s.goal).kind == 5) with
  | true=>simp [eq_of_beq h]
  | false=>
   have h':¬ (rowAt rows s.goal).kind=5:=by simpa using h
   simp [h']
 ·intro i hi
  unfold Ge
  rw [List.find?_cons,hf]
  have:((i:Int) == (s.goal:Int))=false:=by simp;omega
  simp [this]
theorem xM {rows:List ND} {s:SQ} (hg:s.goal<rows.length):Hh rows s [9]=if (rowAt rows s.goal).kind=3 then some (9,s.goal) else none:=by
 have hf:∀ i,Az rows s 9 i=(((i:Int) == (s.goal:Int)) && (rowAt rows i).kind == 3):=fun i=>by unfold Az;simp
 unfold Hh
 rw [Qb hg (Ge rows s [9])]
 ·unfold Ge
  rw [List.find?_cons,hf]
  cases h:((rowAt rows s.goal).kind == 3) with
  | true=>simp [eq_of_beq h]
  | false=>
   have h':¬ (rowAt rows s.goal).kind=3:=by simpa using h
   simp [h']
 ·intro i hi
  unfold Ge
  rw [List.find?_cons,hf]
  have:((i:Int) == (s.goal:Int))=false:=by simp;omega
  simp [this]
theorem qW {rows:List ND} {s:SQ} (hg:s.goal<rows.length):Ru rows s=Ak rows s:=by
 unfold Ru Ak Kt
 simp only [List.findSome?_cons,List.findSome?_nil,yS,xQ hg,yN,yA hg,xM hg,wI]
 cases Bt rows s (fun k=>k == 1) with
 | some x=>rfl
 | none=>
  cases s.left.testBit s.goal with
  | true=>rfl
  | false=>
   simp only [Bool.false_eq_true,if_false]
   cases Bt rows s (fun k=>decide (3≤k) && decide (k≤7)) with
   | some x=>rfl
   | none=>
    by_cases h5:(rowAt rows s.goal).kind=5
    ·simp [h5]
    ·by_cases h3:(rowAt rows s.goal).kind=3
     ·simp [h3]
     ·simp only [h5,h3,if_false]
      cases Bt rows s (fun k=>k == 10) with
      | some x=>rfl
      | none=>rfl
end Go.Dk
end
section
namespace Go.Dk
open Go.RowKit Go.Maps Go.MapKept
open Go.Proofs hiding intOf
def dD (o:Option (Int × Nat)):Value:=match o with
 | some x=>.tuple #[.int .i64 x.1,.int .i64 (x.2:Int),.bool true]
 | none=>.tuple #[.int .i64 0,.int .i64 0,.bool false]
theorem Ug {B:Type} {f:Nat→Option B} {i:Nat} (h:(List.range i).findSome? f=none) (hi:f i=none):(List.range (i+1)).findSome? f=none:=by
 rw [List.range_succ,List.findSome?_append,h]
 simp [hi]
theorem To {B:Type} {f:Nat→Option B} {i n:Nat} {b:B} (h:(List.range i).findSome? f=none) (hi:f i=some b) (hn:i<n):(List.range n).findSome? f=some b:=by
 rw [show n=i+1+(n - i - 1) by omega,List.range_add,List.findSome?_append,List.range_succ,List.findSome?_append,h]
 simp [hi]
theorem jS {rows:List ND} {s:SQ} {ks:List Int} {i:Nat} (h:(ks.all fun k=>!Az rows s k i)=true):Ge rows s ks i=none:=by
 unfold Ge
 rw [List.find?_eq_none.2]
 ·rfl
 ·intro k hk
  have:=List.all_eq_true.1 h k hk
  simpa using this
theorem fO {rows:List ND} {s:SQ} {ks:List Int} {i j:Nat} {z:Int} (h:((ks.take j).all fun k=>!Az rows s k i)=true) (hz:ks[j]? = some z) (hf:Az rows s z i=true):Ge rows s ks i=some (z,i):=by
 unfold Ge
 have hj:=(List.getElem?_eq_some_iff.1 hz).1
 have e:ks=ks.take j++z::ks.drop (j+1):=by
  have:=(List.getElem?_eq_some_iff.1 hz).2
  rw [← this,← List.drop_eq_getElem_cons hj,List.take_append_drop]
 rw [e,List.find?_append,List.find?_eq_none.2]
 ·simp [hf]
 ·intro k hk
  have:=List.all_eq_true.1 h k hk
  simpa using this
attribute [local go_sem ↓] Dv
attribute [local go_sem] Du
set_option maxRecDepth 100000 in
set_option maxHeartbeats 2000000 in
theorem cL (k:Nat) (ow:Own) (w:World) (t:Value) (rows:List ND) (h:RTab k ow w t rows) (s:SQ) (v:Value) (ks:List Int) (hk:∀ z ∈ ks,1≤z∧z≤13) (hv:Rd w v ks.length 1 (ints ks)) (hl:ks.length<2 ^ 62) :
  Calls Tryz.prog 118 #[t,.agg (Ad s.left s.goal).toArray,v] w fun e w'=>e = .returned (dD (Hh rows s ks))∧Below w.heap.size w w':=by
 have HB0:=Aa (Ab w (.cells (Ad s.left s.goal).toArray 86))
 have HX:=Aa (Ae.new w (Ad s.left s.goal) 86)
 have HFI:Hid (∀ (W:World) (z:Int) (i:Nat) (b:Bool),Below w.heap.size w W→i<rows.length→z ∈ ks→Az rows s z i=b→Calls Tryz.prog 120 #[t,.agg (Ad s.left s.goal).toArray,.int .i64 z,.int .i64 (i:Int)] W fun e w'=>e = .returned (.bool b)∧Below W.heap.size W w'):=
  fun W z i b hb hi hz e=>e▸Dh k ow W t rows (h.below hb) s i hi z (hk z hz).1 (hk z hz).2
 have HV:=Aa hv
 have hle:=h.ok.le
 obtain ⟨pb,v0,rfl,hat⟩:=h
 obtain ⟨va,vc,rfl⟩:=hat.hr.slice
 have hc0:w.cell? ⟨pb,0,none⟩=some (.slice va rows.length vc):=cell_of hat.hp rfl
 have HC:Hid (∀ W,Below w.heap.size w W→W.cell? ⟨pb,0,none⟩=some (.slice va rows.length vc)):=fun W hb=>(hb.cell (World.block_lt_of_cell? _ _ hc0)).trans hc0
 obtain ⟨xa,xc,rfl⟩:=hv.slice
 clear hat hc0 hv hk
 go_enter Tryz.func118,Tryz.ntmps118
 go_wp2_with fail
 generalize w.alloc (.cells (Ad s.left s.goal).toArray 86)=W0 at *
 go_loopw [9] (fun u W=>∃ i:Nat,i≤rows.length∧u = .int .i64 (i:Int)∧(List.range i).findSome? (Ge rows s ks)=none∧Below W0.heap.size W0 W) (fun u _=>rows.length - (intOf u).toNat)
 case atStart=>exact ⟨0,Nat.zero_le _,rfl,rfl,Below.refl _ _⟩
 case round=>
  obtain ⟨i,hi,rfl,hno,hb⟩:=hrel
  have HNO:=Aa hno;have HB:=Aa hb
  have c0:=HC.o _ (Ac HB0.o hb)
  clear hno hb
  by_cases hlt:i<rows.length
  ·have hji:(i:Int)<(rows.length:Int):=by omega
   go_wp2_with fail
   obtain ⟨wo,rfl⟩:∃ wo:World,wo=wr:=⟨_,rfl⟩
   clear c0
   go_loopw [10] (fun u W=>∃ j:Nat,j≤ks.length∧u = .int .i64 (j:Int)∧((ks.take j).all fun z=>!Az rows s z i)=true∧Below wo.heap.size wo W) (fun u _=>ks.length - (intOf u).toNat)
   case atStart=>exact ⟨0,Nat.zero_le _,rfl,by simp,Below.refl _ _⟩
   case round=>
    obtain ⟨j,hj,rfl,hall,hb2⟩:=hrel
    have HA2:=Aa hall;have HB2:=Aa (Ac HB.o hb2);have HBW:=Aa hb2
    clear hall hb2
    by_cases hlt2:j<ks.length
    ·obtain ⟨b2,o2,c2,z,he,hc2,hzi⟩:=ints_at (HV.o.below (Ac HB0.o HB2.o)) hlt2
     cases he
     have HZI:=Aa hzi
     have hii:(j:Int)<(ks.length:Int):=by omega
     have hcl:∀ W',Aft wr W'→W'.cell? ⟨b2,o2+j,none⟩=some (.int .i64 z):=fun W' hb=>Ao hb hc2
     have HXR:=Aa (HX.o.below HB2.o)
     have hld:∀ W',Aft wr W'→Bf 86 W' (.pointer (some ⟨w.heap.size,0,none⟩)):=fun W' hb=>(An (HXR.o.below hb).loads).1
     have hlv:∀ W',Aft wr W'→Dq 86 W' (.pointer (some ⟨w.heap.size,0,none⟩))=_:=fun W' hb=>(An (HXR.o.below hb).loads).2
     have HK:Hid (∀ W',Below wr.heap.size wr W'→Aft wr W'):=fun W' hb=>hb
     have HD:=Aa (below_drewN wr 1)
     have HLT:=Aa hlt
     clear hzi
     cases hz:Az rows s z i with
     | true=>
      have HR:Hid (Hh rows s ks=some (z,i)):=To HNO.o (fO HA2.o HZI.o hz) hlt
      have HF:=Aa (HFI.o _ z i true (Ac HB0.o (Ac HB2.o HD.o)) HLT.o (List.mem_of_getElem? HZI.o) hz)
      clear hz
      go_wp2_with fail
      go_region_held3 (fun W'=>Aft wr W')
       ((refine HK.o _ ?_;first | exact HB3.o | exact HD.o))
       ((go_at_call 120;refine HF.o.mono ?_;rintro e W3 ⟨rfl,hb3⟩;have HB3:=Aa (Ac HD.o hb3);clear hb3))
      have hc3:=hcl _ HB3.o
      go_wp2_with fail
      go_ret3
      refine ⟨by rw [HR.o];rfl,Ac HB0.o (Ac HB2.o HB3.o)⟩
     | false=>
      have HF:=Aa (HFI.o _ z i false (Ac HB0.o (Ac HB2.o HD.o)) HLT.o (List.mem_of_getElem? HZI.o) hz)
      have HS:=Aa (Vz (p:=fun z=>!Az rows s z i) HZI.o)
      have HZF:=Aa hz
      clear hz
      go_wp2_with fail
      go_region_held3 (fun W'=>Aft wr W')
       ((refine HK.o _ ?_;first | exact HB3.o | exact HD.o))
       ((go_at_call 120;refine HF.o.mono ?_;rintro e W3 ⟨rfl,hb3⟩;have HB3:=Aa (Ac HD.o hb3);clear hb3))
      go_wp2_with fail
      exact ⟨⟨j+1,by omega,by go_num,by rw [HS.o,HA2.o,HZF.o];rfl,Ac HBW.o HB3.o⟩,by simp [intOf];omega⟩
    ·obtain rfl:j=ks.length:=by omega
     have hA:=HA2.o
     rw [List.take_length] at hA
     have HAA:=Aa (Ug HNO.o (jS hA))
     clear hA
     go_wp2_with fail
     exact ⟨⟨i+1,by omega,by go_num,HAA.o,HB2.o⟩,by simp [intOf];omega⟩
  ·obtain rfl:i=rows.length:=by omega
   have HR:Hid (Hh rows s ks=none):=HNO.o
   go_wp2_with fail
   go_ret3
   exact ⟨by rw [HR.o];rfl,Ac HB0.o HB.o⟩
end Go.Dk
end
section
namespace Go.Dk
open Go.RowKit Go.Maps Go.MapKept
open Go.Proofs hiding intOf
theorem Ua {w w':World} {base n:Nat} {e:TypeId} {size:Nat} {v:Value} {xs:List Value} (h:w.ownsRow base e size v n xs) (hb:Below w.heap.size w w'):w'.ownsRow base e size v n xs:=by
 refine ⟨h.1,?_⟩
 rcases h.2 with hn' | ⟨g,cap,cur,rfl,hbg,hg,rest⟩
 ·exact .inl hn'
 ·exact .inr ⟨g,cap,cur,rfl,hbg,(hb.block g (lt_of_block hg)).trans hg,rest⟩
theorem bB {w:World} {base base' n:Nat} {e:TypeId} {size:Nat} {v:Value} {xs:List Value} (h:w.ownsRow base e size v n xs) (hb:base'≤base):w.ownsRow base' e size v n xs:=by
 refine ⟨h.1,?_⟩
 rcases h.2 with hn' | ⟨g,cap,cur,rfl,hbg,rest⟩
 ·exact .inl hn'
 ·exact .inr ⟨g,cap,cur,rfl,Nat.le_trans hb hbg,rest⟩
theorem Zx (zs:List Int) (x:Int):ints zs++[.int .i64 x]=ints (zs++[x]):=by simp [ints]
def Ig (m j:Nat):List Int:=((List.range j).filter fun i=>m.testBit i).map fun i:Nat=>(i:Int)
theorem oH {m j:Nat} (h:m.testBit j=true):Ig m (j+1)=Ig m j++[(j:Int)]:=by
 unfold Ig;rw [List.range_succ,List.filter_append,List.map_append];simp [h]
theorem tR {m j:Nat} (h:m.testBit j=false):Ig m (j+1)=Ig m j:=by
 unfold Ig;rw [List.range_succ,List.filter_append,List.map_append];simp [h]
theorem aS (m j:Nat):(Ig m j).length≤j:=by
 unfold Ig
 rw [List.length_map]
 exact Nat.le_trans (List.length_filter_le _ _) (by simp)
theorem qY {m j:Nat} {z:Int} (h:z ∈ Ig m j):∃ i:Nat,z=(i:Int)∧m.testBit i=true:=by
 unfold Ig at h
 obtain ⟨i,hi,rfl⟩:=List.mem_map.1 h
 exact ⟨i,rfl,(List.mem_filter.1 hi).2⟩
def Ut (w:World) (m:Nat) (e:Ending) (w':World):Prop:=
 ∃ v,e = .returned v∧w'.ownsRow w.heap.size 3 1 v (Ig m 1024).length (ints (Ig m 1024))∧Below w.heap.size w w'
theorem Ut.mk {w w':World} {m:Nat} {v:Value} (h:w'.ownsRow (w.heap.size+1) 3 1 v (Ig m 1024).length (ints (Ig m 1024))) (hb:Below w.heap.size w w'):Ut w m (.returned v) w':=
 ⟨v,rfl,bB h (Nat.le_succ _),hb⟩
set_option maxRecDepth 100000 in
set_option maxHeartbeats 2000000 in
theorem fH (w:World) (m:Nat):Calls Tryz.prog 90 #[.agg (Ag m).toArray] w (Ut w m):=by
 have HB0:=Aa (Ab w (.cells (Ag m).toArray 77))
 have HX:=Aa (Ae.new w (Ag m) 77)
 have HS:Hid ((w.alloc (.cells (Ag m).toArray 77)).heap.size=w.heap.size+1):=by simp [Hid]
 go_enter Tryz.func90,Tryz.ntmps90
 go_wp2_with fail
 generalize w.alloc (.cells (Ag m).toArray 77)=W0 at *
 go_loopw [3,4] (fun u i W=>∃ j:Nat,j≤1024∧i = .int .i64 (j:Int)∧W.ownsRow W0.heap.size 3 1 u (Ig m j).length (ints (Ig m j))∧Below W0.heap.size W0 W) (fun _ i _=>1024 - (intOf i).toNat)
 case atStart=>exact ⟨0,Nat.zero_le _,rfl,by simpa [Ig,ints] using World.ownsRow_nil _ _ _ _,Below.refl _ _⟩
 case round=>
  obtain ⟨j,hj,rfl,hown,hb⟩:=hrel
  have HO:=Aa hown;have HB:=Aa hb
  obtain ⟨oa,oc,hoo⟩:=Ba hown
  subst hoo
  have HLJ:Hid ((Ig m j).length≤j):=aS m j
  clear hown hb
  by_cases hlt:j<1024
  ·have hji:(j:Int)<1024:=by omega
   have hP:Ed m j=m.testBit j:=by unfold Ed;simp;omega
   have HF:=Aa (fun W=>hP▸Dj W m (j:Int))
   clear hP
   cases hbit:m.testBit j with
   | true=>
    rw [hbit] at HF
    have HT:=Aa (oH hbit)
    clear hbit
    generalize hL:Ig m j=l at *
    have HLT:=Aa hlt
    go_wp2_with (first
     | (refine Bv (.tmp 1) rfl rfl rfl (HX.o.below HB.o) ?_)
     | (go_at_call 117;refine (HF.o _).mono ?_;rintro e w2 ⟨rfl,hb2⟩;have HO2:=Aa (Ua HO.o hb2);have HB2:=Aa (Ac HB.o hb2);clear hb2)
     | (at_builtin;refine By rfl (.tmp 12) (.tmp 14) 23 rfl W0.heap.size 3 _ 1 8 Tryz.underlying23 Ef rfl (by decide) (by decide) _ l.length (ints l) rfl (Ua HO2.o (Ab _ _)) _ 1 [.int .i64 (j:Int)] rfl (Gs _ _ _) (by simp [Value.oneCell']) (by have:=HLJ.o;have:=HLT.o;omega) (by have:=HB2.o.size;simp;omega) ?_;intro v5 w5 hown5 hgr5 hat5 hnil5;have HO5:=Aa hown5;have HB5:=Aa ((Ac HB2.o (Ab _ _)).grown hgr5 (by have:=HB2.o.size;simp;omega) (fun q hq=>(HO2.o.lt q hq).1));clear hown5 hgr5 hat5 hnil5))
    refine ⟨⟨j+1,by omega,by go_num,?_,HB5.o⟩,by simp [intOf];omega⟩
    have:=HO5.o
    rw [Zx] at this
    rw [HT.o,List.length_append]
    exact this
   | false=>
    rw [hbit] at HF
    have HT:=Aa (tR hbit)
    clear hbit
    go_wp2_with (first
     | (refine Bv (.tmp 1) rfl rfl rfl (HX.o.below HB.o) ?_)
     | (go_at_call 117;refine (HF.o _).mono ?_;rintro e w2 ⟨rfl,hb2⟩;have HO2:=Aa (Ua HO.o hb2);have HB2:=Aa (Ac HB.o hb2);clear hb2))
    refine ⟨⟨j+1,by omega,by go_num,?_,HB2.o⟩,by simp [intOf];omega⟩
    rw [HT.o]
    exact HO2.o
  ·obtain rfl:j=1024:=by omega
   go_wp2_with fail
   go_ret
   exact Ut.mk (HS.o▸HO.o) (Ac HB0.o HB.o)
set_option maxRecDepth 100000 in
set_option maxHeartbeats 2000000 in
theorem cD (k:Nat) (ow:Own) (w:World) (t:Value) (rows:List ND) (h:RTab k ow w t rows) (s:SQ) (wf:Wf rows s) :
  Calls Tryz.prog 78 #[t,.agg (Ad s.left s.goal).toArray] w fun e w'=>e = .returned (.bool true)∧Below w.heap.size w w':=by
 have HB0:=Aa (Ab w (.cells (Ad s.left s.goal).toArray 86))
 have HX:=Aa (Ae.new w (Ad s.left s.goal) 86)
 have HH:Hid (∀ (W:World) (z:Int),Below w.heap.size w W→hasB rows.length z=true→Calls Tryz.prog 9 #[t,.int .i64 z] W fun e w'=>e = .returned (.bool true)∧W=w'):=fun W z hb hz=>hz▸Bz k ow W t rows (h.below hb) z
 have HG:Hid (hasB rows.length (s.goal:Int)=true):=by have:=wf.goal;simp [Hid,hasB];omega
 have HZ:Hid (∀ z ∈ Ig s.left 1024,hasB rows.length z=true):=fun z hz=>by
  obtain ⟨i,rfl,hi⟩:=qY hz
  have:=wf.left i hi
  simp [hasB];omega
 have HLL:Hid ((Ig s.left 1024).length≤1024):=aS _ _
 clear h wf
 go_enter Tryz.func78,Tryz.ntmps78
 go_wp2_with (first
  | (refine Ap (.tmp 7) rfl rfl rfl HX.o ?_)
  | (go_at_call 90;refine (fH _ _).mono ?_;rintro e w1 ⟨v,rfl,hown,hb1⟩;have HB1:=Aa (Ac HB0.o hb1);have HX1:=Aa (HX.o.below hb1);have HO1:=Aa hown;obtain ⟨oa,oc,hoo⟩:=Ba hown;subst hoo;clear hown hb1))
 generalize hL:Ig s.left 1024=l at *
 go_loopw [6] (fun i W=>∃ j:Nat,j≤l.length∧i = .int .i64 (j:Int)∧W=w1) (fun i _=>l.length - (intOf i).toNat)
 case atStart=>exact ⟨0,Nat.zero_le _,rfl,rfl⟩
 case round=>
  obtain ⟨j,hj,rfl,rfl⟩:=hrel
  by_cases hlt:j<l.length
  ·have hji:(j:Int)<(l.length:Int):=by omega
   obtain ⟨b,o,c1,z,he,hc1,hzk⟩:=ints_at (Hv HO1.o) hlt
   cases he
   have HZ1:=Aa (HZ.o z (List.mem_of_getElem? hzk))
   have HLL2:=HLL.o
   clear hzk
   go_wp2_with (go_at_call 9;refine (HH.o _ z HB1.o HZ1.o).mono ?_;rintro e w2 ⟨rfl,rfl⟩)
   exact ⟨⟨j+1,by omega,by go_num,by first | rfl | trivial⟩,by simp [intOf];omega⟩
  ·obtain rfl:j=l.length:=by omega
   have c16:=HX1.o.cell (Bl s.left s.goal)
   go_wp2_with (go_at_call 9;refine (HH.o _ _ HB1.o HG.o).mono ?_;rintro e w2 ⟨rfl,rfl⟩)
   go_ret
   exact ⟨rfl,HB1.o⟩
end Go.Dk
end
section
namespace Go.Dk
open Go.RowKit Go.Maps Go.MapKept
open Go.Proofs hiding intOf
structure GrpF (w W5:World) (m:Nat) (g:Int):Prop where
 bel:Below w.heap.size w W5
 box:∀ {W},Below W5.heap.size W5 W→Ae W w.heap.size (Ad m g) 86
 grp:∀ {W},Below W5.heap.size W5 W→∀ (j:Nat) (l:List Int),Kt[j]? = some l→∃ b,W.cell? ⟨w.heap.size+1+1+1+1+1+1+1,j,none⟩=some (.slice (some ⟨b,0,none⟩) l.length l.length)∧Ae W b (ints l) 120
theorem nM (w:World) (m:Nat) (g:Int):GrpF w ((((((((w.alloc (.cells (Ad m g).toArray 86)).alloc (.cells #[.int .i64 1] 120)).alloc (.cells #[.int .i64 2] 120)).alloc (.cells #[.int .i64 3,.int .i64 4,.int .i64 5,.int .i64 6,.int .i64 7] 120)).alloc (.cells #[.int .i64 8] 120)).alloc (.cells #[.int .i64 9] 120)).alloc (.cells #[.int .i64 10] 120)).alloc (.cells #[.slice (some ⟨w.heap.size+1,0,none⟩) 1 1,.slice (some ⟨w.heap.size+1+1,0,none⟩) 1 1,.slice (some ⟨w.heap.size+1+1+1,0,none⟩) 5 5,.slice (some ⟨w.heap.size+1+1+1+1,0,none⟩) 1 1,.slice (some ⟨w.heap.size+1+1+1+1+1,0,none⟩) 1 1,.slice (some ⟨w.heap.size+1+1+1+1+1+1,0,none⟩) 1 1] 164)) m g:=by
 obtain ⟨A0,h0⟩:∃ A,w.alloc (.cells (Ad m g).toArray 86)=A:=⟨_,rfl⟩
 obtain ⟨A1,h1⟩:∃ A,A0.alloc (.cells #[.int .i64 1] 120)=A:=⟨_,rfl⟩
 obtain ⟨A2,h2⟩:∃ A,A1.alloc (.cells #[.int .i64 2] 120)=A:=⟨_,rfl⟩
 obtain ⟨A3,h3⟩:∃ A,A2.alloc (.cells #[.int .i64 3,.int .i64 4,.int .i64 5,.int .i64 6,.int .i64 7] 120)=A:=⟨_,rfl⟩
 obtain ⟨A4,h4⟩:∃ A,A3.alloc (.cells #[.int .i64 8] 120)=A:=⟨_,rfl⟩
 obtain ⟨A5,h5⟩:∃ A,A4.alloc (.cells #[.int .i64 9] 120)=A:=⟨_,rfl⟩
 obtain ⟨A6,h6⟩:∃ A,A5.alloc (.cells #[.int .i64 10] 120)=A:=⟨_,rfl⟩
 rw [h0,h1,h2,h3,h4,h5,h6]
 have s0:A0.heap.size=w.heap.size+1:=by rw [← h0];simp
 have s1:A1.heap.size=w.heap.size+1+1:=by rw [← h1];simp [s0]
 have s2:A2.heap.size=w.heap.size+1+1+1:=by rw [← h2];simp [s1]
 have s3:A3.heap.size=w.heap.size+1+1+1+1:=by rw [← h3];simp [s2]
 have s4:A4.heap.size=w.heap.size+1+1+1+1+1:=by rw [← h4];simp [s3]
 have s5:A5.heap.size=w.heap.size+1+1+1+1+1+1:=by rw [← h5];simp [s4]
 have s6:A6.heap.size=w.heap.size+1+1+1+1+1+1+1:=by rw [← h6];simp [s5]
 have b0:Ae A0 w.heap.size (Ad m g) 86:=h0▸Ae.new w (Ad m g) 86
 have b1:Ae A1 (w.heap.size+1) (ints [1]) 120:=s0▸h1▸Ae.new A0 [.int .i64 1] 120
 have b2:Ae A2 (w.heap.size+1+1) (ints [2]) 120:=s1▸h2▸Ae.new A1 [.int .i64 2] 120
 have b3:Ae A3 (w.heap.size+1+1+1) (ints [3,4,5,6,7]) 120:=s2▸h3▸Ae.new A2 [.int .i64 3,.int .i64 4,.int .i64 5,.int .i64 6,.int .i64 7] 120
 have b4:Ae A4 (w.heap.size+1+1+1+1) (ints [8]) 120:=s3▸h4▸Ae.new A3 [.int .i64 8] 120
 have b5:Ae A5 (w.heap.size+1+1+1+1+1) (ints [9]) 120:=s4▸h5▸Ae.new A4 [.int .i64 9] 120
 have b6:Ae A6 (w.heap.size+1+1+1+1+1+1) (ints [10]) 120:=s5▸h6▸Ae.new A5 [.int .i64 10] 120
 have c0:Below w.heap.size w A0:=h0▸Ab w _
 have c1:Below A0.heap.size A0 A1:=h1▸Ab A0 _
 have c2:Below A1.heap.size A1 A2:=h2▸Ab A1 _
 have c3:Below A2.heap.size A2 A3:=h3▸Ab A2 _
 have c4:Below A3.heap.size A3 A4:=h4▸Ab A3 _
 have c5:Below A4.heap.size A4 A5:=h5▸Ab A4 _
 have c6:Below A5.heap.size A5 A6:=h6▸Ab A5 _
 have c7:=Ab A6 (.cells #[.slice (some ⟨w.heap.size+1,0,none⟩) 1 1,.slice (some ⟨w.heap.size+1+1,0,none⟩) 1 1,.slice (some ⟨w.heap.size+1+1+1,0,none⟩) 5 5,.slice (some ⟨w.heap.size+1+1+1+1,0,none⟩) 1 1,.slice (some ⟨w.heap.size+1+1+1+1+1,0,none⟩) 1 1,.slice (some ⟨w.heap.size+1+1+1+1+1+1,0,none⟩) 1 1] 164)
 have b7:=s6▸Ae.new A6 [.slice (some ⟨w.heap.size+1,0,none⟩) 1 1,.slice (some ⟨w.heap.size+1+1,0,none⟩) 1 1,.slice (some ⟨w.heap.size+1+1+1,0,none⟩) 5 5,.slice (some ⟨w.heap.size+1+1+1+1,0,none⟩) 1 1,.slice (some ⟨w.heap.size+1+1+1+1+1,0,none⟩) 1 1,.slice (some ⟨w.heap.size+1+1+1+1+1+1,0,none⟩) 1 1] 164
 refine ⟨Ac (Ac (Ac (Ac (Ac (Ac (Ac c0 c1) c2) c3) c4) c5) c6) c7,fun hb=>(((((((b0.below c1).below c2).below c3).below c4).below c5).below c6).below c7).below hb,fun hb j l hl=>?_⟩
 have d7:=b7.below hb
 match j,hl with
 | 0,hl=>cases hl;exact ⟨_,d7.cell (i:=0) rfl,((((((b1.below c2).below c3).below c4).below c5).below c6).below c7).below hb⟩
 | 1,hl=>cases hl;exact ⟨_,d7.cell (i:=1) rfl,(((((b2.below c3).below c4).below c5).below c6).below c7).below hb⟩
 | 2,hl=>cases hl;exact ⟨_,d7.cell (i:=2) rfl,((((b3.below c4).below c5).below c6).below c7).below hb⟩
 | 3,hl=>cases hl;exact ⟨_,d7.cell (i:=3) rfl,(((b4.below c5).below c6).below c7).below hb⟩
 | 4,hl=>cases hl;exact ⟨_,d7.cell (i:=4) rfl,((b5.below c6).below c7).below hb⟩
 | 5,hl=>cases hl;exact ⟨_,d7.cell (i:=5) rfl,(b6.below c7).below hb⟩
 | n+6,hl=>cases hl
theorem yT {W:World} {b n:Nat} {zs:List Int} {T:TypeId} (h:Ae W b (ints zs) T) (hn:zs.length=n):Rd W (.slice (some ⟨b,0,none⟩) n n) n 1 (ints zs):=by
 refine ⟨⟨_,_,rfl,fun e=>by (cases e),fun ad e=>?_⟩,by simp [ints,hn]⟩
 cases e
 exact ⟨fun _=>rfl,fun j u hu=>by simpa using h.cell hu⟩
theorem bU {l:List Int} {j:Nat} (h:Kt[j]? = some l):(∀ z ∈ l,1≤z∧z≤13)∧l.length<2 ^ 62:=by
 have:∀ l ∈ Kt,(∀ z ∈ l,1≤z∧z≤13)∧l.length<2 ^ 62:=by decide
 exact this l (List.mem_of_getElem? h)
theorem cX {A B:Type} {f:A→Option B} {l:List A} {j:Nat} {a:A} (h:(l.take j).findSome? f=none) (ha:l[j]? = some a) (hf:f a=none):(l.take (j+1)).findSome? f=none:=by
 rw [List.take_add_one,ha,List.findSome?_append,h]
 simp [hf]
theorem aC {A B:Type} {f:A→Option B} {l:List A} {j:Nat} {a:A} {b:B} (h:(l.take j).findSome? f=none) (ha:l[j]? = some a) (hf:f a=some b):l.findSome? f=some b:=by
 have hj:=(List.getElem?_eq_some_iff.1 ha).1
 have e:l=l.take j++a::l.drop (j+1):=by
  have:=(List.getElem?_eq_some_iff.1 ha).2
  rw [← this,← List.drop_eq_getElem_cons hj,List.take_append_drop]
 rw [e,List.findSome?_append,h]
 simp [hf]
attribute [local go_sem ↓] Dv
attribute [local go_sem] Du
set_option maxRecDepth 100000 in
set_option maxHeartbeats 2000000 in
theorem Lo:Vj:=by
 intro F w t rows s hF wf
 rw [← qW wf.goal]
 have H:=Aa hF
 have HG:=Aa (nM w s.left (s.goal:Int))
 have HFI:Hid (∀ (W:World) (b:Nat) (l:List Int) (o:Option (Int × Nat)),Below w.heap.size w W→(∀ z ∈ l,1≤z∧z≤13)∧l.length<2 ^ 62→Ae W b (ints l) 120→Hh rows s l=o→Calls Tryz.prog 118 #[t,.agg (Ad s.left s.goal).toArray,.slice (some ⟨b,0,none⟩) l.length l.length] W fun e w'=>e = .returned (dD o)∧Below W.heap.size W w'):=
  fun W b l o hb hl hx e=>e▸cL 0 _ W t rows ((hF.below hb).col 0) s _ l hl.1 (yT hx rfl) hl.2
 clear hF wf
 go_enter Tryz.func92,Tryz.ntmps92
 go_wp2_with fail
 generalize (((((((w.alloc (.cells (Ad s.left s.goal).toArray 86)).alloc (.cells #[.int .i64 1] 120)).alloc (.cells #[.int .i64 2] 120)).alloc (.cells #[.int .i64 3,.int .i64 4,.int .i64 5,.int .i64 6,.int .i64 7] 120)).alloc (.cells #[.int .i64 8] 120)).alloc (.cells #[.int .i64 9] 120)).alloc (.cells #[.int .i64 10] 120)).alloc (.cells #[.slice (some ⟨w.heap.size+1,0,none⟩) 1 1,.slice (some ⟨w.heap.size+1+1,0,none⟩) 1 1,.slice (some ⟨w.heap.size+1+1+1,0,none⟩) 5 5,.slice (some ⟨w.heap.size+1+1+1+1,0,none⟩) 1 1,.slice (some ⟨w.heap.size+1+1+1+1+1,0,none⟩) 1 1,.slice (some ⟨w.heap.size+1+1+1+1+1+1,0,none⟩) 1 1] 164)=W5 at *
 go_loopw [7] (fun u W=>∃ j:Nat,j≤6∧u = .int .i64 (j:Int)∧(Kt.take j).findSome? (Hh rows s)=none∧Below W5.heap.size W5 W) (fun u _=>6 - (intOf u).toNat)
 case atStart=>exact ⟨0,Nat.zero_le _,rfl,rfl,Below.refl _ _⟩
 case round=>
  obtain ⟨j,hj,rfl,hno,hb⟩:=hrel
  have HNO:=Aa hno;have HB:=Aa hb
  clear hno
  by_cases hlt:j<6
  ·obtain ⟨l,hl⟩:∃ l,Kt[j]? = some l:=⟨_,List.getElem?_eq_getElem (show j<Kt.length from hlt)⟩
   obtain ⟨b,hcb,hxb⟩:=HG.o.grp hb j l hl
   have HXB:=Aa hxb;have HL:=Aa hl
   have HXS:=Aa (HG.o.box hb)
   have hji:(j:Int)<6:=by omega
   have hcl:∀ W',Aft wr W'→W'.cell? ⟨w.heap.size+1+1+1+1+1+1+1,j,none⟩=some (.slice (some ⟨b,0,none⟩) l.length l.length):=fun W' hb=>Ao hb hcb
   have hld:∀ W',Aft wr W'→Bf 86 W' (.pointer (some ⟨w.heap.size,0,none⟩)):=fun W' hb=>(An (HXS.o.below hb).loads).1
   have hlv:∀ W',Aft wr W'→Dq 86 W' (.pointer (some ⟨w.heap.size,0,none⟩))=_:=fun W' hb=>(An (HXS.o.below hb).loads).2
   have HK:Hid (∀ W',Below wr.heap.size wr W'→Aft wr W'):=fun W' hb=>hb
   have HD:=Aa (below_drewN wr 1)
   clear hcb hxb hl hb
   cases hf:Hh rows s l with
   | some x=>
    have HF:=Aa (HFI.o _ b l (some x) (Ac HG.o.bel (Ac HB.o HD.o)) (bU HL.o) (HXB.o.below HD.o) hf)
    have HR:Hid (Ru rows s=x):=by unfold Hid Ru;rw [aC HNO.o HL.o hf];rfl
    unfold dD at HF
    clear hf
    go_wp2_with fail
    go_region_held3 (fun W'=>Aft wr W')
     ((refine HK.o _ ?_;first | exact HB3.o | exact HD.o))
     ((go_at_call 118;refine HF.o.mono ?_;rintro e W3 ⟨rfl,hb3⟩;have HB3:=Aa (Ac HD.o hb3);clear hb3))
    go_wp2_with fail
    go_ret2
    exact ⟨by rw [HR.o];rfl,Ac HG.o.bel (Ac HB.o HB3.o)⟩
   | none=>
    have HF:=Aa (HFI.o _ b l none (Ac HG.o.bel (Ac HB.o HD.o)) (bU HL.o) (HXB.o.below HD.o) hf)
    have HN:=Aa (cX HNO.o HL.o hf)
    unfold dD at HF
    clear hf
    go_wp2_with fail
    go_region_held3 (fun W'=>Aft wr W')
     ((refine HK.o _ ?_;first | exact HB3.o | exact HD.o))
     ((go_at_call 118;refine HF.o.mono ?_;rintro e W3 ⟨rfl,hb3⟩;have HB3:=Aa (Ac HD.o hb3);clear hb3))
    go_wp2_with fail
    exact ⟨⟨j+1,by omega,by go_num,HN.o,Ac HB.o HB3.o⟩,by simp [intOf];omega⟩
  ·obtain rfl:j=6:=by omega
   have HR:Hid (Ru rows s=(14,0)):=by unfold Hid Ru;rw [show Kt=Kt.take 6 from rfl,HNO.o];rfl
   go_wp2_with fail
   go_ret2
   exact ⟨by rw [HR.o];rfl,Ac HG.o.bel HB.o⟩
end Go.Dk
end
