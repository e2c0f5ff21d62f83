/- Parts of the proof: Kt, Ku. -/
import Derived.Test.YthhokkfcdbcllaaGreatDoorR01
import Derived.Test.YthhokkfcdbcllaaGreatDoorR02
import Derived.Test.YthhokkfcdbcllaaGreatDoorR03
import Derived.Test.YthhokkfcdbcllaaGreatDoorR04
section
namespace Go.Dk
open Go.RowKit Go.Maps Go.MapKept
open Go.Proofs hiding intOf
def Kz:Option (Int × Nat)→(Int × Nat) × Bool
 | some x=>(x,true)
 | none=>((0,0),false)
theorem Zu (o:Option (Int × Nat)):Rh o = .tuple #[.agg #[.int .i64 (Kz o).1.1,.int .i64 ((Kz o).1.2:Int)],.bool (Kz o).2]:=by cases o<;>rfl
def Ul (rows:List ND) (s:SQ):Nat→(Int × Nat) × Bool
 | 0=>Kz (Bt rows s Un)
 | 1=>((2,s.goal),s.left.testBit s.goal)
 | 2=>Kz (Bt rows s Ly)
 | 3=>((8,s.goal),(rowAt rows s.goal).kind == 5)
 | 4=>((9,s.goal),(rowAt rows s.goal).kind == 3)
 | 5=>Kz (Bt rows s cG)
 | _=>((14,0),true)
theorem Wm {o:Option (Int × Nat)} (h:(Kz o).2=false):o=none:=by
 cases o with
 | none=>rfl
 | some x=>cases h
theorem Td {o:Option (Int × Nat)} (h:(Kz o).2=true):o=some (Kz o).1:=by
 cases o with
 | none=>cases h
 | some x=>rfl
theorem Ko (rows:List ND) (s:SQ) {j:Nat} (hj:j≤6) (hn:∀ i,i<j→(Ul rows s i).2=false) (hy:(Ul rows s j).2=true):Ak rows s=(Ul rows s j).1:=by
 have e:Ak rows s=match Bt rows s Un with
  | some x=>x
  | none=>
   if s.left.testBit s.goal then (2,s.goal) else
   match Bt rows s Ly with
   | some x=>x
   | none=>
    if (rowAt rows s.goal).kind=5 then (8,s.goal) else
    if (rowAt rows s.goal).kind=3 then (9,s.goal) else
    match Bt rows s cG with
    | some x=>x
    | none=>(14,0):=rfl
 rw [e]
 by_cases h0:j=0
 ·subst h0
  rw [Td hy];rfl
 rw [Wm (hn 0 (by omega))]
 by_cases h1:j=1
 ·subst h1
  have hy1:s.left.testBit s.goal=true:=hy
  simp only
  rw [if_pos hy1];rfl
 have n1:s.left.testBit s.goal=false:=hn 1 (by omega)
 simp only
 rw [if_neg (by rw [n1];simp)]
 by_cases h2:j=2
 ·subst h2
  rw [Td hy];rfl
 rw [Wm (hn 2 (by omega))]
 by_cases h3:j=3
 ·subst h3
  have:(rowAt rows s.goal).kind=5:=by simpa [Ul] using hy
  simp only
  rw [if_pos this];rfl
 have n3:¬ (rowAt rows s.goal).kind=5:=by simpa [Ul] using hn 3 (by omega)
 simp only
 rw [if_neg n3]
 by_cases h4:j=4
 ·subst h4
  have:(rowAt rows s.goal).kind=3:=by simpa [Ul] using hy
  rw [if_pos this];rfl
 have n4:¬ (rowAt rows s.goal).kind=3:=by simpa [Ul] using hn 4 (by omega)
 rw [if_neg n4]
 by_cases h5:j=5
 ·subst h5
  rw [Td hy];rfl
 rw [Wm (hn 5 (by omega))]
 obtain rfl:j=6:=by omega
 rfl
def Py (w:World):List Value:=[.func (.func 96) #[] #[.pointer (some ⟨w.heap.size,0,none⟩),.pointer (some ⟨w.heap.size+1,0,none⟩)],.func (.func 99) #[] #[.pointer (some ⟨w.heap.size+1,0,none⟩)],.func (.func 101) #[] #[.pointer (some ⟨w.heap.size,0,none⟩),.pointer (some ⟨w.heap.size+1,0,none⟩)],.func (.func 103) #[] #[.pointer (some ⟨w.heap.size+1,0,none⟩),.pointer (some ⟨w.heap.size,0,none⟩)],.func (.func 105) #[] #[.pointer (some ⟨w.heap.size+1,0,none⟩),.pointer (some ⟨w.heap.size,0,none⟩)],.func (.func 106) #[] #[.pointer (some ⟨w.heap.size,0,none⟩),.pointer (some ⟨w.heap.size+1,0,none⟩)]]
structure ApplyF (w W4:World) (k:Nat) (ow:Own) (pb:Nat) (rows:List ND) (s:SQ):Prop where
 bel:Below w.heap.size w W4
 tr:TryW k ow W4 pb w.heap.size (w.heap.size+1) rows s
 fo:Ae W4 (w.heap.size+1+1) [.int .i64 0,.int .i64 0] 162
 fs:Ae W4 (w.heap.size+1+1+1) (Py w) 181
 sz:W4.heap.size=w.heap.size+4
theorem eM (w:World) (k:Nat) (ow:Own) (pb:Nat) (rows:List ND) (s:SQ) (h:Tab k ow w (.pointer (some ⟨pb,0,none⟩)) rows) (hT:TabG w) (hs:Wf rows s) :
  ApplyF w ((((w.alloc (.cells #[.pointer (some ⟨pb,0,none⟩)] 24)).alloc (.cells (Ad s.left s.goal).toArray 86)).alloc (.cells #[.int .i64 0,.int .i64 0] 162)).alloc (.cells (Py w).toArray 181)) k ow pb rows s:=by
 have hb:Below w.heap.size w ((((w.alloc (.cells #[.pointer (some ⟨pb,0,none⟩)] 24)).alloc (.cells (Ad s.left s.goal).toArray 86)).alloc (.cells #[.int .i64 0,.int .i64 0] 162)).alloc (.cells (Py w).toArray 181)):=
  Ac (Ac (Ac (Ab _ _) (Ab _ _)) (Ab _ _)) (Ab _ _)
 refine ⟨hb,⟨h.below hb,hT.below hb,hs,?_,?_⟩,?_,?_,by simp⟩
 ·have h1:=(((Ae.new w [.pointer (some ⟨pb,0,none⟩)] 24).below (Ab _ (.cells (Ad s.left s.goal).toArray 86))).below (Ab _ (.cells #[.int .i64 0,.int .i64 0] 162))).below (Ab _ (.cells (Py w).toArray 181))
  exact h1.cell (i:=0) rfl
 ·have h1:=((Ae.new (w.alloc (.cells #[.pointer (some ⟨pb,0,none⟩)] 24)) (Ad s.left s.goal) 86).below (Ab _ (.cells #[.int .i64 0,.int .i64 0] 162))).below (Ab _ (.cells (Py w).toArray 181))
  simpa using h1
 ·have h1:=(Ae.new ((w.alloc (.cells #[.pointer (some ⟨pb,0,none⟩)] 24)).alloc (.cells (Ad s.left s.goal).toArray 86)) [.int .i64 0,.int .i64 0] 162).below (Ab _ (.cells (Py w).toArray 181))
  simpa using h1
 ·have h1:=Ae.new (((w.alloc (.cells #[.pointer (some ⟨pb,0,none⟩)] 24)).alloc (.cells (Ad s.left s.goal).toArray 86)).alloc (.cells #[.int .i64 0,.int .i64 0] 162)) (Py w) 181
  simpa using h1
set_option maxRecDepth 100000 in
set_option maxHeartbeats 4000000 in
theorem Wb (k:Nat) (ow:Own) (w:World) (t:Value) (rows:List ND) (h:Tab k ow w t rows) (hT:TabG w) (s:SQ) (hs:Wf rows s) :
  Calls Tryz.prog 84 #[t,.agg (Ad s.left s.goal).toArray] w fun e w'=>e = .returned (.agg #[.int .i64 (Ak rows s).1,.int .i64 ((Ak rows s).2:Int)])∧Below w.heap.size w w':=by
 obtain ⟨pb,rfl⟩:∃ pb,t = .pointer (some ⟨pb,0,none⟩):=by obtain ⟨pb,_,_,e,_⟩:=h;exact ⟨pb,e⟩
 have HF:=Aa (eM w k ow pb rows s h hT hs)
 clear h hT hs
 go_enter Tryz.func84,Tryz.ntmps84
 go_wp2_with fail
 have e0:(.cells #[.func (.func 96) #[] #[.pointer (some ⟨w.heap.size,0,none⟩),.pointer (some ⟨w.heap.size+1,0,none⟩)],.func (.func 99) #[] #[.pointer (some ⟨w.heap.size+1,0,none⟩)],.func (.func 101) #[] #[.pointer (some ⟨w.heap.size,0,none⟩),.pointer (some ⟨w.heap.size+1,0,none⟩)],.func (.func 103) #[] #[.pointer (some ⟨w.heap.size+1,0,none⟩),.pointer (some ⟨w.heap.size,0,none⟩)],.func (.func 105) #[] #[.pointer (some ⟨w.heap.size+1,0,none⟩),.pointer (some ⟨w.heap.size,0,none⟩)],.func (.func 106) #[] #[.pointer (some ⟨w.heap.size,0,none⟩),.pointer (some ⟨w.heap.size+1,0,none⟩)]] 181:Obj) = .cells (Py w).toArray 181:=rfl
 rw [e0] at *
 clear e0
 generalize ((((w.alloc (.cells #[.pointer (some ⟨pb,0,none⟩)] 24)).alloc (.cells (Ad s.left s.goal).toArray 86)).alloc (.cells #[.int .i64 0,.int .i64 0] 162)).alloc (.cells (Py w).toArray 181))=W4 at *
 go_loopw [19] (fun i W=>∃ j:Nat,j≤6∧i = .int .i64 (j:Int)∧(∀ i,i<j→(Ul rows s i).2=false)∧Below W4.heap.size W4 W) (fun i _=>6 - (intOf i).toNat)
 case atStart=>exact ⟨0,by omega,rfl,fun i hi=>by omega,Below.refl _ _⟩
 case round=>
  obtain ⟨j,hj,rfl,hno,hI⟩:=hrel
  have HN:=Aa hno
  have HI:=Aa hI
  clear hno hI
  obtain h0 | h0 | h0 | h0 | h0 | h0 | h0:j=0∨j=1∨j=2∨j=3∨j=4∨j=5∨j=6:=by omega
  ·subst h0
   have hc:=(HF.o.fs.below HI.o).cell (i:=0) (v:=.func (.func 96) #[] #[.pointer (some ⟨w.heap.size,0,none⟩),.pointer (some ⟨w.heap.size+1,0,none⟩)]) rfl
   obtain ⟨a,b,c,hv⟩:∃ a b c,Ul rows s 0=((a,b),c):=⟨_,_,_,rfl⟩
   have HV:=Aa hv
   have HT1:=rO k ow _ pb _ _ rows s (HF.o.tr.below HI.o)
   have hv':Kz (Bt rows s Un)=((a,b),c):=hv
   rw [Zu,hv'] at HT1
   simp only at HT1
   clear hv'
   have HJ:=Aa HT1
   clear HT1 hv
   cases c with
   | false=>
    as_aux_lemma=>
    go_wp2_with (first
     | (go_at_call 96;refine HJ.o.mono ?_;rintro e W1 ⟨rfl,hb1⟩;have HB1:=Aa (HI.o.trans (hb1.mono HI.o.size));clear hb1 HJ)
     | (refine Aj Cc (.tmp 8) (.tmp 26) rfl rfl rfl (ys:=[.int .i64 a,.int .i64 (b:Int)]) rfl (Ae.new W1 [.int .i64 0,.int .i64 0] 162) rfl rfl (by simp [Value.oneCell']) ?_;intro W2 hb2 ho2;have HK2:=Aa hb2;have HB2:=Aa (HB1.o.trans (((Ab W1 _).trans (ho2.below (Nat.le_refl _))).mono HB1.o.size));clear hb2 ho2)
     | (refine Eo Cc (.tmp 8) rfl rfl rfl HK2.o rfl ?_)
     | (refine Aj Cc (.tmp 4) (.tmp 29) rfl rfl rfl (ys:=[.int .i64 a,.int .i64 (b:Int)]) rfl (HF.o.fo.below HB2.o) rfl rfl (by simp [Value.oneCell']) ?_;intro W7 hb7 ho7;have K7:=Aa hb7;have K8:=Aa ((HF.o.bel.trans (HB2.o.mono HF.o.bel.size)).trans (ho7.below (by omega)));clear hb7 ho7))
    refine ⟨⟨1,by omega,rfl,fun i hi=>?_,HB2.o⟩,by simp [intOf]⟩
    by_cases hi2:i=0
    ·rw [hi2,HV.o]
    ·exact HN.o i (by omega)
   | true=>
    as_aux_lemma=>
    go_wp2_with (first
     | (go_at_call 96;refine HJ.o.mono ?_;rintro e W1 ⟨rfl,hb1⟩;have HB1:=Aa (HI.o.trans (hb1.mono HI.o.size));clear hb1 HJ)
     | (refine Aj Cc (.tmp 8) (.tmp 26) rfl rfl rfl (ys:=[.int .i64 a,.int .i64 (b:Int)]) rfl (Ae.new W1 [.int .i64 0,.int .i64 0] 162) rfl rfl (by simp [Value.oneCell']) ?_;intro W2 hb2 ho2;have HK2:=Aa hb2;have HB2:=Aa (HB1.o.trans (((Ab W1 _).trans (ho2.below (Nat.le_refl _))).mono HB1.o.size));clear hb2 ho2)
     | (refine Eo Cc (.tmp 8) rfl rfl rfl HK2.o rfl ?_)
     | (refine Aj Cc (.tmp 4) (.tmp 29) rfl rfl rfl (ys:=[.int .i64 a,.int .i64 (b:Int)]) rfl (HF.o.fo.below HB2.o) rfl rfl (by simp [Value.oneCell']) ?_;intro W7 hb7 ho7;have K7:=Aa hb7;have K8:=Aa ((HF.o.bel.trans (HB2.o.mono HF.o.bel.size)).trans (ho7.below (by omega)));clear hb7 ho7))
    exact bodyPost_ret (Ha Cc rfl rfl K7.o rfl) rfl ⟨by rw [Ko rows s (j:=0) (by omega) HN.o (by rw [HV.o]),HV.o],K8.o⟩
  ·subst h0
   have hc:=(HF.o.fs.below HI.o).cell (i:=1) (v:=.func (.func 99) #[] #[.pointer (some ⟨w.heap.size+1,0,none⟩)]) rfl
   obtain ⟨a,b,c,hv⟩:∃ a b c,Ul rows s 1=((a,b),c):=⟨_,_,_,rfl⟩
   have HV:=Aa hv
   have HT1:=rA k ow _ pb _ _ rows s (HF.o.tr.below HI.o)
   have hv1:(((2,s.goal),s.left.testBit s.goal):(Int × Nat) × Bool)=((a,b),c):=hv
   obtain ⟨ha,hc2⟩:=Prod.mk.inj hv1
   obtain ⟨ha1,ha2⟩:=Prod.mk.inj ha
   rw [hc2,ha1,ha2] at HT1
   clear hv1 ha ha1 ha2 hc2
   have HJ:=Aa HT1
   clear HT1 hv
   cases c with
   | false=>
    as_aux_lemma=>
    go_wp2_with (first
     | (go_at_call 99;refine HJ.o.mono ?_;rintro e W1 ⟨rfl,hb1⟩;have HB1:=Aa (HI.o.trans (hb1.mono HI.o.size));clear hb1 HJ)
     | (refine Aj Cc (.tmp 8) (.tmp 26) rfl rfl rfl (ys:=[.int .i64 a,.int .i64 (b:Int)]) rfl (Ae.new W1 [.int .i64 0,.int .i64 0] 162) rfl rfl (by simp [Value.oneCell']) ?_;intro W2 hb2 ho2;have HK2:=Aa hb2;have HB2:=Aa (HB1.o.trans (((Ab W1 _).trans (ho2.below (Nat.le_refl _))).mono HB1.o.size));clear hb2 ho2)
     | (refine Eo Cc (.tmp 8) rfl rfl rfl HK2.o rfl ?_)
     | (refine Aj Cc (.tmp 4) (.tmp 29) rfl rfl rfl (ys:=[.int .i64 a,.int .i64 (b:Int)]) rfl (HF.o.fo.below HB2.o) rfl rfl (by simp [Value.oneCell']) ?_;intro W7 hb7 ho7;have K7:=Aa hb7;have K8:=Aa ((HF.o.bel.trans (HB2.o.mono HF.o.bel.size)).trans (ho7.below (by omega)));clear hb7 ho7))
    refine ⟨⟨2,by omega,rfl,fun i hi=>?_,HB2.o⟩,by simp [intOf]⟩
    by_cases hi2:i=1
    ·rw [hi2,HV.o]
    ·exact HN.o i (by omega)
   | true=>
    as_aux_lemma=>
    go_wp2_with (first
     | (go_at_call 99;refine HJ.o.mono ?_;rintro e W1 ⟨rfl,hb1⟩;have HB1:=Aa (HI.o.trans (hb1.mono HI.o.size));clear hb1 HJ)
     | (refine Aj Cc (.tmp 8) (.tmp 26) rfl rfl rfl (ys:=[.int .i64 a,.int .i64 (b:Int)]) rfl (Ae.new W1 [.int .i64 0,.int .i64 0] 162) rfl rfl (by simp [Value.oneCell']) ?_;intro W2 hb2 ho2;have HK2:=Aa hb2;have HB2:=Aa (HB1.o.trans (((Ab W1 _).trans (ho2.below (Nat.le_refl _))).mono HB1.o.size));clear hb2 ho2)
     | (refine Eo Cc (.tmp 8) rfl rfl rfl HK2.o rfl ?_)
     | (refine Aj Cc (.tmp 4) (.tmp 29) rfl rfl rfl (ys:=[.int .i64 a,.int .i64 (b:Int)]) rfl (HF.o.fo.below HB2.o) rfl rfl (by simp [Value.oneCell']) ?_;intro W7 hb7 ho7;have K7:=Aa hb7;have K8:=Aa ((HF.o.bel.trans (HB2.o.mono HF.o.bel.size)).trans (ho7.below (by omega)));clear hb7 ho7))
    exact bodyPost_ret (Ha Cc rfl rfl K7.o rfl) rfl ⟨by rw [Ko rows s (j:=1) (by omega) HN.o (by rw [HV.o]),HV.o],K8.o⟩
  ·subst h0
   have hc:=(HF.o.fs.below HI.o).cell (i:=2) (v:=.func (.func 101) #[] #[.pointer (some ⟨w.heap.size,0,none⟩),.pointer (some ⟨w.heap.size+1,0,none⟩)]) rfl
   obtain ⟨a,b,c,hv⟩:∃ a b c,Ul rows s 2=((a,b),c):=⟨_,_,_,rfl⟩
   have HV:=Aa hv
   have HT1:=tK k ow _ pb _ _ rows s (HF.o.tr.below HI.o)
   have hv':Kz (Bt rows s Ly)=((a,b),c):=hv
   rw [Zu,hv'] at HT1
   simp only at HT1
   clear hv'
   have HJ:=Aa HT1
   clear HT1 hv
   cases c with
   | false=>
    as_aux_lemma=>
    go_wp2_with (first
     | (go_at_call 101;refine HJ.o.mono ?_;rintro e W1 ⟨rfl,hb1⟩;have HB1:=Aa (HI.o.trans (hb1.mono HI.o.size));clear hb1 HJ)
     | (refine Aj Cc (.tmp 8) (.tmp 26) rfl rfl rfl (ys:=[.int .i64 a,.int .i64 (b:Int)]) rfl (Ae.new W1 [.int .i64 0,.int .i64 0] 162) rfl rfl (by simp [Value.oneCell']) ?_;intro W2 hb2 ho2;have HK2:=Aa hb2;have HB2:=Aa (HB1.o.trans (((Ab W1 _).trans (ho2.below (Nat.le_refl _))).mono HB1.o.size));clear hb2 ho2)
     | (refine Eo Cc (.tmp 8) rfl rfl rfl HK2.o rfl ?_)
     | (refine Aj Cc (.tmp 4) (.tmp 29) rfl rfl rfl (ys:=[.int .i64 a,.int .i64 (b:Int)]) rfl (HF.o.fo.below HB2.o) rfl rfl (by simp [Value.oneCell']) ?_;intro W7 hb7 ho7;have K7:=Aa hb7;have K8:=Aa ((HF.o.bel.trans (HB2.o.mono HF.o.bel.size)).trans (ho7.below (by omega)));clear hb7 ho7))
    refine ⟨⟨3,by omega,rfl,fun i hi=>?_,HB2.o⟩,by simp [intOf]⟩
    by_cases hi2:i=2
    ·rw [hi2,HV.o]
    ·exact HN.o i (by omega)
   | true=>
    as_aux_lemma=>
    go_wp2_with (first
     | (go_at_call 101;refine HJ.o.mono ?_;rintro e W1 ⟨rfl,hb1⟩;have HB1:=Aa (HI.o.trans (hb1.mono HI.o.size));clear hb1 HJ)
     | (refine Aj Cc (.tmp 8) (.tmp 26) rfl rfl rfl (ys:=[.int .i64 a,.int .i64 (b:Int)]) rfl (Ae.new W1 [.int .i64 0,.int .i64 0] 162) rfl rfl (by simp [Value.oneCell']) ?_;intro W2 hb2 ho2;have HK2:=Aa hb2;have HB2:=Aa (HB1.o.trans (((Ab W1 _).trans (ho2.below (Nat.le_refl _))).mono HB1.o.size));clear hb2 ho2)
     | (refine Eo Cc (.tmp 8) rfl rfl rfl HK2.o rfl ?_)
     | (refine Aj Cc (.tmp 4) (.tmp 29) rfl rfl rfl (ys:=[.int .i64 a,.int .i64 (b:Int)]) rfl (HF.o.fo.below HB2.o) rfl rfl (by simp [Value.oneCell']) ?_;intro W7 hb7 ho7;have K7:=Aa hb7;have K8:=Aa ((HF.o.bel.trans (HB2.o.mono HF.o.bel.size)).trans (ho7.below (by omega)));clear hb7 ho7))
    exact bodyPost_ret (Ha Cc rfl rfl K7.o rfl) rfl ⟨by rw [Ko rows s (j:=2) (by omega) HN.o (by rw [HV.o]),HV.o],K8.o⟩
  ·subst h0
   have hc:=(HF.o.fs.below HI.o).cell (i:=3) (v:=.func (.func 103) #[] #[.pointer (some ⟨w.heap.size+1,0,none⟩),.pointer (some ⟨w.heap.size,0,none⟩)]) rfl
   obtain ⟨a,b,c,hv⟩:∃ a b c,Ul rows s 3=((a,b),c):=⟨_,_,_,rfl⟩
   have HV:=Aa hv
   have HT1:=uJ k ow _ pb _ _ rows s (HF.o.tr.below HI.o)
   have hv1:(((8,s.goal),(rowAt rows s.goal).kind == 5):(Int × Nat) × Bool)=((a,b),c):=hv
   obtain ⟨ha,hc2⟩:=Prod.mk.inj hv1
   obtain ⟨ha1,ha2⟩:=Prod.mk.inj ha
   rw [hc2,ha1,ha2] at HT1
   clear hv1 ha ha1 ha2 hc2
   have HJ:=Aa HT1
   clear HT1 hv
   cases c with
   | false=>
    as_aux_lemma=>
    go_wp2_with (first
     | (go_at_call 103;refine HJ.o.mono ?_;rintro e W1 ⟨rfl,hb1⟩;have HB1:=Aa (HI.o.trans (hb1.mono HI.o.size));clear hb1 HJ)
     | (refine Aj Cc (.tmp 8) (.tmp 26) rfl rfl rfl (ys:=[.int .i64 a,.int .i64 (b:Int)]) rfl (Ae.new W1 [.int .i64 0,.int .i64 0] 162) rfl rfl (by simp [Value.oneCell']) ?_;intro W2 hb2 ho2;have HK2:=Aa hb2;have HB2:=Aa (HB1.o.trans (((Ab W1 _).trans (ho2.below (Nat.le_refl _))).mono HB1.o.size));clear hb2 ho2)
     | (refine Eo Cc (.tmp 8) rfl rfl rfl HK2.o rfl ?_)
     | (refine Aj Cc (.tmp 4) (.tmp 29) rfl rfl rfl (ys:=[.int .i64 a,.int .i64 (b:Int)]) rfl (HF.o.fo.below HB2.o) rfl rfl (by simp [Value.oneCell']) ?_;intro W7 hb7 ho7;have K7:=Aa hb7;have K8:=Aa ((HF.o.bel.trans (HB2.o.mono HF.o.bel.size)).trans (ho7.below (by omega)));clear hb7 ho7))
    refine ⟨⟨4,by omega,rfl,fun i hi=>?_,HB2.o⟩,by simp [intOf]⟩
    by_cases hi2:i=3
    ·rw [hi2,HV.o]
    ·exact HN.o i (by omega)
   | true=>
    as_aux_lemma=>
    go_wp2_with (first
     | (go_at_call 103;refine HJ.o.mono ?_;rintro e W1 ⟨rfl,hb1⟩;have HB1:=Aa (HI.o.trans (hb1.mono HI.o.size));clear hb1 HJ)
     | (refine Aj Cc (.tmp 8) (.tmp 26) rfl rfl rfl (ys:=[.int .i64 a,.int .i64 (b:Int)]) rfl (Ae.new W1 [.int .i64 0,.int .i64 0] 162) rfl rfl (by simp [Value.oneCell']) ?_;intro W2 hb2 ho2;have HK2:=Aa hb2;have HB2:=Aa (HB1.o.trans (((Ab W1 _).trans (ho2.below (Nat.le_refl _))).mono HB1.o.size));clear hb2 ho2)
     | (refine Eo Cc (.tmp 8) rfl rfl rfl HK2.o rfl ?_)
     | (refine Aj Cc (.tmp 4) (.tmp 29) rfl rfl rfl (ys:=[.int .i64 a,.int .i64 (b:Int)]) rfl (HF.o.fo.below HB2.o) rfl rfl (by simp [Value.oneCell']) ?_;intro W7 hb7 ho7;have K7:=Aa hb7;have K8:=Aa ((HF.o.bel.trans (HB2.o.mono HF.o.bel.size)).trans (ho7.below (by omega)));clear hb7 ho7))
    exact bodyPost_ret (Ha Cc rfl rfl K7.o rfl) rfl ⟨by rw [Ko rows s (j:=3) (by omega) HN.o (by rw [HV.o]),HV.o],K8.o⟩
  ·subst h0
   have hc:=(HF.o.fs.below HI.o).cell (i:=4) (v:=.func (.func 105) #[] #[.pointer (some ⟨w.heap.size+1,0,none⟩),.pointer (some ⟨w.heap.size,0,none⟩)]) rfl
   obtain ⟨a,b,c,hv⟩:∃ a b c,Ul rows s 4=((a,b),c):=⟨_,_,_,rfl⟩
   have HV:=Aa hv
   have HT1:=rW k ow _ pb _ _ rows s (HF.o.tr.below HI.o)
   have hv1:(((9,s.goal),(rowAt rows s.goal).kind == 3):(Int × Nat) × Bool)=((a,b),c):=hv
   obtain ⟨ha,hc2⟩:=Prod.mk.inj hv1
   obtain ⟨ha1,ha2⟩:=Prod.mk.inj ha
   rw [hc2,ha1,ha2] at HT1
   clear hv1 ha ha1 ha2 hc2
   have HJ:=Aa HT1
   clear HT1 hv
   cases c with
   | false=>
    as_aux_lemma=>
    go_wp2_with (first
     | (go_at_call 105;refine HJ.o.mono ?_;rintro e W1 ⟨rfl,hb1⟩;have HB1:=Aa (HI.o.trans (hb1.mono HI.o.size));clear hb1 HJ)
     | (refine Aj Cc (.tmp 8) (.tmp 26) rfl rfl rfl (ys:=[.int .i64 a,.int .i64 (b:Int)]) rfl (Ae.new W1 [.int .i64 0,.int .i64 0] 162) rfl rfl (by simp [Value.oneCell']) ?_;intro W2 hb2 ho2;have HK2:=Aa hb2;have HB2:=Aa (HB1.o.trans (((Ab W1 _).trans (ho2.below (Nat.le_refl _))).mono HB1.o.size));clear hb2 ho2)
     | (refine Eo Cc (.tmp 8) rfl rfl rfl HK2.o rfl ?_)
     | (refine Aj Cc (.tmp 4) (.tmp 29) rfl rfl rfl (ys:=[.int .i64 a,.int .i64 (b:Int)]) rfl (HF.o.fo.below HB2.o) rfl rfl (by simp [Value.oneCell']) ?_;intro W7 hb7 ho7;have K7:=Aa hb7;have K8:=Aa ((HF.o.bel.trans (HB2.o.mono HF.o.bel.size)).trans (ho7.below (by omega)));clear hb7 ho7))
    refine ⟨⟨5,by omega,rfl,fun i hi=>?_,HB2.o⟩,by simp [intOf]⟩
    by_cases hi2:i=4
    ·rw [hi2,HV.o]
    ·exact HN.o i (by omega)
   | true=>
    as_aux_lemma=>
    go_wp2_with (first
     | (go_at_call 105;refine HJ.o.mono ?_;rintro e W1 ⟨rfl,hb1⟩;have HB1:=Aa (HI.o.trans (hb1.mono HI.o.size));clear hb1 HJ)
     | (refine Aj Cc (.tmp 8) (.tmp 26) rfl rfl rfl (ys:=[.int .i64 a,.int .i64 (b:Int)]) rfl (Ae.new W1 [.int .i64 0,.int .i64 0] 162) rfl rfl (by simp [Value.oneCell']) ?_;intro W2 hb2 ho2;have HK2:=Aa hb2;have HB2:=Aa (HB1.o.trans (((Ab W1 _).trans (ho2.below (Nat.le_refl _))).mono HB1.o.size));clear hb2 ho2)
     | (refine Eo Cc (.tmp 8) rfl rfl rfl HK2.o rfl ?_)
     | (refine Aj Cc (.tmp 4) (.tmp 29) rfl rfl rfl (ys:=[.int .i64 a,.int .i64 (b:Int)]) rfl (HF.o.fo.below HB2.o) rfl rfl (by simp [Value.oneCell']) ?_;intro W7 hb7 ho7;have K7:=Aa hb7;have K8:=Aa ((HF.o.bel.trans (HB2.o.mono HF.o.bel.size)).trans (ho7.below (by omega)));clear hb7 ho7))
    exact bodyPost_ret (Ha Cc rfl rfl K7.o rfl) rfl ⟨by rw [Ko rows s (j:=4) (by omega) HN.o (by rw [HV.o]),HV.o],K8.o⟩
  ·subst h0
   have hc:=(HF.o.fs.below HI.o).cell (i:=5) (v:=.func (.func 106) #[] #[.pointer (some ⟨w.heap.size,0,none⟩),.pointer (some ⟨w.heap.size+1,0,none⟩)]) rfl
   obtain ⟨a,b,c,hv⟩:∃ a b c,Ul rows s 5=((a,b),c):=⟨_,_,_,rfl⟩
   have HV:=Aa hv
   have HT1:=sV k ow _ pb _ _ rows s (HF.o.tr.below HI.o)
   have hv':Kz (Bt rows s cG)=((a,b),c):=hv
   rw [Zu,hv'] at HT1
   simp only at HT1
   clear hv'
   have HJ:=Aa HT1
   clear HT1 hv
   cases c with
   | false=>
    as_aux_lemma=>
    go_wp2_with (first
     | (go_at_call 106;refine HJ.o.mono ?_;rintro e W1 ⟨rfl,hb1⟩;have HB1:=Aa (HI.o.trans (hb1.mono HI.o.size));clear hb1 HJ)
     | (refine Aj Cc (.tmp 8) (.tmp 26) rfl rfl rfl (ys:=[.int .i64 a,.int .i64 (b:Int)]) rfl (Ae.new W1 [.int .i64 0,.int .i64 0] 162) rfl rfl (by simp [Value.oneCell']) ?_;intro W2 hb2 ho2;have HK2:=Aa hb2;have HB2:=Aa (HB1.o.trans (((Ab W1 _).trans (ho2.below (Nat.le_refl _))).mono HB1.o.size));clear hb2 ho2)
     | (refine Eo Cc (.tmp 8) rfl rfl rfl HK2.o rfl ?_)
     | (refine Aj Cc (.tmp 4) (.tmp 29) rfl rfl rfl (ys:=[.int .i64 a,.int .i64 (b:Int)]) rfl (HF.o.fo.below HB2.o) rfl rfl (by simp [Value.oneCell']) ?_;intro W7 hb7 ho7;have K7:=Aa hb7;have K8:=Aa ((HF.o.bel.trans (HB2.o.mono HF.o.bel.size)).trans (ho7.below (by omega)));clear hb7 ho7))
    refine ⟨⟨6,by omega,rfl,fun i hi=>?_,HB2.o⟩,by simp [intOf]⟩
    by_cases hi2:i=5
    ·rw [hi2,HV.o]
    ·exact HN.o i (by omega)
   | true=>
    as_aux_lemma=>
    go_wp2_with (first
     | (go_at_call 106;refine HJ.o.mono ?_;rintro e W1 ⟨rfl,hb1⟩;have HB1:=Aa (HI.o.trans (hb1.mono HI.o.size));clear hb1 HJ)
     | (refine Aj Cc (.tmp 8) (.tmp 26) rfl rfl rfl (ys:=[.int .i64 a,.int .i64 (b:Int)]) rfl (Ae.new W1 [.int .i64 0,.int .i64 0] 162) rfl rfl (by simp [Value.oneCell']) ?_;intro W2 hb2 ho2;have HK2:=Aa hb2;have HB2:=Aa (HB1.o.trans (((Ab W1 _).trans (ho2.below (Nat.le_refl _))).mono HB1.o.size));clear hb2 ho2)
     | (refine Eo Cc (.tmp 8) rfl rfl rfl HK2.o rfl ?_)
     | (refine Aj Cc (.tmp 4) (.tmp 29) rfl rfl rfl (ys:=[.int .i64 a,.int .i64 (b:Int)]) rfl (HF.o.fo.below HB2.o) rfl rfl (by simp [Value.oneCell']) ?_;intro W7 hb7 ho7;have K7:=Aa hb7;have K8:=Aa ((HF.o.bel.trans (HB2.o.mono HF.o.bel.size)).trans (ho7.below (by omega)));clear hb7 ho7))
    exact bodyPost_ret (Ha Cc rfl rfl K7.o rfl) rfl ⟨by rw [Ko rows s (j:=5) (by omega) HN.o (by rw [HV.o]),HV.o],K8.o⟩
  ·subst h0
   as_aux_lemma=>
   go_wp2_with (refine Aj Cc (.tmp 4) (.tmp 31) rfl rfl rfl (ys:=[.int .i64 14,.int .i64 0]) rfl (HF.o.fo.below HI.o) rfl rfl (by simp [Value.oneCell']) ?_;intro W7 hb7 ho7;have K7:=Aa hb7;have K8:=Aa ((HF.o.bel.trans (HI.o.mono HF.o.bel.size)).trans (ho7.below (by omega)));clear hb7 ho7)
   exact bodyPost_ret (Ha Cc rfl rfl K7.o rfl) rfl ⟨by rw [Ko rows s (j:=6) (by omega) HN.o rfl];rfl,K8.o⟩
end Go.Dk
end
section
namespace Go.Dk
open Go.RowKit Go.Maps Go.MapKept
open Go.Proofs hiding intOf
set_option maxRecDepth 100000 in
set_option maxHeartbeats 1000000 in
theorem Wl (k:Nat) (ow:Own) (w:World) (t:Value) (rows:List ND) (h:Tab k ow w t rows) (hT:TabG w) (s:SQ) (hs:Wf rows s) :
  Calls Tryz.prog 72 #[t,.agg (Ad s.left s.goal).toArray] w fun e w'=>e = .returned (.tuple #[.int .i64 (Ak rows s).1,.int .i64 ((Ak rows s).2:Int),.int .i64 0])∧Below w.heap.size w w':=by
 have HB0:=Aa (Ab w (.cells (Ad s.left s.goal).toArray 86))
 have HQ:=Aa (Ae.new w (Ad s.left s.goal) 86)
 have HL:=Aa (look_ok k ow _ t rows (h.below HB0.o) (hT.below HB0.o) s hs)
 have HA:Hid (∀ W,Below w.heap.size w W→Calls Tryz.prog 84 #[t,.agg (Ad s.left s.goal).toArray] W fun e w'=>e = .returned (.agg #[.int .i64 (Ak rows s).1,.int .i64 ((Ak rows s).2:Int)])∧Below W.heap.size W w'):=fun W hb=>Wb k ow W t rows (h.below hb) (hT.below hb) s hs
 clear h hT hs
 obtain ⟨x,hx⟩:∃ x,x=Ak rows s:=⟨_,rfl⟩
 rw [← hx] at HA ⊢
 clear hx
 obtain ⟨a,b⟩:=x
 simp only at HA ⊢
 go_enter Tryz.func72,Tryz.ntmps72
 go_wp2_with (first
  | (refine Ah (.tmp 3) rfl rfl rfl HQ.o ?_)
  | (go_at_call 83;refine HL.o.mono ?_;rintro e W1 ⟨rfl,hb1⟩;have HB1:=Aa (Ac HB0.o hb1);have HQ1:=Aa (HQ.o.below hb1);clear hb1 HL HQ)
  | (refine Ah (.tmp 3) rfl rfl rfl HQ1.o ?_)
  | (go_at_call 84;refine (HA.o _ HB1.o).mono ?_;rintro e W2 ⟨rfl,hb2⟩;have HB2:=Aa (Ac HB1.o hb2);clear hb2)
  | (refine Aj Cc (.tmp 8) (.tmp 17) rfl rfl rfl (ys:=[.int .i64 a,.int .i64 (b:Int)]) rfl (Ae.new W2 [.int .i64 0,.int .i64 0] 162) rfl rfl (by simp [Value.oneCell']) ?_;intro W3 hb3 ho3;have c0:=hb3.cell (i:=0) rfl;have c1:=hb3.cell (i:=1) rfl;have HB3:=Aa (HB2.o.trans (((Ab W2 _).trans (ho3.below (Nat.le_refl _))).mono HB2.o.size));clear hb3 ho3))
 go_quiet (fail)
 go_wp2_with fail
 exact bodyPost_ret (v:=.tuple #[.int .i64 a,.int .i64 (b:Int),.int .i64 0]) (by simp [results,Tryz.results72,go_sem]) rfl ⟨rfl,Ac HB3.o (below_drewN W3 nq)⟩
theorem tW (w:World) (a b:Int):Calls Tryz.prog 112 #[.int .i64 a,.int .i64 b] w fun e w'=>e = .returned (.func (.func 127) #[] #[.pointer (some ⟨w.heap.size,0,none⟩),.pointer (some ⟨w.heap.size+1,0,none⟩)])∧w'=(w.alloc (.cells #[.int .i64 a] 3)).alloc (.cells #[.int .i64 b] 3):=by
 go_enter Tryz.func112,Tryz.ntmps112
 go_wp2
 go_ret
 exact ⟨rfl,rfl⟩
theorem pO (w:World) (v:Value) (a b:Int) (p q:Nat) (c1:w.cell? ⟨p,0,none⟩=some (.int .i64 a)) (c2:w.cell? ⟨q,0,none⟩=some (.int .i64 b)) :
  Calls Tryz.prog 127 #[v,.pointer (some ⟨p,0,none⟩),.pointer (some ⟨q,0,none⟩)] w fun e w'=>e = .returned (.tuple #[.int .i64 a,.int .i64 b])∧Below w.heap.size w w':=by
 go_enter Tryz.func127,Tryz.ntmps127
 go_wp2_with fail
 go_quiet (fail)
 go_wp2_with fail
 exact bodyPost_ret (v:=.tuple #[.int .i64 a,.int .i64 b]) (by simp [results,Tryz.results127,go_sem]) rfl ⟨rfl,below_drewN w nq⟩
end Go.Dk
end
