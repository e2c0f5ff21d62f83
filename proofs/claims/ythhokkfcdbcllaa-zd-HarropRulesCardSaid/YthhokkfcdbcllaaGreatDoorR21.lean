/- Parts of the proof: Su, Hi, Hj, Wg, O, Wh, Wi, Hl, U. -/
import Derived.Outline
import Derived.IntWalk
import Derived.BigQuiet
import Derived.Deep.QuietTactic
import Derived.Laws.OwnMore
import Derived.Test.YthhokkfcdbcllaaGreatDoorR01
import Derived.Test.YthhokkfcdbcllaaGreatDoorR02
import Derived.Test.YthhokkfcdbcllaaGreatDoorR03
import Derived.Test.YthhokkfcdbcllaaGreatDoorR04
import Derived.Test.YthhokkfcdbcllaaGreatDoorR05
import Derived.Test.YthhokkfcdbcllaaGreatDoorR06
import Derived.Test.YthhokkfcdbcllaaGreatDoorR07
import Derived.Test.YthhokkfcdbcllaaGreatDoorR08
import Derived.Test.YthhokkfcdbcllaaGreatDoorR09
import Derived.Test.YthhokkfcdbcllaaGreatDoorR10
import Derived.Test.YthhokkfcdbcllaaGreatDoorR11
import Derived.Test.YthhokkfcdbcllaaGreatDoorR12
import Derived.Test.YthhokkfcdbcllaaGreatDoorR13
import Derived.Test.YthhokkfcdbcllaaGreatDoorR14
import Derived.Test.YthhokkfcdbcllaaGreatDoorR15
import Derived.Test.YthhokkfcdbcllaaGreatDoorR16
import Derived.Test.YthhokkfcdbcllaaGreatDoorR17
import Derived.Test.YthhokkfcdbcllaaGreatDoorR18
import Derived.Test.YthhokkfcdbcllaaGreatDoorR19
import Derived.Test.YthhokkfcdbcllaaGreatDoorR20
import Derived.Test.YthhokkfcdbcllaaGreatDoorR24
section
namespace Go.Dk
open Go.RowKit Go.Maps Go.MapKept
open Go.Proofs hiding intOf
theorem uF (rows:List ND):∀ y ∈ As rows,y.oneCell'=true:=by
 intro y hy
 unfold As at hy
 obtain ⟨n,_,hn⟩:=List.mem_flatMap.1 hy
 simp [ND.cells] at hn
 rcases hn with rfl | rfl | rfl | rfl<;>rfl
def Wi (w:World) (rows:List ND) (e:Ending) (w':World):Prop:=∃ c F',e = .returned c∧Bn F' w' c rows∧(∀ b,F' b→w.heap.size≤b)∧Below w.heap.size w w'
theorem pS {w W1 w5:World} {rows:List ND} {v5:Value} {nb:Nat} (hok:Ok rows) (hb:Below w.heap.size w W1) (hnb:w.heap.size≤nb) (hn:nb<W1.heap.size) (hbx:W1.heap[nb]? = some (.cells #[.slice none 0 0] 33 (0,0))) (hown:w5.ownsRow W1.heap.size 31 4 v5 rows.length (As rows)) (hgr:W1.grownBy w5 none) :
  Wi w rows (.returned (.pointer (some ⟨nb,0,none⟩))) (w5.setCell ⟨nb,0,none⟩ v5):=by
 have h5:w5.heap[nb]? = some (.cells #[.slice none 0 0] 33 (0,0)):=(hgr.block nb hn (by simp)).trans hbx
 have hne:v5.ownBlock≠some nb:=fun e=>by have:=(hown.lt nb e).1;omega
 have hsz:=hgr.size
 have hrow:Iz (w5.setCell ⟨nb,0,none⟩ v5) 31 4 v5 rows.length (As rows):=.inl (Bd (bB hown (Nat.zero_le _)) fun g hg=>Below.heap_setCell _ _ _ _ (fun e=>hne (by rw [hg,e])))
 refine ⟨_,fun b=>b=nb∨v5.ownBlock=some b,rfl,⟨fun b hb'=>?_,1,fun b=>if b=nb∨v5.ownBlock=some b then 1 else 0,⟨nb,v5,rfl,?_,hrow,hok,by simp,fun g hg=>by simp [hg]⟩,fun b _ e=>?_⟩,fun b hb'=>?_,?_⟩
 ·rcases hb' with rfl | h
  ·simp;omega
  ·have:=(hown.lt b h).2;simpa using this
 ·rw [Di h5];rfl
 ·simp only at e
  split at e
  ·assumption
  ·cases e
 ·rcases hb' with rfl | h
  ·exact hnb
  ·have:=(hown.lt b h).1;have:=hb.size;omega
 ·refine (hb.grown hgr hb.size (fun q hq=>by cases hq)).setCell (p:=⟨nb,0,none⟩) hnb _
set_option maxRecDepth 100000 in
set_option maxHeartbeats 1000000 in
theorem qN {F:FP} {w:World} {t:Value} {rows:List ND} (h:Bn F w t rows):Calls Tryz.prog 39 #[t] w (Wi w rows):=by
 have hok:=h.ok
 have hle:=hok.le
 have H:=Aa h
 obtain ⟨pb,v0,rfl,hat⟩:=h.col 0
 obtain ⟨va,vc,rfl⟩:=hat.hr.slice
 have c0:w.cell? ⟨pb,0,none⟩=some (.slice va rows.length vc):=cell_of hat.hp rfl
 have HRD:Hid (Rd w (.slice va rows.length vc) rows.length 4 (As rows)):=hat.hr.rd
 have HOK:=Aa hok
 clear h hat hok
 go_enter Tryz.func39,Tryz.ntmps39
 go_wp2_with fail
 have HB1:=Aa (Ab w (.cells #[.slice none 0 0] 33))
 have HX1:Hid ((w.alloc (.cells #[.slice none 0 0] 33)).heap[w.heap.size]? = some (.cells #[.slice none 0 0] 33 (0,0))):=Cd _ _ rfl
 have hs1:(w.alloc (.cells #[.slice none 0 0] 33)).heap.size=w.heap.size+1:=by simp
 have HS1:=Aa hs1
 clear hs1
 generalize w.alloc (.cells #[.slice none 0 0] 33)=W1 at *
 obtain ⟨I,_,Fw,L⟩:=later W1
 have a0:=L.cell (Ao HB1.o c0)
 have c1:W1.cell? ⟨w.heap.size,0,none⟩=some (.slice none 0 0):=cell_of HX1.o rfl
 have a1:=L.cell c1
 have HF:=Aa L
 clear L c0 c1
 refine bL (W:=Fw) 9 (.tmp 3) (by kernel_rfl) (by kernel_rfl) HF.o.drew rfl rfl (fun _ _ _ h=>h) ?_
 simp only [Nat.reduceSub,Act.eval,Act.put,List.setIfInBounds_toArray,List.set_cons_succ,List.set_cons_zero,List.take_succ_cons,List.take_zero,List.drop_succ_cons,List.drop_zero]
 repeat (go_big_quiet_step (fail))
 refine wpQuiet_nil ?_
 rintro w2 ⟨i2,rfl⟩
 have HB2:=Aa (HF.o.bel i2)
 have HX2:Hid ((Fw i2).heap[w.heap.size]? = some (.cells #[.slice none 0 0] 33 (0,0))):=(HB2.o.block _ (lt_of_block HX1.o)).trans HX1.o
 clear a0 a1
 generalize Fw i2=W2 at *
 go_wp2_with (at_builtin;refine By rfl (.tmp 10) (.tmp 14) 22 rfl W2.heap.size 31 _ 4 40 Tryz.underlying22 Mc rfl (by decide) (by decide) (.slice none 0 0) 0 [] rfl (World.ownsRow_nil _ _ _ _) (.slice va rows.length vc) rows.length (As rows) rfl (HRD.o.below (Ac HB1.o HB2.o)) (uF rows) (by omega) (Nat.le_refl _) ?_;intro v5 w5 hown5 hgr5 hat5 hnil5;rw [Nat.zero_add,List.nil_append] at hown5;have q5:=(hgr5.block w.heap.size (lt_of_block HX2.o) (by simp [Value.ownBlock])).trans HX2.o;have q1:w5.cell? ⟨w.heap.size,0,none⟩=some (.slice none 0 0):=cell_of (i:=0) q5 rfl;have q2:=Dt (i:=0) q5;have HEND:=Aa (pS HOK.o (Ac HB1.o HB2.o) (Nat.le_refl _) (lt_of_block HX2.o) HX2.o hown5 hgr5);obtain ⟨a5,d5,rfl⟩:=Ba hown5;clear hown5 hgr5 hat5 hnil5 q5)
 go_ret
 exact HEND.o
end Go.Dk
end
section
namespace Go.Dk
open Go.RowKit Go.Maps Go.MapKept
open Go.Proofs hiding intOf
def HY.cells (h:HY):List Value:=[.string h.name,.int .i64 h.form]
def Nu (l:List HY):List Value:=l.flatMap HY.cells
theorem Yh (l:List HY) (i:Nat) (h:HY) (hi:l[i]? = some h) (j:Nat) (hj:j<2):(Nu l)[i * 2+j]? = h.cells[j]?:=by
 induction l generalizing i with
 | nil=>simp at hi
 | cons a t ih=>
  cases i with
  | zero=>
   simp at hi
   subst hi
   unfold Nu
   rw [List.flatMap_cons,List.getElem?_append_left (by simp [HY.cells];omega)]
   simp
  | succ i=>
   simp only [List.getElem?_cons_succ] at hi
   unfold Nu
   rw [List.flatMap_cons,List.getElem?_append_right (by simp [HY.cells];omega)]
   have:=ih i hi
   unfold Nu at this
   rw [← this]
   congr 1
   simp [HY.cells];omega
theorem uO {w:World} {v:Value} {l:List HY} (h:Rd w v l.length 2 (Nu l)) {k:Nat} (hk:k<l.length):∃ b o c x,v = .slice (some ⟨b,o,none⟩) l.length c∧w.cell? ⟨b,o+k * 2,none⟩=some (.string x.name)∧w.cell? ⟨b,o+k * 2+1,none⟩=some (.int .i64 x.form)∧l[k]? = some (x:HY):=by
 obtain ⟨b,o,c,rfl,hc⟩:=h.some (by omega)
 obtain ⟨x,hx⟩:∃ x,l[k]? = some x:=⟨_,List.getElem?_eq_getElem hk⟩
 refine ⟨b,o,c,x,rfl,?_,?_,hx⟩
 ·exact hc (k * 2) _ (by have:=Yh l k x hx 0 (by omega);simpa [HY.cells] using this)
 ·have:=hc (k * 2+1) _ (by have:=Yh l k x hx 1 (by omega);simpa [HY.cells] using this)
  rwa [show o+(k * 2+1)=o+k * 2+1 by omega] at this
def Gf (l:List HY):List Int:=l.map (·.form)
theorem dC {l:List HY} {k:Nat} {x:HY} (h:l[k]? = some x):Gf (l.take (k+1))=Gf (l.take k)++[x.form]:=by
 unfold Gf;rw [List.take_add_one,h];simp
theorem pF (rows:List ND) (id:Int) (l:List HY):Fa rows (id::Gf l)=if hasB rows.length id=true∧hyB rows l=true then 0 else 31:=by
 unfold Fa hyB Gf
 simp only [List.all_cons,List.all_map,Bool.and_eq_true]
 rfl
def yF (ow:Own) (w:World) (b b12 nb:Nat) (t:Value) (f:ByteArray→Option Int):Prop:=
 w.cell? ⟨b,0,none⟩=some t∧w.cell? ⟨b12,0,none⟩=some (.map (some nb))∧TM Tryz.prog 9 cF cV w nb f∧ow b=2∧ow b12=2∧ow nb=2
theorem vR (b b12 nb:Nat) (t:Value) (f:ByteArray→Option Int):bO (fun ow w=>yF ow w b b12 nb t f):=by
 rintro c hc ow w ow' w' ⟨h1,h2,h3,o1,o2,o3⟩ hk
 have n2:(2:Nat)≠c:=by omega
 exact ⟨cell_kept h1 hk (by rw [show (⟨b,0,none⟩:Addr).block=b from rfl,o1];exact n2),cell_kept h2 hk (by rw [show (⟨b12,0,none⟩:Addr).block=b12 from rfl,o2];exact n2),h3.kept hk (by rw [o3];exact n2),
  (hk.own _ (World.block_lt_of_cell? w _ h1)).trans o1,(hk.own _ (World.block_lt_of_cell? w _ h2)).trans o2,(hk.own _ h3.lt).trans o3⟩
structure PuI (w W:World) (b12 nb:Nat) (t:Value) (f:ByteArray→Option Int):Prop where
 c0:W.cell? ⟨w.heap.size,0,none⟩=some t
 c12:W.cell? ⟨b12,0,none⟩=some (.map (some nb))
 mp:TM Tryz.prog 9 cF cV W nb f
 bl:Below w.heap.size w W
 lb:w.heap.size≤b12
 ln:w.heap.size≤nb
theorem PuI.below {w W W':World} {b12 nb:Nat} {t:Value} {f:ByteArray→Option Int} (h:PuI w W b12 nb t f) (hb:Below W.heap.size W W'):PuI w W' b12 nb t f:=
 ⟨(hb.cell (World.block_lt_of_cell? _ _ h.c0)).trans h.c0,(hb.cell (World.block_lt_of_cell? _ _ h.c12)).trans h.c12,h.mp.below hb,Ac h.bl hb,h.lb,h.ln⟩
theorem PuI.put {w W W':World} {b12 nb:Nat} {t:Value} {f f':ByteArray→Option Int} (h:PuI w W b12 nb t f) (hm:TM Tryz.prog 9 cF cV W' nb f') (ho:Only nb W W'):PuI w W' b12 nb t f':=by
 obtain ⟨_,⟨es,clock,hes,_⟩,_⟩:=h.mp
 have e1:∀ {b:Nat} {v:Value},W.cell? ⟨b,0,none⟩=some v→b≠nb:=fun hc e=>by
  subst e;simp [World.cell?,hes] at hc
 exact ⟨(World.cell?_of_block (ho.block _ (e1 h.c0))).trans h.c0,(World.cell?_of_block (ho.block _ (e1 h.c12))).trans h.c12,hm,h.bl.trans (ho.below h.ln),h.lb,h.ln⟩
theorem PuI.env {ow:Own} {w W:World} {b12 nb:Nat} {t:Value} {f:ByteArray→Option Int} (h:PuI w W b12 nb t f):yF (fun b=>if b<w.heap.size then ow b else 2) W w.heap.size b12 nb t f:=
 ⟨h.c0,h.c12,h.mp,by simp,if_neg (by have:=h.lb;omega),if_neg (by have:=h.ln;omega)⟩
theorem wY {rows:List ND} {l:List HY} (h:hyB rows l=true):∀ s f,Ep l s=some f→0≤f:=fun s f hf=>by
 obtain ⟨x,hx,_,rfl⟩:=Xb hf
 obtain ⟨y,hy,_⟩:=Dx (List.all_eq_true.1 h x hx)
 omega
theorem uC {l:List HY} {k:Nat} {x:HY} (hx:l[k]? = some x) {f:Int} (hf:Ep (l.take k) x.name=some f):Tq l=true:=by
 unfold Tq
 simp only [Bool.not_eq_true',decide_eq_false_iff_not]
 intro hd
 have h1:=Yu (k+1) hd
 rw [List.take_add_one,hx] at h1
 simp only [Option.toList_some] at h1
 rw [Yb (Yu k hd),hf] at h1
 cases h1
theorem rQ {l:List HY} {k:Nat} {x:HY} (hx:l[k]? = some x) (hw:word x.name=false):Nb l=false:=by
 unfold Nb
 rw [List.all_eq_false]
 exact ⟨x,List.mem_of_getElem? hx,by rw [hw];simp⟩
theorem kO {l:List HY} {k:Nat} {x:HY} (hx:l[k]? = some x) (hn:Ep (l.take k) x.name=none):upd (Ep (l.take k)) x.name (some x.form)=Ep (l.take (k+1)):=by
 funext s
 rw [List.take_add_one,hx]
 simp only [Option.toList_some]
 rw [fL hn]
 by_cases e:s=x.name
 ·subst e;rw [upd_same,if_pos rfl]
 ·rw [Dw _ _ e,if_neg e]
set_option maxRecDepth 100000 in
set_option maxHeartbeats 4000000 in
theorem qA (ow:Own) (w:World) (t v:Value) (rows:List ND) (h:Tab 1 ow w t rows) (id:Int) (l:List HY) (hn:∀ x ∈ l,x.name.size≤maxLen) (hv:Rd w v l.length 2 (Nu l)) (hl:l.length * 16≤140737488355328) :
  Calls Tryz.prog 34 #[t,.int .i64 id,v] w (Ew 1 ow w t (Eh rows id l)):=by
 obtain ⟨pb,rfl⟩:=h.ptr
 have HT:Hid (∀ W,Below w.heap.size w W→Tab 1 (fun b=>if b<w.heap.size then ow b else 2) W (.pointer (some ⟨pb,0,none⟩)) rows):=fun W hb=>yK h hb
 have HV:=Aa hv
 have HN:=Aa hn
 obtain ⟨va,vc,rfl⟩:=hv.slice
 have HL:=Aa (pF rows id l)
 have hmm:=@run_makeMap Tryz.prog
 clear h hv hn
 go_enter Tryz.func34,Tryz.ntmps34
 go_wp2_with fail
 have HI0:Hid (Below w.heap.size w ((w.alloc (.cells #[.pointer (some ⟨pb,0,none⟩)] 24)).alloc (.cells #[.int .i64 id] 3))):=Ac (Ab _ _) (Ab _ _)
 have HC0:Hid (((w.alloc (.cells #[.pointer (some ⟨pb,0,none⟩)] 24)).alloc (.cells #[.int .i64 id] 3)).cell? ⟨w.heap.size,0,none⟩=some (.pointer (some ⟨pb,0,none⟩))):=(World.cell?_alloc_lt _ _ _ (by simp)).trans (World.cell?_alloc_at _ _ _ _ rfl)
 have HO0:Hid (((w.alloc (.cells #[.pointer (some ⟨pb,0,none⟩)] 24)).alloc (.cells #[.int .i64 id] 3)).ownsRow (w.heap.size+1) 3 1 (.slice (some ⟨w.heap.size+1,0,none⟩) 1 1) (0+1) (ints (id::Gf (l.take 0)))):=by
  refine ⟨by simp [ints,Gf],.inr ⟨w.heap.size+1,1,_,rfl,Nat.le_refl _,Cd _ _ (by simp),Nat.le_refl _,by decide,by simp,by simp [ints,Gf]⟩⟩
 generalize (w.alloc (.cells #[.pointer (some ⟨pb,0,none⟩)] 24)).alloc (.cells #[.int .i64 id] 3)=w1 at *
 go_loopw [8,23] (fun u i W=>∃ j:Nat,j≤l.length∧i = .int .i64 (j:Int)∧W.ownsRow (w.heap.size+1) 3 1 u (j+1) (ints (id::Gf (l.take j)))∧Below w.heap.size w W∧W.cell? ⟨w.heap.size,0,none⟩=some (.pointer (some ⟨pb,0,none⟩))) (fun _ i _=>l.length - (intOf i).toNat)
 case atStart=>exact ⟨0,Nat.zero_le _,rfl,HO0.o,HI0.o,HC0.o⟩
 case round=>
  obtain ⟨j,hj,rfl,hown,hb,hc0⟩:=hrel
  have HO:=Aa hown;have HB:=Aa hb;have HC:=Aa hc0
  obtain ⟨oa,oc,hoo⟩:=Ba hown
  subst hoo
  clear hown hb
  by_cases hlt:j<l.length
  ·as_aux_lemma=>
   obtain ⟨b,o,c1,x,he,hc1,hc2,hxk⟩:=uO (HV.o.below HB.o) hlt
   cases he
   have HX:=Aa hxk
   have hji:(j:Int)<(l.length:Int):=by omega
   have HFS:=Aa (dC hxk)
   obtain ⟨xn,xf⟩:=x
   simp only at hc1 hc2
   clear hxk
   go_wp2_with (at_builtin;refine By rfl (.tmp 27) (.tmp 30) 23 rfl (w.heap.size+1) 3 _ 1 8 Tryz.underlying23 Ef rfl (by decide) (by decide) _ (j+1) (ints (id::Gf (l.take j))) rfl (Ip HO.o (Ac (Ab _ _) (Ab _ _))) _ 1 [.int .i64 xf] rfl (wX _ _ _ (by simp)) (by simp [Value.oneCell']) (by omega) (by have:=World.block_lt_of_cell? _ _ HC.o;simp at this;simp;omega) ?_;intro v5 w5 hown5 hgr5 hat5 hnil5;have HF5:Hid (w5.ownsRow (w.heap.size+1) 3 1 v5 (j+1+1) (ints (id::Gf (l.take j))++[.int .i64 xf])∧Below w.heap.size w w5∧w5.cell? ⟨w.heap.size,0,none⟩=some (.pointer (some ⟨pb,0,none⟩))):=⟨hown5,(Ac HB.o (Ac (Ab _ _) (Ab _ _))).grown hgr5 (by have:=HB.o.size;simp;omega) (fun q hq=>by have:=(HO.o.lt q hq).1;omega),hgr5.cell ((World.cell?_alloc_lt _ _ _ (by have:=World.block_lt_of_cell? _ _ HC.o;simp at this;simp;omega)).trans ((World.cell?_alloc_lt _ _ _ (World.block_lt_of_cell? _ _ HC.o)).trans HC.o)) (fun e=>by have h9:=(HO.o.lt _ e.symm).1;simp at h9;omega)⟩;clear hown5 hgr5 hat5 hnil5)
   refine ⟨⟨j+1,by omega,by go_num,?_,HF5.o.2.1,HF5.o.2.2⟩,by simp [intOf];omega⟩
   have:=HF5.o.1
   rw [show ints (id::Gf (l.take j))++[Value.int .i64 xf]=ints (id::Gf (l.take (j+1))) by rw [HFS.o];simp [ints]] at this
   exact this
  ·as_aux_lemma=>
   obtain rfl:j=l.length:=by omega
   have hO:=HO.o
   rw [List.take_length] at hO
   have HR:=Aa (Hv hO)
   have HLN:Hid ((id::Gf l).length=l.length+1):=by simp [Hid,Gf]
   clear hO hj hlt
   go_wp2_with fail
   refine (kL 1 _ _ _ _ rows (id::Gf l) (HT.o _ HB.o) (by rw [HLN.o];exact HR.o) (by rw [HLN.o];omega)).mono ?_
   rintro e w2 ⟨rfl,hb2⟩
   have HB2:=Aa (Ac HB.o hb2)
   have hc2:=(hb2.cell (World.block_lt_of_cell? _ _ hc0)).trans hc0
   have HC2:=Aa hc2
   clear hb2 hc0
   by_cases hlook:hasB rows.length id=true∧hyB rows l=true
   ·as_aux_lemma=>
    have HV0:Hid (Fa rows (id::Gf l)=0):=by rw [Hid,HL.o,if_pos hlook]
    rw [HV0.o]
    obtain ⟨xid,hxid,hxl⟩:=Dx hlook.1
    have HYB:=Aa hlook.2
    have HHB:=Aa hlook.1
    subst hxid
    have HPT:Hid (Eh rows (xid:Int) l=if Tq l=true then ⟨rows,0,70⟩ else if Nb l=false then ⟨rows,0,32⟩ else Iw (Jo (Ep l)) rows xid):=by
     unfold Hid Eh
     rw [if_neg (by simp [hlook])];rfl
    clear hlook HL HV0 HC hc2
    go_wp2_with fail
    have HM0:Hid (PuI w ((w2.alloc (.map #[] 0)).alloc (.cells #[.map (some w2.heap.size)] 124)) (w2.heap.size+1) w2.heap.size (.pointer (some ⟨pb,0,none⟩)) (Ep (l.take 0))):=by
     have hz:Ep (l.take 0)=fun _=>none:=by funext s;rfl
     rw [Hid,hz]
     refine PuI.mk ?_ (World.cell?_alloc_at _ _ _ _ (by simp)) ((TM.made _ _ _ _ _).below (Ab _ _)) (Ac HB2.o (Ac (Ab _ _) (Ab _ _))) (by have:=HB2.o.size;omega) HB2.o.size
     rw [World.cell?_alloc_lt _ _ _ (by have:=World.block_lt_of_cell? _ _ HC2.o;simp at this;simp;omega),World.cell?_alloc_lt _ _ _ (World.block_lt_of_cell? _ _ HC2.o)]
     exact HC2.o
    generalize (w2.alloc (.map #[] 0)).alloc (.cells #[.map (some w2.heap.size)] 124)=w3 at *
    generalize hb12:w2.heap.size+1=b12 at *
    generalize w2.heap.size=nb at *
    clear hmm
    go_loopw [42] (fun i W=>∃ j:Nat,j≤l.length∧i = .int .i64 (j:Int)∧((l.take j).map (·.name)).Nodup∧PuI w W b12 nb (.pointer (some ⟨pb,0,none⟩)) (Ep (l.take j))) (fun i _=>l.length - (intOf i).toNat)
    case atStart=>exact ⟨0,Nat.zero_le _,rfl,by simp,HM0.o⟩
    case round=>
     obtain ⟨j,hj,rfl,hnd,hI⟩:=hrel
     have HJ:=Aa hI;have HND:=Aa hnd
     clear hI hnd
     by_cases hlt:j<l.length
     ·as_aux_lemma=>
      obtain ⟨b,o,c1,x,he,hc1,hc2,hxk⟩:=uO (HV.o.below HJ.o.bl) hlt
      cases he
      have HX:=Aa hxk
      have hji:(j:Int)<(l.length:Int):=by omega
      have hnm:x.name.size≤maxLen:=HN.o x (List.mem_of_getElem? hxk)
      have HNM:=Aa hnm
      have HJ2:=Aa (HJ.o.below (Ab wr (.cells #[.string x.name,.int .i64 x.form] 64)))
      have hlk:=jP HJ2.o.mp x.name hnm
      have q12:=HJ2.o.c12
      have q0:(wr.alloc (.cells #[.string x.name,.int .i64 x.form] 64)).cell? ⟨wr.heap.size,0,none⟩=some (.string x.name):=World.cell?_alloc_at _ _ _ _ rfl
      have q1:(wr.alloc (.cells #[.string x.name,.int .i64 x.form] 64)).cell? ⟨wr.heap.size,1,none⟩=some (.int .i64 x.form):=World.cell?_alloc_at _ _ _ _ rfl
      clear hxk hnm
      cases hf:Ep (l.take j) x.name with
      | some f=>
       have HTW:=Aa (uC HX.o hf)
       rw [hf] at hlk
       simp only [Option.getD_some,Option.isSome_some] at hlk
       clear hf
       obtain ⟨xn,xf⟩:=x
       simp only at *
       go_wp2_with fail
       go_ret2
       rw [HPT.o,if_pos HTW.o]
       exact Ew.re HJ2.o.bl ⟨rfl,_,Kept.refl _ _ _,HT.o _ HJ2.o.bl⟩
      | none=>
       have HNF:=Aa hf
       have HND2:Hid (((l.take (j+1)).map (·.name)).Nodup):=by
        unfold Hid
        rw [List.take_add_one,HX.o]
        exact (Yb HND.o).2 hf
       have HU:=Aa (kO HX.o hf)
       rw [hf] at hlk
       simp only [Option.getD_none,Option.isSome_none] at hlk
       clear hf
       obtain ⟨xn,xf⟩:=x
       simp only at *
       go_wp2_with (at_mapUpdate;refine La HJ2.o.mp kS Zh rfl (.tmp 54) (.tmp 56) (.tmp 58) 124 3 rfl Tryz.underlying124 rfl xn rfl xf rfl (mG xn HNM.o) ?_;intro w8 hm8 ho8;rw [HU.o] at hm8;have HJ8:=Aa (HJ2.o.put hm8 ho8);clear hm8 ho8)
       exact ⟨⟨j+1,by omega,by go_num,HND2.o,HJ8.o⟩,by simp [intOf];omega⟩
     ·as_aux_lemma=>
      obtain rfl:j=l.length:=by omega
      have hJ:=HJ.o
      have hND:=HND.o
      rw [List.take_length] at hJ hND
      have HJJ:=Aa hJ
      have HTW:Hid (¬ Tq l=true):=by unfold Hid Tq;simpa using hND
      clear hJ hND hj hlt HJ HND
      go_wp2_with fail
      go_loopw [62] (fun i W=>∃ j:Nat,j≤l.length∧i = .int .i64 (j:Int)∧Nb (l.take j)=true∧PuI w W b12 nb (.pointer (some ⟨pb,0,none⟩)) (Ep l)) (fun i _=>l.length - (intOf i).toNat)
      case atStart=>exact ⟨0,Nat.zero_le _,rfl,by simp [Nb],HJJ.o⟩
      case round=>
       obtain ⟨j,hj,rfl,hwd,hI⟩:=hrel
       have HJ:=Aa hI;have HWD:=Aa hwd
       clear hI hwd
       by_cases hlt:j<l.length
       ·as_aux_lemma=>
        obtain ⟨b,o,c1,x,he,hc1,hc2,hxk⟩:=uO (HV.o.below HJ.o.bl) hlt
        cases he
        have HX:=Aa hxk
        have hji:(j:Int)<(l.length:Int):=by omega
        have hnm:x.name.size≤maxLen:=HN.o x (List.mem_of_getElem? hxk)
        have HNM:=Aa hnm
        have HJ2:=Aa (HJ.o.below (Ab wr (.cells #[.string x.name,.int .i64 x.form] 64)))
        have q0:(wr.alloc (.cells #[.string x.name,.int .i64 x.form] 64)).cell? ⟨wr.heap.size,0,none⟩=some (.string x.name):=World.cell?_alloc_at _ _ _ _ rfl
        have HWO:=Aa (fun W=>Yj x.name W hnm)
        clear hxk hnm
        cases hwx:word x.name with
        | true=>
         have HS:Hid (Nb (l.take (j+1))=true):=by
          have h1:=HWD.o
          show Nb _=true
          unfold Nb at h1 ⊢
          rw [List.take_add_one,HX.o]
          simp only [Option.toList_some,List.all_append,h1,List.all_cons,hwx,List.all_nil,Bool.and_self]
         rw [hwx] at HWO
         clear hwx
         obtain ⟨xn,xf⟩:=x
         simp only at *
         go_wp2_with fail
         refine (HWO.o _).mono ?_
         rintro e w5 ⟨rfl,rfl⟩
         have HJ5:=HJ2
         go_wp2_with fail
         exact ⟨⟨j+1,by omega,by go_num,HS.o,HJ5.o⟩,by simp [intOf];omega⟩
        | false=>
         have HNW:=Aa (rQ HX.o hwx)
         rw [hwx] at HWO
         clear hwx
         obtain ⟨xn,xf⟩:=x
         simp only at *
         go_wp2_with fail
         refine (HWO.o _).mono ?_
         rintro e w5 ⟨rfl,rfl⟩
         have HJ5:=HJ2
         go_wp2_with fail
         go_ret2
         rw [HPT.o,if_neg HTW.o,if_pos HNW.o]
         exact Ew.re HJ5.o.bl ⟨rfl,_,Kept.refl _ _ _,HT.o _ HJ5.o.bl⟩
       ·as_aux_lemma=>
        obtain rfl:j=l.length:=by omega
        have hW:=HWD.o
        rw [List.take_length] at hW
        have HWW:Hid (¬ Nb l=false):=by simp [Hid,hW]
        have hmf:∀ (fn:Fn) (first cap:Array Value) (w:World),(Instr.makeFunc fn first cap).run Tryz.prog w = .ok (.func fn first cap) w:=fun _ _ _ _=>rfl
        have q0:=HJ.o.c0
        clear hW hj hlt
        go_wp2_with fail
        refine (gK (fun ow W=>yF ow W w.heap.size b12 nb (.pointer (some ⟨pb,0,none⟩)) (Ep l)) (vR _ _ _ _ _) (Jo (Ep l)) (jJ _) (uS (wY HYB.o)) _ _ _ rows (HT.o _ HJ.o.bl) _ _ (fun ow w rows k n l' r ht he hnn _ hl hr=>lW ow w _ rows ht _ _ nb (Ep l) he.2.1 he.1 he.2.2.1 k n.kind n.l n.r l' r n.name hnn) HJ.o.env xid hxl).mono ?_
        rintro e w9 hp
        have HP:=Aa (Ew.re HJ.o.bl hp)
        obtain ⟨rfl,_⟩:=hp
        clear hmf
        go_wp2_with fail
        go_ret2
        rw [HPT.o,if_neg HTW.o,if_neg HWW.o]
        exact HP.o
   ·as_aux_lemma=>
    have HV0:Hid (Fa rows (id::Gf l)=31):=by rw [Hid,HL.o,if_neg hlook]
    have HPE:Hid (Eh rows id l=⟨rows,0,31⟩):=by
     unfold Hid Eh
     rw [if_pos]
     revert hlook
     cases hasB rows.length id<;>cases hyB rows l<;>simp
    rw [HV0.o]
    clear hlook HL HV0 hmm
    go_wp2_with fail
    go_ret2
    rw [HPE.o]
    exact Ew.re HB2.o ⟨rfl,_,Kept.refl _ _ _,HT.o _ HB2.o⟩
end Go.Dk
end
section
namespace Go.Dk
open Go.RowKit Go.Maps Go.MapKept Go.Shelf
open Go.Proofs hiding intOf
noncomputable def Sm (rows:List ND) (a b:Int) (l:List HY):Bool × Int:=
 if Fa rows [a,b]≠0 then (false,31)
 else if (Eh rows a l).err≠0 then (false,if (Eh rows a l).err=30 then 110 else (Eh rows a l).err)
 else if (Eh (Eh rows a l).rows b l).err≠0 then (false,if (Eh (Eh rows a l).rows b l).err=30 then 110 else (Eh (Eh rows a l).rows b l).err)
 else if Hf (Eh (Eh rows a l).rows b l).rows [] (Eh rows a l).id.toNat≠0 then (false,110)
 else if Gz (Eh (Eh rows a l).rows b l).rows [] (Eh rows a l).id.toNat=false then (false,0)
 else if Hf (Eh (Eh rows a l).rows b l).rows [] (Eh (Eh rows a l).rows b l).id.toNat≠0 then (false,110)
 else (!Gz (Eh (Eh rows a l).rows b l).rows [] (Eh (Eh rows a l).rows b l).id.toNat,0)
theorem yM {F:FP} {w:World} {t:Value} {rows:List ND} (h:Cm F w t rows) (id:Int) (v:Value) (l:List HY) (hn:∀ x ∈ l,x.name.size≤maxLen) (hv:Rd w v l.length 2 (Nu l)) (hl:l.length * 16≤140737488355328) :
  Calls Tryz.prog 34 #[t,.int .i64 id,v] w (rE F w t (Eh rows id l)):=by
 refine (qA (Vi F 1) w t v rows (h.col 1) id l hn hv hl).mono ?_
 rintro e w' ⟨he,ow',hk,ht⟩
 exact ⟨he,fun b=>b<w'.heap.size∧ow' b=1,⟨hk.os,hk.tape,hk.output,hk.size,fun b hb hf=>Ik.1 ((hk.own b hb).symm.trans hf.2),fun b hf=>hf.1,fun b hb hn=>hk.block b hb fun e=>hn (Ik.1 e)⟩,fun b hf=>hf.1,1,ow',ht,fun b hb e=>⟨hb,e⟩⟩
structure KS (F0 F:FP) (w W:World) (cb:Nat) (c:Value) (rows:List ND) (v:Value) (ids:List Int):Prop where
 asks:Asks F W cb c rows
 kp:KeptF F0 w F W
 own:OwnI w.heap.size F W v ids
section
variable {F0 F:FP} {w W W':World} {cb:Nat} {c v:Value} {rows:List ND} {ids:List Int}
theorem KS.below (h:KS F0 F w W cb c rows v ids) (hb:Below W.heap.size W W'):KS F0 F w W' cb c rows v ids:=
 ⟨h.asks.below hb,h.kp.trans (KeptF.of_below h.asks.tab.in_ hb),h.own.below hb⟩
theorem KS.put (h:KS F0 F w W cb c rows v ids) {p:Put} {e:Ending} (hp:rE F W c p e W'):e = .returned (.tuple #[.int .i64 p.id,.int .i64 p.err])∧∃ F',KS F0 F' w W' cb c p.rows v ids:=by
 obtain ⟨he,F',hk,ht⟩:=hp
 exact ⟨he,F',h.asks.put hk ht,h.kp.trans hk,h.own.kept hk⟩
theorem KS.app {w0:World} {v':Value} {x:Int} (h:KS F0 F w W cb c rows v ids) (hcb:cb<w.heap.size) (hown:W'.ownsRow w.heap.size 3 1 v' (ids.length+1) (ints ids++[.int .i64 x])) (hg:W.grownBy W' v.ownBlock) (hat:v'.ownBlock=v.ownBlock∨v'.ownBlock=some w0.heap.size) (hz:W.heap.size≤w0.heap.size):KS F0 F w W' cb c rows v' (ids++[x]):=by
 refine ⟨⟨?_,h.asks.tab.grown hg (fun b hb hf=>h.own.o b hb hf),h.asks.o⟩,h.kp.later hg (fun b hb=>(h.own.own.lt b hb).1),h.own.append hown hat h.asks.tab.in_ hz⟩
 exact hg.cell h.asks.cell (fun e=>by have:=(h.own.own.lt cb e.symm).1;omega)
end
def KJ (rows:List ND) (a b:Int) (l:List HY) (j:Nat) (rows':List ND) (ids:List Int):Prop:=
 (j=0∧rows'=rows∧ids = [])∨(j=1∧(Eh rows a l).err=0∧rows'=(Eh rows a l).rows∧ids = [(Eh rows a l).id]) ∨
  (j=2∧(Eh rows a l).err=0∧(Eh (Eh rows a l).rows b l).err=0∧rows'=(Eh (Eh rows a l).rows b l).rows∧ids = [(Eh rows a l).id,(Eh (Eh rows a l).rows b l).id])
theorem yP {rows:List ND} {a b:Int} {l:List HY} {j:Nat} {rows':List ND} {ids:List Int} (h:KJ rows a b l j rows' ids) (hj:j<2) {x:Int} (hx:[a,b][j]? = some x) (hE:Fa rows [a,b]=0) :
  ((Eh rows' x l).err=0→KJ rows a b l (j+1) (Eh rows' x l).rows (ids++[(Eh rows' x l).id]))∧((Eh rows' x l).err≠0→Sm rows a b l=(false,if (Eh rows' x l).err=30 then 110 else (Eh rows' x l).err)):=by
 rcases h with ⟨rfl,rfl,rfl⟩ | ⟨rfl,h0,rfl,rfl⟩ | ⟨rfl,_⟩
 ·have hxa:a=x:=by simpa using hx
  subst hxa
  refine ⟨fun he=>.inr (.inl ⟨rfl,he,rfl,rfl⟩),fun he=>?_⟩
  unfold Sm;rw [if_neg (by simpa using hE),if_pos he]
 ·have hxb:b=x:=by simpa using hx
  subst hxb
  refine ⟨fun he=>.inr (.inr ⟨rfl,h0,he,rfl,rfl⟩),fun he=>?_⟩
  unfold Sm;rw [if_neg (by simpa using hE),if_neg (by simpa using h0),if_pos he]
 ·omega
theorem yL {rows:List ND} (ok:Ok rows) {a b:Int} {l:List HY} {rows':List ND} {ids:List Int} (h:KJ rows a b l 2 rows' ids) (hE:Fa rows [a,b]=0) :
  ∃ x y:Nat,ids = [(x:Int),(y:Int)]∧x<rows'.length∧y<rows'.length∧Sm rows a b l=if Hf rows' [] x≠0 then (false,110) else if Gz rows' [] x=false then (false,0) else if Hf rows' [] y≠0 then (false,110) else (!Gz rows' [] y,0):=by
 rcases h with ⟨h,_⟩ | ⟨h,_⟩ | ⟨_,h0,h1,rfl,rfl⟩
 ·cases h
 ·cases h
 ·obtain ⟨ok1,_,x,hx,hxl,_⟩:=fB ok h0
  obtain ⟨_,hp2,y,hy,hyl,_⟩:=fB ok1 h1
  refine ⟨x,y,by rw [hx,hy],Nat.lt_of_lt_of_le hxl (Bh hp2),hyl,?_⟩
  unfold Sm
  rw [if_neg (by simpa using hE),if_neg (by simpa using h0),if_neg (by simpa using h1),hx,hy]
  rfl
def uR (w:World) (p:Bool × Int) (e:Ending) (w':World):Prop:=e = .returned (.tuple #[.bool p.1,.int .i64 p.2])∧Below w.heap.size w w'
theorem Is {w w':World} {p:Bool × Int} {a:Bool} {b:Int} (hp:p=(a,b)) (hb:Below w.heap.size w w'):uR w p (.returned (.tuple #[.bool a,.int .i64 b])) w':=by
 subst hp;exact ⟨rfl,hb⟩
structure KiF (w w3:World) (a b:Int):Prop where
 bel:Below w.heap.size w w3
 ls:Ji w3 (.slice (some ⟨w.heap.size+1,0,none⟩) 1 1) [[a,b]]
theorem uW (w:World) (a b:Int):KiF w ((w.alloc (.cells #[.int .i64 a,.int .i64 b] 3)).alloc (.cells #[.slice (some ⟨w.heap.size,0,none⟩) 2 2] 23)) a b:=
 ⟨Ac (Ab _ _) (Ab _ _),
  tM (rdH _ (by simp) _ _ rfl rfl) ((rdH (n:=2) (size:=1) w (b:=w.heap.size) rfl #[.int .i64 a,.int .i64 b] 3 rfl rfl).below (Ab _ _)) (by simp)⟩
theorem xE (a b:Int):[[a,b]].flatten = [a,b]:=by simp
set_option maxRecDepth 100000 in
set_option maxHeartbeats 4000000 in
theorem qP (F:FP) (w:World) (t v:Value) (rows:List ND) (h:Cm F w t rows) (hT:TabG w) (a b:Int) (l:List HY) (hn:∀ x ∈ l,x.name.size≤maxLen) (hv:Rd w v l.length 2 (Nu l)) (hl:l.length * 16≤140737488355328) :
  Calls Tryz.prog 16 #[t,.int .i64 a,.int .i64 b,v] w (uR w (Sm rows a b l)):=by
 have H:=Aa h
 have HT:=Aa hT
 have HOK:=Aa h.ok
 have HFR:=Aa (uW w a b)
 have HN:=Aa hn
 have HL:=Aa hl
 have HV:=Aa hv
 clear h hT hn hl hv
 by_cases hE:Fa rows [a,b]=0
 case neg=>
  have HE:=Aa (Vr hE)
  have HP:Hid (Sm rows a b l=(false,31)):=by unfold Hid Sm;rw [if_pos hE]
  clear hE
  go_enter Tryz.func16,Tryz.ntmps16
  go_wp2_with fail
  generalize ((w.alloc (.cells #[.int .i64 a,.int .i64 b] 3)).alloc (.cells #[.slice (some ⟨w.heap.size,0,none⟩) 2 2] 23))=w3 at *
  refine (Gu 0 _ _ _ _ rows [[a,b]] ((H.o.col 0).below HFR.o.bel) HFR.o.ls (by simp)).mono ?_
  rintro e w4 ⟨rfl,hb4⟩
  rw [xE,HE.o]
  have HB4:=Aa (Ac HFR.o.bel hb4)
  clear hb4
  go_wp2_with fail
  go_ret2
  exact Is HP.o HB4.o
 case pos=>
  have HE:=Aa hE
  clear hE
  go_enter Tryz.func16,Tryz.ntmps16
  go_wp2_with fail
  generalize ((w.alloc (.cells #[.int .i64 a,.int .i64 b] 3)).alloc (.cells #[.slice (some ⟨w.heap.size,0,none⟩) 2 2] 23))=w3 at *
  refine (Gu 0 _ _ _ _ rows [[a,b]] ((H.o.col 0).below HFR.o.bel) HFR.o.ls (by simp)).mono ?_
  rintro e w4 ⟨rfl,hb4⟩
  rw [xE,HE.o]
  have HB4:=Aa (Ac HFR.o.bel hb4)
  clear hb4
  go_wp2_with (go_at_call 28;refine (Pg F _ t rows (H.o.below HB4.o)).mono ?_;rintro e w5 ⟨c,cb,Fc,rfl,hA5,hF5,hc5,hb5⟩;unfold nO;have HA5:=Aa hA5;have HF5:Hid (∀ b,Fc b→w.heap.size≤b):=(fun b hb=>Nat.le_trans HB4.o.size (hF5 b hb));have HB5:=Aa (Ac HB4.o hb5);clear hA5 hF5 hc5 hb5)
  have HS0:Hid (KS Fc Fc (w5.alloc (.cells #[.int .i64 a,.int .i64 b] 3)) (w5.alloc (.cells #[.int .i64 a,.int .i64 b] 3)) cb c rows (.slice none 0 0) []):=
   ⟨HA5.o.below (Ab _ _),KeptF.refl (HA5.o.tab.below (Ab _ _)).in_,OwnI.nil _ _ _⟩
  have HCB:Hid (cb<(w5.alloc (.cells #[.int .i64 a,.int .i64 b] 3)).heap.size):=by have:=World.block_lt_of_cell? _ _ HA5.o.cell;simp at this;unfold Hid;simp;omega
  have HSL:Hid (∀ (F1:FP) (W:World),KeptF Fc (w5.alloc (.cells #[.int .i64 a,.int .i64 b] 3)) F1 W→Rd W (.slice (some ⟨w5.heap.size,0,none⟩) 2 2) 2 1 (ints [a,b])):=fun F1 W hk=>
   hk.rd (Oa w5 _ _ rfl rfl) (fun ad m k e hf=>by cases e;exact Nat.lt_irrefl _ (HA5.o.tab.in_ _ hf))
  have HBW:Hid (∀ (F1:FP) (W:World),KeptF Fc (w5.alloc (.cells #[.int .i64 a,.int .i64 b] 3)) F1 W→Below w.heap.size w W):=fun F1 W hk=>by
   have h1:=Ac HB5.o (Ab w5 (.cells #[.int .i64 a,.int .i64 b] 3))
   exact h1.trans (hk.below h1.size (fun b hb hf=>by have:=HF5.o b hf;omega))
  generalize (w5.alloc (.cells #[.int .i64 a,.int .i64 b] 3))=w6 at *
  go_loopw [13,38] (fun iv u W=>∃ (j:Nat) (F1:FP) (rows1:List ND) (ids:List Int),j≤2∧u = .int .i64 (j:Int)∧KS Fc F1 w6 W cb c rows1 iv ids∧KJ rows a b l j rows1 ids∧ids.length=j) (fun _ u _=>2 - (intOf u).toNat)
  case atStart=>exact ⟨0,Fc,rows,[],by omega,rfl,HS0.o,.inl ⟨rfl,rfl,rfl⟩,rfl⟩
  case round=>
   obtain ⟨j,F1,rows1,ids,hj,rfl,hs,hk,hlen⟩:=hrel
   have HS:=Aa hs;have HK:=Aa hk;have HLN:=Aa hlen
   obtain ⟨qa,qc,rfl⟩:=Ba hs.own.own
   clear hs hk hlen
   by_cases hlt:j<2
   ·as_aux_lemma=>
    have hji:(j:Int)<2:=by omega
    obtain ⟨ib,io,ic,x,he,hcx,hidx⟩:=ints_at (HSL.o _ _ HS.o.kp) hlt
    cases he
    rw [Nat.zero_add] at hcx
    have HJ:=Aa (yP HK.o hlt hidx HE.o)
    have HBR:=Aa (HBW.o _ _ HS.o.kp)
    have HPU:=Aa (yM HS.o.asks.tab x v l HN.o (HV.o.below HBR.o) HL.o)
    obtain ⟨p,hp⟩:∃ p,p=Eh rows1 x l:=⟨_,rfl⟩
    rw [← hp] at HPU HJ
    clear hp hidx
    have HI2:Hid (ids.length≤2):=by have:=HLN.o;unfold Hid;omega
    by_cases h30:p.err=30
    ·have g30:(p.err == 30)=true:=by simpa using h30
     have hp:=HJ.o.2 (by omega)
     rw [if_pos h30] at hp
     have HP:=Aa hp
     clear hp h30
     go_wp2_with (go_at_call 34;refine HPU.o.mono ?_;intro e w7 hp7;obtain ⟨rfl,F7,hs7⟩:=HS.o.put hp7;have HS7:=Aa hs7;clear hs7 hp7)
     go_ret2
     exact Is HP.o (HBW.o _ _ HS7.o.kp)
    ·have g30:(p.err == 30)=false:=by simpa using h30
     by_cases h0:p.err=0
     ·have hp:=HJ.o.1 h0
      have HP:=Aa hp
      obtain ⟨prows,pid,perr⟩:=p
      simp only at h0 HP HPU g30
      subst h0
      clear hp h30
      go_wp2_with (first
       | (go_at_call 34;refine HPU.o.mono ?_;intro e w7 hp7;obtain ⟨rfl,F7,hs7⟩:=HS.o.put hp7;have HS7:=Aa hs7;clear hs7 hp7)
       | (at_builtin;refine By rfl (.tmp 54) (.tmp 56) 23 rfl w6.heap.size 3 _ 1 8 Tryz.underlying23 Ef rfl (by decide) (by decide) _ ids.length (ints ids) rfl ((HS7.o.below (Ab w7 _)).own.own) _ 1 [.int .i64 pid] rfl (Gs w7 _ _) (by simp [Value.oneCell']) (by have:=HI2.o;omega) (by have:=HS7.o.kp.size;simp;omega) ?_;intro v8 w8 hown8 hgr8 hat8 hnil8;have HS8:=Aa ((HS7.o.below (Ab w7 _)).app HCB.o hown8 hgr8 hat8 (Nat.le_refl _));clear hown8 hgr8 hat8 hnil8))
      exact ⟨⟨j+1,F7,_,_,by omega,by go_num,HS8.o,HP.o,by rw [List.length_append,HLN.o];rfl⟩,by simp [intOf];omega⟩
     ·have g0:(p.err != 0)=true:=by simpa using h0
      have hp:=HJ.o.2 h0
      rw [if_neg h30] at hp
      have HP:=Aa hp
      clear hp h30 h0
      go_wp2_with (go_at_call 34;refine HPU.o.mono ?_;intro e w7 hp7;obtain ⟨rfl,F7,hs7⟩:=HS.o.put hp7;have HS7:=Aa hs7;clear hs7 hp7)
      go_ret2
      exact Is HP.o (HBW.o _ _ HS7.o.kp)
   ·as_aux_lemma=>
    obtain rfl:j=2:=by omega
    obtain ⟨x,y,hids,hx,hy,hkp⟩:=yL HOK.o HK.o HE.o
    subst hids
    have HXY:Hid (x<rows1.length∧y<rows1.length):=⟨hx,hy⟩
    have HP:=Aa hkp
    clear hkp hx hy HK HLN
    obtain ⟨ib,io,ic,z,he,hc0,hz⟩:=ints_at (k:=0) HS.o.own.rd (by simp)
    cases he
    obtain ⟨ib,io,ic,z1,he,hc1,hz1⟩:=ints_at (k:=1) HS.o.own.rd (by simp)
    cases he
    simp only [List.getElem?_cons_zero,List.getElem?_cons_succ,Option.some.injEq] at hz hz1
    subst hz
    subst hz1
    have HBR:=Aa (HBW.o _ _ HS.o.kp)
    have HASK:Hid (∀ (W:World) (n:Nat),Below wr.heap.size wr W→n<rows1.length→Calls Tryz.prog 49 #[.slice none 0 0,.int .i64 (n:Int),.pointer (some ⟨cb,0,none⟩)] W fun e w'=>e = .returned (.tuple #[.bool (Gz rows1 [] n),.int .i64 (Hf rows1 [] n)])∧Below W.heap.size W w'):=
     fun W n hb hn=>dW F1 W cb c rows1 (HS.o.asks.below hb) ((HT.o.below HBR.o).below hb) _ [] (lV W) (by simp) (by simp) n hn
    rw [Nat.add_zero] at hc0
    go_wp2_with fail
    refine (HASK.o _ x (Below.refl _ _) HXY.o.1).mono ?_
    rintro e w7 ⟨rfl,hb7⟩
    have HB7:=Aa hb7
    have hc7:w7.cell? ⟨ib,io+1,none⟩=some (.int .i64 (y:Int)):=(hb7.cell (World.block_lt_of_cell? _ _ hc1)).trans hc1
    clear hb7 hc0 hc1
    rcases Gl rows1 [] x with he0 | he0
    ·rw [he0]
     cases hbp:Gz rows1 [] x with
     | false=>
      have hp:=HP.o
      rw [he0,hbp,if_neg (by simp),if_pos rfl] at hp
      have HP2:=Aa hp
      clear hp he0 hbp
      go_wp2_with fail
      go_ret2
      exact Is HP2.o (Ac HBR.o HB7.o)
     | true=>
      have hp:=HP.o
      rw [he0,hbp,if_neg (by simp),if_neg (by simp)] at hp
      have HP2:=Aa hp
      clear hp he0 hbp
      go_wp2_with fail
      refine (HASK.o _ y HB7.o HXY.o.2).mono ?_
      rintro e w8 ⟨rfl,hb8⟩
      have HB8:=Aa (Ac (Ac HBR.o HB7.o) hb8)
      clear hb8
      rcases Gl rows1 [] y with hy0 | hy0
      ·rw [hy0]
       have hp:=HP2.o
       rw [hy0,if_neg (by simp)] at hp
       have HP3:=Aa hp
       clear hp hy0
       generalize Gz rows1 [] y=by' at *
       cases by' with
       | false=>
        go_wp2_with fail
        go_ret2
        exact Is HP3.o HB8.o
       | true=>
        go_wp2_with fail
        go_ret2
        exact Is HP3.o HB8.o
      ·rw [hy0]
       have hp:=HP2.o
       rw [hy0,if_pos (by simp)] at hp
       have HP3:=Aa hp
       clear hp hy0
       go_wp2_with fail
       go_ret2
       exact Is HP3.o HB8.o
    ·rw [he0]
     have hp:=HP.o
     rw [he0,if_pos (by simp)] at hp
     have HP2:=Aa hp
     clear hp he0
     go_wp2_with fail
     go_ret2
     exact Is HP2.o (Ac HBR.o HB7.o)
end Go.Dk
end
section
namespace Go.Dk
open Go.RowKit Go.Maps Go.MapKept Go.Shelf
open Go.Proofs hiding intOf
set_option maxRecDepth 100000 in
set_option maxHeartbeats 1000000 in
theorem iQ (w:World) (m n:Nat) (hn:n<1024):Calls Tryz.prog 51 #[.agg (Ag m).toArray,.int .i64 (n:Int)] w fun e w'=>e = .returned (.agg (Ag (m ||| 1 <<< n)).toArray)∧Below w.heap.size w w':=by
 have HS:Hid (Ae ((w.alloc (.cells (Ag m).toArray 77)).alloc (.cells zeroV.toArray 77)) w.heap.size (Ag m) 77∧Ae ((w.alloc (.cells (Ag m).toArray 77)).alloc (.cells zeroV.toArray 77)) (w.heap.size+1) zeroV 77∧Below w.heap.size w ((w.alloc (.cells (Ag m).toArray 77)).alloc (.cells zeroV.toArray 77))):=by
  refine ⟨(Ae.new w (Ag m) _).below (Ab _ _),?_,Ac (Ab _ _) (Ab _ _)⟩
  have:=Ae.new (w.alloc (.cells (Ag m).toArray 77)) zeroV 77
  simpa using this
 have hN:=Aa hn
 have HK:Hid (∀ W0:World,Ae W0 w.heap.size (Ag m) 77→Ae (W0.setCell ⟨w.heap.size,n / 64,none⟩ (.int .u64 (bits .or .u64 (wd m (n / 64):Int) (IntKind.u64.wrap (2 ^ (n % 64)))))) w.heap.size (Ag (m ||| 1 <<< n)) 77):=fun W0 h=>by
  rw [Zs,← Qd m hn]
  exact h.set _ _
 have HR:Hid (∀ W0:World,Ae W0 (w.heap.size+1) zeroV 77→Ae (W0.setCell ⟨w.heap.size,n / 64,none⟩ (.int .u64 (bits .or .u64 (wd m (n / 64):Int) (IntKind.u64.wrap (2 ^ (n % 64)))))) (w.heap.size+1) zeroV 77):=fun W0 h=>h.other (by omega) _ _
 go_enter Tryz.func51,Tryz.ntmps51
 go_wp2_with (first
  | (rw [show (#[.int .u64 0,.int .u64 0,.int .u64 0,.int .u64 0,.int .u64 0,.int .u64 0,.int .u64 0,.int .u64 0,.int .u64 0,.int .u64 0,.int .u64 0,.int .u64 0,.int .u64 0,.int .u64 0,.int .u64 0,.int .u64 0]:Array Value)=zeroV.toArray from rfl];generalize ((w.alloc (.cells (Ag m).toArray 77)).alloc (.cells zeroV.toArray 77))=W0 at *;have d2:=HS.o.1.cell (Es m (i:=n / 64) (by have:=hN.o;omega));have f2:=HS.o.1.fr (n / 64))
  | (refine Bv (.tmp 2) rfl rfl rfl (HK.o W0 HS.o.1) ?_)
  | (refine Da (.tmp 4) (.tmp 17) rfl rfl rfl rfl (HR.o W0 HS.o.2.1) (by simp [zeroV,Ag]) ?_;intro W7 hb7 ho7;have K7:=Aa hb7;have K8:=Aa ((HS.o.2.2.setCell (p:=⟨w.heap.size,n / 64,none⟩) (Nat.le_refl _) _).trans (ho7.below (Nat.le_succ _)));clear hb7 ho7))
 exact bodyPost_ret (Fp rfl rfl K7.o) rfl ⟨rfl,K8.o⟩
def Zp (p:Value):_root_.Go.Sem Value:=Instr.loadAt 77 p
theorem aD (p:Value):Instr.loadAt 77 p=Zp p:=rfl
theorem cN {W:World} {b m:Nat} {T:TypeId} (h:Ae W b (Ag m) T):(Zp (.pointer (some ⟨b,0,none⟩))).run Tryz.prog W = .ok (.agg (Ag m).toArray) W:=by
 obtain ⟨d,hu,hd⟩:=nH
 exact run_loadAt_mid (P:=Tryz.prog) W b 0 77 (Ag m) d (h.range (by simp)) hu hd (by rw [Bg];exact Nx)
section
attribute [local go_sem ↓] aD
set_option maxRecDepth 100000 in
set_option maxHeartbeats 2000000 in
theorem qQ (w:World) (v:Value) (zs:List Int) (hr:Rd w v zs.length 1 (ints zs)) (hl:zs.length<2 ^ 62) (hz:∀ z ∈ zs,0≤z∧z<1024) :
  Calls Tryz.prog 29 #[v] w fun e w'=>e = .returned (.tuple #[.agg (Ag (Df (Bi zs))).toArray,.int .i64 0])∧Below w.heap.size w w':=by
 have HZ:Hid (Ae ((w.alloc (.cells zeroV.toArray 77)).alloc (.cells zeroV.toArray 77)) w.heap.size zeroV 77∧Ae ((w.alloc (.cells zeroV.toArray 77)).alloc (.cells zeroV.toArray 77)) (w.heap.size+1) (Ag (Df ((Bi zs).take 0))) 77∧Below w.heap.size w ((w.alloc (.cells zeroV.toArray 77)).alloc (.cells zeroV.toArray 77))):=by
  refine ⟨(Ae.new w zeroV _).below (Ab _ _),?_,Ac (Ab _ _) (Ab _ _)⟩
  have:=Ae.new (w.alloc (.cells zeroV.toArray 77)) zeroV 77
  simpa [Df,zeroV] using this
 have HV:=Aa hr
 have HL:=Aa hl
 have HN:=Aa hz
 obtain ⟨va,vc,rfl⟩:=hr.slice
 clear hr hl hz
 go_enter Tryz.func29,Tryz.ntmps29
 go_wp2_with fail
 rw [show (#[.int .u64 0,.int .u64 0,.int .u64 0,.int .u64 0,.int .u64 0,.int .u64 0,.int .u64 0,.int .u64 0,.int .u64 0,.int .u64 0,.int .u64 0,.int .u64 0,.int .u64 0,.int .u64 0,.int .u64 0,.int .u64 0]:Array Value)=zeroV.toArray from rfl]
 generalize ((w.alloc (.cells zeroV.toArray 77)).alloc (.cells zeroV.toArray 77))=W0 at *
 go_loopw [5] (fun i W=>∃ j:Nat,j≤zs.length∧i = .int .i64 (j:Int)∧Ae W w.heap.size zeroV 77∧Ae W (w.heap.size+1) (Ag (Df ((Bi zs).take j))) 77∧Below w.heap.size w W) (fun i _=>zs.length - (intOf i).toNat)
 case atStart=>exact ⟨0,by omega,rfl,HZ.o.1,HZ.o.2.1,HZ.o.2.2⟩
 case round=>
  obtain ⟨j,hj,rfl,h1,h2,h3⟩:=hrel
  have H1:=Aa h1;have H2:=Aa h2;have H3:=Aa h3
  clear h1 h2 h3
  by_cases hlt:j<zs.length
  ·as_aux_lemma=>
   have hji:(j:Int)<(zs.length:Int):=by omega
   obtain ⟨b,o,c1,z,he,hcell,hzk⟩:=ints_at (HV.o.below H3.o) hlt
   cases he
   have hz1:=HN.o z (List.mem_of_getElem? hzk)
   obtain ⟨n,rfl⟩:=Int.eq_ofNat_of_zero_le hz1.1
   have hn:n<1024:=by omega
   have hg0:¬ (n:Int)<0:=by omega
   have hg1:¬ (1024:Int)≤(n:Int):=by omega
   have hlj:j<(Bi zs).length:=by simpa [Bi] using hlt
   have HM:Hid (Df ((Bi zs).take (j+1))=Df ((Bi zs).take j) ||| 1 <<< n):=by
    have e:(Bi zs)[j]=n:=by
     have:zs[j]=(n:Int):=(List.getElem?_eq_some_iff.1 hzk).2
     simp [Bi,this]
    rw [← e];exact Xj _ hlj
   have HW:=Aa (fun W=>iQ W (Df ((Bi zs).take j)) n hn)
   have HLL:=HL.o
   clear hzk hz1
   go_wp2_with fail
   obtain ⟨I,_,Fw,L⟩:=later wr
   have a1:=L.cell hcell
   have hld:∀ i,(Zp (.pointer (some ⟨w.heap.size+1,0,none⟩))).run Tryz.prog (Fw i) = .ok (.agg (Ag (Df ((Bi zs).take j))).toArray) (Fw i):=fun i=>cN (H2.o.below (L.bel i))
   have HF:=Aa L
   clear L hcell
   refine Qm (W:=Fw) 6 (by kernel_rfl) (by kernel_rfl) HF.o.drew ?_
   simp only [List.take_succ_cons,List.take_zero,List.drop_succ_cons,List.drop_zero]
   repeat (go_big_quiet_step ((go_at_call 51;refine HF.o.call (HW.o _))))
   refine wpQuiet_nil ?_
   rintro w6 ⟨i6,rfl⟩
   have HB6:=Aa (HF.o.bel i6)
   clear a1 hld HF
   generalize Fw i6=W6 at *
   have K1:=Aa (H1.o.below HB6.o)
   have K2:=Aa (H2.o.below HB6.o)
   have K3:=Aa (Ac H3.o HB6.o)
   go_wp2_with (refine Da (.tmp 4) (.tmp 31) rfl rfl rfl rfl K2.o (by simp [Ag]) ?_;intro W7 hb7 ho7;have K7:=Aa hb7;have K8:=Aa (K3.o.trans (ho7.below (Nat.le_succ _)));have K9:=Aa (K1.o.only ho7 (by omega));clear hb7 ho7)
   exact ⟨⟨j+1,by omega,by go_num,K9.o,by rw [HM.o];exact K7.o,K8.o⟩,by simp [intOf];omega⟩
  ·as_aux_lemma=>
   obtain rfl:j=zs.length:=by omega
   have h2:=H2.o
   rw [List.take_of_length_le (by simp [Bi])] at h2
   have K2:=Aa h2
   have hnn:¬ (zs.length:Int)<(zs.length:Int):=Int.lt_irrefl _
   clear h2
   go_wp2_with (first
    | (refine Bv (.tmp 4) rfl rfl rfl K2.o ?_)
    | (refine Da (.tmp 2) (.tmp 32) rfl rfl rfl rfl H1.o (by simp [zeroV,Ag]) ?_;intro W7 hb7 ho7;have K7:=Aa hb7;have K8:=Aa (H3.o.trans (ho7.below (Nat.le_refl _)));clear hb7 ho7))
   exact bodyPost_ret (Oi rfl rfl rfl K7.o) rfl ⟨rfl,K8.o⟩
end
end Go.Dk
end
section
namespace Go.Dk
open Go.RowKit Go.Maps Go.MapKept Go.Shelf
open Go.Proofs hiding intOf
theorem sW {rows:List ND} {ns:List Nat} {g:Nat} {r:SA} (ok:Ok rows) (wf:Wf rows ⟨Df ns,g⟩) (hr:r=Bw 4096 ⟨rows,[],4096⟩ ⟨Df ns,g⟩) :
  (r.err=0→Gz rows ns g=Ax r.st r.at_∧Hf rows ns g=0)∧(r.err≠0→Gz rows ns g=false∧Hf rows ns g=110):=by
 have h:=kV 4096 ⟨rows,[],4096⟩ ⟨rows,[],4096⟩ ⟨Df ns,g⟩ ⟨rfl,rfl,rfl⟩ ⟨ok,fun x hx=>by cases hx⟩ wf
 rw [← hr] at h
 have he:(Xt rows ns g).err=r.err:=h.err.symm
 constructor
 ·intro h0
  have h1:(Xt rows ns g).err=0:=he.trans h0
  exact ⟨by unfold Gz;rw [h1,h.told h0];simp [Xt],by unfold Hf;rw [if_pos h1]⟩
 ·intro h0
  have h1:¬ (Xt rows ns g).err=0:=by rw [he];exact h0
  exact ⟨by unfold Gz;simp [h1],by unfold Hf;rw [if_neg h1]⟩
attribute [local go_sem ↓] Su
set_option maxRecDepth 100000 in
set_option maxHeartbeats 4000000 in
theorem dM (F:FP) (w:World) (t:Value) (rows:List ND) (h:Bn F w t rows) (v:Value) (zs:List Int) (hv:Rd w v zs.length 1 (ints zs)) (hl:zs.length<2 ^ 62) (hz:∀ z ∈ zs,hasB rows.length z=true) (g:Nat) (hg:g<rows.length) :
  Calls Tryz.prog 36 #[t,v,.int .i64 (g:Int)] w fun e w'=>e = .returned (.tuple #[.bool (Gz rows (Bi zs) g),.int .i64 (Hf rows (Bi zs) g)])∧Below w.heap.size w w':=by
 have hok:=h.ok
 have hle:=hok.le
 have H:=Aa h
 have HOF:=Aa (qQ w v zs hv hl (fun z hz'=>by obtain ⟨n,rfl,hn⟩:=Dx (hz z hz');omega))
 have HW:Hid (Wf rows ⟨Df (Bi zs),g⟩):=mN (fun n hn=>by obtain ⟨z,hz',rfl⟩:=List.mem_map.1 hn;obtain ⟨k,rfl,hk⟩:=Dx (hz z hz');simpa using hk) hg
 obtain ⟨r,hr⟩:∃ r,r=Bw 4096 ⟨rows,[],4096⟩ ⟨Df (Bi zs),g⟩:=⟨_,rfl⟩
 have HR:=Aa hr.symm
 have HAS:=Aa (sW hok HW.o hr)
 have HBS:=Aa (fun W=>bT W (Df (Bi zs)) (g:Int))
 generalize hm:Df (Bi zs)=m at *
 have HM:=Aa hm
 clear h hv hz hr hok hm hle
 go_enter Tryz.func36,Tryz.ntmps36
 have HZ:Hid (∀ W:World,Ae (W.alloc (.cells #[.int .u64 0,.int .u64 0,.int .u64 0,.int .u64 0,.int .u64 0,.int .u64 0,.int .u64 0,.int .u64 0,.int .u64 0,.int .u64 0,.int .u64 0,.int .u64 0,.int .u64 0,.int .u64 0,.int .u64 0,.int .u64 0] 77)) W.heap.size zeroV 77):=fun W=>Ae.new W zeroV 77
 go_wp2_with (first
  | (go_at_call 29;refine HOF.o.mono ?_;rintro e w2 ⟨rfl,hb2⟩;have HB2:=Aa hb2;clear hb2)
  | (refine Da (.tmp 8) (.tmp 15) rfl rfl rfl rfl (HZ.o w2) (by simp [zeroV,Ag]) ?_;intro W3 hb3 ho3;have HX3:=Aa hb3;have HB3:=Aa (Ac HB2.o ((Ab _ _).trans (ho3.below (Nat.le_refl _))));have HS3:Hid (W3.heap.size=w2.heap.size+1):=(by unfold Hid;rw [ho3.size];simp);clear hb3 ho3))
 have HA3:=Aa (H.o.below HB3.o)
 clear HB2 HOF HZ HS3
 generalize w2.heap.size=xb at *
 have hu:Tryz.prog.underlying 77=some (.array 16 75):=by kernel_rfl
 have hi:(Tryz.prog.info? 77).map (·.size)=some (Ag m).length:=by rw [Bg];exact Nx
 have HC:Hid (∀ W',Below W3.heap.size W3 W'→Aft W3 W'∧W'.rangeAt xb 0 (Ag m)):=fun W' hb=>⟨hb,(HX3.o.below hb).range (by simp)⟩
 have HD:Hid (Below W3.heap.size W3 (W3.drewN 1)):=below_drewN W3 1
 have hbs:=HBS.o
 have HCP:Hid (∀ W',Below W3.heap.size W3 W'→Calls Tryz.prog 39 #[t] W' (Wi W' rows)):=fun W' hb=>qN (HA3.o.below hb)
 have HRUN:Hid (∀ (W':World) (F':FP) (c':Value),Bn F' W' c' rows→Calls Tryz.prog 59 #[c',.agg (Ad m (g:Int)).toArray,.int .i64 4096] W' (iH F' W' c' rows r)):=fun W' F' c' ht=>uG F' W' c' rows ht ⟨m,g⟩ HW.o r HR.o
 have HZE:Hid (∀ W:World,Ae (W.alloc (.cells #[.bool false,.slice none 0 0,.int .i64 0] 82)) W.heap.size [.bool false,.slice none 0 0,.int .i64 0] 82):=fun W=>Ae.new W [.bool false,.slice none 0 0,.int .i64 0] 82
 by_cases hz:r.err=0
 ·have HZR:=Aa hz
  have HAE:=Aa (HAS.o.1 hz)
  clear hz
  go_region_held3 (fun W'=>Aft W3 W'∧W'.rangeAt xb 0 (Ag m))
   ((refine HC.o _ ?_;first | exact HD.o | exact HB4.o | exact HB5.o | exact Ac (And.left (by assumption)) (Ab _ _) | exact Ac HB5.o (Ab _ _) | exact ((HB5.o.setCell (p:=⟨W3.heap.size,0,none⟩) (Nat.le_refl _) _).setCell (p:=⟨W3.heap.size,1,none⟩) (Nat.le_refl _) _).setCell (p:=⟨W3.heap.size,2,none⟩) (Nat.le_refl _) _ | exact ((HB5.o.setCell (p:=⟨W4.heap.size,0,none⟩) HB4.o.size _).setCell (p:=⟨W4.heap.size,1,none⟩) HB4.o.size _).setCell (p:=⟨W4.heap.size,2,none⟩) HB4.o.size _ | assumption))
   ((first
     | (go_at_call 39;refine (HCP.o ((W3.drew).alloc _) (And.left (by assumption))).mono ?_;rintro e W4 ⟨c',F4,rfl,ht4,hn4,hb4⟩;have HT4:=Aa ht4;have HN4:Hid (∀ b,F4 b→W3.heap.size≤b):=(fun b hb=>(by have:=hn4 b hb;simp at this;omega));have HX4:Hid (Ae W4 W3.heap.size [.bool false,.slice none 0 0,.int .i64 0] 82∧¬ F4 W3.heap.size):=⟨(HZE.o W3.drew).below hb4,fun hf=>Nat.not_succ_le_self _ (by simpa using hn4 _ hf)⟩;have HB4:=Aa (Ac (Ac HD.o (Ab _ _)) hb4);clear ht4 hn4 hb4)
     | (go_at_call 39;refine (HCP.o W3.drew (And.left (by assumption))).mono ?_;rintro e W4 ⟨c',F4,rfl,ht4,hn4,hb4⟩;have HT4:=Aa ht4;have HN4:Hid (∀ b,F4 b→W3.heap.size≤b):=(fun b hb=>(by have:=hn4 b hb;simp at this;omega));have HB4:=Aa (Ac HD.o hb4);clear ht4 hn4 hb4)
     | (go_at_call 59;refine (HRUN.o W4 F4 _ HT4.o).mono ?_;rintro e W5 ⟨F5,hk5,hg5,_⟩;obtain ⟨sv,rfl,_,kvs,K5,_,hown5,_⟩:=hg5 HZR.o;obtain ⟨sa,sc,rfl⟩:=Ba hown5;clear hown5 hg5;have HB5:=Aa (Gg (And.left (by assumption)) hk5 HN4.o);have x5:Ae W5 W3.heap.size [.bool false,.slice none 0 0,.int .i64 0] 82:=hk5.box HX4.o.1 HX4.o.2;have c50:=x5.cell (i:=0) rfl;have c51:=x5.cell (i:=1) rfl;have c52:=x5.cell (i:=2) rfl;have f50:=x5.fr 0;have f51:=x5.fr 1;have f52:=x5.fr 2;clear hk5)
     | (go_at_call 59;refine (HRUN.o W4 F4 _ HT4.o).mono ?_;rintro e W5 ⟨F5,hk5,hg5,_⟩;obtain ⟨sv,rfl,_,kvs,K5,_,hown5,_⟩:=hg5 HZR.o;obtain ⟨sa,sc,rfl⟩:=Ba hown5;clear hown5 hg5;have HB5:=Aa (Gg (And.left (by assumption)) hk5 HN4.o);clear hk5)
     | (go_at_call 59;refine (HRUN.o (W4.alloc _) F4 _ (HT4.o.below (Ab _ _))).mono ?_;rintro e W5 ⟨F5,hk5,hg5,_⟩;obtain ⟨sv,rfl,_,kvs,K5,_,hown5,_⟩:=hg5 HZR.o;obtain ⟨sa,sc,rfl⟩:=Ba hown5;clear hown5 hg5;have HB5:=Aa (Gg (And.left (by assumption)) hk5 HN4.o);have x5:Ae W5 W4.heap.size [.bool false,.slice none 0 0,.int .i64 0] 82:=hk5.box (HZE.o W4) (fun hf=>absurd (HT4.o.in_ _ hf) (Nat.lt_irrefl _));have c50:=x5.cell (i:=0) rfl;have c51:=x5.cell (i:=1) rfl;have c52:=x5.cell (i:=2) rfl;have f50:=x5.fr 0;have f51:=x5.fr 1;have f52:=x5.fr 2;clear hk5)
     | fail))
  all_goals go_wp2_with fail
  all_goals go_ret2
  all_goals refine ⟨by rw [HAE.o.1,HAE.o.2];rfl,?_⟩
  all_goals first
   | exact Ac HB3.o HB5.o
   | exact Ac HB3.o (Ac HB5.o (Ab _ _))
   | exact Ac HB3.o (((HB5.o.setCell (p:=⟨W3.heap.size,0,none⟩) (Nat.le_refl _) _).setCell (p:=⟨W3.heap.size,1,none⟩) (Nat.le_refl _) _).setCell (p:=⟨W3.heap.size,2,none⟩) (Nat.le_refl _) _)
   | exact Ac HB3.o (((HB5.o.setCell (p:=⟨W4.heap.size,0,none⟩) HB4.o.size _).setCell (p:=⟨W4.heap.size,1,none⟩) HB4.o.size _).setCell (p:=⟨W4.heap.size,2,none⟩) HB4.o.size _)
 ·have HZR:=Aa hz
  have HAE:=Aa (HAS.o.2 hz)
  have hz2:(r.err != 0)=true:=by simpa using hz
  clear hz
  go_region_held3 (fun W'=>Aft W3 W'∧W'.rangeAt xb 0 (Ag m))
   ((refine HC.o _ ?_;first | exact HD.o | exact HB4.o | exact HB5.o | exact Ac (And.left (by assumption)) (Ab _ _) | exact Ac HB5.o (Ab _ _) | exact ((HB5.o.setCell (p:=⟨W3.heap.size,0,none⟩) (Nat.le_refl _) _).setCell (p:=⟨W3.heap.size,1,none⟩) (Nat.le_refl _) _).setCell (p:=⟨W3.heap.size,2,none⟩) (Nat.le_refl _) _ | exact ((HB5.o.setCell (p:=⟨W4.heap.size,0,none⟩) HB4.o.size _).setCell (p:=⟨W4.heap.size,1,none⟩) HB4.o.size _).setCell (p:=⟨W4.heap.size,2,none⟩) HB4.o.size _ | assumption))
   ((first
     | (go_at_call 39;refine (HCP.o ((W3.drew).alloc _) (And.left (by assumption))).mono ?_;rintro e W4 ⟨c',F4,rfl,ht4,hn4,hb4⟩;have HT4:=Aa ht4;have HN4:Hid (∀ b,F4 b→W3.heap.size≤b):=(fun b hb=>(by have:=hn4 b hb;simp at this;omega));have HX4:Hid (Ae W4 W3.heap.size [.bool false,.slice none 0 0,.int .i64 0] 82∧¬ F4 W3.heap.size):=⟨(HZE.o W3.drew).below hb4,fun hf=>Nat.not_succ_le_self _ (by simpa using hn4 _ hf)⟩;have HB4:=Aa (Ac (Ac HD.o (Ab _ _)) hb4);clear ht4 hn4 hb4)
     | (go_at_call 39;refine (HCP.o W3.drew (And.left (by assumption))).mono ?_;rintro e W4 ⟨c',F4,rfl,ht4,hn4,hb4⟩;have HT4:=Aa ht4;have HN4:Hid (∀ b,F4 b→W3.heap.size≤b):=(fun b hb=>(by have:=hn4 b hb;simp at this;omega));have HB4:=Aa (Ac HD.o hb4);clear ht4 hn4 hb4)
     | (go_at_call 59;refine (HRUN.o W4 F4 _ HT4.o).mono ?_;rintro e W5 ⟨F5,hk5,_,hb5'⟩;obtain ⟨rfl,_⟩:=hb5' HZR.o;have HB5:=Aa (Gg (And.left (by assumption)) hk5 HN4.o);have x5:Ae W5 W3.heap.size [.bool false,.slice none 0 0,.int .i64 0] 82:=hk5.box HX4.o.1 HX4.o.2;have c50:=x5.cell (i:=0) rfl;have c51:=x5.cell (i:=1) rfl;have c52:=x5.cell (i:=2) rfl;have f50:=x5.fr 0;have f51:=x5.fr 1;have f52:=x5.fr 2;clear hk5)
     | (go_at_call 59;refine (HRUN.o W4 F4 _ HT4.o).mono ?_;rintro e W5 ⟨F5,hk5,_,hb5'⟩;obtain ⟨rfl,_⟩:=hb5' HZR.o;have HB5:=Aa (Gg (And.left (by assumption)) hk5 HN4.o);clear hk5)
     | (go_at_call 59;refine (HRUN.o (W4.alloc _) F4 _ (HT4.o.below (Ab _ _))).mono ?_;rintro e W5 ⟨F5,hk5,_,hb5'⟩;obtain ⟨rfl,_⟩:=hb5' HZR.o;have HB5:=Aa (Gg (And.left (by assumption)) hk5 HN4.o);have x5:Ae W5 W4.heap.size [.bool false,.slice none 0 0,.int .i64 0] 82:=hk5.box (HZE.o W4) (fun hf=>absurd (HT4.o.in_ _ hf) (Nat.lt_irrefl _));have c50:=x5.cell (i:=0) rfl;have c51:=x5.cell (i:=1) rfl;have c52:=x5.cell (i:=2) rfl;have f50:=x5.fr 0;have f51:=x5.fr 1;have f52:=x5.fr 2;clear hk5)
     | fail))
  all_goals go_wp2_with fail
  all_goals go_ret2
  all_goals refine ⟨by rw [HAE.o.1,HAE.o.2];rfl,?_⟩
  all_goals first
   | exact Ac HB3.o HB5.o
   | exact Ac HB3.o (Ac HB5.o (Ab _ _))
   | exact Ac HB3.o (((HB5.o.setCell (p:=⟨W3.heap.size,0,none⟩) (Nat.le_refl _) _).setCell (p:=⟨W3.heap.size,1,none⟩) (Nat.le_refl _) _).setCell (p:=⟨W3.heap.size,2,none⟩) (Nat.le_refl _) _)
   | exact Ac HB3.o (((HB5.o.setCell (p:=⟨W4.heap.size,0,none⟩) HB4.o.size _).setCell (p:=⟨W4.heap.size,1,none⟩) HB4.o.size _).setCell (p:=⟨W4.heap.size,2,none⟩) HB4.o.size _)
end Go.Dk
end
section
namespace Go.Dk
open Go.RowKit Go.Maps Go.MapKept
open Go.Proofs hiding intOf
theorem Ok.kinds {rows:List ND} (h:Ok rows) {i:Nat} {n:ND} (hi:rows[i]? = some n):1≤n.kind∧n.kind≤5:=by
 have hf:=h.fit i n hi
 unfold fits at hf
 split at hf
 ·omega
 ·split at hf
  ·omega
  ·split at hf
   ·omega
   ·cases hf
def Yo (bs:List Bool):List Value:=bs.map Value.bool
theorem nQ (bs:List Bool) (k:Nat) (b:Bool):(Yo bs).set k (.bool b)=Yo (bs.set k b):=by simp [Yo,List.map_set]
theorem oI:(Tryz.prog.info? 4).map (fun i=>(i.zero,i.size,i.bytes))=some (some (.bool false),1,1):=by kernel_rfl
theorem rS:∃ i,Tryz.prog.info? 4=some i∧i.zero=some (.bool false)∧i.size=1∧i.bytes=1:=by
 obtain ⟨i,hi,h⟩:=Option.map_eq_some_iff.1 oI
 simp only [Prod.mk.injEq] at h
 exact ⟨i,hi,h⟩
structure RowB (w W:World) (n:Nat) (bs:List Bool):Prop where
 own:W.ownsRow w.heap.size 4 1 (.slice (some ⟨w.heap.size,0,none⟩) n n) n (Yo bs)
 bl:Below w.heap.size w W
theorem RowB.cell {w W:World} {n:Nat} {bs:List Bool} (h:RowB w W n bs) {k:Nat} {b:Bool} (hk:bs[k]? = some b) (hn:bs.length=n):W.cell? ⟨w.heap.size,k,none⟩=some (.bool b):=by
 have hl:=(List.getElem?_eq_some_iff.1 hk).1
 rw [h.own.cellAt k (by omega)]
 simp [Yo,hk]
theorem RowB.frozen {w W:World} {n:Nat} {bs:List Bool} (h:RowB w W n bs) (k:Nat):W.frozen? ⟨w.heap.size,k,none⟩=false:=h.own.frozenAt k
theorem _root_.Go.World.ownsRow.alloc2 {w:World} {base:Nat} {e:TypeId} {size:Nat} {v:Value} {n:Nat} {xs:List Value} (h:w.ownsRow base e size v n xs) (o:Obj):(w.alloc o).ownsRow base e size v n xs:=
 h.kept (row:=none) (World.grownBy_alloc w o none) (by cases v.ownBlock<;>simp)
end Go.Dk
end
section
namespace Go.Dk
open Go.RowKit Go.Maps Go.MapKept Go.Shelf
open Go.Proofs hiding intOf
set_option maxRecDepth 100000 in
set_option maxHeartbeats 1000000 in
theorem dG (k:Nat) (ow:Own) (w:World) (t v:Value) (rows:List ND) (h:RTab k ow w t rows) (zs:List Int) (hv:Rd w v zs.length 1 (ints zs)) (hl:zs.length<2 ^ 62) :
  Calls Tryz.prog 35 #[t,v] w fun e w'=>e = .returned (.bool (zs.all fun z=>hasB rows.length z))∧w=w':=by
 have H:=Aa h
 have HV:=Aa hv
 obtain ⟨va,vc,rfl⟩:=hv.slice
 clear h hv
 go_enter Tryz.func35,Tryz.ntmps35
 go_wp2_with fail
 go_loopw [5] (fun u W=>∃ j:Nat,j≤zs.length∧u = .int .i64 (j:Int)∧((zs.take j).all fun z=>hasB rows.length z)=true∧W=w) (fun u _=>zs.length - (intOf u).toNat)
 case atStart=>exact ⟨0,Nat.zero_le _,rfl,by simp,rfl⟩
 case round=>
  obtain ⟨j,hj,rfl,hall,rfl⟩:=hrel
  have HA:=Aa hall
  clear hall
  by_cases hlt:j<zs.length
  ·obtain ⟨b,o,c1,z,he,hc1,hzk⟩:=ints_at HV.o hlt
   cases he
   have HZ:=Aa hzk
   have hji:(j:Int)<(zs.length:Int):=by omega
   clear hzk
   cases hz:hasB rows.length z with
   | true=>
    have HS:=Aa (Vz (p:=fun z=>hasB rows.length z) HZ.o)
    have HZT:=Aa hz
    have HH:=Aa (Bz k ow _ _ rows H.o z)
    rw [hz] at HH
    clear hz
    go_wp2_with (go_at_call 9;refine HH.o.mono ?_;rintro e w2 ⟨rfl,rfl⟩)
    exact ⟨⟨j+1,by omega,by go_num,by rw [HS.o,HA.o,HZT.o];rfl,by first | rfl | trivial⟩,by simp [intOf];omega⟩
   | false=>
    have HH:=Aa (Bz k ow _ _ rows H.o z)
    rw [hz] at HH
    have HR:Hid ((zs.all fun z=>hasB rows.length z)=false):=List.all_eq_false.2 ⟨z,List.mem_of_getElem? HZ.o,by rw [hz];simp⟩
    clear hz
    go_wp2_with (go_at_call 9;refine HH.o.mono ?_;rintro e w2 ⟨rfl,rfl⟩)
    go_ret
    exact ⟨by rw [HR.o];rfl,rfl⟩
  ·obtain rfl:j=zs.length:=by omega
   have hA:=HA.o
   rw [List.take_length] at hA
   have HR:=Aa hA
   clear hA
   go_wp2_with fail
   go_ret
   exact ⟨by rw [HR.o];rfl,rfl⟩
def hbs (rows:List ND) (j:Nat):List Bool:=(List.range rows.length).map fun i=>decide (i<j) && Ee rows i
theorem Uf (rows:List ND) (j:Nat):(hbs rows j).length=rows.length:=by simp [hbs]
theorem cZ {rows:List ND} {i j:Nat} (hi:i<rows.length) (hj:i<j):(hbs rows j)[i]? = some (Ee rows i):=by
 unfold hbs
 rw [List.getElem?_map,List.getElem?_range hi]
 simp [hj]
theorem Up {rows:List ND} {j:Nat} {b:Bool} (hj:j<rows.length) (hb:Ee rows j=b):hbs rows (j+1)=(hbs rows j).set j b:=by
 apply List.ext_getElem?
 intro i
 rw [List.getElem?_set]
 by_cases e:j=i
 ·subst e
  rw [if_pos rfl,if_pos (by rw [Uf];exact hj),cZ hj (Nat.lt_succ_self _),hb]
 ·rw [if_neg e]
  unfold hbs
  rw [List.getElem?_map,List.getElem?_map]
  by_cases hi:i<rows.length
  ·rw [List.getElem?_range hi]
   simp only [Option.map_some]
   congr 2
   simp;omega
  ·rw [List.getElem?_eq_none (by simpa using hi)]
   rfl
theorem rX {rows:List ND} {j:Nat} (hj:j<rows.length) (hb:Ee rows j=false):hbs rows (j+1)=hbs rows j:=by
 rw [Up hj hb]
 apply List.ext_getElem?
 intro i
 rw [List.getElem?_set]
 by_cases e:j=i
 ·subst e
  rw [if_pos rfl,if_pos (by rw [Uf];exact hj)]
  unfold hbs
  rw [List.getElem?_map,List.getElem?_range hj]
  simp
 ·rw [if_neg e]
theorem tI (rows:List ND):hbs rows 0=List.replicate rows.length false:=by
 refine List.eq_replicate_iff.2 ⟨Uf rows 0,fun b hb=>?_⟩
 unfold hbs at hb
 obtain ⟨i,_,rfl⟩:=List.mem_map.1 hb
 simp
theorem RowB.setB {w W:World} {n:Nat} {bs:List Bool} (h:RowB w W n bs) (k:Nat) (b:Bool):RowB w (W.setCell ⟨w.heap.size,k,none⟩ (.bool b)) n (bs.set k b):=by
 have:=h.own.stored k (.bool b)
 rw [nQ] at this
 exact ⟨this.1,h.bl.grown this.2 h.bl.size (by intro g hg;cases hg;exact Nat.le_refl _)⟩
theorem RowB.alloc {w W:World} {n:Nat} {bs:List Bool} (h:RowB w W n bs) (o:Obj):RowB w (W.alloc o) n bs:=
 ⟨h.own.alloc2 o,h.bl.trans ((Ab W o).mono h.bl.size)⟩
set_option maxRecDepth 100000 in
theorem sP (k:Nat) (ow:Own) (w:World) (t:Value) (rows:List ND) (h:RTab k ow w t rows) (i:Int) (hb:hasB rows.length i=false) :
  Calls Tryz.prog 17 #[t,.int .i64 i] w fun e w'=>e = .returned (.tuple #[.bool false,.int .i64 31])∧Below w.heap.size w w':=by
 have HH:=Aa (Bz k ow _ _ rows h i)
 rw [hb] at HH
 clear h hb
 go_enter Tryz.func17,Tryz.ntmps17
 go_wp2_with (go_at_call 9;refine HH.o.mono ?_;rintro e w' ⟨rfl,rfl⟩)
 go_ret2
 exact ⟨rfl,Below.refl _ _⟩
set_option maxRecDepth 100000 in
set_option maxHeartbeats 2000000 in
theorem aQ (k:Nat) (ow:Own) (w:World) (t:Value) (rows:List ND) (h:RTab k ow w t rows) (i:Nat) (hi:i<rows.length) :
  Calls Tryz.prog 17 #[t,.int .i64 (i:Int)] w fun e w'=>e = .returned (.tuple #[.bool (Ee rows i),.int .i64 0])∧Below w.heap.size w w':=by
 have hb:hasB rows.length (i:Int)=true:=by simp [hasB,hi]
 have HH:=Aa (Bz k ow _ _ rows h (i:Int))
 rw [hb] at HH
 clear hb
 have hok:=h.ok
 have hle:=hok.le
 obtain ⟨rb,v,rfl,ht⟩:=h
 obtain ⟨g,c,rfl,hg,_⟩:=ht.hr.get (by omega)
 have c0:w.cell? ⟨rb,0,none⟩=some (.slice (some ⟨g,0,none⟩) rows.length c):=cell_of ht.hp rfl
 obtain ⟨inf,hi1,hi2,hi3,hi4⟩:=rS
 obtain ⟨w1,hmk,hown,hgr⟩:=run_makeSlice_full (P:=Tryz.prog) w w.heap.size 94 4 inf (.bool false) 1 Tryz.underlying94 hi1 hi2 hi3 .i64 .i64 rows.length (by omega) (by rw [hi4];omega) (by unfold maxLen;omega) (Nat.le_refl _)
 have hB1:RowB w w1 rows.length (hbs rows 0):=⟨by
  have:(madeCells (Value.bool false).cells (rows.length * 1)).toList=Yo (hbs rows 0):=by
   rw [show (Value.bool false).cells = #[.bool false] from rfl,toList_madeCells_one]
   rw [tI]
   simp [Yo]
  rw [← this];exact hown,(Below.refl _ _).grown hgr (Nat.le_refl _) (by intro k hk;cases hk)⟩
 have HT:=Aa ht;have HB:=Aa hB1;have HK:=Aa hok
 clear ht hown hgr hB1 hi1 hi2 hi3 hi4 hok
 go_enter Tryz.func17,Tryz.ntmps17
 go_wp2_with (go_at_call 9;refine HH.o.mono ?_;rintro e w' ⟨rfl,rfl⟩)
 clear c0 hmk
 go_loopw [7] (fun u W=>∃ j:Nat,j≤i+1∧u = .int .i64 (j:Int)∧RowB w W rows.length (hbs rows j)) (fun u _=>i+1 - (intOf u).toNat)
 case atStart=>exact ⟨0,Nat.zero_le _,rfl,HB.o⟩
 case round=>
  obtain ⟨j,hj,rfl,hB⟩:=hrel
  have HBJ:=Aa hB
  by_cases hlt:j≤i
  ·have hjl:j<rows.length:=by omega
   obtain ⟨n,hn⟩:∃ n,rows[j]? = some n:=⟨_,List.getElem?_eq_getElem hjl⟩
   obtain ⟨g',c',e,r0,r1,r2,r3,r4⟩:=(HT.o.below hB.bl).row hn
   cases e
   have hle2:(j:Int)≤(i:Int):=by omega
   have hji:(j:Int)<(rows.length:Int):=by omega
   have hkk:=HK.o.kinds hn
   have f1:=(hB.alloc (.cells (ND.cells n).toArray 31)).frozen j
   have hlen:=Uf rows j
   have d1:=(hB.alloc (.cells (ND.cells n).toArray 31)).cell (k:=j) (List.getElem?_eq_getElem (by rw [hlen];exact hjl)) hlen
   by_cases hk:3≤n.kind
   ·have hp:=HK.o.parts hn hk
    obtain ⟨hl,hr⟩:=hp
    have d3:=(hB.alloc (.cells (ND.cells n).toArray 31)).cell (k:=n.l.toNat) (cZ (by omega) (by omega)) hlen
    have d4:=(hB.alloc (.cells (ND.cells n).toArray 31)).cell (k:=n.r.toNat) (cZ (by omega) (by omega)) hlen
    have HA3:Hid (n.kind=3→Ee rows j=(Ee rows n.l.toNat && Ee rows n.r.toNat)):=fun h3=>jA HK.o hn h3
    have HA5:Hid (n.kind=5→Ee rows j=Ee rows n.r.toNat):=fun h5=>jL HK.o hn h5
    have HA4:Hid (n.kind=4→Ee rows j=false):=fun h4=>by rw [Wp HK.o hn (by omega) (by omega),h4];rfl
    have hk3:n.kind=3∨n.kind=4∨n.kind=5:=by omega
    clear hB hn hkk hk
    obtain ⟨kd,nm,l,r⟩:=n
    simp only [ND.cells] at *
    obtain ⟨l,rfl⟩:=Int.eq_ofNat_of_zero_le hl.1
    obtain ⟨r,rfl⟩:=Int.eq_ofNat_of_zero_le hr.1
    simp only [Int.toNat_natCast] at *
    have hl2:(l:Int)<(rows.length:Int):=by omega
    have hr2:(r:Int)<(rows.length:Int):=by omega
    rcases hk3 with rfl | rfl | rfl
    ·have HE:=Aa (Up hjl (HA3.o rfl))
     generalize Ee rows l=bl at *
     generalize Ee rows r=br at *
     cases bl<;>cases br
     all_goals
      as_aux_lemma=>
      go_wp2_with fail
      refine ⟨⟨j+1,by omega,by go_num,?_⟩,by simp [intOf];omega⟩
      rw [HE.o]
      exact (HBJ.o.alloc _).setB j _
    ·have HE:=Aa (rX hjl (HA4.o rfl))
     as_aux_lemma=>
     go_wp2_with fail
     refine ⟨⟨j+1,by omega,by go_num,?_⟩,by simp [intOf];omega⟩
     rw [HE.o]
     exact HBJ.o.alloc _
    ·have HE:=Aa (Up hjl (HA5.o rfl))
     as_aux_lemma=>
     go_wp2_with fail
     refine ⟨⟨j+1,by omega,by go_num,?_⟩,by simp [intOf];omega⟩
     rw [HE.o]
     exact (HBJ.o.alloc _).setB j _
   ·have HE:=Aa (Up hjl (Wp HK.o hn (by omega) (by omega)))
    have hk2:n.kind=1∨n.kind=2:=by omega
    clear hB hn hkk
    obtain ⟨kd,nm,l,r⟩:=n
    simp only [ND.cells] at *
    rcases hk2 with rfl | rfl
    all_goals
     as_aux_lemma=>
     go_wp2_with fail
     refine ⟨⟨j+1,by omega,by go_num,?_⟩,by simp [intOf];omega⟩
     rw [HE.o]
     exact (HBJ.o.alloc _).setB j _
  ·obtain rfl:j=i+1:=by omega
   have d5:=hB.cell (cZ hi (Nat.lt_succ_self i)) (Uf rows (i+1))
   have hii:(i:Int)<(rows.length:Int):=by omega
   clear hB
   go_wp2_with fail
   go_ret2
   exact ⟨rfl,HBJ.o.bl⟩
end Go.Dk
end
section
namespace Go.Dk
open Go.RowKit Go.Maps Go.MapKept Go.Shelf
open Go.Proofs hiding intOf
theorem Ye {rows:List ND} {zs:List Int} {goal:Int} (h:Fa rows (zs++[goal])≠0):Gq rows zs goal=(0,31):=by unfold Gq;rw [if_pos h]
theorem cA {rows:List ND} {zs:List Int} {goal:Int} (h:Fa rows (zs++[goal])=0) (h2:(zs.all fun z=>Ee rows z.toNat)=false):Gq rows zs goal=(0,270):=by
 unfold Gq
 rw [if_neg (by simpa using h)]
 split
 ·rfl
 ·first
   | rfl
   | rw [if_pos h2]
theorem rL {rows:List ND} {zs:List Int} {g:Nat} {n:ND} (h:Fa rows (zs++[(g:Int)])=0) (h2:(zs.all fun z=>Ee rows z.toNat)=true) (hn:rowAt rows g=n):Gq rows zs (g:Int)=if n.kind≠4 then (0,270) else
  if Hf rows (Bi zs) g≠0 then (0,110) else if Gz rows (Bi zs) g=false then (0,2) else if Hf rows (Bi zs) n.l.toNat≠0 then (0,110) else if Gz rows (Bi zs) n.l.toNat=true then (n.l,0) else if Hf rows (Bi zs) n.r.toNat≠0 then (0,110) else (n.r,0):=by
 unfold Gq
 rw [if_neg (by simpa using h),Int.toNat_natCast,hn]
 split
 ·rfl
 ·rw [if_neg (by simp [h2])]
set_option maxRecDepth 100000 in
set_option maxHeartbeats 4000000 in
theorem gG (F:FP) (w:World) (t v:Value) (rows:List ND) (h:Bn F w t rows) (zs:List Int) (hv:Rd w v zs.length 1 (ints zs)) (hl:zs.length<2 ^ 62) (goal:Int) :
  Calls Tryz.prog 18 #[t,v,.int .i64 goal] w (Tz w (Gq rows zs goal)):=by
 have HHS:=Aa (dG 0 _ w t v rows (h.col 0) zs hv hl)
 have HH:=Aa (Bz 0 _ w t rows (h.col 0) goal)
 have HV:=Aa hv
 have hok:=h.ok
 have hle:=hok.le
 cases ha:zs.all fun z=>hasB rows.length z with
 | false=>
  have HP:Hid (Gq rows zs goal=(0,31)):=by
   obtain ⟨z,hz,hb⟩:=List.all_eq_false.1 ha
   obtain ⟨k,hk⟩:=List.getElem?_of_mem (show z ∈ zs++[goal] from List.mem_append_left _ hz)
   exact Ye (by rw [Vo hk (by simpa using hb)];decide)
  rw [ha] at HHS
  clear ha hv h
  as_aux_lemma=>
  go_enter Tryz.func18,Tryz.ntmps18
  go_wp2_with (go_at_call 35;refine HHS.o.mono ?_;rintro e w' ⟨rfl,rfl⟩)
  go_ret2
  exact Cf HP.o (Below.refl _ _)
 | true=>
  rw [ha] at HHS
  cases hg:hasB rows.length goal with
  | false=>
   have HP:Hid (Gq rows zs goal=(0,31)):=by
    obtain ⟨k,hk⟩:=List.getElem?_of_mem (show goal ∈ zs++[goal] from List.mem_append_right _ (by simp))
    exact Ye (by rw [Vo hk hg];decide)
   rw [hg] at HH
   clear ha hg hv h
   as_aux_lemma=>
   go_enter Tryz.func18,Tryz.ntmps18
   go_wp2_with (first
    | (go_at_call 35;refine HHS.o.mono ?_;rintro e w' ⟨rfl,rfl⟩)
    | (go_at_call 9;refine HH.o.mono ?_;rintro e w' ⟨rfl,rfl⟩))
   go_ret2
   exact Cf HP.o (Below.refl _ _)
  | true=>
   rw [hg] at HH
   obtain ⟨g,rfl,hgl⟩:=Dx hg
   have HLK:Hid (Fa rows (zs++[(g:Int)])=0):=Wt (by rw [List.all_append,ha];simpa using hg)
   have HZ:Hid (∀ z ∈ zs,hasB rows.length z=true):=fun z hz=>List.all_eq_true.1 ha z hz
   have HIS:Hid (∀ (W:World) (x:Nat),Below w.heap.size w W→x<rows.length→Calls Tryz.prog 17 #[t,.int .i64 (x:Int)] W fun e w'=>e = .returned (.tuple #[.bool (Ee rows x),.int .i64 0])∧Below W.heap.size W w'):=fun W x hb hx=>aQ 0 _ W t rows ((h.below hb).col 0) x hx
   have HAK:Hid (∀ (W:World) (x:Nat),Below w.heap.size w W→x<rows.length→Calls Tryz.prog 36 #[t,v,.int .i64 (x:Int)] W fun e w'=>e = .returned (.tuple #[.bool (Gz rows (Bi zs) x),.int .i64 (Hf rows (Bi zs) x)])∧Below W.heap.size W w'):=fun W x hb hx=>dM F W t rows (h.below hb) v zs (hv.below hb) hl HZ.o x hx
   obtain ⟨n,hn⟩:∃ n,rowAt rows g=n:=⟨_,rfl⟩
   have HROW:Hid (∀ W,Below w.heap.size w W→∃ pb gb c,t = .pointer (some ⟨pb,0,none⟩)∧RRow W pb gb c rows.length g n):=fun W hb=>by
    obtain ⟨pb,v0,e,hat⟩:=(h.below hb).col 0
    obtain ⟨gb,c,e2,hr⟩:=hat.row (Am hgl)
    rw [hn] at hr
    exact ⟨pb,gb,c,e,hr⟩
   have HPT:Hid (n.kind=4→∃ l r:Nat,n.l=(l:Int)∧n.r=(r:Int)∧l<rows.length∧r<rows.length):=fun h4=>by
    have hr:=Am hgl
    rw [hn] at hr
    have:=hok.parts hr (by omega)
    exact ⟨n.l.toNat,n.r.toNat,by omega,by omega,by omega,by omega⟩
   have HGL:=Aa hgl
   obtain ⟨va,vc,rfl⟩:=hv.slice
   have hgi:(g:Int)<(rows.length:Int):=by omega
   have HDG:Hid ((zs.all fun z=>Ee rows z.toNat)=true→Gq rows zs (g:Int)=if n.kind≠4 then (0,270) else
  if Hf rows (Bi zs) g≠0 then (0,110) else if Gz rows (Bi zs) g=false then (0,2) else if Hf rows (Bi zs) n.l.toNat≠0 then (0,110) else if Gz rows (Bi zs) n.l.toNat=true then (n.l,0) else if Hf rows (Bi zs) n.r.toNat≠0 then (0,110) else (n.r,0)):=fun h2=>rL HLK.o h2 hn
   clear ha hg hv h hn hok
   go_enter Tryz.func18,Tryz.ntmps18
   go_wp2_with (first
    | (go_at_call 35;refine HHS.o.mono ?_;rintro e w' ⟨rfl,rfl⟩)
    | (go_at_call 9;refine HH.o.mono ?_;rintro e w' ⟨rfl,rfl⟩))
   go_loopw [8] (fun u W=>∃ j:Nat,j≤zs.length∧u = .int .i64 (j:Int)∧((zs.take j).all fun z=>Ee rows z.toNat)=true∧Below w.heap.size w W) (fun u _=>zs.length - (intOf u).toNat)
   case atStart=>exact ⟨0,Nat.zero_le _,rfl,by simp,Below.refl _ _⟩
   case round=>
    obtain ⟨j,hj,rfl,hall,hb⟩:=hrel
    have HA:=Aa hall;have HB:=Aa hb
    clear hall hb
    by_cases hlt:j<zs.length
    ·as_aux_lemma=>
     obtain ⟨ib,io,ic,z,he,hc1,hzk⟩:=ints_at (HV.o.below HB.o) hlt
     cases he
     have hji:(j:Int)<(zs.length:Int):=by omega
     obtain ⟨x,rfl,hx⟩:=Dx (HZ.o z (List.mem_of_getElem? hzk))
     have HI:=Aa (HIS.o _ x HB.o hx)
     have HZK:=Aa hzk
     clear hzk
     cases hh:Ee rows x with
     | true=>
      rw [hh] at HI
      have HS:=Aa (Vz (p:=fun z:Int=>Ee rows z.toNat) HZK.o)
      rw [Int.toNat_natCast,hh] at HS
      clear hh
      go_wp2_with (go_at_call 17;refine HI.o.mono ?_;rintro e w2 ⟨rfl,hb2⟩;have HB2:=Aa (Ac HB.o hb2);clear hb2)
      exact ⟨⟨j+1,by omega,by go_num,by rw [HS.o,HA.o];rfl,HB2.o⟩,by simp [intOf];omega⟩
     | false=>
      rw [hh] at HI
      have HP:Hid (Gq rows zs (g:Int)=(0,270)):=cA HLK.o (List.all_eq_false.2 ⟨_,List.mem_of_getElem? HZK.o,by simp [hh]⟩)
      clear hh
      go_wp2_with (go_at_call 17;refine HI.o.mono ?_;rintro e w2 ⟨rfl,hb2⟩;have HB2:=Aa (Ac HB.o hb2);clear hb2)
      go_ret2
      exact Cf HP.o HB2.o
    ·obtain rfl:j=zs.length:=by omega
     have hA:=HA.o
     rw [List.take_length] at hA
     have HD:=Aa (HDG.o hA)
     obtain ⟨pb,gb,c,rfl,hrr⟩:=HROW.o _ HB.o
     have c0:=hrr.cp;have d0:=hrr.d0;have d1:=hrr.d1;have d2:=hrr.d2;have d3:=hrr.d3
     have hnn:¬ (zs.length:Int)<(zs.length:Int):=Int.lt_irrefl _
     clear hA hrr HDG HROW
     obtain ⟨kd,nm,l,r⟩:=n
     simp only at *
     by_cases h4:kd=4
     case neg=>
      have hk4:(kd != 4)=true:=by simpa using h4
      have HP:=Aa (HD.o.trans (if_pos h4))
      clear h4
      as_aux_lemma=>
      go_wp2_with fail
      go_ret2
      exact Cf HP.o (Ac HB.o (Ab _ _))
     case pos=>
      have hk4:(kd != 4)=false:=by simpa using h4
      obtain ⟨l,r,rfl,rfl,hll,hrl⟩:=HPT.o h4
      have HP:=Aa (HD.o.trans (if_neg (by simpa using h4)))
      rw [Int.toNat_natCast,Int.toNat_natCast] at HP
      have HL2:Hid (l<rows.length∧r<rows.length):=⟨hll,hrl⟩
      have HX0:=Aa (Ae.new wr [.int .i64 kd,.string nm,.int .i64 (l:Int),.int .i64 (r:Int)] 31)
      have HB1:=Aa (Ac HB.o (Ab wr (.cells #[.int .i64 kd,.string nm,.int .i64 (l:Int),.int .i64 (r:Int)] 31)))
      clear h4 hll hrl HPT HD
      go_wp2_with fail
      refine (HAK.o _ g HB1.o HGL.o).mono ?_
      rintro e w5 ⟨rfl,hb5⟩
      have HB5:=Aa (Ac HB1.o hb5)
      have HX5:=Aa (HX0.o.below hb5)
      have x2:w5.cell? ⟨wr.heap.size,2,none⟩=some (.int .i64 (l:Int)):=HX5.o.cell rfl
      have x3:w5.cell? ⟨wr.heap.size,3,none⟩=some (.int .i64 (r:Int)):=HX5.o.cell rfl
      clear hb5 c0 d0 d1 d2 d3
      rcases Gl rows (Bi zs) g with he0 | he0
      case inr=>
       rw [he0]
       have HP2:=Aa (HP.o.trans (if_pos (by rw [he0];decide)))
       clear he0
       as_aux_lemma=>
       go_wp2_with fail
       go_ret2
       exact Cf HP2.o HB5.o
      rw [he0]
      have HP2:=Aa (HP.o.trans (if_neg (by rw [he0];decide)))
      clear he0
      cases hb0:Gz rows (Bi zs) g with
      | false=>
       have HP3:=Aa (HP2.o.trans (if_pos hb0))
       clear hb0
       as_aux_lemma=>
       go_wp2_with fail
       go_ret2
       exact Cf HP3.o HB5.o
      | true=>
       have HP3:=Aa (HP2.o.trans (if_neg (by rw [hb0];decide)))
       clear hb0
       go_wp2_with fail
       refine (HAK.o _ l HB5.o HL2.o.1).mono ?_
       rintro e w6 ⟨rfl,hb6⟩
       have HB6:=Aa (Ac HB5.o hb6)
       have y2:w6.cell? ⟨wr.heap.size,2,none⟩=some (.int .i64 (l:Int)):=(HX5.o.below hb6).cell rfl
       have y3:w6.cell? ⟨wr.heap.size,3,none⟩=some (.int .i64 (r:Int)):=(HX5.o.below hb6).cell rfl
       have HX6:=Aa (HX5.o.below hb6)
       clear hb6 x2 x3
       rcases Gl rows (Bi zs) l with he1 | he1
       case inr=>
        rw [he1]
        have HP4:=Aa (HP3.o.trans (if_pos (by rw [he1];decide)))
        clear he1
        as_aux_lemma=>
        go_wp2_with fail
        go_ret2
        exact Cf HP4.o HB6.o
       rw [he1]
       have HP4:=Aa (HP3.o.trans (if_neg (by rw [he1];decide)))
       clear he1
       cases hb1:Gz rows (Bi zs) l with
       | true=>
        have HP5:=Aa (HP4.o.trans (if_pos hb1))
        clear hb1
        as_aux_lemma=>
        go_wp2_with fail
        go_ret2
        exact Cf HP5.o HB6.o
       | false=>
        have HP5:=Aa (HP4.o.trans (if_neg (by rw [hb1];decide)))
        clear hb1
        go_wp2_with fail
        refine (HAK.o _ r HB6.o HL2.o.2).mono ?_
        rintro e w7 ⟨rfl,hb7⟩
        have HB7:=Aa (Ac HB6.o hb7)
        have z3:w7.cell? ⟨wr.heap.size,3,none⟩=some (.int .i64 (r:Int)):=(HX6.o.below hb7).cell rfl
        clear hb7 y2 y3
        rcases Gl rows (Bi zs) r with he2 | he2
        ·rw [he2]
         have HP6:=Aa (HP5.o.trans (if_neg (by rw [he2];decide)))
         clear he2
         as_aux_lemma=>
         go_wp2_with fail
         go_ret2
         exact Cf HP6.o HB7.o
        ·rw [he2]
         have HP6:=Aa (HP5.o.trans (if_pos (by rw [he2];decide)))
         clear he2
         as_aux_lemma=>
         go_wp2_with fail
         go_ret2
         exact Cf HP6.o HB7.o
end Go.Dk
end
section
namespace Go.Dk
def h27:List ND:=[⟨1,⟨#[112]⟩,0,0⟩,⟨1,⟨#[113]⟩,0,0⟩,⟨2,⟨#[]⟩,0,0⟩,⟨4,⟨#[]⟩,0,1⟩,⟨5,⟨#[]⟩,0,3⟩,⟨5,⟨#[]⟩,0,2⟩,⟨4,⟨#[]⟩,0,5⟩]
def v27:List ND:=h27++[⟨4,⟨#[]⟩,1,0⟩,⟨5,⟨#[]⟩,5,7⟩,⟨5,⟨#[]⟩,5,0⟩,⟨5,⟨#[]⟩,5,1⟩]
set_option maxRecDepth 100000
theorem vI:isP h27 5=(true,0):=by kernel_rfl
theorem wQ:isP h27 4=(false,0):=by kernel_rfl
theorem yD:Gq h27 [0] 3=(0,0):=by kernel_rfl
theorem yQ:Gq h27 [3] 3=(0,270):=by kernel_rfl
theorem xK:Gq h27 [] 6=(0,2):=by kernel_rfl
theorem xW:aN h27 [0] [2] 1 5=(2,0):=by kernel_rfl
theorem xR:Ej h27 [0] [2] 1 0=⟨v27,8,[9,10,9],0⟩:=by kernel_rfl
theorem nA {rows:List ND} {i:Nat} {l:List Nat} (hs:l=(List.range (i+1)).filter (fun j=>decide (j ∈ l))) (h:∀ j,Reach rows i j↔j ∈ l):below rows i=l:=by
 have:below rows i=(List.range (i+1)).filter (fun j=>decide (j ∈ l)):=by
  unfold below
  congr 1
  funext j
  simp [h]
 rw [this,← hs]
theorem Wv {rows:List ND} {i:Nat} {n:ND} (hn:rows[i]? = some n) (hk:n.kind<3) (j:Nat):Reach rows i j↔j=i:=by
 constructor
 ·intro h
  cases h with
  | refl=>rfl
  | left hi hk2 _=>rw [hn] at hi;cases hi;omega
  | right hi hk2 _=>rw [hn] at hi;cases hi;omega
 ·rintro rfl;exact .refl _
def vY:List HY:=[⟨⟨#[113]⟩,5⟩]
theorem xG:below v27 1 = [1]:=by
 refine nA (by decide) fun j=>?_
 rw [Wv (n:=⟨1,⟨#[113]⟩,0,0⟩) rfl (by decide)]
 simp
theorem xJ:below v27 0 = [0]:=by
 refine nA (by decide) fun j=>?_
 rw [Wv (n:=⟨1,⟨#[112]⟩,0,0⟩) rfl (by decide)]
 simp
theorem xY:Eh v27 1 vY=⟨v27,5,0⟩:=by
 unfold Eh
 rw [if_neg (by decide),if_neg (by decide),if_neg (by decide)]
 unfold Iw
 rw [show Int.toNat 1=1 from rfl,xG]
 kernel_rfl
theorem yO:Eh v27 0 vY=⟨v27,0,0⟩:=by
 unfold Eh
 rw [if_neg (by decide),if_neg (by decide),if_neg (by decide)]
 unfold Iw
 rw [show Int.toNat 0=0 from rfl,xJ]
 kernel_rfl
theorem zF:Hf v27 [] 5=0∧Gz v27 [] 5=false:=by
 constructor<;>kernel_rfl
theorem zA:Sm v27 1 0 vY=(false,0):=by
 have h:=zF
 unfold Sm
 rw [xY]
 simp only
 rw [yO]
 simp only [show (5:Int).toNat=5 from rfl,h.1,h.2]
 rfl
end Go.Dk
end
section
namespace Go.Dk
open Go.RowKit Go.Maps Go.MapKept
open Go.Proofs hiding intOf
structure Pair (ow:Own) (w:World) (t r:Value) (xs ys:List ND):Prop where
 t:Tab 1 ow w t xs
 r:RTab 2 ow w r ys
def tG (w:World) (rows:List ND) (e:Ending) (w':World):Prop:=
 Below w.heap.size w w'∧(Hw [] rows≠0→e = .returned (.tuple #[.pointer none,.pointer none,.bool false])) ∧
  (Hw [] rows=0→∃ t r ow',e = .returned (.tuple #[t,r,.bool true])∧Pair ow' w' t r rows rows∧∀ b,b<w.heap.size→ow' b=0)
set_option maxRecDepth 100000 in
set_option maxHeartbeats 800000 in
theorem both_any (w:World) (v:Value) (rows:List ND) (hn:∀ n ∈ rows,n.name.size≤maxLen) (hr:Rd w v rows.length 4 (As rows)) (hm:rows.length≤maxLen) (hl:rows.length * 40≤140737488355328) :
  Calls Tryz.prog 8 #[v] w (tG w rows):=by
 have HR:=Aa hr
 have HN:=Aa hn
 obtain ⟨a,c,rfl⟩:=hr.slice
 clear hr hn
 unfold maxLen at hm
 by_cases h0:Hw [] rows=0
 ·have H0:=Aa h0
  clear h0
  go_enter Tryz.func8,Tryz.ntmps8
  go_wp2_with (first
   | (at_builtin;refine By rfl (.tmp 10) (.tmp 11) 22 rfl w.heap.size 31 _ 4 40 Tryz.underlying22 Mc rfl (by decide) (by decide) _ 0 [] rfl (World.ownsRow_made w _ 0 (Nat.le_refl _) (by decide) (by simp)) _ rows.length (As rows) rfl (HR.o.below (Ab _ _)) (Og rows) (by omega) (by simp) ?_;intro v1 w1 hown hgrow hat hnil;simp only [Nat.zero_add,List.nil_append] at hown;have HB1:Hid (Below w.heap.size w w1):=((Below.refl _ _).alloc (Nat.le_refl _) _).grown hgrow (by simp) (by intro k hk;cases hk;exact Nat.le_refl _);have HO1:=Aa hown;clear hown hgrow hat hnil)
   | (go_at_call 23;refine (Ww 2 (fun _=>0) w1 _ rows HN.o (HR.o.below HB1.o) (by unfold maxLen;omega)).mono ?_;rintro e w2 ⟨r,he,hb2,ht2,_⟩;rw [H0.o] at he;subst he;obtain ⟨ow2,hk2,ht2⟩:=ht2 H0.o;have HT2:=Aa ht2;have HK2:=Aa hk2;have HB12:=Aa hb2;clear ht2 hk2;have HB2:Hid (Below w.heap.size w w2):=HB1.o.trans (hb2.mono HB1.o.size);clear hb2)
   | (go_at_call 24;refine (fU 1 ow2 w2 v1 rows HN.o ((Hv HO1.o).below HB12.o) (by unfold maxLen;omega)).mono ?_;rintro e w3 ⟨t,he,hb3,ht3,_⟩;rw [H0.o] at he;subst he;obtain ⟨ow3,hk3,ht3⟩:=ht3 H0.o;have HT3:=Aa ht3;have HK3:=Aa hk3;clear ht3 hk3;have HB3:Hid (Below w.heap.size w w3):=HB2.o.trans (hb3.mono HB2.o.size);clear hb3)
   | fail)
  go_ret3
  exact ⟨HB3.o,fun h=>absurd H0.o h,fun _=>⟨_,_,ow3,rfl,⟨HT3.o,HT2.o.kept HK3.o (by decide)⟩,fun b hb=>(HK3.o.own b (Nat.lt_of_lt_of_le hb HB2.o.size)).trans (HK2.o.own b (Nat.lt_of_lt_of_le hb HB1.o.size))⟩⟩
 ·have hb0:(Hw [] rows != 0)=true:=by simpa using h0
  have H0:=Aa h0
  clear h0
  go_enter Tryz.func8,Tryz.ntmps8
  go_wp2_with (first
   | (at_builtin;refine By rfl (.tmp 10) (.tmp 11) 22 rfl w.heap.size 31 _ 4 40 Tryz.underlying22 Mc rfl (by decide) (by decide) _ 0 [] rfl (World.ownsRow_made w _ 0 (Nat.le_refl _) (by decide) (by simp)) _ rows.length (As rows) rfl (HR.o.below (Ab _ _)) (Og rows) (by omega) (by simp) ?_;intro v1 w1 hown hgrow hat hnil;have HB1:Hid (Below w.heap.size w w1):=((Below.refl _ _).alloc (Nat.le_refl _) _).grown hgrow (by simp) (by intro k hk;cases hk;exact Nat.le_refl _);clear hown hgrow hat hnil)
   | (go_at_call 23;refine (Ww 2 (fun _=>0) w1 _ rows HN.o (HR.o.below HB1.o) (by unfold maxLen;omega)).mono ?_;rintro e w2 ⟨r,rfl,hb2,_,ht2⟩;have HB2:Hid (Below w.heap.size w w2):=HB1.o.trans (hb2.mono HB1.o.size);clear hb2)
   | fail)
  go_ret3
  exact ⟨HB2.o,fun _=>rfl,fun h=>absurd h H0.o⟩
end Go.Dk
end
