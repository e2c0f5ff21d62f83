/- Parts of the proof: Ve. -/
import Derived.Test.YthhokkfcdbcllaaGreatDoorR01
import Derived.Test.YthhokkfcdbcllaaGreatDoorR02
import Derived.Test.YthhokkfcdbcllaaGreatDoorR03
import Derived.Test.YthhokkfcdbcllaaGreatDoorR04
import Derived.Test.YthhokkfcdbcllaaGreatDoorR05
import Derived.Test.YthhokkfcdbcllaaGreatDoorR06
import Derived.Test.YthhokkfcdbcllaaGreatDoorR07
import Derived.Test.YthhokkfcdbcllaaGreatDoorR08
import Derived.Test.YthhokkfcdbcllaaGreatDoorR09
import Derived.Test.YthhokkfcdbcllaaGreatDoorR10
import Derived.Test.YthhokkfcdbcllaaGreatDoorR11
import Derived.Test.YthhokkfcdbcllaaGreatDoorR12
import Derived.Test.YthhokkfcdbcllaaGreatDoorR15
section
namespace Go.Dk
open Go.RowKit Go.Maps Go.MapKept
open Go.Proofs hiding intOf
def Bn (F:FP) (w:World) (t:Value) (rows:List ND):Prop:=F.in_ w∧∃ k ow,RTab k ow w t rows∧∀ b,b<w.heap.size→ow b=k→F b
theorem Bn.in_ {F:FP} {w:World} {t:Value} {rows:List ND} (h:Bn F w t rows):F.in_ w:=h.1
theorem Bn.ok {F:FP} {w:World} {t:Value} {rows:List ND} (h:Bn F w t rows):Ok rows:=by
 obtain ⟨_,k,ow,h,_⟩:=h
 exact h.ok
theorem RTab.recLt {k k2:Nat} {ow ow2:Own} {w:World} {t:Value} {rows:List ND} (h:RTab k ow w t rows) (hc:∀ b,b<w.heap.size→ow b=k→ow2 b=k2):RTab k2 ow2 w t rows:=by
 obtain ⟨rb,v,rfl,h⟩:=h
 exact ⟨rb,v,rfl,h.hp,h.hr,h.ok,hc _ (lt_of_block h.hp) h.cp,fun g hg=>hc _ (h.hr.lt hg) (h.cr g hg)⟩
theorem Bn.col {F:FP} {w:World} {t:Value} {rows:List ND} (h:Bn F w t rows) (k:Nat):RTab k (Vi F k) w t rows:=by
 obtain ⟨_,k0,ow,h,hc⟩:=h
 exact h.recLt (fun b hb e=>gR (hc b hb e))
theorem Bn.of_tab {k:Nat} {ow:Own} {w:World} {t:Value} {rows:List ND} (h:RTab k ow w t rows):Bn (fun b=>b<w.heap.size∧ow b=k) w t rows:=
 ⟨fun _ hb=>hb.1,k,ow,h,fun _ hb e=>⟨hb,e⟩⟩
theorem Bn.below {F:FP} {w w':World} {t:Value} {rows:List ND} (h:Bn F w t rows) (hb:Below w.heap.size w w'):Bn F w' t rows:=
 ⟨h.1.below hb,0,_,(h.col 0).below hb,fun _ _ e=>Ik.1 e⟩
theorem Bn.kept {F G G':FP} {w w':World} {t:Value} {rows:List ND} (h:Bn F w t rows) (hk:KeptF G w G' w') (ha:F.apart G):Bn F w' t rows:=by
 refine ⟨fun b hf=>Nat.lt_of_lt_of_le (h.1 b hf) hk.size,0,_,(h.col 0).kept (c:=1) (ow':=Vi F 0) ⟨hk.os,hk.tape,hk.output,hk.size,fun _ _=>rfl,fun b hb hn=>hk.block b hb fun hg=>hn (mX fun hf=>ha b hf hg)⟩ (by decide),fun _ _ e=>Ik.1 e⟩
theorem Bn.lift {P:Program} {fid:FuncId} {args:Array Value} {F:FP} {w:World} {t:Value} {rows:List ND} (h:Bn F w t rows) {E:Ending→Prop} {rows':List ND}
  (hc:∀ k ow,RTab k ow w t rows→Calls P fid args w fun e w'=>E e∧∃ ow',Kept k ow w ow' w'∧RTab k ow' w' t rows') :
  Calls P fid args w fun e w'=>E e∧∃ F',KeptF F w F' w'∧Bn F' w' t rows':=by
 refine (hc 0 _ (h.col 0)).mono ?_
 rintro e w' ⟨he,ow',hk,ht⟩
 exact ⟨he,fun b=>b<w'.heap.size∧ow' b=0,⟨hk.os,hk.tape,hk.output,hk.size,fun b hb hf=>Ik.1 ((hk.own b hb).symm.trans hf.2),fun b hf=>hf.1,fun b hb hn=>hk.block b hb fun e=>hn (Ik.1 e)⟩,fun b hf=>hf.1,0,ow',ht,fun b hb e=>⟨hb,e⟩⟩
theorem Bn.read {P:Program} {fid:FuncId} {args:Array Value} {F:FP} {w:World} {t:Value} {rows:List ND} (h:Bn F w t rows) {Q:Ending→World→Prop}
  (hc:∀ k ow,RTab k ow w t rows→Calls P fid args w Q):Calls P fid args w Q:=by
 obtain ⟨_,k,ow,h,_⟩:=h
 exact hc k ow h
def jD (F:FP) (w:World) (t:Value) (p:Put) (e:Ending) (w':World):Prop:=
 e = .returned (.tuple #[.int .i64 p.id,.int .i64 p.err])∧∃ F',KeptF F w F' w'∧Bn F' w' t p.rows
theorem Uw {F:FP} {w:World} {t:Value} {rows:List ND} (h:Bn F w t rows) (a b:Int):Calls Tryz.prog 61 #[t,.int .i64 a,.int .i64 b] w (jD F w t (put rows ⟨5,⟨#[]⟩,a,b⟩)):=
 h.lift fun k ow ht=>kU k ow w t rows ht a b
theorem AI {F:FP} {w:World} {t:Value} {rows:List ND} (h:Bn F w t rows) (kd a b:Int):Calls Tryz.prog 63 #[t,.int .i64 kd,.int .i64 a,.int .i64 b] w (jD F w t (put rows ⟨kd,⟨#[]⟩,a,b⟩)):=
 h.lift fun k ow ht=>mF k ow w t rows ht kd a b
theorem BH {F:FP} {w:World} {t:Value} {rows:List ND} (h:Bn F w t rows):Calls Tryz.prog 62 #[t] w (jD F w t (put rows ⟨2,⟨#[]⟩,0,0⟩)):=
 h.lift fun k ow ht=>AO k ow w t rows ht
theorem iF {F:FP} {w:World} {t:Value} {rows:List ND} (h:Bn F w t rows) (n:Int):Calls Tryz.prog 41 #[t,.int .i64 n] w fun e w'=>e = .returned (.int .i64 (Rz rows n).1)∧∃ F',KeptF F w F' w'∧Bn F' w' t (Rz rows n).2:=
 h.lift fun k ow ht=>lR k ow w t rows ht n
end Go.Dk
end
