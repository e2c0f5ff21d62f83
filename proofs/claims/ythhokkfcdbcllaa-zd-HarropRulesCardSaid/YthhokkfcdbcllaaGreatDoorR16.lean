/- Parts of the proof: Vf, Vb, Vc, Vw, Vd, Vg, Vh, Vi, Vj. -/
import Derived.Test.YthhokkfcdbcllaaGreatDoorR01
import Derived.Test.YthhokkfcdbcllaaGreatDoorR02
import Derived.Test.YthhokkfcdbcllaaGreatDoorR03
import Derived.Test.YthhokkfcdbcllaaGreatDoorR04
import Derived.Test.YthhokkfcdbcllaaGreatDoorR05
import Derived.Test.YthhokkfcdbcllaaGreatDoorR06
import Derived.Test.YthhokkfcdbcllaaGreatDoorR07
import Derived.Test.YthhokkfcdbcllaaGreatDoorR08
import Derived.Test.YthhokkfcdbcllaaGreatDoorR09
import Derived.Test.YthhokkfcdbcllaaGreatDoorR10
import Derived.Test.YthhokkfcdbcllaaGreatDoorR11
import Derived.Test.YthhokkfcdbcllaaGreatDoorR12
import Derived.Test.YthhokkfcdbcllaaGreatDoorR15
import Derived.Test.YthhokkfcdbcllaaGreatDoorR23
section
namespace Go.Dk
open Go.RowKit Go.Maps Go.MapKept
open Go.Proofs hiding intOf
structure Imps9 where
 x:Int
 y:Int
 err:Int
 rows:List ND
def Le (rows:List ND) (a b c d:Int):Imps9:=
 if (put rows ⟨5,⟨#[]⟩,a,b⟩).err≠0 then ⟨0,0,(put rows ⟨5,⟨#[]⟩,a,b⟩).err,(put rows ⟨5,⟨#[]⟩,a,b⟩).rows⟩
 else if (put (put rows ⟨5,⟨#[]⟩,a,b⟩).rows ⟨5,⟨#[]⟩,if c<0 then (put rows ⟨5,⟨#[]⟩,a,b⟩).id else c,if d<0 then (put rows ⟨5,⟨#[]⟩,a,b⟩).id else d⟩).err≠0 then
  ⟨0,0,(put (put rows ⟨5,⟨#[]⟩,a,b⟩).rows ⟨5,⟨#[]⟩,if c<0 then (put rows ⟨5,⟨#[]⟩,a,b⟩).id else c,if d<0 then (put rows ⟨5,⟨#[]⟩,a,b⟩).id else d⟩).err,rows⟩
 else ⟨(put rows ⟨5,⟨#[]⟩,a,b⟩).id,(put (put rows ⟨5,⟨#[]⟩,a,b⟩).rows ⟨5,⟨#[]⟩,if c<0 then (put rows ⟨5,⟨#[]⟩,a,b⟩).id else c,if d<0 then (put rows ⟨5,⟨#[]⟩,a,b⟩).id else d⟩).id,0,
  (put (put rows ⟨5,⟨#[]⟩,a,b⟩).rows ⟨5,⟨#[]⟩,if c<0 then (put rows ⟨5,⟨#[]⟩,a,b⟩).id else c,if d<0 then (put rows ⟨5,⟨#[]⟩,a,b⟩).id else d⟩).rows⟩
def Wa (F:FP) (w:World) (t:Value) (r:Imps9) (e:Ending) (w':World):Prop:=
 e = .returned (.tuple #[.int .i64 r.x,.int .i64 r.y,.int .i64 r.err])∧∃ F',KeptF F w F' w'∧Bn F' w' t r.rows
set_option maxRecDepth 100000 in
set_option maxHeartbeats 2000000 in
theorem Ln (F:FP) (w:World) (t:Value) (rows:List ND) (h:Bn F w t rows) (a b c d:Int):Calls Tryz.prog 123 #[t,.int .i64 a,.int .i64 b,.int .i64 c,.int .i64 d] w (Wa F w t (Le rows a b c d)):=by
 obtain ⟨pb,v,rfl,hat⟩:=h.col 0
 obtain ⟨va,vc,rfl⟩:=hat.hr.slice
 have c0:w.cell? ⟨pb,0,none⟩=some (.slice va rows.length vc):=cell_of hat.hp rfl
 have H1:=Aa (Uw h a b)
 have HP2:Hid (∀ W F1 c d,Bn F1 W (.pointer (some ⟨pb,0,none⟩)) (put rows ⟨5,⟨#[]⟩,a,b⟩).rows→Calls Tryz.prog 61 #[.pointer (some ⟨pb,0,none⟩),.int .i64 c,.int .i64 d] W (jD F1 W (.pointer (some ⟨pb,0,none⟩)) (put (put rows ⟨5,⟨#[]⟩,a,b⟩).rows ⟨5,⟨#[]⟩,c,d⟩))):=fun W F1 c d ht=>Uw ht c d
 clear h hat
 unfold Le
 have HPF:=Aa (Dl rows ⟨5,⟨#[]⟩,a,b⟩)
 generalize put rows ⟨5,⟨#[]⟩,a,b⟩=p at *
 by_cases hz:p.err=0
 ·have z1:¬ p.err≠0:=by simpa using hz
  rw [if_neg z1]
  clear z1
  obtain ⟨prows,pid,perr⟩:=p
  simp only at hz
  subst hz
  simp only at HP2 HPF ⊢
  obtain ⟨c',hc'⟩:∃ x,(if c<0 then pid else c)=x:=⟨_,rfl⟩
  obtain ⟨d',hd'⟩:∃ x,(if d<0 then pid else d)=x:=⟨_,rfl⟩
  rw [hc',hd']
  have HP3:Hid (∀ W F1,Bn F1 W (.pointer (some ⟨pb,0,none⟩)) prows→Calls Tryz.prog 61 #[.pointer (some ⟨pb,0,none⟩),.int .i64 c',.int .i64 d'] W (jD F1 W (.pointer (some ⟨pb,0,none⟩)) (put prows ⟨5,⟨#[]⟩,c',d'⟩))):=fun W F1 ht=>HP2.o W F1 c' d' ht
  have HCU:Hid (∀ W F1 rows1,rows <+: rows1→Bn F1 W (.pointer (some ⟨pb,0,none⟩)) rows1→Calls Tryz.prog 41 #[.pointer (some ⟨pb,0,none⟩),.int .i64 (rows.length:Int)] W fun e w'=>e = .returned (.int .i64 (Rz rows1 (rows.length:Int)).1)∧∃ F',KeptF F1 W F' w'∧Bn F' w' (.pointer (some ⟨pb,0,none⟩)) rows):=fun W F1 rows1 hp ht=>by
   have:=iF ht (rows.length:Int)
   rwa [Oq hp] at this
  have HPF2:=Aa (HPF.o.trans (Dl prows ⟨5,⟨#[]⟩,c',d'⟩))
  generalize put prows ⟨5,⟨#[]⟩,c',d'⟩=q at *
  clear HP2 HPF
  have fin:Calls Tryz.prog 123 #[.pointer (some ⟨pb,0,none⟩),.int .i64 a,.int .i64 b,.int .i64 c,.int .i64 d] w (Wa F w (.pointer (some ⟨pb,0,none⟩)) (if q.err≠0 then ⟨0,0,q.err,rows⟩ else ⟨pid,q.id,0,q.rows⟩)):=by
   by_cases hq:q.err=0
   ·have z2:¬ q.err≠0:=by simpa using hq
    rw [if_neg z2]
    clear z2 HCU HPF2
    by_cases h1:c<0<;>by_cases h2:d<0<;>simp only [h1,h2,if_true,if_false] at hc' hd'<;>subst hc' hd'
    all_goals
     as_aux_lemma=>
     go_enter Tryz.func123,Tryz.ntmps123
     go_wp2_with fail
     refine H1.o.mono ?_
     rintro e w1 ⟨rfl,F1,hk1,ht1⟩
     have HK1:=Aa hk1;have HT1:=Aa ht1
     clear hk1 ht1 H1
     go_wp2_with (go_at_call 61;refine (HP3.o _ _ HT1.o).mono ?_;clear HP3;rintro e w2 ⟨rfl,F2,hk2,ht2⟩;have HK2:=Aa (HK1.o.trans hk2);have HT2:=Aa ht2;clear hk2 ht2)
     go_ret3
     exact ⟨rfl,F2,HK2.o,HT2.o⟩
   ·rw [if_pos hq]
    by_cases h1:c<0<;>by_cases h2:d<0<;>simp only [h1,h2,if_true,if_false] at hc' hd'<;>subst hc' hd'
    all_goals
     as_aux_lemma=>
     go_enter Tryz.func123,Tryz.ntmps123
     go_wp2_with fail
     refine H1.o.mono ?_
     rintro e w1 ⟨rfl,F1,hk1,ht1⟩
     have HK1:=Aa hk1;have HT1:=Aa ht1
     clear hk1 ht1 H1
     go_wp2_with (first
      | (go_at_call 61;refine (HP3.o _ _ HT1.o).mono ?_;clear HP3;rintro e w2 ⟨rfl,F2,hk2,ht2⟩;have HK2:=Aa (HK1.o.trans hk2);have HT2:=Aa ht2;clear hk2 ht2)
      | (go_at_call 41;refine (HCU.o _ _ _ HPF2.o HT2.o).mono ?_;clear HCU;rintro e w3 ⟨rfl,F3,hk3,ht3⟩;have HK3:=Aa (HK2.o.trans hk3);have HT3:=Aa ht3;clear hk3 ht3))
     go_ret3
     exact ⟨rfl,F3,HK3.o,HT3.o⟩
  exact fin
 ·rw [if_pos hz]
  go_enter Tryz.func123,Tryz.ntmps123
  go_wp2_with (go_at_call 61;refine H1.o.mono ?_;rintro e w1 ⟨rfl,hq⟩;have HQ:=Aa hq;clear hq)
  go_ret3
  exact ⟨rfl,HQ.o⟩
end Go.Dk
end
section
namespace Go.Dk
open Go.RowKit Go.Maps Go.MapKept
open Go.Proofs hiding intOf
def Ed (m:Nat) (z:Int):Bool:=decide (0≤z) && decide (z<1024) && m.testBit z.toNat
set_option maxRecDepth 100000 in
theorem Dj (w:World) (m:Nat) (z:Int):Calls Tryz.prog 117 #[.agg (Ag m).toArray,.int .i64 z] w fun e w'=>e = .returned (.bool (Ed m z))∧Below w.heap.size w w':=by
 by_cases h0:z<0
 ·have hP:Hid (Ed m z=false):=by unfold Hid Ed;simp;omega
  rw [hP.o]
  go_enter Tryz.func117,Tryz.ntmps117
  go_wp2
  go_ret
  exact ⟨rfl,Ab _ _⟩
 ·by_cases h1:z<1024
  ·obtain ⟨n,rfl⟩:=Int.eq_ofNat_of_zero_le (by omega:0≤z)
   have hn:n<1024:=by omega
   have hP:Hid (Ed m n=m.testBit n):=by unfold Hid Ed;simp;omega
   rw [hP.o]
   have hb:=Es m (i:=n / 64) (by omega)
   have hc:(w.alloc (.cells (Ag m).toArray 77)).cell? ⟨w.heap.size,n / 64,none⟩=some (.int .u64 (wd m (n / 64):Int)):=by
    rw [World.cell?_alloc_at _ _ _ _ rfl]
    simpa using hb
   clear hb
   have h2:(0:Int)≤(n:Int):=by omega
   go_enter Tryz.func117,Tryz.ntmps117
   go_wp2
   go_ret
   exact ⟨Ce iJ,Ab _ _⟩
  ·have hP:Hid (Ed m z=false):=by unfold Hid Ed;simp;omega
   rw [hP.o]
   go_enter Tryz.func117,Tryz.ntmps117
   go_wp2
   go_ret
   exact ⟨rfl,Ab _ _⟩
end Go.Dk
end
section
namespace Go.Dk
open Go.RowKit Go.Maps Go.MapKept
open Go.Proofs hiding intOf
theorem aF (m:Nat) {n:Nat} (_hn:n<1024):(Ag m).set (n / 64) (.int .u64 ((wd m (n / 64) ^^^ 1 <<< (n % 64):Nat):Int))=Ag (m ^^^ 1 <<< n):=by
 apply List.ext_getElem?
 intro i
 rw [List.getElem?_set]
 by_cases hi:i<16
 ·rw [Es _ hi,Es _ hi]
  by_cases e:n / 64=i
  ·subst e
   rw [if_pos rfl,if_pos (by rw [Bg];exact hi),kY,cM,if_pos rfl]
  ·rw [if_neg e,kY,cM,if_neg (fun h=>e h.symm),Nat.xor_zero]
 ·rw [List.getElem?_eq_none (by rw [Bg];omega),List.getElem?_eq_none (by rw [Bg];omega)]
  split
  ·rw [if_neg (by rw [Bg];omega)]
  ·rfl
theorem dR (m n:Nat):bits .xor .u64 (wd m (n / 64):Int) (IntKind.u64.wrap (2 ^ (n % 64)))=((wd m (n / 64) ^^^ 1 <<< (n % 64):Nat):Int):=by
 rw [mY]
 exact bits_xor_u64_nat _ _ (Qg _ _) (tL (k:=64) (Nat.mod_lt _ (by decide)))
set_option maxRecDepth 100000 in
set_option maxHeartbeats 1000000 in
theorem Dn (w:World) (m n:Nat) (hn:n<1024):Calls Tryz.prog 121 #[.agg (Ag m).toArray,.int .i64 (n:Int)] w fun e w'=>e = .returned (.agg (Ag (Be m n)).toArray)∧Below w.heap.size w w':=by
 have HS:Hid (Ae ((w.alloc (.cells (Ag m).toArray 77)).alloc (.cells zeroV.toArray 77)) w.heap.size (Ag m) 77∧Ae ((w.alloc (.cells (Ag m).toArray 77)).alloc (.cells zeroV.toArray 77)) (w.heap.size+1) zeroV 77∧Below w.heap.size w ((w.alloc (.cells (Ag m).toArray 77)).alloc (.cells zeroV.toArray 77))):=by
  refine ⟨(Ae.new w (Ag m) _).below (Ab _ _),?_,Ac (Ab _ _) (Ab _ _)⟩
  have:=Ae.new (w.alloc (.cells (Ag m).toArray 77)) zeroV 77
  simpa using this
 have hP:Hid (Ed m n=m.testBit n):=by unfold Hid Ed;simp;omega
 have hN:=Aa hn
 have HK:Hid (∀ W0:World,Ae W0 w.heap.size (Ag m) 77→Ae (W0.setCell ⟨w.heap.size,n / 64,none⟩ (.int .u64 (bits .xor .u64 (wd m (n / 64):Int) (IntKind.u64.wrap (2 ^ (n % 64)))))) w.heap.size (Ag (m ^^^ 1 <<< n)) 77):=fun W0 h=>by
  rw [dR,← aF m hn]
  exact h.set _ _
 have HR:Hid (∀ W0:World,Ae W0 (w.heap.size+1) zeroV 77→Ae (W0.setCell ⟨w.heap.size,n / 64,none⟩ (.int .u64 (bits .xor .u64 (wd m (n / 64):Int) (IntKind.u64.wrap (2 ^ (n % 64)))))) (w.heap.size+1) zeroV 77):=fun W0 h=>h.other (by omega) _ _
 cases hb:m.testBit n with
 | true=>
  have HD:Hid (Be m n=m ^^^ 1 <<< n):=by unfold Hid Be;rw [if_pos hb]
  rw [hb] at hP
  rw [HD.o]
  clear hb
  go_enter Tryz.func121,Tryz.ntmps121
  go_wp2_with (first
   | (rw [show (#[.int .u64 0,.int .u64 0,.int .u64 0,.int .u64 0,.int .u64 0,.int .u64 0,.int .u64 0,.int .u64 0,.int .u64 0,.int .u64 0,.int .u64 0,.int .u64 0,.int .u64 0,.int .u64 0,.int .u64 0,.int .u64 0]:Array Value)=zeroV.toArray from rfl];generalize ((w.alloc (.cells (Ag m).toArray 77)).alloc (.cells zeroV.toArray 77))=W0 at *)
   | (refine Bv (.tmp 2) rfl rfl rfl HS.o.1 ?_)
   | (go_at_call 117;refine (Dj W0 m n).mono ?_;rintro e W1 ⟨rfl,hb1⟩;rw [hP.o];have d2:=(HS.o.1.below hb1).cell (Es m (i:=n / 64) (by have:=hN.o;omega));have f2:=(HS.o.1.below hb1).fr (n / 64);have H1:=Aa (HS.o.1.below hb1);have H2:=Aa (HS.o.2.1.below hb1);have H3:=Aa (Ac HS.o.2.2 hb1);clear hb1)
   | (refine Bv (.tmp 2) rfl rfl rfl (HK.o W1 H1.o) ?_)
   | (refine Da (.tmp 4) (.tmp 20) rfl rfl rfl rfl (HR.o W1 H2.o) (by simp [zeroV,Ag]) ?_;intro W7 hb7 ho7;have K7:=Aa hb7;have K8:=Aa ((H3.o.setCell (p:=⟨w.heap.size,n / 64,none⟩) (Nat.le_refl _) _).trans (ho7.below (Nat.le_succ _)));clear hb7 ho7))
  exact bodyPost_ret (Fp rfl rfl K7.o) rfl ⟨rfl,K8.o⟩
 | false=>
  have HD:Hid (Be m n=m):=by unfold Hid Be;rw [if_neg (by simp [hb])]
  rw [hb] at hP
  rw [HD.o]
  clear hb
  go_enter Tryz.func121,Tryz.ntmps121
  go_wp2_with (first
   | (rw [show (#[.int .u64 0,.int .u64 0,.int .u64 0,.int .u64 0,.int .u64 0,.int .u64 0,.int .u64 0,.int .u64 0,.int .u64 0,.int .u64 0,.int .u64 0,.int .u64 0,.int .u64 0,.int .u64 0,.int .u64 0,.int .u64 0]:Array Value)=zeroV.toArray from rfl];generalize ((w.alloc (.cells (Ag m).toArray 77)).alloc (.cells zeroV.toArray 77))=W0 at *)
   | (refine Bv (.tmp 2) rfl rfl rfl HS.o.1 ?_)
   | (go_at_call 117;refine (Dj W0 m n).mono ?_;rintro e W1 ⟨rfl,hb1⟩;rw [hP.o];have d2:=(HS.o.1.below hb1).cell (Es m (i:=n / 64) (by have:=hN.o;omega));have f2:=(HS.o.1.below hb1).fr (n / 64);have H1:=Aa (HS.o.1.below hb1);have H2:=Aa (HS.o.2.1.below hb1);have H3:=Aa (Ac HS.o.2.2 hb1);clear hb1)
   | (refine Bv (.tmp 2) rfl rfl rfl H1.o ?_)
   | (refine Da (.tmp 4) (.tmp 20) rfl rfl rfl rfl H2.o (by simp [zeroV,Ag]) ?_;intro W7 hb7 ho7;have K7:=Aa hb7;have K8:=Aa (H3.o.trans (ho7.below (Nat.le_succ _)));clear hb7 ho7))
  exact bodyPost_ret (Fp rfl rfl K7.o) rfl ⟨rfl,K8.o⟩
end Go.Dk
end
section
namespace Go.Dk
open Go.RowKit Go.Maps Go.MapKept
open Go.Proofs hiding intOf
set_option maxRecDepth 100000 in
set_option maxHeartbeats 1000000 in
theorem Us (w:World) (m n:Nat) (hn:n<1024):Calls Tryz.prog 51 #[.agg (Ag m).toArray,.int .i64 (n:Int)] w fun e w'=>e = .returned (.agg (Ag (m ||| 1 <<< n)).toArray)∧Below w.heap.size w w':=by
 have HS:Hid (Ae ((w.alloc (.cells (Ag m).toArray 77)).alloc (.cells zeroV.toArray 77)) w.heap.size (Ag m) 77∧Ae ((w.alloc (.cells (Ag m).toArray 77)).alloc (.cells zeroV.toArray 77)) (w.heap.size+1) zeroV 77∧Below w.heap.size w ((w.alloc (.cells (Ag m).toArray 77)).alloc (.cells zeroV.toArray 77))):=by
  refine ⟨(Ae.new w (Ag m) _).below (Ab _ _),?_,Ac (Ab _ _) (Ab _ _)⟩
  have:=Ae.new (w.alloc (.cells (Ag m).toArray 77)) zeroV 77
  simpa using this
 have hN:=Aa hn
 have HK:Hid (∀ W0:World,Ae W0 w.heap.size (Ag m) 77→Ae (W0.setCell ⟨w.heap.size,n / 64,none⟩ (.int .u64 (bits .or .u64 (wd m (n / 64):Int) (IntKind.u64.wrap (2 ^ (n % 64)))))) w.heap.size (Ag (m ||| 1 <<< n)) 77):=fun W0 h=>by
  rw [Zs,← Qd m hn]
  exact h.set _ _
 have HR:Hid (∀ W0:World,Ae W0 (w.heap.size+1) zeroV 77→Ae (W0.setCell ⟨w.heap.size,n / 64,none⟩ (.int .u64 (bits .or .u64 (wd m (n / 64):Int) (IntKind.u64.wrap (2 ^ (n % 64)))))) (w.heap.size+1) zeroV 77):=fun W0 h=>h.other (by omega) _ _
 go_enter Tryz.func51,Tryz.ntmps51
 go_wp2_with (first
  | (rw [show (#[.int .u64 0,.int .u64 0,.int .u64 0,.int .u64 0,.int .u64 0,.int .u64 0,.int .u64 0,.int .u64 0,.int .u64 0,.int .u64 0,.int .u64 0,.int .u64 0,.int .u64 0,.int .u64 0,.int .u64 0,.int .u64 0]:Array Value)=zeroV.toArray from rfl];generalize ((w.alloc (.cells (Ag m).toArray 77)).alloc (.cells zeroV.toArray 77))=W0 at *;have d2:=HS.o.1.cell (Es m (i:=n / 64) (by have:=hN.o;omega));have f2:=HS.o.1.fr (n / 64))
  | (refine Bv (.tmp 2) rfl rfl rfl (HK.o W0 HS.o.1) ?_)
  | (refine Da (.tmp 4) (.tmp 17) rfl rfl rfl rfl (HR.o W0 HS.o.2.1) (by simp [zeroV,Ag]) ?_;intro W7 hb7 ho7;have K7:=Aa hb7;have K8:=Aa ((HS.o.2.2.setCell (p:=⟨w.heap.size,n / 64,none⟩) (Nat.le_refl _) _).trans (ho7.below (Nat.le_succ _)));clear hb7 ho7))
 exact bodyPost_ret (Fp rfl rfl K7.o) rfl ⟨rfl,K8.o⟩
end Go.Dk
end
section
namespace Go.Dk
open Go.RowKit Go.Maps Go.MapKept
open Go.Proofs hiding intOf
set_option maxRecDepth 100000 in
set_option maxHeartbeats 1000000 in
theorem Lr (w:World) (m:Nat) (g g':Int):Calls Tryz.prog 124 #[.agg (Ad m g).toArray,.int .i64 g'] w fun e w'=>e = .returned (.agg (Ad m g').toArray)∧Below w.heap.size w w':=by
 have HS:=Aa (Xy w m g)
 go_enter Tryz.func124,Tryz.ntmps124
 go_wp2_with (first
  | (rw [show (#[.int .u64 0,.int .u64 0,.int .u64 0,.int .u64 0,.int .u64 0,.int .u64 0,.int .u64 0,.int .u64 0,.int .u64 0,.int .u64 0,.int .u64 0,.int .u64 0,.int .u64 0,.int .u64 0,.int .u64 0,.int .u64 0,.int .i64 0]:Array Value)=(Ad 0 0).toArray from rfl];generalize ((w.alloc (.cells (Ad m g).toArray 86)).alloc (.cells (Ad 0 0).toArray 86))=W0 at *;have c16:=HS.o.1.cell (Bl m g);have f16:=HS.o.1.fr 16;have K1:=Aa (HS.o.1.goal g');have K2:=Aa (HS.o.2.1.other (c:=w.heap.size) (by omega) 16 (.int .i64 g'));have K3:=Aa (HS.o.2.2.trans ((Aq W0 w.heap.size 16 (.int .i64 g')).below (Nat.le_refl _))))
  | (refine Ah (.tmp 2) rfl rfl rfl K1.o ?_)
  | (refine Ar (.tmp 4) (.tmp 7) rfl rfl rfl rfl K2.o (Ai _ _) ?_;intro W7 hb7 ho7;have K7:=Aa hb7;have K8:=Aa (K3.o.trans (ho7.below (by omega)));clear hb7 ho7))
 exact bodyPost_ret (Nv rfl rfl K7.o) rfl ⟨rfl,K8.o⟩
set_option maxRecDepth 100000 in
set_option maxHeartbeats 1000000 in
theorem Fo (w:World) (m a b:Nat) (g:Int) (ha:a<1024) (hb:b<1024):Calls Tryz.prog 122 #[.agg (Ad m g).toArray,.int .i64 (a:Int),.int .i64 (b:Int)] w fun e w'=>e = .returned (.agg (Ad (Aw (Aw m a) b) g).toArray)∧Below w.heap.size w w':=by
 have HS:=Aa (Xy w m g)
 have HA:=Aa (fun W=>Us W m a ha)
 have HB:=Aa (fun W=>Us W (m ||| 1 <<< a) b hb)
 clear ha hb
 go_enter Tryz.func122,Tryz.ntmps122
 go_wp2_with (first
  | (rw [show (#[.int .u64 0,.int .u64 0,.int .u64 0,.int .u64 0,.int .u64 0,.int .u64 0,.int .u64 0,.int .u64 0,.int .u64 0,.int .u64 0,.int .u64 0,.int .u64 0,.int .u64 0,.int .u64 0,.int .u64 0,.int .u64 0,.int .i64 0]:Array Value)=(Ad 0 0).toArray from rfl];generalize ((w.alloc (.cells (Ad m g).toArray 86)).alloc (.cells (Ad 0 0).toArray 86))=W0 at *)
  | (refine Ap (.tmp 7) rfl rfl rfl HS.o.1 ?_)
  | (go_at_call 51;refine (HA.o _).mono ?_;clear HA;rintro e W1 ⟨rfl,hb1⟩;have HB1:=Aa hb1;clear hb1)
  | (go_at_call 51;refine (HB.o _).mono ?_;clear HB;rintro e W2 ⟨rfl,hb2⟩;have HB2:=Aa (Ac HB1.o hb2);have HR:=Aa (HS.o.1.below HB2.o);have HR4:=Aa (HS.o.2.1.below HB2.o);have HB9:=Aa (Ac HS.o.2.2 HB2.o);clear hb2)
  | (refine Au (.tmp 13) (.tmp 12) rfl rfl rfl rfl HR.o ?_;intro W6 hb6 ho6;have K6:=Aa hb6;have K5:=Aa (HR4.o.only ho6 (by omega));have K4:=Aa (HB9.o.trans (ho6.below (by omega)));clear hb6 ho6)
  | (refine Ah (.tmp 3) rfl rfl rfl K6.o ?_)
  | (refine Ar (.tmp 6) (.tmp 14) rfl rfl rfl rfl K5.o (Ai _ _) ?_;intro W7 hb7 ho7;have K7:=Aa hb7;have K8:=Aa (K4.o.trans (ho7.below (by omega)));clear hb7 ho7))
 exact bodyPost_ret (Nv rfl rfl K7.o) rfl ⟨rfl,K8.o⟩
end Go.Dk
end
section
namespace Go.Dk
open Go.RowKit Go.Maps Go.MapKept
open Go.Proofs hiding intOf
set_option maxRecDepth 100000 in
theorem Ir (k:Nat) (ow:Own) (w:World) (t:Value) (rows:List ND) (h:RTab k ow w t rows) (i:Nat) (hi:i<rows.length):Calls Tryz.prog 139 #[t,.int .i64 (i:Int)] w fun e w'=>e = .returned (.int .i64 (rowAt rows i).kind)∧Below w.heap.size w w':=by
 obtain ⟨pb,v,rfl,hat⟩:=h
 obtain ⟨g,c,rfl,hr⟩:=hat.row (Am hi)
 have c0:=hr.cp
 have d0:=hr.d0
 have h1:(i:Int)<(rows.length:Int):=by omega
 generalize (rowAt rows i).kind=kd at *
 clear hat hr
 go_enter Tryz.func139,Tryz.ntmps139
 go_wp2
 go_ret
 exact ⟨rfl,Below.refl _ _⟩
def Az (rows:List ND) (s:SQ) (k:Int) (main:Nat):Bool:=
 let left:=s.left.testBit main
 let goal:=(main:Int) == (s.goal:Int)
 let kd:=(rowAt rows main).kind
 let ld:=(rowAt rows (rowAt rows main).l.toNat).kind
 if k=1 then left && kd == 2 else if k=2 then left && goal else if k=3 then left && kd == 3
 else if k=4 then (left && kd == 5) && ld == 1 && s.left.testBit (rowAt rows main).l.toNat
 else if k=5 then (left && kd == 5) && ld == 2 else if k=6 then (left && kd == 5) && ld == 3 else if k=7 then (left && kd == 5) && ld == 4
 else if k=8 then goal && kd == 5 else if k=9 then goal && kd == 3 else if k=10 then left && kd == 4 else if k=11 then goal && kd == 4 else if k=12 then goal && kd == 4
 else if k=13 then (left && kd == 5) && ld == 5 else false
set_option maxRecDepth 100000 in
set_option maxHeartbeats 1000000 in
theorem cP (k:Nat) (ow:Own) (w:World) (t:Value) (rows:List ND) (h:RTab k ow w t rows) (s:SQ) (main:Nat) (hm:main<rows.length):Calls Tryz.prog 120 #[t,.agg (Ad s.left s.goal).toArray,.int .i64 1,.int .i64 (main:Int)] w fun e w'=>e = .returned (.bool (Az rows s 1 main))∧Below w.heap.size w w':=by
 have hP:Hid (Ed s.left main=s.left.testBit main):=by
  have:=h.ok.le
  unfold Hid Ed;simp;omega
 obtain ⟨pb,v,rfl,hat⟩:=h
 obtain ⟨g,c,rfl,hr⟩:=hat.row (Am hm)
 have H:=Aa (RTab.below (⟨pb,_,rfl,hat⟩:RTab k ow w (.pointer (some ⟨pb,0,none⟩)) rows) (Ab w (.cells (Ad s.left s.goal).toArray 86)))
 have hb:hasB rows.length (main:Int)=true:=by simp [hasB];omega
 have HR:=Aa (hr.below (Ab w (.cells (Ad s.left s.goal).toArray 86)))
 have HQ:=Aa (Ae.new w (Ad s.left s.goal) 86)
 have HB:=Aa (Ab w (.cells (Ad s.left s.goal).toArray 86))
 have h1:(main:Int)<(rows.length:Int):=by omega
 clear hat hr
 have HF:Hid (Az rows s 1 main=(s.left.testBit main && (rowAt rows main).kind == 2)):=by unfold Hid Az;simp
 rw [HF.o]
 clear HF
 generalize rowAt rows main=x at *
 obtain ⟨kd,nm,l,r⟩:=x
 cases hl:s.left.testBit main<;>cases hg0:((main:Int) == (s.goal:Int))<;>rw [hl] at hP<;>have HG:=Aa hg0<;>clear hg0 hl
 all_goals
  as_aux_lemma=>
  go_enter Tryz.func120,Tryz.ntmps120
  go_wp2_with fail
  generalize w.alloc (.cells (Ad s.left s.goal).toArray 86)=W0 at *
  have c0:=HR.o.cp
  have d0:=HR.o.d0
  have d1:=HR.o.d1
  have d2:=HR.o.d2
  have d3:=HR.o.d3
  refine (Bz _ _ _ _ _ H.o _).mono ?_
  rintro e w1 ⟨rfl,rfl⟩
  rw [hb]
  go_wp2_with (refine Ap (.tmp 24) rfl rfl rfl (HQ.o.below (Ab W0 _)) ?_)
  have hx:=HR.o
  refine (Dj _ s.left (main:Int)).mono ?_
  rintro e w2 ⟨rfl,hb2⟩
  rw [hP.o]
  have x0:w2.cell? ⟨W0.heap.size,0,none⟩=some (.int .i64 kd):=Ao hb2 (World.cell?_alloc_at _ _ _ _ rfl)
  have q16:w2.cell? ⟨w.heap.size,16,none⟩=some (.int .i64 (s.goal:Int)):=((HQ.o.below (Ab W0 _)).below hb2).cell (Bl s.left s.goal)
  have HB2:=Aa (Ac (Ac HB.o (Ab W0 _)) hb2)
  clear c0 d0 d1 d2 d3 hb2 hx
  have hg:=HG.o
  go_wp2
  go_ret
  exact ⟨by simp,HB2.o⟩
set_option maxRecDepth 100000 in
set_option maxHeartbeats 1000000 in
theorem dZ (k:Nat) (ow:Own) (w:World) (t:Value) (rows:List ND) (h:RTab k ow w t rows) (s:SQ) (main:Nat) (hm:main<rows.length):Calls Tryz.prog 120 #[t,.agg (Ad s.left s.goal).toArray,.int .i64 2,.int .i64 (main:Int)] w fun e w'=>e = .returned (.bool (Az rows s 2 main))∧Below w.heap.size w w':=by
 have hP:Hid (Ed s.left main=s.left.testBit main):=by
  have:=h.ok.le
  unfold Hid Ed;simp;omega
 obtain ⟨pb,v,rfl,hat⟩:=h
 obtain ⟨g,c,rfl,hr⟩:=hat.row (Am hm)
 have H:=Aa (RTab.below (⟨pb,_,rfl,hat⟩:RTab k ow w (.pointer (some ⟨pb,0,none⟩)) rows) (Ab w (.cells (Ad s.left s.goal).toArray 86)))
 have hb:hasB rows.length (main:Int)=true:=by simp [hasB];omega
 have HR:=Aa (hr.below (Ab w (.cells (Ad s.left s.goal).toArray 86)))
 have HQ:=Aa (Ae.new w (Ad s.left s.goal) 86)
 have HB:=Aa (Ab w (.cells (Ad s.left s.goal).toArray 86))
 have h1:(main:Int)<(rows.length:Int):=by omega
 clear hat hr
 have HF:Hid (Az rows s 2 main=(s.left.testBit main && ((main:Int) == (s.goal:Int)))):=by unfold Hid Az;simp
 rw [HF.o]
 clear HF
 generalize rowAt rows main=x at *
 obtain ⟨kd,nm,l,r⟩:=x
 cases hl:s.left.testBit main<;>cases hg0:((main:Int) == (s.goal:Int))<;>rw [hl] at hP<;>have HG:=Aa hg0<;>clear hg0 hl
 all_goals
  as_aux_lemma=>
  go_enter Tryz.func120,Tryz.ntmps120
  go_wp2_with fail
  generalize w.alloc (.cells (Ad s.left s.goal).toArray 86)=W0 at *
  have c0:=HR.o.cp
  have d0:=HR.o.d0
  have d1:=HR.o.d1
  have d2:=HR.o.d2
  have d3:=HR.o.d3
  refine (Bz _ _ _ _ _ H.o _).mono ?_
  rintro e w1 ⟨rfl,rfl⟩
  rw [hb]
  go_wp2_with (refine Ap (.tmp 24) rfl rfl rfl (HQ.o.below (Ab W0 _)) ?_)
  have hx:=HR.o
  refine (Dj _ s.left (main:Int)).mono ?_
  rintro e w2 ⟨rfl,hb2⟩
  rw [hP.o]
  have x0:w2.cell? ⟨W0.heap.size,0,none⟩=some (.int .i64 kd):=Ao hb2 (World.cell?_alloc_at _ _ _ _ rfl)
  have q16:w2.cell? ⟨w.heap.size,16,none⟩=some (.int .i64 (s.goal:Int)):=((HQ.o.below (Ab W0 _)).below hb2).cell (Bl s.left s.goal)
  have HB2:=Aa (Ac (Ac HB.o (Ab W0 _)) hb2)
  clear c0 d0 d1 d2 d3 hb2 hx
  have hg:=HG.o
  go_wp2
  go_ret
  exact ⟨by simp,HB2.o⟩
set_option maxRecDepth 100000 in
set_option maxHeartbeats 1000000 in
theorem cH (k:Nat) (ow:Own) (w:World) (t:Value) (rows:List ND) (h:RTab k ow w t rows) (s:SQ) (main:Nat) (hm:main<rows.length):Calls Tryz.prog 120 #[t,.agg (Ad s.left s.goal).toArray,.int .i64 3,.int .i64 (main:Int)] w fun e w'=>e = .returned (.bool (Az rows s 3 main))∧Below w.heap.size w w':=by
 have hP:Hid (Ed s.left main=s.left.testBit main):=by
  have:=h.ok.le
  unfold Hid Ed;simp;omega
 obtain ⟨pb,v,rfl,hat⟩:=h
 obtain ⟨g,c,rfl,hr⟩:=hat.row (Am hm)
 have H:=Aa (RTab.below (⟨pb,_,rfl,hat⟩:RTab k ow w (.pointer (some ⟨pb,0,none⟩)) rows) (Ab w (.cells (Ad s.left s.goal).toArray 86)))
 have hb:hasB rows.length (main:Int)=true:=by simp [hasB];omega
 have HR:=Aa (hr.below (Ab w (.cells (Ad s.left s.goal).toArray 86)))
 have HQ:=Aa (Ae.new w (Ad s.left s.goal) 86)
 have HB:=Aa (Ab w (.cells (Ad s.left s.goal).toArray 86))
 have h1:(main:Int)<(rows.length:Int):=by omega
 clear hat hr
 have HF:Hid (Az rows s 3 main=(s.left.testBit main && (rowAt rows main).kind == 3)):=by unfold Hid Az;simp
 rw [HF.o]
 clear HF
 generalize rowAt rows main=x at *
 obtain ⟨kd,nm,l,r⟩:=x
 cases hl:s.left.testBit main<;>cases hg0:((main:Int) == (s.goal:Int))<;>rw [hl] at hP<;>have HG:=Aa hg0<;>clear hg0 hl
 all_goals
  as_aux_lemma=>
  go_enter Tryz.func120,Tryz.ntmps120
  go_wp2_with fail
  generalize w.alloc (.cells (Ad s.left s.goal).toArray 86)=W0 at *
  have c0:=HR.o.cp
  have d0:=HR.o.d0
  have d1:=HR.o.d1
  have d2:=HR.o.d2
  have d3:=HR.o.d3
  refine (Bz _ _ _ _ _ H.o _).mono ?_
  rintro e w1 ⟨rfl,rfl⟩
  rw [hb]
  go_wp2_with (refine Ap (.tmp 24) rfl rfl rfl (HQ.o.below (Ab W0 _)) ?_)
  have hx:=HR.o
  refine (Dj _ s.left (main:Int)).mono ?_
  rintro e w2 ⟨rfl,hb2⟩
  rw [hP.o]
  have x0:w2.cell? ⟨W0.heap.size,0,none⟩=some (.int .i64 kd):=Ao hb2 (World.cell?_alloc_at _ _ _ _ rfl)
  have q16:w2.cell? ⟨w.heap.size,16,none⟩=some (.int .i64 (s.goal:Int)):=((HQ.o.below (Ab W0 _)).below hb2).cell (Bl s.left s.goal)
  have HB2:=Aa (Ac (Ac HB.o (Ab W0 _)) hb2)
  clear c0 d0 d1 d2 d3 hb2 hx
  have hg:=HG.o
  go_wp2
  go_ret
  exact ⟨by simp,HB2.o⟩
set_option maxRecDepth 100000 in
set_option maxHeartbeats 1000000 in
theorem dV (k:Nat) (ow:Own) (w:World) (t:Value) (rows:List ND) (h:RTab k ow w t rows) (s:SQ) (main:Nat) (hm:main<rows.length):Calls Tryz.prog 120 #[t,.agg (Ad s.left s.goal).toArray,.int .i64 8,.int .i64 (main:Int)] w fun e w'=>e = .returned (.bool (Az rows s 8 main))∧Below w.heap.size w w':=by
 have hP:Hid (Ed s.left main=s.left.testBit main):=by
  have:=h.ok.le
  unfold Hid Ed;simp;omega
 obtain ⟨pb,v,rfl,hat⟩:=h
 obtain ⟨g,c,rfl,hr⟩:=hat.row (Am hm)
 have H:=Aa (RTab.below (⟨pb,_,rfl,hat⟩:RTab k ow w (.pointer (some ⟨pb,0,none⟩)) rows) (Ab w (.cells (Ad s.left s.goal).toArray 86)))
 have hb:hasB rows.length (main:Int)=true:=by simp [hasB];omega
 have HR:=Aa (hr.below (Ab w (.cells (Ad s.left s.goal).toArray 86)))
 have HQ:=Aa (Ae.new w (Ad s.left s.goal) 86)
 have HB:=Aa (Ab w (.cells (Ad s.left s.goal).toArray 86))
 have h1:(main:Int)<(rows.length:Int):=by omega
 clear hat hr
 have HF:Hid (Az rows s 8 main=(((main:Int) == (s.goal:Int)) && (rowAt rows main).kind == 5)):=by unfold Hid Az;simp
 rw [HF.o]
 clear HF
 generalize rowAt rows main=x at *
 obtain ⟨kd,nm,l,r⟩:=x
 cases hl:s.left.testBit main<;>cases hg0:((main:Int) == (s.goal:Int))<;>rw [hl] at hP<;>have HG:=Aa hg0<;>clear hg0 hl
 all_goals
  as_aux_lemma=>
  go_enter Tryz.func120,Tryz.ntmps120
  go_wp2_with fail
  generalize w.alloc (.cells (Ad s.left s.goal).toArray 86)=W0 at *
  have c0:=HR.o.cp
  have d0:=HR.o.d0
  have d1:=HR.o.d1
  have d2:=HR.o.d2
  have d3:=HR.o.d3
  refine (Bz _ _ _ _ _ H.o _).mono ?_
  rintro e w1 ⟨rfl,rfl⟩
  rw [hb]
  go_wp2_with (refine Ap (.tmp 24) rfl rfl rfl (HQ.o.below (Ab W0 _)) ?_)
  have hx:=HR.o
  refine (Dj _ s.left (main:Int)).mono ?_
  rintro e w2 ⟨rfl,hb2⟩
  rw [hP.o]
  have x0:w2.cell? ⟨W0.heap.size,0,none⟩=some (.int .i64 kd):=Ao hb2 (World.cell?_alloc_at _ _ _ _ rfl)
  have q16:w2.cell? ⟨w.heap.size,16,none⟩=some (.int .i64 (s.goal:Int)):=((HQ.o.below (Ab W0 _)).below hb2).cell (Bl s.left s.goal)
  have HB2:=Aa (Ac (Ac HB.o (Ab W0 _)) hb2)
  clear c0 d0 d1 d2 d3 hb2 hx
  have hg:=HG.o
  go_wp2
  go_ret
  exact ⟨by simp,HB2.o⟩
set_option maxRecDepth 100000 in
set_option maxHeartbeats 1000000 in
theorem cC (k:Nat) (ow:Own) (w:World) (t:Value) (rows:List ND) (h:RTab k ow w t rows) (s:SQ) (main:Nat) (hm:main<rows.length):Calls Tryz.prog 120 #[t,.agg (Ad s.left s.goal).toArray,.int .i64 9,.int .i64 (main:Int)] w fun e w'=>e = .returned (.bool (Az rows s 9 main))∧Below w.heap.size w w':=by
 have hP:Hid (Ed s.left main=s.left.testBit main):=by
  have:=h.ok.le
  unfold Hid Ed;simp;omega
 obtain ⟨pb,v,rfl,hat⟩:=h
 obtain ⟨g,c,rfl,hr⟩:=hat.row (Am hm)
 have H:=Aa (RTab.below (⟨pb,_,rfl,hat⟩:RTab k ow w (.pointer (some ⟨pb,0,none⟩)) rows) (Ab w (.cells (Ad s.left s.goal).toArray 86)))
 have hb:hasB rows.length (main:Int)=true:=by simp [hasB];omega
 have HR:=Aa (hr.below (Ab w (.cells (Ad s.left s.goal).toArray 86)))
 have HQ:=Aa (Ae.new w (Ad s.left s.goal) 86)
 have HB:=Aa (Ab w (.cells (Ad s.left s.goal).toArray 86))
 have h1:(main:Int)<(rows.length:Int):=by omega
 clear hat hr
 have HF:Hid (Az rows s 9 main=(((main:Int) == (s.goal:Int)) && (rowAt rows main).kind == 3)):=by unfold Hid Az;simp
 rw [HF.o]
 clear HF
 generalize rowAt rows main=x at *
 obtain ⟨kd,nm,l,r⟩:=x
 cases hl:s.left.testBit main<;>cases hg0:((main:Int) == (s.goal:Int))<;>rw [hl] at hP<;>have HG:=Aa hg0<;>clear hg0 hl
 all_goals
  as_aux_lemma=>
  go_enter Tryz.func120,Tryz.ntmps120
  go_wp2_with fail
  generalize w.alloc (.cells (Ad s.left s.goal).toArray 86)=W0 at *
  have c0:=HR.o.cp
  have d0:=HR.o.d0
  have d1:=HR.o.d1
  have d2:=HR.o.d2
  have d3:=HR.o.d3
  refine (Bz _ _ _ _ _ H.o _).mono ?_
  rintro e w1 ⟨rfl,rfl⟩
  rw [hb]
  go_wp2_with (refine Ap (.tmp 24) rfl rfl rfl (HQ.o.below (Ab W0 _)) ?_)
  have hx:=HR.o
  refine (Dj _ s.left (main:Int)).mono ?_
  rintro e w2 ⟨rfl,hb2⟩
  rw [hP.o]
  have x0:w2.cell? ⟨W0.heap.size,0,none⟩=some (.int .i64 kd):=Ao hb2 (World.cell?_alloc_at _ _ _ _ rfl)
  have q16:w2.cell? ⟨w.heap.size,16,none⟩=some (.int .i64 (s.goal:Int)):=((HQ.o.below (Ab W0 _)).below hb2).cell (Bl s.left s.goal)
  have HB2:=Aa (Ac (Ac HB.o (Ab W0 _)) hb2)
  clear c0 d0 d1 d2 d3 hb2 hx
  have hg:=HG.o
  go_wp2
  go_ret
  exact ⟨by simp,HB2.o⟩
set_option maxRecDepth 100000 in
set_option maxHeartbeats 1000000 in
theorem aM (k:Nat) (ow:Own) (w:World) (t:Value) (rows:List ND) (h:RTab k ow w t rows) (s:SQ) (main:Nat) (hm:main<rows.length):Calls Tryz.prog 120 #[t,.agg (Ad s.left s.goal).toArray,.int .i64 10,.int .i64 (main:Int)] w fun e w'=>e = .returned (.bool (Az rows s 10 main))∧Below w.heap.size w w':=by
 have hP:Hid (Ed s.left main=s.left.testBit main):=by
  have:=h.ok.le
  unfold Hid Ed;simp;omega
 obtain ⟨pb,v,rfl,hat⟩:=h
 obtain ⟨g,c,rfl,hr⟩:=hat.row (Am hm)
 have H:=Aa (RTab.below (⟨pb,_,rfl,hat⟩:RTab k ow w (.pointer (some ⟨pb,0,none⟩)) rows) (Ab w (.cells (Ad s.left s.goal).toArray 86)))
 have hb:hasB rows.length (main:Int)=true:=by simp [hasB];omega
 have HR:=Aa (hr.below (Ab w (.cells (Ad s.left s.goal).toArray 86)))
 have HQ:=Aa (Ae.new w (Ad s.left s.goal) 86)
 have HB:=Aa (Ab w (.cells (Ad s.left s.goal).toArray 86))
 have h1:(main:Int)<(rows.length:Int):=by omega
 clear hat hr
 have HF:Hid (Az rows s 10 main=(s.left.testBit main && (rowAt rows main).kind == 4)):=by unfold Hid Az;simp
 rw [HF.o]
 clear HF
 generalize rowAt rows main=x at *
 obtain ⟨kd,nm,l,r⟩:=x
 cases hl:s.left.testBit main<;>cases hg0:((main:Int) == (s.goal:Int))<;>rw [hl] at hP<;>have HG:=Aa hg0<;>clear hg0 hl
 all_goals
  as_aux_lemma=>
  go_enter Tryz.func120,Tryz.ntmps120
  go_wp2_with fail
  generalize w.alloc (.cells (Ad s.left s.goal).toArray 86)=W0 at *
  have c0:=HR.o.cp
  have d0:=HR.o.d0
  have d1:=HR.o.d1
  have d2:=HR.o.d2
  have d3:=HR.o.d3
  refine (Bz _ _ _ _ _ H.o _).mono ?_
  rintro e w1 ⟨rfl,rfl⟩
  rw [hb]
  go_wp2_with (refine Ap (.tmp 24) rfl rfl rfl (HQ.o.below (Ab W0 _)) ?_)
  have hx:=HR.o
  refine (Dj _ s.left (main:Int)).mono ?_
  rintro e w2 ⟨rfl,hb2⟩
  rw [hP.o]
  have x0:w2.cell? ⟨W0.heap.size,0,none⟩=some (.int .i64 kd):=Ao hb2 (World.cell?_alloc_at _ _ _ _ rfl)
  have q16:w2.cell? ⟨w.heap.size,16,none⟩=some (.int .i64 (s.goal:Int)):=((HQ.o.below (Ab W0 _)).below hb2).cell (Bl s.left s.goal)
  have HB2:=Aa (Ac (Ac HB.o (Ab W0 _)) hb2)
  clear c0 d0 d1 d2 d3 hb2 hx
  have hg:=HG.o
  go_wp2
  go_ret
  exact ⟨by simp,HB2.o⟩
set_option maxRecDepth 100000 in
set_option maxHeartbeats 1000000 in
theorem aO (k:Nat) (ow:Own) (w:World) (t:Value) (rows:List ND) (h:RTab k ow w t rows) (s:SQ) (main:Nat) (hm:main<rows.length):Calls Tryz.prog 120 #[t,.agg (Ad s.left s.goal).toArray,.int .i64 11,.int .i64 (main:Int)] w fun e w'=>e = .returned (.bool (Az rows s 11 main))∧Below w.heap.size w w':=by
 have hP:Hid (Ed s.left main=s.left.testBit main):=by
  have:=h.ok.le
  unfold Hid Ed;simp;omega
 obtain ⟨pb,v,rfl,hat⟩:=h
 obtain ⟨g,c,rfl,hr⟩:=hat.row (Am hm)
 have H:=Aa (RTab.below (⟨pb,_,rfl,hat⟩:RTab k ow w (.pointer (some ⟨pb,0,none⟩)) rows) (Ab w (.cells (Ad s.left s.goal).toArray 86)))
 have hb:hasB rows.length (main:Int)=true:=by simp [hasB];omega
 have HR:=Aa (hr.below (Ab w (.cells (Ad s.left s.goal).toArray 86)))
 have HQ:=Aa (Ae.new w (Ad s.left s.goal) 86)
 have HB:=Aa (Ab w (.cells (Ad s.left s.goal).toArray 86))
 have h1:(main:Int)<(rows.length:Int):=by omega
 clear hat hr
 have HF:Hid (Az rows s 11 main=(((main:Int) == (s.goal:Int)) && (rowAt rows main).kind == 4)):=by unfold Hid Az;simp
 rw [HF.o]
 clear HF
 generalize rowAt rows main=x at *
 obtain ⟨kd,nm,l,r⟩:=x
 cases hl:s.left.testBit main<;>cases hg0:((main:Int) == (s.goal:Int))<;>rw [hl] at hP<;>have HG:=Aa hg0<;>clear hg0 hl
 all_goals
  as_aux_lemma=>
  go_enter Tryz.func120,Tryz.ntmps120
  go_wp2_with fail
  generalize w.alloc (.cells (Ad s.left s.goal).toArray 86)=W0 at *
  have c0:=HR.o.cp
  have d0:=HR.o.d0
  have d1:=HR.o.d1
  have d2:=HR.o.d2
  have d3:=HR.o.d3
  refine (Bz _ _ _ _ _ H.o _).mono ?_
  rintro e w1 ⟨rfl,rfl⟩
  rw [hb]
  go_wp2_with (refine Ap (.tmp 24) rfl rfl rfl (HQ.o.below (Ab W0 _)) ?_)
  have hx:=HR.o
  refine (Dj _ s.left (main:Int)).mono ?_
  rintro e w2 ⟨rfl,hb2⟩
  rw [hP.o]
  have x0:w2.cell? ⟨W0.heap.size,0,none⟩=some (.int .i64 kd):=Ao hb2 (World.cell?_alloc_at _ _ _ _ rfl)
  have q16:w2.cell? ⟨w.heap.size,16,none⟩=some (.int .i64 (s.goal:Int)):=((HQ.o.below (Ab W0 _)).below hb2).cell (Bl s.left s.goal)
  have HB2:=Aa (Ac (Ac HB.o (Ab W0 _)) hb2)
  clear c0 d0 d1 d2 d3 hb2 hx
  have hg:=HG.o
  go_wp2
  go_ret
  exact ⟨by simp,HB2.o⟩
set_option maxRecDepth 100000 in
set_option maxHeartbeats 1000000 in
theorem aB (k:Nat) (ow:Own) (w:World) (t:Value) (rows:List ND) (h:RTab k ow w t rows) (s:SQ) (main:Nat) (hm:main<rows.length):Calls Tryz.prog 120 #[t,.agg (Ad s.left s.goal).toArray,.int .i64 12,.int .i64 (main:Int)] w fun e w'=>e = .returned (.bool (Az rows s 12 main))∧Below w.heap.size w w':=by
 have hP:Hid (Ed s.left main=s.left.testBit main):=by
  have:=h.ok.le
  unfold Hid Ed;simp;omega
 obtain ⟨pb,v,rfl,hat⟩:=h
 obtain ⟨g,c,rfl,hr⟩:=hat.row (Am hm)
 have H:=Aa (RTab.below (⟨pb,_,rfl,hat⟩:RTab k ow w (.pointer (some ⟨pb,0,none⟩)) rows) (Ab w (.cells (Ad s.left s.goal).toArray 86)))
 have hb:hasB rows.length (main:Int)=true:=by simp [hasB];omega
 have HR:=Aa (hr.below (Ab w (.cells (Ad s.left s.goal).toArray 86)))
 have HQ:=Aa (Ae.new w (Ad s.left s.goal) 86)
 have HB:=Aa (Ab w (.cells (Ad s.left s.goal).toArray 86))
 have h1:(main:Int)<(rows.length:Int):=by omega
 clear hat hr
 have HF:Hid (Az rows s 12 main=(((main:Int) == (s.goal:Int)) && (rowAt rows main).kind == 4)):=by unfold Hid Az;simp
 rw [HF.o]
 clear HF
 generalize rowAt rows main=x at *
 obtain ⟨kd,nm,l,r⟩:=x
 cases hl:s.left.testBit main<;>cases hg0:((main:Int) == (s.goal:Int))<;>rw [hl] at hP<;>have HG:=Aa hg0<;>clear hg0 hl
 all_goals
  as_aux_lemma=>
  go_enter Tryz.func120,Tryz.ntmps120
  go_wp2_with fail
  generalize w.alloc (.cells (Ad s.left s.goal).toArray 86)=W0 at *
  have c0:=HR.o.cp
  have d0:=HR.o.d0
  have d1:=HR.o.d1
  have d2:=HR.o.d2
  have d3:=HR.o.d3
  refine (Bz _ _ _ _ _ H.o _).mono ?_
  rintro e w1 ⟨rfl,rfl⟩
  rw [hb]
  go_wp2_with (refine Ap (.tmp 24) rfl rfl rfl (HQ.o.below (Ab W0 _)) ?_)
  have hx:=HR.o
  refine (Dj _ s.left (main:Int)).mono ?_
  rintro e w2 ⟨rfl,hb2⟩
  rw [hP.o]
  have x0:w2.cell? ⟨W0.heap.size,0,none⟩=some (.int .i64 kd):=Ao hb2 (World.cell?_alloc_at _ _ _ _ rfl)
  have q16:w2.cell? ⟨w.heap.size,16,none⟩=some (.int .i64 (s.goal:Int)):=((HQ.o.below (Ab W0 _)).below hb2).cell (Bl s.left s.goal)
  have HB2:=Aa (Ac (Ac HB.o (Ab W0 _)) hb2)
  clear c0 d0 d1 d2 d3 hb2 hx
  have hg:=HG.o
  go_wp2
  go_ret
  exact ⟨by simp,HB2.o⟩
end Go.Dk
end
section
namespace Go.Dk
open Go.RowKit Go.Maps Go.MapKept
open Go.Proofs hiding intOf
set_option maxRecDepth 100000 in
set_option maxHeartbeats 1000000 in
theorem dE (k:Nat) (ow:Own) (w:World) (t:Value) (rows:List ND) (h:RTab k ow w t rows) (s:SQ) (main:Nat) (hm:main<rows.length):Calls Tryz.prog 120 #[t,.agg (Ad s.left s.goal).toArray,.int .i64 5,.int .i64 (main:Int)] w fun e w'=>e = .returned (.bool (Az rows s 5 main))∧Below w.heap.size w w':=by
 have hP:Hid (Ed s.left main=s.left.testBit main):=by
  have:=h.ok.le
  unfold Hid Ed;simp;omega
 have hok:=h.ok
 obtain ⟨pb,v,rfl,hat⟩:=h
 obtain ⟨g,c,rfl,hr⟩:=hat.row (Am hm)
 have H:=Aa (RTab.below (⟨pb,_,rfl,hat⟩:RTab k ow w (.pointer (some ⟨pb,0,none⟩)) rows) (Ab w (.cells (Ad s.left s.goal).toArray 86)))
 have hb:hasB rows.length (main:Int)=true:=by simp [hasB];omega
 have HR:=Aa (hr.below (Ab w (.cells (Ad s.left s.goal).toArray 86)))
 have HQ:=Aa (Ae.new w (Ad s.left s.goal) 86)
 have HB:=Aa (Ab w (.cells (Ad s.left s.goal).toArray 86))
 have h1:(main:Int)<(rows.length:Int):=by omega
 clear hat hr
 have HF:Hid (Az rows s 5 main=((s.left.testBit main && (rowAt rows main).kind == 5) && (rowAt rows (rowAt rows main).l.toNat).kind == 2)):=by unfold Hid Az;simp
 rw [HF.o]
 clear HF
 have HL:Hid (((rowAt rows main).kind == 5)=true→∃ n:Nat,(rowAt rows main).l=(n:Int)∧n<rows.length):=fun h5=>by
  have:=hok.parts (Am hm) (by simp at h5;omega)
  exact ⟨(rowAt rows main).l.toNat,by omega,by omega⟩
 generalize rowAt rows main=x at *
 obtain ⟨kd,nm,l,r⟩:=x
 cases h50:(kd == 5)<;>have H5:=Aa h50<;>clear h50<;>cases hl:s.left.testBit main<;>rw [hl] at hP<;>clear hl
 all_goals
  as_aux_lemma=>
  go_enter Tryz.func120,Tryz.ntmps120
  go_wp2_with fail
  generalize w.alloc (.cells (Ad s.left s.goal).toArray 86)=W0 at *
  have c0:=HR.o.cp
  have d0:=HR.o.d0
  have d1:=HR.o.d1
  have d2:=HR.o.d2
  have d3:=HR.o.d3
  refine (Bz _ _ _ _ _ H.o _).mono ?_
  rintro e w1 ⟨rfl,rfl⟩
  rw [hb]
  go_wp2_with (refine Ap (.tmp 24) rfl rfl rfl (HQ.o.below (Ab W0 _)) ?_)
  have hx:=HR.o
  refine (Dj _ s.left (main:Int)).mono ?_
  rintro e w2 ⟨rfl,hb2⟩
  rw [hP.o]
  have x0:w2.cell? ⟨W0.heap.size,0,none⟩=some (.int .i64 kd):=Ao hb2 (World.cell?_alloc_at _ _ _ _ rfl)
  have q16:w2.cell? ⟨w.heap.size,16,none⟩=some (.int .i64 (s.goal:Int)):=((HQ.o.below (Ab W0 _)).below hb2).cell (Bl s.left s.goal)
  have HB2:=Aa (Ac (Ac HB.o (Ab W0 _)) hb2)
  have hb2':=hb2
  clear c0 d0 d1 d2 d3 hb2 hx
  have x2:w2.cell? ⟨W0.heap.size,2,none⟩=some (.int .i64 l):=Ao hb2' (World.cell?_alloc_at _ _ _ _ rfl)
  have h5:=H5.o
  first
   | (go_wp2;go_ret;exact ⟨by simp,HB2.o⟩)
   |(obtain ⟨n,hn,hnl⟩:=HL.o H5.o
     try simp only at hn
     subst hn
     clear HL
     go_wp2_with fail
     refine (Ir _ _ _ _ rows ((H.o.below (Ab W0 _)).below hb2') n hnl).mono ?_
     rintro e w3 ⟨rfl,hb3⟩
     have HB3:=Aa (Ac HB2.o hb3)
     obtain ⟨ld,hld⟩:∃ x,(rowAt rows n).kind=x:=⟨_,rfl⟩
     rw [hld]
     have HLD:=Aa hld
     clear hld
     go_wp2
     go_ret
     have hld:=HLD.o
     exact ⟨by simp [hld],HB3.o⟩)
set_option maxRecDepth 100000 in
set_option maxHeartbeats 1000000 in
theorem dI (k:Nat) (ow:Own) (w:World) (t:Value) (rows:List ND) (h:RTab k ow w t rows) (s:SQ) (main:Nat) (hm:main<rows.length):Calls Tryz.prog 120 #[t,.agg (Ad s.left s.goal).toArray,.int .i64 6,.int .i64 (main:Int)] w fun e w'=>e = .returned (.bool (Az rows s 6 main))∧Below w.heap.size w w':=by
 have hP:Hid (Ed s.left main=s.left.testBit main):=by
  have:=h.ok.le
  unfold Hid Ed;simp;omega
 have hok:=h.ok
 obtain ⟨pb,v,rfl,hat⟩:=h
 obtain ⟨g,c,rfl,hr⟩:=hat.row (Am hm)
 have H:=Aa (RTab.below (⟨pb,_,rfl,hat⟩:RTab k ow w (.pointer (some ⟨pb,0,none⟩)) rows) (Ab w (.cells (Ad s.left s.goal).toArray 86)))
 have hb:hasB rows.length (main:Int)=true:=by simp [hasB];omega
 have HR:=Aa (hr.below (Ab w (.cells (Ad s.left s.goal).toArray 86)))
 have HQ:=Aa (Ae.new w (Ad s.left s.goal) 86)
 have HB:=Aa (Ab w (.cells (Ad s.left s.goal).toArray 86))
 have h1:(main:Int)<(rows.length:Int):=by omega
 clear hat hr
 have HF:Hid (Az rows s 6 main=((s.left.testBit main && (rowAt rows main).kind == 5) && (rowAt rows (rowAt rows main).l.toNat).kind == 3)):=by unfold Hid Az;simp
 rw [HF.o]
 clear HF
 have HL:Hid (((rowAt rows main).kind == 5)=true→∃ n:Nat,(rowAt rows main).l=(n:Int)∧n<rows.length):=fun h5=>by
  have:=hok.parts (Am hm) (by simp at h5;omega)
  exact ⟨(rowAt rows main).l.toNat,by omega,by omega⟩
 generalize rowAt rows main=x at *
 obtain ⟨kd,nm,l,r⟩:=x
 cases h50:(kd == 5)<;>have H5:=Aa h50<;>clear h50<;>cases hl:s.left.testBit main<;>rw [hl] at hP<;>clear hl
 all_goals
  as_aux_lemma=>
  go_enter Tryz.func120,Tryz.ntmps120
  go_wp2_with fail
  generalize w.alloc (.cells (Ad s.left s.goal).toArray 86)=W0 at *
  have c0:=HR.o.cp
  have d0:=HR.o.d0
  have d1:=HR.o.d1
  have d2:=HR.o.d2
  have d3:=HR.o.d3
  refine (Bz _ _ _ _ _ H.o _).mono ?_
  rintro e w1 ⟨rfl,rfl⟩
  rw [hb]
  go_wp2_with (refine Ap (.tmp 24) rfl rfl rfl (HQ.o.below (Ab W0 _)) ?_)
  have hx:=HR.o
  refine (Dj _ s.left (main:Int)).mono ?_
  rintro e w2 ⟨rfl,hb2⟩
  rw [hP.o]
  have x0:w2.cell? ⟨W0.heap.size,0,none⟩=some (.int .i64 kd):=Ao hb2 (World.cell?_alloc_at _ _ _ _ rfl)
  have q16:w2.cell? ⟨w.heap.size,16,none⟩=some (.int .i64 (s.goal:Int)):=((HQ.o.below (Ab W0 _)).below hb2).cell (Bl s.left s.goal)
  have HB2:=Aa (Ac (Ac HB.o (Ab W0 _)) hb2)
  have hb2':=hb2
  clear c0 d0 d1 d2 d3 hb2 hx
  have x2:w2.cell? ⟨W0.heap.size,2,none⟩=some (.int .i64 l):=Ao hb2' (World.cell?_alloc_at _ _ _ _ rfl)
  have h5:=H5.o
  first
   | (go_wp2;go_ret;exact ⟨by simp,HB2.o⟩)
   |(obtain ⟨n,hn,hnl⟩:=HL.o H5.o
     try simp only at hn
     subst hn
     clear HL
     go_wp2_with fail
     refine (Ir _ _ _ _ rows ((H.o.below (Ab W0 _)).below hb2') n hnl).mono ?_
     rintro e w3 ⟨rfl,hb3⟩
     have HB3:=Aa (Ac HB2.o hb3)
     obtain ⟨ld,hld⟩:∃ x,(rowAt rows n).kind=x:=⟨_,rfl⟩
     rw [hld]
     have HLD:=Aa hld
     clear hld
     go_wp2
     go_ret
     have hld:=HLD.o
     exact ⟨by simp [hld],HB3.o⟩)
set_option maxRecDepth 100000 in
set_option maxHeartbeats 1000000 in
theorem dJ (k:Nat) (ow:Own) (w:World) (t:Value) (rows:List ND) (h:RTab k ow w t rows) (s:SQ) (main:Nat) (hm:main<rows.length):Calls Tryz.prog 120 #[t,.agg (Ad s.left s.goal).toArray,.int .i64 7,.int .i64 (main:Int)] w fun e w'=>e = .returned (.bool (Az rows s 7 main))∧Below w.heap.size w w':=by
 have hP:Hid (Ed s.left main=s.left.testBit main):=by
  have:=h.ok.le
  unfold Hid Ed;simp;omega
 have hok:=h.ok
 obtain ⟨pb,v,rfl,hat⟩:=h
 obtain ⟨g,c,rfl,hr⟩:=hat.row (Am hm)
 have H:=Aa (RTab.below (⟨pb,_,rfl,hat⟩:RTab k ow w (.pointer (some ⟨pb,0,none⟩)) rows) (Ab w (.cells (Ad s.left s.goal).toArray 86)))
 have hb:hasB rows.length (main:Int)=true:=by simp [hasB];omega
 have HR:=Aa (hr.below (Ab w (.cells (Ad s.left s.goal).toArray 86)))
 have HQ:=Aa (Ae.new w (Ad s.left s.goal) 86)
 have HB:=Aa (Ab w (.cells (Ad s.left s.goal).toArray 86))
 have h1:(main:Int)<(rows.length:Int):=by omega
 clear hat hr
 have HF:Hid (Az rows s 7 main=((s.left.testBit main && (rowAt rows main).kind == 5) && (rowAt rows (rowAt rows main).l.toNat).kind == 4)):=by unfold Hid Az;simp
 rw [HF.o]
 clear HF
 have HL:Hid (((rowAt rows main).kind == 5)=true→∃ n:Nat,(rowAt rows main).l=(n:Int)∧n<rows.length):=fun h5=>by
  have:=hok.parts (Am hm) (by simp at h5;omega)
  exact ⟨(rowAt rows main).l.toNat,by omega,by omega⟩
 generalize rowAt rows main=x at *
 obtain ⟨kd,nm,l,r⟩:=x
 cases h50:(kd == 5)<;>have H5:=Aa h50<;>clear h50<;>cases hl:s.left.testBit main<;>rw [hl] at hP<;>clear hl
 all_goals
  as_aux_lemma=>
  go_enter Tryz.func120,Tryz.ntmps120
  go_wp2_with fail
  generalize w.alloc (.cells (Ad s.left s.goal).toArray 86)=W0 at *
  have c0:=HR.o.cp
  have d0:=HR.o.d0
  have d1:=HR.o.d1
  have d2:=HR.o.d2
  have d3:=HR.o.d3
  refine (Bz _ _ _ _ _ H.o _).mono ?_
  rintro e w1 ⟨rfl,rfl⟩
  rw [hb]
  go_wp2_with (refine Ap (.tmp 24) rfl rfl rfl (HQ.o.below (Ab W0 _)) ?_)
  have hx:=HR.o
  refine (Dj _ s.left (main:Int)).mono ?_
  rintro e w2 ⟨rfl,hb2⟩
  rw [hP.o]
  have x0:w2.cell? ⟨W0.heap.size,0,none⟩=some (.int .i64 kd):=Ao hb2 (World.cell?_alloc_at _ _ _ _ rfl)
  have q16:w2.cell? ⟨w.heap.size,16,none⟩=some (.int .i64 (s.goal:Int)):=((HQ.o.below (Ab W0 _)).below hb2).cell (Bl s.left s.goal)
  have HB2:=Aa (Ac (Ac HB.o (Ab W0 _)) hb2)
  have hb2':=hb2
  clear c0 d0 d1 d2 d3 hb2 hx
  have x2:w2.cell? ⟨W0.heap.size,2,none⟩=some (.int .i64 l):=Ao hb2' (World.cell?_alloc_at _ _ _ _ rfl)
  have h5:=H5.o
  first
   | (go_wp2;go_ret;exact ⟨by simp,HB2.o⟩)
   |(obtain ⟨n,hn,hnl⟩:=HL.o H5.o
     try simp only at hn
     subst hn
     clear HL
     go_wp2_with fail
     refine (Ir _ _ _ _ rows ((H.o.below (Ab W0 _)).below hb2') n hnl).mono ?_
     rintro e w3 ⟨rfl,hb3⟩
     have HB3:=Aa (Ac HB2.o hb3)
     obtain ⟨ld,hld⟩:∃ x,(rowAt rows n).kind=x:=⟨_,rfl⟩
     rw [hld]
     have HLD:=Aa hld
     clear hld
     go_wp2
     go_ret
     have hld:=HLD.o
     exact ⟨by simp [hld],HB3.o⟩)
set_option maxRecDepth 100000 in
set_option maxHeartbeats 1000000 in
theorem aJ (k:Nat) (ow:Own) (w:World) (t:Value) (rows:List ND) (h:RTab k ow w t rows) (s:SQ) (main:Nat) (hm:main<rows.length):Calls Tryz.prog 120 #[t,.agg (Ad s.left s.goal).toArray,.int .i64 13,.int .i64 (main:Int)] w fun e w'=>e = .returned (.bool (Az rows s 13 main))∧Below w.heap.size w w':=by
 have hP:Hid (Ed s.left main=s.left.testBit main):=by
  have:=h.ok.le
  unfold Hid Ed;simp;omega
 have hok:=h.ok
 obtain ⟨pb,v,rfl,hat⟩:=h
 obtain ⟨g,c,rfl,hr⟩:=hat.row (Am hm)
 have H:=Aa (RTab.below (⟨pb,_,rfl,hat⟩:RTab k ow w (.pointer (some ⟨pb,0,none⟩)) rows) (Ab w (.cells (Ad s.left s.goal).toArray 86)))
 have hb:hasB rows.length (main:Int)=true:=by simp [hasB];omega
 have HR:=Aa (hr.below (Ab w (.cells (Ad s.left s.goal).toArray 86)))
 have HQ:=Aa (Ae.new w (Ad s.left s.goal) 86)
 have HB:=Aa (Ab w (.cells (Ad s.left s.goal).toArray 86))
 have h1:(main:Int)<(rows.length:Int):=by omega
 clear hat hr
 have HF:Hid (Az rows s 13 main=((s.left.testBit main && (rowAt rows main).kind == 5) && (rowAt rows (rowAt rows main).l.toNat).kind == 5)):=by unfold Hid Az;simp
 rw [HF.o]
 clear HF
 have HL:Hid (((rowAt rows main).kind == 5)=true→∃ n:Nat,(rowAt rows main).l=(n:Int)∧n<rows.length):=fun h5=>by
  have:=hok.parts (Am hm) (by simp at h5;omega)
  exact ⟨(rowAt rows main).l.toNat,by omega,by omega⟩
 generalize rowAt rows main=x at *
 obtain ⟨kd,nm,l,r⟩:=x
 cases h50:(kd == 5)<;>have H5:=Aa h50<;>clear h50<;>cases hl:s.left.testBit main<;>rw [hl] at hP<;>clear hl
 all_goals
  as_aux_lemma=>
  go_enter Tryz.func120,Tryz.ntmps120
  go_wp2_with fail
  generalize w.alloc (.cells (Ad s.left s.goal).toArray 86)=W0 at *
  have c0:=HR.o.cp
  have d0:=HR.o.d0
  have d1:=HR.o.d1
  have d2:=HR.o.d2
  have d3:=HR.o.d3
  refine (Bz _ _ _ _ _ H.o _).mono ?_
  rintro e w1 ⟨rfl,rfl⟩
  rw [hb]
  go_wp2_with (refine Ap (.tmp 24) rfl rfl rfl (HQ.o.below (Ab W0 _)) ?_)
  have hx:=HR.o
  refine (Dj _ s.left (main:Int)).mono ?_
  rintro e w2 ⟨rfl,hb2⟩
  rw [hP.o]
  have x0:w2.cell? ⟨W0.heap.size,0,none⟩=some (.int .i64 kd):=Ao hb2 (World.cell?_alloc_at _ _ _ _ rfl)
  have q16:w2.cell? ⟨w.heap.size,16,none⟩=some (.int .i64 (s.goal:Int)):=((HQ.o.below (Ab W0 _)).below hb2).cell (Bl s.left s.goal)
  have HB2:=Aa (Ac (Ac HB.o (Ab W0 _)) hb2)
  have hb2':=hb2
  clear c0 d0 d1 d2 d3 hb2 hx
  have x2:w2.cell? ⟨W0.heap.size,2,none⟩=some (.int .i64 l):=Ao hb2' (World.cell?_alloc_at _ _ _ _ rfl)
  have h5:=H5.o
  first
   | (go_wp2;go_ret;exact ⟨by simp,HB2.o⟩)
   |(obtain ⟨n,hn,hnl⟩:=HL.o H5.o
     try simp only at hn
     subst hn
     clear HL
     go_wp2_with fail
     refine (Ir _ _ _ _ rows ((H.o.below (Ab W0 _)).below hb2') n hnl).mono ?_
     rintro e w3 ⟨rfl,hb3⟩
     have HB3:=Aa (Ac HB2.o hb3)
     obtain ⟨ld,hld⟩:∃ x,(rowAt rows n).kind=x:=⟨_,rfl⟩
     rw [hld]
     have HLD:=Aa hld
     clear hld
     go_wp2
     go_ret
     have hld:=HLD.o
     exact ⟨by simp [hld],HB3.o⟩)
end Go.Dk
end
section
namespace Go.Dk
open Go.RowKit Go.Maps Go.MapKept
open Go.Proofs hiding intOf
section
variable {ops:Array Oper} {rest:List Oper} {o:Oper} {a:Act} {Q:Exit→Act→World→Prop} {W:World} {b m:Nat} {g:Int}
theorem cR (x:Operand) (hop:o.op = .load 77 x) (hw:Region.wanted o (yielded ops a.tmps)=true) (hx:a.eval x = .pointer (some ⟨b,0,none⟩)) {T:TypeId} (h:Ae W b (Ad m g) T) (hk:wpList Tryz.prog ops Q rest (a.put o.dst (.agg (Ag m).toArray)) W):wpList Tryz.prog ops Q (o::rest) a W:=by
 obtain ⟨d,hu,hd⟩:=nH
 unfold wpList
 rw [if_pos hw]
 left
 exact wp_load_mid _ x hop b 0 hx (Ag m) d (h.range (Hm m g)) hu hd (by rw [Bg];exact Nx) hk
end
set_option maxRecDepth 100000 in
set_option maxHeartbeats 1000000 in
theorem cJ (k:Nat) (ow:Own) (w:World) (t:Value) (rows:List ND) (h:RTab k ow w t rows) (s:SQ) (main:Nat) (hm:main<rows.length):Calls Tryz.prog 120 #[t,.agg (Ad s.left s.goal).toArray,.int .i64 4,.int .i64 (main:Int)] w fun e w'=>e = .returned (.bool (Az rows s 4 main))∧Below w.heap.size w w':=by
 have hP:Hid (Ed s.left main=s.left.testBit main):=by
  have:=h.ok.le
  unfold Hid Ed;simp;omega
 have hok:=h.ok
 obtain ⟨pb,v,rfl,hat⟩:=h
 obtain ⟨g,c,rfl,hr⟩:=hat.row (Am hm)
 have H:=Aa (RTab.below (⟨pb,_,rfl,hat⟩:RTab k ow w (.pointer (some ⟨pb,0,none⟩)) rows) (Ab w (.cells (Ad s.left s.goal).toArray 86)))
 have hb:hasB rows.length (main:Int)=true:=by simp [hasB];omega
 have HR:=Aa (hr.below (Ab w (.cells (Ad s.left s.goal).toArray 86)))
 have HQ:=Aa (Ae.new w (Ad s.left s.goal) 86)
 have HB:=Aa (Ab w (.cells (Ad s.left s.goal).toArray 86))
 have h1:(main:Int)<(rows.length:Int):=by omega
 clear hat hr
 have HF:Hid (Az rows s 4 main=((s.left.testBit main && (rowAt rows main).kind == 5) && (rowAt rows (rowAt rows main).l.toNat).kind == 1 && s.left.testBit (rowAt rows main).l.toNat)):=by unfold Hid Az;simp
 rw [HF.o]
 clear HF
 have HL:Hid (((rowAt rows main).kind == 5)=true→∃ n:Nat,(rowAt rows main).l=(n:Int)∧n<rows.length):=fun h5=>by
  have:=hok.parts (Am hm) (by simp at h5;omega)
  exact ⟨(rowAt rows main).l.toNat,by omega,by omega⟩
 generalize rowAt rows main=x at *
 obtain ⟨kd,nm,l,r⟩:=x
 cases h50:(kd == 5)<;>have H5:=Aa h50<;>clear h50<;>cases hl:s.left.testBit main<;>rw [hl] at hP<;>clear hl
 all_goals
  as_aux_lemma=>
  go_enter Tryz.func120,Tryz.ntmps120
  go_wp2_with fail
  generalize w.alloc (.cells (Ad s.left s.goal).toArray 86)=W0 at *
  have c0:=HR.o.cp
  have d0:=HR.o.d0
  have d1:=HR.o.d1
  have d2:=HR.o.d2
  have d3:=HR.o.d3
  refine (Bz _ _ _ _ _ H.o _).mono ?_
  rintro e w1 ⟨rfl,rfl⟩
  rw [hb]
  go_wp2_with (refine Ap (.tmp 24) rfl rfl rfl (HQ.o.below (Ab W0 _)) ?_)
  have hx:=HR.o
  refine (Dj _ s.left (main:Int)).mono ?_
  rintro e w2 ⟨rfl,hb2⟩
  rw [hP.o]
  have x0:w2.cell? ⟨W0.heap.size,0,none⟩=some (.int .i64 kd):=Ao hb2 (World.cell?_alloc_at _ _ _ _ rfl)
  have q16:w2.cell? ⟨w.heap.size,16,none⟩=some (.int .i64 (s.goal:Int)):=((HQ.o.below (Ab W0 _)).below hb2).cell (Bl s.left s.goal)
  have HB2:=Aa (Ac (Ac HB.o (Ab W0 _)) hb2)
  have hb2':=hb2
  clear c0 d0 d1 d2 d3 hb2 hx
  have x2:w2.cell? ⟨W0.heap.size,2,none⟩=some (.int .i64 l):=Ao hb2' (World.cell?_alloc_at _ _ _ _ rfl)
  have h5:=H5.o
  first
   | (go_wp2;go_ret;exact ⟨by simp,HB2.o⟩)
   |(obtain ⟨n,hn,hnl⟩:=HL.o H5.o
     try simp only at hn
     subst hn
     clear HL
     go_wp2_with fail
     refine (Ir _ _ _ _ rows ((H.o.below (Ab W0 _)).below hb2') n hnl).mono ?_
     rintro e w3 ⟨rfl,hb3⟩
     have HB3:=Aa (Ac HB2.o hb3)
     obtain ⟨ld,hld⟩:∃ x,(rowAt rows n).kind=x:=⟨_,rfl⟩
     rw [hld]
     have HLD:=Aa hld
     clear hld
     have hP4:Hid (Ed s.left n=s.left.testBit n):=by
      have:=hok.le
      unfold Hid Ed;simp;omega
     have HQ3:=Aa (((HQ.o.below (Ab W0 _)).below hb2').below hb3)
     cases e1:(ld == 1)
     ·go_wp2
      go_ret
      have hld:=HLD.o
      exact ⟨by simp [hld,e1],HB3.o⟩
     ·have x3:=Ao hb3 x2
      go_wp2_with (refine cR (.tmp 72) rfl (by first | rfl | simp [Region.wanted,yielded]) rfl HQ3.o ?_)
      refine (Dj _ s.left (n:Int)).mono ?_
      rintro e w4 ⟨rfl,hb4⟩
      rw [hP4.o]
      have HB4:=Aa (Ac HB3.o hb4)
      clear hb4
      go_wp2
      go_ret
      have hld:=HLD.o
      exact ⟨by simp [hld,e1],HB4.o⟩)
end Go.Dk
end
section
namespace Go.Dk
open Go.RowKit Go.Maps Go.MapKept
open Go.Proofs hiding intOf
theorem Dh (k:Nat) (ow:Own) (w:World) (t:Value) (rows:List ND) (h:RTab k ow w t rows) (s:SQ) (main:Nat) (hm:main<rows.length) (kk:Int) (h1:1≤kk) (h2:kk≤13) :
  Calls Tryz.prog 120 #[t,.agg (Ad s.left s.goal).toArray,.int .i64 kk,.int .i64 (main:Int)] w fun e w'=>e = .returned (.bool (Az rows s kk main))∧Below w.heap.size w w':=by
 obtain rfl | rfl | rfl | rfl | rfl | rfl | rfl | rfl | rfl | rfl | rfl | rfl | rfl:kk=1∨kk=2∨kk=3∨kk=4∨kk=5∨kk=6∨kk=7∨kk=8∨kk=9∨kk=10∨kk=11∨kk=12∨kk=13:=by omega
 ·exact cP k ow w t rows h s main hm
 ·exact dZ k ow w t rows h s main hm
 ·exact cH k ow w t rows h s main hm
 ·exact cJ k ow w t rows h s main hm
 ·exact dE k ow w t rows h s main hm
 ·exact dI k ow w t rows h s main hm
 ·exact dJ k ow w t rows h s main hm
 ·exact dV k ow w t rows h s main hm
 ·exact cC k ow w t rows h s main hm
 ·exact aM k ow w t rows h s main hm
 ·exact aO k ow w t rows h s main hm
 ·exact aB k ow w t rows h s main hm
 ·exact aJ k ow w t rows h s main hm
theorem Io (rows:List ND) (s:SQ) (main:Nat) {k:Int} (hk:k=1∨k=3∨k=4∨k=5∨k=6∨k=7∨k=10∨k=13) :
  Az rows s k main=(s.left.testBit main && onP rows s main == k):=by
 unfold onP
 simp only
 generalize hx:rowAt rows main=x
 generalize hy:rowAt rows x.l.toNat=y
 generalize hb:s.left.testBit x.l.toNat=b
 have hF:∀ k,Az rows s k main=(if k=1 then s.left.testBit main && x.kind == 2 else if k=2 then s.left.testBit main && ((main:Int) == (s.goal:Int)) else if k=3 then s.left.testBit main && x.kind == 3
  else if k=4 then (s.left.testBit main && x.kind == 5) && y.kind == 1 && b
  else if k=5 then (s.left.testBit main && x.kind == 5) && y.kind == 2 else if k=6 then (s.left.testBit main && x.kind == 5) && y.kind == 3 else if k=7 then (s.left.testBit main && x.kind == 5) && y.kind == 4
  else if k=8 then ((main:Int) == (s.goal:Int)) && x.kind == 5 else if k=9 then ((main:Int) == (s.goal:Int)) && x.kind == 3 else if k=10 then s.left.testBit main && x.kind == 4 else if k=11 then ((main:Int) == (s.goal:Int)) && x.kind == 4 else if k=12 then ((main:Int) == (s.goal:Int)) && x.kind == 4
  else if k=13 then (s.left.testBit main && x.kind == 5) && y.kind == 5 else false):=by
  intro k
  unfold Az
  simp only [hx,hy,hb]
 rw [hF]
 generalize s.left.testBit main=left
 generalize x.kind=kx
 generalize y.kind=ky
 cases left with
 | false=>rcases hk with rfl | rfl | rfl | rfl | rfl | rfl | rfl | rfl<;>simp
 | true=>
  by_cases e2:kx=2
  ·subst e2;rcases hk with rfl | rfl | rfl | rfl | rfl | rfl | rfl | rfl<;>simp
  by_cases e3:kx=3
  ·subst e3;rcases hk with rfl | rfl | rfl | rfl | rfl | rfl | rfl | rfl<;>simp
  by_cases e4:kx=4
  ·subst e4;rcases hk with rfl | rfl | rfl | rfl | rfl | rfl | rfl | rfl<;>simp
  by_cases e5:kx=5
  ·subst e5
   by_cases f1:ky=1
   ·subst f1;cases b<;>rcases hk with rfl | rfl | rfl | rfl | rfl | rfl | rfl | rfl<;>simp
   by_cases f2:ky=2
   ·subst f2;rcases hk with rfl | rfl | rfl | rfl | rfl | rfl | rfl | rfl<;>simp
   by_cases f3:ky=3
   ·subst f3;rcases hk with rfl | rfl | rfl | rfl | rfl | rfl | rfl | rfl<;>simp
   by_cases f4:ky=4
   ·subst f4;rcases hk with rfl | rfl | rfl | rfl | rfl | rfl | rfl | rfl<;>simp
   by_cases f5:ky=5
   ·subst f5;rcases hk with rfl | rfl | rfl | rfl | rfl | rfl | rfl | rfl<;>simp
   rcases hk with rfl | rfl | rfl | rfl | rfl | rfl | rfl | rfl<;>simp [f1,f2,f3,f4,f5]
  rcases hk with rfl | rfl | rfl | rfl | rfl | rfl | rfl | rfl<;>simp [e2,e3,e4,e5]
end Go.Dk
end
