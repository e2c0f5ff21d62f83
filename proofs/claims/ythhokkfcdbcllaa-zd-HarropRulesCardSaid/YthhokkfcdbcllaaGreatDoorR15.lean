/- Parts of the proof: V, T, E, Ea, Eb, Ec. -/
import Derived.Deep.RegionLaw
import Derived.ArgAppend
import Derived.Deep.DeepCutAuto
import Derived.Deep.CutBlock
import Derived.Test.YthhokkfcdbcllaaGreatDoorR01
import Derived.Test.YthhokkfcdbcllaaGreatDoorR02
section
namespace Go.Dk
open Go.RowKit Go.Maps Go.MapKept
open Go.Proofs hiding intOf
set_option maxRecDepth 100000 in
theorem Me (c:UInt8) (w:World):Calls Tryz.prog 80 #[.int .u8 (c.toNat:Int)] w fun e w'=>e = .returned (.bool (Eu c))∧w=w':=by
 have h:Eu c=(decide (97≤(c.toNat:Int)) && decide ((c.toNat:Int)≤122) || decide (65≤(c.toNat:Int)) && decide ((c.toNat:Int)≤90)):=by
  rw [Bool.eq_iff_iff];simp [Eu,UInt8.le_iff_toNat_le];omega
 have H:=Aa h;clear h
 by_cases h1:97≤(c.toNat:Int)<;>by_cases h2:(c.toNat:Int)≤122<;>by_cases h3:65≤(c.toNat:Int)<;>by_cases h4:(c.toNat:Int)≤90
 all_goals first
  | (exfalso;omega)
  |(go_enter Tryz.func80,Tryz.ntmps80
    go_wp2
    go_ret
    exact ⟨Ce (by rw [H.o];simp;omega),rfl⟩)
def Xg (k:Nat):ByteArray:=⟨(Ie.getD k []).toArray⟩
theorem Ze (s:ByteArray) (k:Nat) (hk:k<12) (h:((Xg k).toList == s.toList)=true):Ie.contains s.data.toList=true:=by
 have h1:(Xg k).data.toList=s.data.toList:=by simpa [ByteArray.toList_eq] using h
 rw [← h1]
 simp only [Xg,List.contains_iff_mem]
 have:k<Ie.length:=hk
 simp [this]
theorem nL (s:ByteArray) (h:∀ k,k<12→((Xg k).toList == s.toList)=false):Ie.contains s.data.toList=false:=by
 rw [← Bool.not_eq_true,List.contains_iff_mem]
 intro hm
 obtain ⟨k,hk,e⟩:=List.getElem_of_mem hm
 have:=h k hk
 rw [ByteArray.toList_eq,ByteArray.toList_eq] at this
 simp [Xg,List.getD_eq_getElem?_getD,hk,e] at this
set_option maxRecDepth 100000 in
theorem Xq (w:World):Calls Tryz.prog 81 #[] w fun e w'=>e = .returned (.slice (some ⟨w.heap.size,0,none⟩) 12 12)∧Below w.heap.size w w'∧∀ k,k<12→w'.cell? ⟨w.heap.size,k,none⟩=some (.string (Xg k)):=by
 go_enter Tryz.func81,Tryz.ntmps81
 go_wp2
 go_ret
 refine ⟨rfl,Ab _ _,fun k hk=>?_⟩
 rw [World.cell?_alloc_at _ _ _ _ rfl]
 match k,hk with
 | 0,_=>rfl
 | 1,_=>rfl
 | 2,_=>rfl
 | 3,_=>rfl
 | 4,_=>rfl
 | 5,_=>rfl
 | 6,_=>rfl
 | 7,_=>rfl
 | 8,_=>rfl
 | 9,_=>rfl
 | 10,_=>rfl
 | 11,_=>rfl
theorem zH (c:UInt8):Jp c=(Eu c || (decide (48≤(c.toNat:Int)) && decide ((c.toNat:Int)≤57)) || !((c.toNat:Int) != 95) || !((c.toNat:Int) != 39)):=
 Yw (fun n a b=>b=(a || (decide (48≤n) && decide (n≤57)) || !(n != 95) || !(n != 39))) (by decide +kernel) c
set_option maxRecDepth 100000 in
set_option maxHeartbeats 800000 in
theorem Nn (s:ByteArray) (w:World) (hs:s.size≤maxLen):Calls Tryz.prog 64 #[.string s] w fun e w'=>e = .returned (.bool (word s))∧Below w.heap.size w w':=by
 unfold maxLen at hs
 by_cases h1:s.size<1
 ·have HL:Hid (word s=false):=by rw [Nl];simp [Hid];omega
  go_enter Tryz.func64,Tryz.ntmps64
  go_wp2
  go_ret
  exact ⟨Ce HL.o.symm,Below.refl _ _⟩
 by_cases h2:31<s.size
 ·have HL:Hid (word s=false):=by rw [Nl];simp [Hid];omega
  go_enter Tryz.func64,Tryz.ntmps64
  go_wp2
  go_ret
  exact ⟨Ce HL.o.symm,Below.refl _ _⟩
 have h0:0<s.size:=by omega
 have hp1:Of (s.data.toList.take (0+1))=Eu s[0]:=by rw [take_snoc s 0 h0,Wj];simp [Of]
 cases hl0:Eu s[0] with
 | false=>
  have HL:Hid (word s=false):=Qe (k:=0+1) (by rw [hp1,hl0])
  clear hp1
  go_enter Tryz.func64,Tryz.ntmps64
  go_wp2_with (go_at_call 80;refine (Me _ _).mono ?_;rintro e w' ⟨rfl,rfl⟩)
  go_ret
  exact ⟨Ce HL.o.symm,Below.refl _ _⟩
 | true=>
  have HP1:Hid (Of (s.data.toList.take (0+1))=true):=by rw [hp1,hl0];rfl
  clear hp1
  go_enter Tryz.func64,Tryz.ntmps64
  go_wp2_with (go_at_call 80;refine (Me _ _).mono ?_;rintro e w' ⟨rfl,rfl⟩)
  go_loop [3] (fun i=>∃ k:Nat,1≤k∧k≤s.size∧i = .int .i64 k∧Of (s.data.toList.take k)=true) (fun i=>s.size - (intOf i).toNat)
  case atStart=>exact ⟨1,Nat.le_refl _,by omega,rfl,HP1.o⟩
  case round=>
   obtain ⟨k,hk1,hk,rfl,hp⟩:=hrel
   clear hl0
   by_cases hlt:k<s.size
   ·have hsn:=Wj (s.data.toList.take k) s[k]
    rw [← take_snoc s k hlt,hp,Bool.true_and,if_neg (fun h=>by have:=(take_nil s k hlt).1 h;omega)] at hsn
    have HS:Hid (Of (s.data.toList.take (k+1))=Jp s[k]):=hsn
    have HC:Hid (Jp s[k]=(Eu s[k] || (decide (48≤(s[k].toNat:Int)) && decide ((s[k].toNat:Int)≤57)) || !((s[k].toNat:Int) != 95) || !((s[k].toNat:Int) != 39))):=zH _
    clear hsn hp
    cases hl:Eu s[k] with
    | true=>
     have HL:Hid (Jp s[k]=true):=by rw [Hid,HC.o,hl];rfl
     clear HC
     go_wp2_with (go_at_call 80;refine (Me _ _).mono ?_;rintro e w' ⟨rfl,rfl⟩)
     go_round
     case rel=>exact ⟨k+1,by omega,by omega,by go_num,by rw [HS.o];exact HL.o⟩
     case measure=>simp [intOf];omega
    | false=>
     rcases Zj _ hl with ⟨hw,h3⟩ | ⟨hw,h3,h4⟩ | ⟨hw,h3,h4,h5,h6⟩ | ⟨hw,h3,h4,h5⟩ | ⟨hw,h3,h4,h5⟩
     iterate 3
      ·have HL:Hid (Jp s[k]=true):=hw
       clear hw HC
       go_wp2_with (go_at_call 80;refine (Me _ _).mono ?_;rintro e w' ⟨rfl,rfl⟩)
       all_goals
        go_round
        case rel=>exact ⟨k+1,by omega,by omega,by go_num,by rw [HS.o];exact HL.o⟩
        case measure=>simp [intOf];omega
     all_goals
      have HL:Hid (word s=false):=Qe (k:=k+1) (by rw [HS.o];exact hw)
      clear hw HC
      try (have hd57:decide ((s[k].toNat:Int)≤57)=false:=by simp;omega)
      go_wp2_with (go_at_call 80;refine (Me _ _).mono ?_;rintro e w' ⟨rfl,rfl⟩)
      go_ret
      exact ⟨Ce HL.o.symm,Below.refl _ _⟩
   ·have HP:Hid (Of s.data.toList=true):=by rw [List.take_of_length_le (by simp;omega)] at hp;exact hp
    clear hp
    go_wp2_with (go_at_call 81;refine (Xq _).mono ?_;rintro e w1 ⟨rfl,hb1,hc1⟩)
    have HC1:=Aa hc1;clear hc1
    go_loop [5] (fun i=>∃ j:Nat,j≤12∧i = .int .i64 j∧∀ m,m<j→((Xg m).toList == s.toList)=false) (fun i=>12 - (intOf i).toNat)
    case atStart=>exact ⟨0,by omega,rfl,fun m hm=>absurd hm (by omega)⟩
    case round=>
     obtain ⟨j,hj,rfl,hno⟩:=hrel
     have HN:=Aa hno;clear hno
     by_cases hlt2:j<12
     ·have hc:=HC1.o j hlt2
      cases hq:((Xg j).toList == s.toList) with
      | true=>
       have HL:Hid (word s=false):=by rw [Hid,Nl,Ze s j hlt2 hq];simp
       go_wp2
       go_ret
       exact ⟨Ce HL.o.symm,hb1⟩
      | false=>
       have HQ:=Aa hq
       go_wp2
       go_round
       case rel=>exact ⟨j+1,by omega,by go_num,fun m hm=>by
        rcases Nat.lt_or_eq_of_le (Nat.le_of_lt_succ hm) with h | h
        ·exact HN.o m h
        ·rw [h];exact HQ.o⟩
       case measure=>simp [intOf];omega
     ·have HL:Hid (word s=true):=by
       rw [Hid,Nl,HP.o,nL s (fun m hm=>HN.o m (by omega))];simp;omega
      go_wp2
      go_ret
      exact ⟨Ce HL.o.symm,hb1⟩
end Go.Dk
end
section
namespace Go.Dk
open Go.RowKit Go.Maps Go.MapKept
def Iz (w:World) (e:TypeId) (size:Nat) (v:Value) (n:Nat) (xs:List Value):Prop:=
 w.ownsRow 0 e size v n xs∨∃ g cur,v = .slice (some ⟨g,0,none⟩) n n∧w.heap[g]? = some (.cells cur e (0,0))∧xs.length=n * size∧cur.toList.take (n * size)=xs∧n≤maxLen
section
variable {w:World} {e:TypeId} {size:Nat} {v:Value} {n:Nat} {xs:List Value}
theorem Iz.len (h:Iz w e size v n xs):xs.length=n * size:=by
 rcases h with h | ⟨g,cur,_,_,h,_⟩
 ·exact h.1
 ·exact h
theorem Iz.slice (h:Iz w e size v n xs):∃ a c,v = .slice a n c:=by
 rcases h with h | ⟨g,cur,rfl,_⟩
 ·rcases h.2 with ⟨rfl,rfl⟩ | ⟨g,cap,cur,rfl,_⟩
  ·exact ⟨none,0,rfl⟩
  ·exact ⟨_,cap,rfl⟩
 ·exact ⟨_,_,rfl⟩
theorem Iz.block (h:Iz w e size v n xs) {g:Nat} (hg:v.ownBlock=some g):∃ cur,w.heap[g]? = some (.cells cur e (0,0)):=by
 rcases h with h | ⟨g',cur,rfl,h,_⟩
 ·rcases h.2 with ⟨rfl,_⟩ | ⟨g',cap,cur,rfl,_,hh,_⟩
  ·simp [Value.ownBlock] at hg
  ·simp [Value.ownBlock] at hg;subst hg;exact ⟨cur,hh⟩
 ·simp [Value.ownBlock] at hg;subst hg;exact ⟨cur,h⟩
theorem Iz.lt (h:Iz w e size v n xs) {g:Nat} (hg:v.ownBlock=some g):g<w.heap.size:=by
 obtain ⟨cur,hc⟩:=h.block hg;exact lt_of_block hc
theorem Iz.ne (h:Iz w e size v n xs) {b:Nat} {o:Obj} (hb:w.heap[b]? = some o) (ho:∀ cur fr,o≠.cells cur e fr):v.ownBlock≠some b:=by
 intro hk
 obtain ⟨cur,hc⟩:=h.block hk
 rw [hb] at hc;cases hc
 exact ho _ _ rfl
theorem Iz.get (h:Iz w e size v n xs) (hn:0<n):∃ g c,v = .slice (some ⟨g,0,none⟩) n c∧g<w.heap.size∧∀ j u,xs[j]? = some u→w.cell? ⟨g,j,none⟩=some u:=by
 rcases h with h | ⟨g,cur,rfl,h,hl,ht,_⟩
 ·obtain ⟨g,c,rfl,_,hg⟩:=h.form hn
  refine ⟨g,c,rfl,hg,fun j u hu=>?_⟩
  have:=h.cells (g:=g) rfl j u hu
  rwa [show (⟨g,0,none⟩:Addr).add j=⟨g,j,none⟩ by unfold Addr.add;split<;>simp_all] at this
 ·refine ⟨g,n,rfl,lt_of_block h,fun j u hu=>?_⟩
  rw [← ht,List.getElem?_take] at hu
  split at hu
  ·exact cell_of h (by simpa using hu)
  ·cases hu
theorem Iz.rd (h:Iz w e size v n xs):Rd w v n size xs:=by
 rcases Nat.eq_zero_or_pos n with h0 | h0
 ·refine ⟨?_,h.len⟩
  have hx:xs = []:=List.eq_nil_of_length_eq_zero (by rw [h.len,h0];simp)
  subst hx
  rcases h with h | ⟨g,cur,rfl,_⟩
  ·rcases h.2 with ⟨rfl,_⟩ | ⟨g,cap,cur,rfl,_⟩
   ·exact ⟨none,0,by rw [h0],fun _=>⟨h0,rfl⟩,fun _ h=>by cases h⟩
   ·exact ⟨_,cap,rfl,fun h=>by (cases h),fun ad ha=>by cases ha;exact ⟨fun _=>rfl,fun j u hu=>by simp at hu⟩⟩
  ·exact ⟨_,_,rfl,fun h=>by (cases h),fun ad ha=>by cases ha;exact ⟨fun _=>rfl,fun j u hu=>by simp at hu⟩⟩
 ·obtain ⟨g,c,rfl,_,hc⟩:=h.get h0
  exact ⟨⟨_,c,rfl,fun h=>by (cases h),fun ad ha=>by cases ha;exact ⟨fun _=>rfl,fun j u hu=>by simpa using hc j u hu⟩⟩,h.len⟩
theorem Iz.same {w':World} (h:Iz w e size v n xs) (hs:∀ g,v.ownBlock=some g→w'.heap[g]? = w.heap[g]?):Iz w' e size v n xs:=by
 rcases h with h | ⟨g,cur,rfl,h,r⟩
 ·refine .inl ⟨h.1,?_⟩
  rcases h.2 with hn | ⟨g,cap,cur,rfl,hb,hg,r⟩
  ·exact .inl hn
  ·exact .inr ⟨g,cap,cur,rfl,hb,(hs g rfl).trans hg,r⟩
 ·exact .inr ⟨g,cur,rfl,(hs g rfl).trans h,r⟩
theorem Iz.below {w':World} (h:Iz w e size v n xs) (hb:Below w.heap.size w w'):Iz w' e size v n xs:=h.same fun _ hg=>hb.block _ (h.lt hg)
theorem Iz.alloc (h:Iz w e size v n xs) (o:Obj):Iz (w.alloc o) e size v n xs:=h.below (Ab w o)
theorem Iz.cut (h:Iz w e size v n xs) {n':Nat} (hn:n'≤n) (hm:n≤maxLen) {g c:Nat} (hv:v = .slice (some ⟨g,0,none⟩) n c):Iz w e size (.slice (some ⟨g,0,none⟩) n' n') n' (xs.take (n' * size)):=by
 subst hv
 have hl:=h.len
 have hle:n' * size≤n * size:=Nat.mul_le_mul_right _ hn
 rcases h with h | ⟨g',cur,e1,h,_,ht,_⟩
 ·rcases h.2 with ⟨h,_⟩ | ⟨g',cap,cur,e1,_,hh,_,_,_,ht⟩
  ·cases h
  ·cases e1
   exact .inr ⟨g,cur,rfl,hh,by rw [List.length_take,hl];omega,by rw [← ht,List.take_take];congr 1;omega,by omega⟩
 ·cases e1
  exact .inr ⟨g,cur,rfl,h,by rw [List.length_take,hl];omega,by rw [← ht,List.take_take];congr 1;omega,by omega⟩
end
theorem Vs {P:Program} {w:World} {ops:Array Oper} {o:Oper} {a:Act} {K:Act→World→Prop} {Q:Exit→Act→World→Prop} {E:Prop} (hgd:o.guard=none) (s x:Operand) (t:TypeId)
  (ho:o.op = .call { callee:=.builtin .append,args:=#[s,x],argTypes:=#[t,t] })
  (e:TypeId) (z:Value) (size bytes:Nat) (ht:P.underlying t=some (.slice e)) (hinfo:(P.info? e).map (fun i=>(i.zero,i.size,i.bytes))=some (some z,size,bytes)) (hzs:z.cells.size=size) (hsz:0<size)
  (v:Value) (n:Nat) (xs:List Value) (hs:a.eval s=v) (hrow:Iz w e size v n xs)
  (ad:Addr) (m c:Nat) (news:List Value) (hx:a.eval x = .slice (some ad) m c) (hl:news.length=m * size) (hnews:∀ j u,news[j]? = some u→w.cell? (ad.add j)=some u) (h1:∀ u ∈ news,u.oneCell'=true)
  (hm:0<m) (h63:n+m≤maxLen) (hbytes:(n+m) * bytes≤140737488355328)
  (h:∀ g cap w',w'.ownsRow 0 e size (.slice (some ⟨g,0,none⟩) (n+m) cap) (n+m) (xs++news)→w.grownBy w' v.ownBlock→(v.ownBlock=some g∨w.heap.size≤g)→g<w'.heap.size→K (a.put o.dst (.slice (some ⟨g,0,none⟩) (n+m) cap)) w') :
  if Region.wanted o (yielded ops a.tmps)=true then Oper.wp P o a w K Q else E:=by
 obtain ⟨i,hi,hzz⟩:=Option.map_eq_some_iff.1 hinfo
 simp only [Prod.mk.injEq] at hzz
 obtain ⟨hz0,hz1,hz2⟩:=hzz
 rcases hrow with hown | ⟨g,cur,rfl,hg,hlen,htake,hmx⟩
 ·refine step_append_lies w hgd s x t ho 0 e i z size bytes ht hi hz0 hz1 hz2 hzs hsz v n xs hs hown ad m c news hx hl hnews h1 hm h63 hbytes (Nat.zero_le _) _ rfl ?_
  intro g cap w' a1 a2 a3 a4
  exact h g cap w' a1 a2 (a3.imp id (fun e=>by omega)) a4
 ·have hw:Region.wanted o (yielded ops a.tmps)=true:=by simp [Region.wanted,hgd]
  rw [if_pos hw]
  obtain ⟨v',w',hrun,r1,r2⟩:=run_append_arg_grows (P:=P) w t o.type e i z size bytes ht hi hz0 hz1 hz2 hzs hsz ⟨g,0,none⟩ n n xs hlen (fun j u hu=>by
   rw [← htake,List.getElem?_take] at hu
   split at hu
   ·rw [show (⟨g,0,none⟩:Addr).add j=⟨g,j,none⟩ by unfold Addr.add;split<;>simp_all]
    exact cell_of hg (by simpa using hu)
   ·cases hu) ad m c news hl hnews (by omega) h63 hbytes
  obtain ⟨g',cap,rfl,hb',hlt⟩:=r1.form (by omega)
  unfold Oper.wp
  simp [execOp,ho,resolve,invoke,builtin,hs,hx,hrun,Result.andThen]
  refine h g' cap w' ⟨r1.1,?_⟩ ⟨r2.os,r2.tape,r2.output,r2.size,fun k hk _=>r2.block k hk (by simp)⟩ (.inr hb') hlt
  rcases r1.2 with ⟨h2,_⟩ | ⟨g2,cap2,cur2,h2,_,r⟩
  ·cases h2
  ·exact .inr ⟨g2,cap2,cur2,h2,Nat.zero_le _,r⟩
end Go.Dk
end
section
namespace Go.Dk
open Go.RowKit Go.Maps Go.MapKept
open Go.Proofs hiding intOf
structure RTabAt (k:Nat) (ow:Own) (w:World) (rb:Nat) (v:Value) (rows:List ND):Prop where
 hp:w.heap[rb]? = some (.cells #[v] 33 (0,0))
 hr:Iz w 31 4 v rows.length (As rows)
 ok:Ok rows
 cp:ow rb=k
 cr:∀ g,v.ownBlock=some g→ow g=k
def RTab (k:Nat) (ow:Own) (w:World) (t:Value) (rows:List ND):Prop:=
 ∃ rb v,t = .pointer (some ⟨rb,0,none⟩)∧RTabAt k ow w rb v rows
theorem RTabAt.below {k:Nat} {ow:Own} {w w':World} {rb:Nat} {v:Value} {rows:List ND} (h:RTabAt k ow w rb v rows) (hb:Below w.heap.size w w'):RTabAt k ow w' rb v rows:=
 ⟨(hb.block rb (lt_of_block h.hp)).trans h.hp,h.hr.below hb,h.ok,h.cp,h.cr⟩
theorem RTabAt.kept {k c:Nat} {ow ow':Own} {w w':World} {rb:Nat} {v:Value} {rows:List ND} (h:RTabAt k ow w rb v rows) (hb:Kept c ow w ow' w') (hc:k≠c):RTabAt k ow' w' rb v rows:=by
 have l1:=lt_of_block h.hp
 exact ⟨(hb.block rb l1 (by rw [h.cp];exact hc)).trans h.hp,h.hr.same fun g hg=>hb.block g (h.hr.lt hg) (by rw [h.cr g hg];exact hc),h.ok,(hb.own _ l1).trans h.cp,fun g hg=>(hb.own g (h.hr.lt hg)).trans (h.cr g hg)⟩
theorem RTab.below {k:Nat} {ow:Own} {w w':World} {t:Value} {rows:List ND} (h:RTab k ow w t rows) (hb:Below w.heap.size w w'):RTab k ow w' t rows:=by
 obtain ⟨rb,v,rfl,h⟩:=h;exact ⟨rb,v,rfl,h.below hb⟩
theorem RTab.kept {k c:Nat} {ow ow':Own} {w w':World} {t:Value} {rows:List ND} (h:RTab k ow w t rows) (hb:Kept c ow w ow' w') (hc:k≠c):RTab k ow' w' t rows:=by
 obtain ⟨rb,v,rfl,h⟩:=h;exact ⟨rb,v,rfl,h.kept hb hc⟩
theorem RTab.ok {k:Nat} {ow:Own} {w:World} {t:Value} {rows:List ND} (h:RTab k ow w t rows):Ok rows:=by
 obtain ⟨rb,v,_,h⟩:=h;exact h.ok
theorem RTab.recolour {k k2:Nat} {ow ow2:Own} {w:World} {t:Value} {rows:List ND} (h:RTab k ow w t rows) (hc:∀ b,ow b=k→ow2 b=k2):RTab k2 ow2 w t rows:=by
 obtain ⟨rb,v,rfl,⟨h1,h2,h3,h4,h5⟩⟩:=h
 exact ⟨rb,v,rfl,h1,h2,h3,hc _ h4,fun g hg=>hc _ (h5 g hg)⟩
structure RRow (w:World) (rb g c len i:Nat) (n:ND):Prop where
 cp:w.cell? ⟨rb,0,none⟩=some (.slice (some ⟨g,0,none⟩) len c)
 d0:w.cell? ⟨g,i * 4,none⟩=some (.int .i64 n.kind)
 d1:w.cell? ⟨g,i * 4+1,none⟩=some (.string n.name)
 d2:w.cell? ⟨g,i * 4+2,none⟩=some (.int .i64 n.l)
 d3:w.cell? ⟨g,i * 4+3,none⟩=some (.int .i64 n.r)
theorem RTabAt.row {k:Nat} {ow:Own} {w:World} {rb:Nat} {v:Value} {rows:List ND} (h:RTabAt k ow w rb v rows) {i:Nat} {n:ND} (hi:rows[i]? = some n):∃ g c,v = .slice (some ⟨g,0,none⟩) rows.length c∧RRow w rb g c rows.length i n:=by
 have hl:=(List.getElem?_eq_some_iff.1 hi).1
 obtain ⟨g,c,rfl,hg,hc⟩:=h.hr.get (by omega)
 exact ⟨g,c,rfl,cell_of h.hp rfl,hc _ _ (Bm rows i n hi 0 (by omega)),hc _ _ (Bm rows i n hi 1 (by omega)),hc _ _ (Bm rows i n hi 2 (by omega)),hc _ _ (Bm rows i n hi 3 (by omega))⟩
theorem RRow.below {w w':World} {rb g c len i:Nat} {n:ND} (h:RRow w rb g c len i n) (hb:Below w.heap.size w w'):RRow w' rb g c len i n:=by
 have hg:g<w.heap.size:=World.block_lt_of_cell? w _ h.d0
 have hr:rb<w.heap.size:=World.block_lt_of_cell? w _ h.cp
 exact ⟨(hb.cell (p:=⟨rb,0,none⟩) hr).trans h.cp,(hb.cell (p:=⟨g,i * 4,none⟩) hg).trans h.d0,(hb.cell (p:=⟨g,i * 4+1,none⟩) hg).trans h.d1,(hb.cell (p:=⟨g,i * 4+2,none⟩) hg).trans h.d2,(hb.cell (p:=⟨g,i * 4+3,none⟩) hg).trans h.d3⟩
set_option maxRecDepth 100000 in
theorem Bz (k:Nat) (ow:Own) (w:World) (t:Value) (rows:List ND) (h:RTab k ow w t rows) (i:Int) :
  Calls Tryz.prog 9 #[t,.int .i64 i] w fun e w'=>e = .returned (.bool (hasB rows.length i))∧w=w':=by
 obtain ⟨pb,v,rfl,⟨hb,hr,_⟩⟩:=h
 obtain ⟨a,c,rfl⟩:=hr.slice
 have c0:w.cell? ⟨pb,0,none⟩=some (.slice a rows.length c):=cell_of hb rfl
 clear hb hr
 by_cases h0:0≤i
 ·by_cases h1:i<(rows.length:Int)
  ·go_enter Tryz.func9,Tryz.ntmps9
   go_wp2
   go_ret
   exact ⟨Ce (by simp [hasB,h0,h1]),rfl⟩
  ·go_enter Tryz.func9,Tryz.ntmps9
   go_wp2
   go_ret
   exact ⟨Ce (by simp [hasB,h0,h1]),rfl⟩
 ·go_enter Tryz.func9,Tryz.ntmps9
  go_wp2
  go_ret
  exact ⟨Ce (by simp [hasB];omega),rfl⟩
theorem aU {a b:ByteArray}:a.toList=b.toList↔a=b:=by
 rw [ByteArray.toList_eq,ByteArray.toList_eq]
 constructor
 ·intro h
  obtain ⟨⟨x⟩⟩:=a
  obtain ⟨⟨y⟩⟩:=b
  simp only at h
  rw [h]
 ·intro h;rw [h]
theorem yI (w:World) (x y:ND):(binOp .eql 31 (.agg #[.int .i64 x.kind,.string x.name,.int .i64 x.l,.int .i64 x.r]) (.agg #[.int .i64 y.kind,.string y.name,.int .i64 y.l,.int .i64 y.r])).run Tryz.prog w = .ok (.bool (decide (x=y))) w:=by
 go_simp
 obtain ⟨a,b,c,d⟩:=x
 obtain ⟨a',b',c',d'⟩:=y
 simp only [ND.mk.injEq]
 by_cases h1:a=a'<;>by_cases h2:b=b'<;>by_cases h3:c=c'<;>by_cases h4:d=d'<;>simp [h1,h2,h3,h4,aU]
theorem yE (w:World) (x y:ND):(binOp .neq 31 (.agg #[.int .i64 x.kind,.string x.name,.int .i64 x.l,.int .i64 x.r]) (.agg #[.int .i64 y.kind,.string y.name,.int .i64 y.l,.int .i64 y.r])).run Tryz.prog w = .ok (.bool (!decide (x=y))) w:=by
 go_simp
 obtain ⟨a,b,c,d⟩:=x
 obtain ⟨a',b',c',d'⟩:=y
 simp only [ND.mk.injEq]
 by_cases h1:a=a'<;>by_cases h2:b=b'<;>by_cases h3:c=c'<;>by_cases h4:d=d'<;>simp [h1,h2,h3,h4,aU]
theorem dB {rows:List ND} {i:Nat} {x:ND} (h:(rows.take i).idxOf? x=none) (hi:rows[i]? = some x):rows.idxOf? x=some i:=by
 have hl:=(List.getElem?_eq_some_iff.1 hi).1
 unfold List.idxOf?
 rw [List.findIdx?_eq_some_iff_getElem]
 refine ⟨hl,by simp [(List.getElem?_eq_some_iff.1 hi).2],fun j hj e=>?_⟩
 refine (List.idxOf?_eq_none_iff.1 h) (List.mem_iff_getElem?.2 ⟨j,?_⟩)
 rw [List.getElem?_take,if_pos hj,List.getElem?_eq_getElem (by omega)]
 simpa using e
theorem fE {rows:List ND} {i:Nat} {x y:ND} (h:(rows.take i).idxOf? x=none) (hi:rows[i]? = some y) (hne:y≠x):(rows.take (i+1)).idxOf? x=none:=by
 refine List.idxOf?_eq_none_iff.2 fun hm=>?_
 rw [List.take_add_one,hi] at hm
 simp only [Option.toList_some,List.mem_append,List.mem_singleton] at hm
 rcases hm with hm | hm
 ·exact (List.idxOf?_eq_none_iff.1 h) hm
 ·exact hne hm.symm
set_option maxRecDepth 100000 in
set_option maxHeartbeats 400000 in
theorem Ql (k:Nat) (ow:Own) (w:World) (t:Value) (rows:List ND) (h:RTab k ow w t rows) (kd l r:Int) (nm:ByteArray) :
  Calls Tryz.prog 65 #[t,.agg #[.int .i64 kd,.string nm,.int .i64 l,.int .i64 r]] w fun e w'=>e = .returned (.tuple #[.int .i64 (((rows.idxOf? ⟨kd,nm,l,r⟩).getD 0:Nat):Int),.bool (rows.idxOf? ⟨kd,nm,l,r⟩).isSome])∧Below w.heap.size w w':=by
 have hle:=h.ok.le
 obtain ⟨rb,v,rfl,ht⟩:=h
 have hbx:Boxed (w.alloc (.cells #[.int .i64 kd,.string nm,.int .i64 l,.int .i64 r] 31)) w.heap.size ⟨kd,nm,l,r⟩:=Gx w ⟨kd,nm,l,r⟩ _
 have hv:=ht.hr.slice
 obtain ⟨a,c,rfl⟩:=hv
 have HB:=Aa hbx
 have HT:=Aa (ht.below (Ab w (.cells #[.int .i64 kd,.string nm,.int .i64 l,.int .i64 r] 31)))
 clear hbx ht
 go_enter Tryz.func65,Tryz.ntmps65
 go_wp2
 go_loopw [6] (fun i W=>∃ j:Nat,j≤rows.length∧i = .int .i64 j∧(rows.take j).idxOf? ⟨kd,nm,l,r⟩=none∧Below (w.heap.size+1) (w.alloc (.cells #[.int .i64 kd,.string nm,.int .i64 l,.int .i64 r] 31)) W) (fun i _=>rows.length - (intOf i).toNat)
 case atStart=>exact ⟨0,Nat.zero_le _,rfl,rfl,Below.refl _ _⟩
 case round=>
  obtain ⟨j,hj,rfl,hn,hb⟩:=hrel
  have hb':Below (w.alloc (.cells #[.int .i64 kd,.string nm,.int .i64 l,.int .i64 r] 31)).heap.size (w.alloc (.cells #[.int .i64 kd,.string nm,.int .i64 l,.int .i64 r] 31)) wr:=by simpa using hb
  have htr:=HT.o.below hb'
  obtain ⟨c0,c1,c2,c3⟩:=HB.o.below hb'
  have hbel:Below w.heap.size w wr:=Ac (Ab w _) hb'
  have HN:=Aa hn;have HBL:=Aa hbel;have HB2:=Aa hb
  clear hn hbel hb hb'
  by_cases hlt:j<rows.length
  ·obtain ⟨x,hx⟩:∃ x,rows[j]? = some x:=⟨_,List.getElem?_eq_getElem hlt⟩
   obtain ⟨g,c',hv,⟨cp,d0,d1,d2,d3⟩⟩:=htr.row hx
   cases hv
   have hq:=fun W=>yI W x ⟨kd,nm,l,r⟩
   simp only at hq
   have HX:=Aa hx
   have hji:(j:Int)<(rows.length:Int):=by omega
   clear htr hx
   by_cases hxn:x=⟨kd,nm,l,r⟩
   ·have hd:decide (x=⟨kd,nm,l,r⟩)=true:=by simp [hxn]
    have HF:Hid (rows.idxOf? ⟨kd,nm,l,r⟩=some j):=dB HN.o (by rw [HX.o,hxn])
    clear hxn
    go_wp2
    go_quiet (fail)
    go_wp2
    go_ret2
    rw [HF.o]
    exact ⟨rfl,Ac HBL.o (below_drewN _ _)⟩
   ·have hd:decide (x=⟨kd,nm,l,r⟩)=false:=by simp [hxn]
    have HF:Hid ((rows.take (j+1)).idxOf? ⟨kd,nm,l,r⟩=none):=fE HN.o HX.o hxn
    clear hxn
    go_wp2
    go_quiet (fail)
    go_wp2
    exact ⟨⟨j+1,by omega,by go_num,HF.o,HB2.o.trans ((below_drewN wr nq).mono (by have:=HB2.o.size;simpa using this))⟩,by simp [intOf];omega⟩
  ·have HF:Hid (rows.idxOf? ⟨kd,nm,l,r⟩=none):=by have:=HN.o;rwa [List.take_of_length_le (by omega)] at this
   have cp:wr.cell? ⟨rb,0,none⟩=some (.slice a rows.length c):=cell_of htr.hp rfl
   clear htr
   go_wp2
   go_ret2
   rw [HF.o]
   exact ⟨rfl,HBL.o⟩
end Go.Dk
end
section
namespace Go.Dk
open Go.RowKit Go.Maps Go.MapKept
open Go.Proofs hiding intOf
set_option maxRecDepth 100000 in
set_option maxHeartbeats 800000 in
theorem mD (k:Nat) (ow:Own) (w:World) (t:Value) (rows:List ND) (h:RTab k ow w t rows) (kd l r:Int) (nm:ByteArray) (hn:nm.size≤maxLen) (hf:fits rows.length ⟨kd,nm,l,r⟩≠0) :
  Calls Tryz.prog 42 #[t,.agg #[.int .i64 kd,.string nm,.int .i64 l,.int .i64 r]] w fun e w'=>e = .returned (.tuple #[.int .i64 0,.int .i64 (fits rows.length ⟨kd,nm,l,r⟩)])∧Below w.heap.size w w':=by
 have H:Hid (∀ o,RTab k ow (w.alloc o) t rows):=fun o=>h.below (Ab _ _)
 have HF:=Aa hf
 obtain ⟨rb,v,rfl,ht⟩:=h
 clear ht hf
 by_cases h1:kd=1
 ·subst h1
  by_cases h2:l=0
  ·subst h2
   by_cases h3:r=0
   ·subst h3
    cases h4:word nm with
    | true=>exact absurd (by simp [fits,h4]) HF.o
    | false=>
     have HE:Hid (fits rows.length ⟨1,nm,0,0⟩=32):=by simp [Hid,fits,h4]
     go_enter Tryz.func42,Tryz.ntmps42
     go_wp2_with (go_at_call 64;refine (Nn _ _ hn).mono ?_;rintro e w2 ⟨rfl,hb2⟩)
     go_ret2
     rw [HE.o]
     exact ⟨rfl,Ac (Ab _ _) hb2⟩
   ·have HE:Hid (fits rows.length ⟨1,nm,0,r⟩=31):=by simp [Hid,fits,h3]
    have hb:(r != 0)=true:=by simp [h3]
    go_enter Tryz.func42,Tryz.ntmps42
    go_wp2
    go_ret2
    rw [HE.o]
    exact ⟨rfl,Ab _ _⟩
  ·have HE:Hid (fits rows.length ⟨1,nm,l,r⟩=31):=by simp [Hid,fits,h2]
   have hb:(l != 0)=true:=by simp [h2]
   go_enter Tryz.func42,Tryz.ntmps42
   go_wp2
   go_ret2
   rw [HE.o]
   exact ⟨rfl,Ab _ _⟩
 ·by_cases h2:kd=2
  ·subst h2
   have HE:Hid (fits rows.length ⟨2,nm,l,r⟩=31):=by
    have:=HF.o
    unfold fits at this ⊢
    rw [if_neg (by simp),if_pos rfl] at this ⊢
    split
    ·rfl
    ·rename_i h;rw [if_neg h] at this;exact absurd rfl this
   have hd:¬ (nm.toList = []∧l=0∧r=0):=by
    rintro ⟨a,b,c⟩
    have:=HE.o
    simp [fits,Jy.1 a,b,c] at this
   cases h4:nm.toList.isEmpty with
   | false=>
    have h4':¬ nm.toList = []:=by intro h;rw [h] at h4;cases h4
    clear hd
    go_enter Tryz.func42,Tryz.ntmps42
    go_wp2
    go_ret2
    rw [HE.o]
    exact ⟨rfl,Ab _ _⟩
   | true=>
    have h4':nm.toList = []:=by simpa using h4
    by_cases h5:l=0
    ·have h6:(r != 0)=true:=by simp;intro h;exact hd ⟨h4',h5,h⟩
     subst h5
     clear hd
     go_enter Tryz.func42,Tryz.ntmps42
     go_wp2
     go_ret2
     rw [HE.o]
     exact ⟨rfl,Ab _ _⟩
    ·have h6:(l != 0)=true:=by simp [h5]
     clear hd
     go_enter Tryz.func42,Tryz.ntmps42
     go_wp2
     go_ret2
     rw [HE.o]
     exact ⟨rfl,Ab _ _⟩
  ·by_cases h3:kd=3∨kd=4∨kd=5
   ·have hm:fits rows.length ⟨kd,nm,l,r⟩=if nm.size≠0∨hasB rows.length l=false∨hasB rows.length r=false then 31 else 0:=by
     unfold fits;rw [if_neg h1,if_neg h2,if_pos h3]
    have HE:Hid (fits rows.length ⟨kd,nm,l,r⟩=31):=by
     have:=HF.o
     rw [hm] at this
     rw [Hid,hm]
     split
     ·rfl
     ·rename_i h;rw [if_neg h] at this;exact absurd rfl this
    have hd:¬ (nm.toList = []∧hasB rows.length l=true∧hasB rows.length r=true):=by
     rintro ⟨a,b,c⟩
     have:=HE.o
     rw [hm] at this
     simp [Jy.1 a,b,c] at this
    clear hm
    cases h4:nm.toList.isEmpty with
    | false=>
     have h4':¬ nm.toList = []:=by intro h;rw [h] at h4;cases h4
     clear hd
     rcases h3 with rfl | rfl | rfl
     all_goals
      go_enter Tryz.func42,Tryz.ntmps42
      go_wp2
      go_ret2
      rw [HE.o]
      exact ⟨rfl,Ab _ _⟩
    | true=>
     have h4':nm.toList = []:=by simpa using h4
     cases h5:hasB rows.length l with
     | false=>
      clear hd h4'
      rcases h3 with rfl | rfl | rfl
      all_goals
       go_enter Tryz.func42,Tryz.ntmps42
       go_wp2_with (go_at_call 9;refine (Bz k ow _ _ rows (H.o _) _).mono ?_;rintro e w' ⟨rfl,rfl⟩)
       go_ret2
       rw [HE.o]
       exact ⟨rfl,Ab _ _⟩
     | true=>
      have h6:hasB rows.length r=false:=by
       cases h:hasB rows.length r with
       | false=>rfl
       | true=>exact absurd ⟨h4',h5,h⟩ hd
      clear hd h4'
      rcases h3 with rfl | rfl | rfl
      all_goals
       go_enter Tryz.func42,Tryz.ntmps42
       go_wp2_with (go_at_call 9;refine (Bz k ow _ _ rows (H.o _) _).mono ?_;rintro e w' ⟨rfl,rfl⟩)
       go_ret2
       rw [HE.o]
       exact ⟨rfl,Ab _ _⟩
   ·have ha:¬ kd=3:=fun e=>h3 (.inl e)
    have hb:¬ kd=4:=fun e=>h3 (.inr (.inl e))
    have hc:¬ kd=5:=fun e=>h3 (.inr (.inr e))
    have HM:Hid (fits rows.length ⟨kd,nm,l,r⟩=31):=by unfold fits;rw [Hid,if_neg h1,if_neg h2,if_neg h3]
    go_enter Tryz.func42,Tryz.ntmps42
    go_wp2
    go_ret2
    rw [HM.o]
    exact ⟨rfl,Ab _ _⟩
end Go.Dk
end
section
namespace Go.Dk
open Go.RowKit Go.Maps Go.MapKept
open Go.Proofs hiding intOf
theorem Wh {m:Nat} {kd l r:Int} {nm:ByteArray} (h:fits m ⟨kd,nm,l,r⟩=0):(kd=1∧l=0∧r=0∧word nm=true)∨(kd=2∧nm.toList = []∧l=0∧r=0)∨((kd=3∨kd=4∨kd=5)∧nm.toList = []∧hasB m l=true∧hasB m r=true):=by
 unfold fits at h
 split at h
 ·rename_i h1
  split at h
  ·cases h
  ·rename_i h2
   split at h
   ·rename_i h3
    simp only [not_or,Classical.not_not] at h2
    exact .inl ⟨h1,h2.1,h2.2,h3⟩
   ·cases h
 ·split at h
  ·rename_i h1
   split at h
   ·cases h
   ·rename_i h2
    simp only [not_or,Classical.not_not] at h2
    exact .inr (.inl ⟨h1,Jy.2 h2.1,h2.2.1,h2.2.2⟩)
  ·split at h
   ·rename_i h1
    split at h
    ·cases h
    ·rename_i h2
     simp only [not_or,Classical.not_not,Bool.not_eq_false] at h2
     exact .inr (.inr ⟨h1,Jy.2 h2.1,h2.2.1,h2.2.2⟩)
   ·cases h
set_option maxRecDepth 100000 in
set_option maxHeartbeats 800000 in
theorem dL (k:Nat) (ow:Own) (w:World) (t:Value) (rows:List ND) (h:RTab k ow w t rows) (kd l r:Int) (nm:ByteArray) (hn:nm.size≤maxLen) (hf:fits rows.length ⟨kd,nm,l,r⟩=0) (i:Nat) (hi:rows.idxOf? ⟨kd,nm,l,r⟩=some i) :
  Calls Tryz.prog 42 #[t,.agg #[.int .i64 kd,.string nm,.int .i64 l,.int .i64 r]] w fun e w'=>e = .returned (.tuple #[.int .i64 (i:Int),.int .i64 0])∧Below w.heap.size w w':=by
 have H:=Aa h
 have HF:=Aa hf
 have hbx:Boxed (w.alloc (.cells #[.int .i64 kd,.string nm,.int .i64 l,.int .i64 r] 31)) w.heap.size ⟨kd,nm,l,r⟩:=Gx w ⟨kd,nm,l,r⟩ _
 have HB:=Aa hbx
 obtain ⟨rb,v,rfl,ht⟩:=h
 clear ht hf hbx
 go_enter Tryz.func42,Tryz.ntmps42
 go_upto_block 0 with fail
 go_cut [] (fun wx=>Below (w.alloc (.cells #[.int .i64 kd,.string nm,.int .i64 l,.int .i64 r] 31)).heap.size (w.alloc (.cells #[.int .i64 kd,.string nm,.int .i64 l,.int .i64 r] 31)) wx)
 case first=>
  have B0:=Below.refl (w.alloc (.cells #[.int .i64 kd,.string nm,.int .i64 l,.int .i64 r] 31)).heap.size (w.alloc (.cells #[.int .i64 kd,.string nm,.int .i64 l,.int .i64 r] 31))
  rcases Wh HF.o with ⟨rfl,rfl,rfl,h4⟩ | ⟨rfl,h4,rfl,rfl⟩ | ⟨h3,h4,h5,h6⟩
  ·go_wp2_with (go_at_call 64;refine (Nn _ _ hn).mono ?_;rintro e w2 ⟨rfl,hb2⟩)
   go_meet
   exact hb2
  ·go_wp2
   go_meet
   exact B0
  ·rcases h3 with rfl | rfl | rfl
   all_goals
    go_wp2_with (go_at_call 9;refine (Bz k ow _ _ rows (H.o.below (Ab _ _)) _).mono ?_;rintro e w' ⟨rfl,rfl⟩)
    go_meet
    exact B0
 case rest=>
  obtain ⟨c0,c1,c2,c3⟩:=HB.o.below hcut
  have hr:=H.o.below (Ac (Ab w _) hcut)
  have HR:=Aa hr;have HC:=Aa hcut
  clear hcut hr
  go_wp2_with (go_at_call 65;refine (Ql k ow _ _ rows HR.o _ _ _ _).mono ?_;rintro e w2 ⟨rfl,hb2⟩)
  go_ret2
  exact ⟨rfl,Ac (Ac (Ab _ _) HC.o) hb2⟩
set_option maxRecDepth 100000 in
set_option maxHeartbeats 800000 in
theorem fW (k:Nat) (ow:Own) (w:World) (t:Value) (rows:List ND) (h:RTab k ow w t rows) (kd l r:Int) (nm:ByteArray) (hn:nm.size≤maxLen) (hf:fits rows.length ⟨kd,nm,l,r⟩=0) (hi:rows.idxOf? ⟨kd,nm,l,r⟩=none) (hl:1024≤rows.length) :
  Calls Tryz.prog 42 #[t,.agg #[.int .i64 kd,.string nm,.int .i64 l,.int .i64 r]] w fun e w'=>e = .returned (.tuple #[.int .i64 0,.int .i64 30])∧Below w.heap.size w w':=by
 have H:=Aa h
 have HF:=Aa hf
 have hbx:Boxed (w.alloc (.cells #[.int .i64 kd,.string nm,.int .i64 l,.int .i64 r] 31)) w.heap.size ⟨kd,nm,l,r⟩:=Gx w ⟨kd,nm,l,r⟩ _
 have HB:=Aa hbx
 obtain ⟨rb,v,rfl,ht⟩:=h
 obtain ⟨a,c,rfl⟩:=ht.hr.slice
 have HT:=Aa ht
 clear ht hf hbx
 go_enter Tryz.func42,Tryz.ntmps42
 go_upto_block 0 with fail
 go_cut [] (fun wx=>Below (w.alloc (.cells #[.int .i64 kd,.string nm,.int .i64 l,.int .i64 r] 31)).heap.size (w.alloc (.cells #[.int .i64 kd,.string nm,.int .i64 l,.int .i64 r] 31)) wx)
 case first=>
  have B0:=Below.refl (w.alloc (.cells #[.int .i64 kd,.string nm,.int .i64 l,.int .i64 r] 31)).heap.size (w.alloc (.cells #[.int .i64 kd,.string nm,.int .i64 l,.int .i64 r] 31))
  rcases Wh HF.o with ⟨rfl,rfl,rfl,h4⟩ | ⟨rfl,h4,rfl,rfl⟩ | ⟨h3,h4,h5,h6⟩
  ·go_wp2_with (go_at_call 64;refine (Nn _ _ hn).mono ?_;rintro e w2 ⟨rfl,hb2⟩)
   go_meet
   exact hb2
  ·go_wp2
   go_meet
   exact B0
  ·rcases h3 with rfl | rfl | rfl
   all_goals
    go_wp2_with (go_at_call 9;refine (Bz k ow _ _ rows (H.o.below (Ab _ _)) _).mono ?_;rintro e w' ⟨rfl,rfl⟩)
    go_meet
    exact B0
 case rest=>
  obtain ⟨c0,c1,c2,c3⟩:=HB.o.below hcut
  have hbel:=Ac (Ab w _) hcut
  have hr:=H.o.below hbel
  have htr:=HT.o.below hbel
  have HR:=Aa hr;have HC:=Aa hcut;have HTR:=Aa htr;have HBL:=Aa hbel
  clear hcut hr htr hbel
  go_wp2_with (go_at_call 65;refine (Ql k ow _ _ rows HR.o _ _ _ _).mono ?_;rintro e w2 ⟨rfl,hb2⟩;have cp:w2.cell? ⟨rb,0,none⟩=some (.slice a rows.length c):=cell_of (HTR.o.below hb2).hp rfl)
  go_ret2
  exact ⟨rfl,Ac HBL.o hb2⟩
theorem qB {k:Nat} {ow:Own} {w w3 w4:World} {rb g cap:Nat} {u:Value} {rows:List ND} {n:ND} {H:Nat} (hH:w.heap.size≤H)
  (lp:rb<w.heap.size) (hb:Below w.heap.size w w3) (cp:ow rb=k) (cr:∀ g,u.ownBlock=some g→ow g=k) (n1:u.ownBlock≠some rb)
  (m1:w4.heap[rb]? = some (.cells #[u] 33 (0,0))) (ok:Ok rows) (hf:fits rows.length n=0) (hi:rows.idxOf? n=none) (hl:rows.length<1024)
  (hown:w4.ownsRow 0 31 4 (.slice (some ⟨g,0,none⟩) (rows.length+1) cap) (rows.length+1) (As rows++n.cells))
  (hat:u.ownBlock=some g∨H≤g) (hg:w3.grownBy w4 u.ownBlock) :
  (w4.setCell ⟨rb,0,none⟩ (.slice (some ⟨g,0,none⟩) (rows.length+1) cap)).cell? ⟨rb,0,none⟩=some (.slice (some ⟨g,0,none⟩) (rows.length+1) cap) ∧
  ∃ ow',Kept k ow w ow' (w4.setCell ⟨rb,0,none⟩ (.slice (some ⟨g,0,none⟩) (rows.length+1) cap))∧RTab k ow' (w4.setCell ⟨rb,0,none⟩ (.slice (some ⟨g,0,none⟩) (rows.length+1) cap)) (.pointer (some ⟨rb,0,none⟩)) (rows++[n]):=by
 have gp:g≠rb:=by
  rcases hat with h | h
  ·intro e;exact n1 (e▸h)
  ·omega
 have so:∀ b,b≠rb→(w4.setCell ⟨rb,0,none⟩ (.slice (some ⟨g,0,none⟩) (rows.length+1) cap)).heap[b]? = w4.heap[b]?:=fun b h=>Below.heap_setCell _ _ _ _ h
 have hp:=Di (i:=0) m1 (.slice (some ⟨g,0,none⟩) (rows.length+1) cap)
 refine ⟨cell_of hp rfl,fun b=>if b<w.heap.size then ow b else k,((hb.kept_ow.trans (Tu hg cr)).trans (Jb _ cp _)).recolour (fun b hb=>by simp [hb]),rb,_,rfl,hp,?_,ok.snoc hf hi (by omega),by simp [lp,cp],fun g' h=>?_⟩
 ·have e:As (rows++[n])=As rows++n.cells:=by simp [As]
  rw [e,List.length_append]
  refine .inl ⟨hown.1,.inr ?_⟩
  rcases hown.2 with ⟨h,_⟩ | ⟨g',cap',cur,h,hb',hg',r⟩
  ·cases h
  ·cases h
   exact ⟨g,cap,cur,rfl,hb',(so g gp).trans hg',r⟩
 ·cases h
  show (if g<w.heap.size then ow g else k)=k
  split
  ·rename_i hl'
   rcases hat with h | h
   ·exact cr _ h
   ·omega
  ·rfl
set_option maxRecDepth 100000 in
set_option maxHeartbeats 800000 in
theorem kH (k:Nat) (ow:Own) (w:World) (t:Value) (rows:List ND) (h:RTab k ow w t rows) (kd l r:Int) (nm:ByteArray) (hn:nm.size≤maxLen) (hf:fits rows.length ⟨kd,nm,l,r⟩=0) (hi:rows.idxOf? ⟨kd,nm,l,r⟩=none) (hl:rows.length<1024) :
  Calls Tryz.prog 42 #[t,.agg #[.int .i64 kd,.string nm,.int .i64 l,.int .i64 r]] w fun e w'=>e = .returned (.tuple #[.int .i64 (rows.length:Int),.int .i64 0])∧∃ ow',Kept k ow w ow' w'∧RTab k ow' w' t (rows++[⟨kd,nm,l,r⟩]):=by
 have H:=Aa h
 have HF:=Aa hf
 have hbx:Boxed (w.alloc (.cells #[.int .i64 kd,.string nm,.int .i64 l,.int .i64 r] 31)) w.heap.size ⟨kd,nm,l,r⟩:=Gx w ⟨kd,nm,l,r⟩ _
 have HB:=Aa hbx
 obtain ⟨rb,v,rfl,ht⟩:=h
 obtain ⟨a,c,rfl⟩:=ht.hr.slice
 have HT:=Aa ht
 have HI:=Aa hi
 clear ht hf hbx
 go_enter Tryz.func42,Tryz.ntmps42
 go_upto_block 0 with fail
 go_cut [] (fun wx=>Below (w.alloc (.cells #[.int .i64 kd,.string nm,.int .i64 l,.int .i64 r] 31)).heap.size (w.alloc (.cells #[.int .i64 kd,.string nm,.int .i64 l,.int .i64 r] 31)) wx)
 case first=>
  have B0:=Below.refl (w.alloc (.cells #[.int .i64 kd,.string nm,.int .i64 l,.int .i64 r] 31)).heap.size (w.alloc (.cells #[.int .i64 kd,.string nm,.int .i64 l,.int .i64 r] 31))
  rcases Wh HF.o with ⟨rfl,rfl,rfl,h4⟩ | ⟨rfl,h4,rfl,rfl⟩ | ⟨h3,h4,h5,h6⟩
  ·go_wp2_with (go_at_call 64;refine (Nn _ _ hn).mono ?_;rintro e w2 ⟨rfl,hb2⟩)
   go_meet
   exact hb2
  ·go_wp2
   go_meet
   exact B0
  ·rcases h3 with rfl | rfl | rfl
   all_goals
    go_wp2_with (go_at_call 9;refine (Bz k ow _ _ rows (H.o.below (Ab _ _)) _).mono ?_;rintro e w' ⟨rfl,rfl⟩)
    go_meet
    exact B0
 case rest=>
  have hbx:=HB.o.below hcut
  have hbel:=Ac (Ab w _) hcut
  have hr:=H.o.below hbel
  have htr:=HT.o.below hbel
  have HBX:=Aa hbx
  obtain ⟨c0,c1,c2,c3⟩:=hbx
  have HR:=Aa hr;have HC:=Aa hcut;have HTR:=Aa htr;have HBL:=Aa hbel
  have h1024:¬ 1024≤(rows.length:Int):=by omega
  clear hcut hr htr hbel
  go_wp2_with (go_at_call 65;refine (Ql k ow _ _ rows HR.o _ _ _ _).mono ?_;rintro e w3 ⟨rfl,hb3⟩;have cp:w3.cell? ⟨rb,0,none⟩=some (.slice a rows.length c):=cell_of (HTR.o.below hb3).hp rfl;clear c0 c1 c2 c3;obtain ⟨c0,c1,c2,c3⟩:=HBX.o.below hb3)
  have ht3:=HTR.o.below hb3
  have m2:=ht3.hr
  have lp3:rb<w3.heap.size:=lt_of_block ht3.hp
  have n1:(Value.slice a rows.length c).ownBlock≠some rb:=m2.ne ht3.hp (by intro cur fr e;cases e)
  have N1:=Aa n1;have HT3:=Aa ht3
  have HB3:=Aa (Ac HBL.o hb3)
  have lB:w.heap.size<w3.heap.size:=World.block_lt_of_cell? w3 _ c0
  clear n1 ht3 hb3
  go_region_law (refine Vs rfl (.tmp 78) (.tmp 80) 22 rfl 31 _ 4 40 Tryz.underlying22 Mc rfl (by decide) _ rows.length (As rows) (by simp [Act.eval];rfl) (by exact m2.alloc _) ⟨w3.heap.size,0,none⟩ 1 1 (ND.cells ⟨kd,nm,l,r⟩) (by simp [Act.eval]) rfl (World.news_of_block (Cd _ _ rfl)) (by simp [ND.cells,Value.oneCell']) (by decide) (by unfold maxLen;omega) (by omega) ?_;intro g cap w4 hown hgrow hat hlt;have hgr:w3.grownBy w4 (Value.slice a rows.length c).ownBlock:=Qo hgrow;have q1:=(hgr.block rb lp3 (Ne.symm N1.o)).trans HT3.o.hp;have q2:w4.cell? ⟨rb,0,none⟩=some (.slice a rows.length c):=cell_of q1 rfl;have q3:=Dt (i:=0) q1;have Q1:=Aa q1;clear q1 hgrow)
  all_goals
   have hfin:=qB (k:=k) (ow:=ow) (w:=w) (n:=⟨kd,nm,l,r⟩) (H:=w3.heap.size) (Nat.le_of_lt lB) (lt_of_block HT.o.hp) HB3.o HT.o.cp HT.o.cr N1.o Q1.o HT.o.ok HF.o HI.o hl hown (hat.imp id (fun h=>by simp at h;omega)) hgr
   obtain ⟨s1,s2⟩:=hfin
   have HS:=Aa s2
   clear s2 hown hat hgr q2 q3 Q1
   generalize w4.setCell ⟨rb,0,none⟩ (.slice (some ⟨g,0,none⟩) (rows.length+1) cap)=w5 at *
   go_wp2
   go_ret2
   exact ⟨rfl,HS.o⟩
def Ur (k:Nat) (ow:Own) (w:World) (t:Value) (p:Put) (e:Ending) (w':World):Prop:=
 e = .returned (.tuple #[.int .i64 p.id,.int .i64 p.err])∧∃ ow',Kept k ow w ow' w'∧RTab k ow' w' t p.rows
end Go.Dk
end
section
namespace Go.Dk
open Go.RowKit Go.Maps Go.MapKept
open Go.Proofs hiding intOf
theorem Qa (k:Nat) (ow:Own) (w:World) (t:Value) (rows:List ND) (h:RTab k ow w t rows) (kd l r:Int) (nm:ByteArray) (hn:nm.size≤maxLen) :
  Calls Tryz.prog 42 #[t,.agg #[.int .i64 kd,.string nm,.int .i64 l,.int .i64 r]] w (Ur k ow w t (put rows ⟨kd,nm,l,r⟩)):=by
 unfold put Ur
 by_cases hf:fits rows.length ⟨kd,nm,l,r⟩=0
 ·rw [if_neg (by simpa using hf)]
  cases hi:rows.idxOf? ⟨kd,nm,l,r⟩ with
  | some i=>
   refine (dL k ow w t rows h kd l r nm hn hf i hi).mono ?_
   rintro e w' ⟨rfl,hb⟩
   exact ⟨rfl,ow,.of_below hb,h.below hb⟩
  | none=>
   by_cases hl:1024≤rows.length
   ·simp only [if_pos hl]
    refine (fW k ow w t rows h kd l r nm hn hf hi hl).mono ?_
    rintro e w' ⟨rfl,hb⟩
    exact ⟨rfl,ow,.of_below hb,h.below hb⟩
   ·simp only [if_neg hl]
    exact kH k ow w t rows h kd l r nm hn hf hi (by omega)
 ·rw [if_pos (by simpa using hf)]
  refine (mD k ow w t rows h kd l r nm hn hf).mono ?_
  rintro e w' ⟨rfl,hb⟩
  exact ⟨rfl,ow,.of_below hb,h.below hb⟩
section
variable (k:Nat) (ow:Own) (w:World) (t:Value) (rows:List ND) (h:RTab k ow w t rows)
include h
set_option maxRecDepth 100000 in
theorem AO:Calls Tryz.prog 62 #[t] w (Ur k ow w t (put rows ⟨2,⟨#[]⟩,0,0⟩)):=by
 go_enter Tryz.func62,Tryz.ntmps62
 go_wp2_with (go_at_call 42;refine (Qa k ow _ _ rows h _ _ _ _ Zy).mono ?_;rintro e w' ⟨rfl,hq⟩)
 go_ret2
 exact ⟨rfl,hq⟩
set_option maxRecDepth 100000 in
theorem mF (kd a b:Int):Calls Tryz.prog 63 #[t,.int .i64 kd,.int .i64 a,.int .i64 b] w (Ur k ow w t (put rows ⟨kd,⟨#[]⟩,a,b⟩)):=by
 go_enter Tryz.func63,Tryz.ntmps63
 go_wp2_with (go_at_call 42;refine (Qa k ow _ _ rows h _ _ _ _ Zy).mono ?_;rintro e w' ⟨rfl,hq⟩)
 go_ret2
 exact ⟨rfl,hq⟩
set_option maxRecDepth 100000 in
theorem kU (a b:Int):Calls Tryz.prog 61 #[t,.int .i64 a,.int .i64 b] w (Ur k ow w t (put rows ⟨5,⟨#[]⟩,a,b⟩)):=by
 go_enter Tryz.func61,Tryz.ntmps61
 go_wp2_with (go_at_call 63;refine (mF k ow _ _ rows h _ _ _).mono ?_;rintro e w' ⟨rfl,hq⟩)
 go_ret2
 exact ⟨rfl,hq⟩
end
set_option maxRecDepth 100000 in
theorem kT (k:Nat) (ow:Own) (w:World) (t:Value) (rows:List ND) (h:RTab k ow w t rows) (n:Int) (hn:n<0∨(rows.length:Int)<n) :
  Calls Tryz.prog 41 #[t,.int .i64 n] w fun e w'=>e = .returned (.int .i64 2)∧w=w':=by
 obtain ⟨rb,v,rfl,ht⟩:=h
 obtain ⟨a,c,rfl⟩:=ht.hr.slice
 have c5:w.cell? ⟨rb,0,none⟩=some (.slice a rows.length c):=cell_of ht.hp rfl
 clear ht
 rcases hn with hn | hn
 ·go_enter Tryz.func41,Tryz.ntmps41
  go_wp2
  go_ret
  exact ⟨rfl,rfl⟩
 ·have hn0:¬ n<0:=by omega
  go_enter Tryz.func41,Tryz.ntmps41
  go_wp2
  go_ret
  exact ⟨rfl,rfl⟩
theorem Po {k:Nat} {ow:Own} {w:World} {rb:Nat} {v u:Value} {rows:List ND} {n:Nat} (ht:RTabAt k ow w rb v rows) (hn:n≤rows.length) (hu:Iz w 31 4 u n (As (rows.take n))) (ho:u.ownBlock=v.ownBlock) :
  ∃ ow',Kept k ow w ow' (w.setCell ⟨rb,0,none⟩ u)∧RTab k ow' (w.setCell ⟨rb,0,none⟩ u) (.pointer (some ⟨rb,0,none⟩)) (rows.take n):=by
 have hl:(rows.take n).length=n:=by simp;omega
 have nb:v.ownBlock≠some rb:=ht.hr.ne ht.hp (by intro cur fr e;cases e)
 refine ⟨ow,Jb _ ht.cp _,rb,u,rfl,Di ht.hp _,?_,ht.ok.take n,ht.cp,fun g hg=>ht.cr g (ho▸hg)⟩
 rw [hl]
 exact hu.same fun g hg=>Below.heap_setCell _ _ _ _ (fun e=>nb (by rw [← ho,hg];exact congrArg some e))
set_option maxRecDepth 100000 in
set_option maxHeartbeats 400000 in
theorem fK (k:Nat) (ow:Own) (w:World) (t:Value) (rows:List ND) (h:RTab k ow w t rows) (n:Nat) (hn:n≤rows.length) :
  Calls Tryz.prog 41 #[t,.int .i64 (n:Int)] w fun e w'=>e = .returned (.int .i64 0)∧∃ ow',Kept k ow w ow' w'∧RTab k ow' w' t (rows.take n):=by
 have hle:=h.ok.le
 obtain ⟨rb,v,rfl,ht⟩:=h
 have HT:=Aa ht
 have hn0:decide ((n:Int)<0)=false:=by simp
 have hn1:¬ rows.length<n:=by omega
 have c6:=Dt (i:=0) ht.hp
 have hm:rows.length≤maxLen:=by unfold maxLen;omega
 rcases Nat.eq_zero_or_pos rows.length with h0 | h0
 ·have:rows = []:=List.eq_nil_of_length_eq_zero h0
  subst this
  obtain rfl:n=0:=by simpa using hn
  rcases ht.hr with h1 | ⟨g,cur,rfl,h1⟩
  ·rcases h1.2 with ⟨rfl,_⟩ | ⟨g,cap,cur,rfl,_,_,hcap,_⟩
   ·have c5:w.cell? ⟨rb,0,none⟩=some (.slice none 0 0):=cell_of ht.hp rfl
    have HF:=Aa (Po ht (n:=0) (by simp) (.inl (World.ownsRow_nil _ _ _ _)) rfl)
    clear ht h1
    go_enter Tryz.func41,Tryz.ntmps41
    go_wp2
    go_ret
    exact ⟨rfl,HF.o⟩
   ·have c5:w.cell? ⟨rb,0,none⟩=some (.slice (some ⟨g,0,none⟩) 0 cap):=cell_of ht.hp rfl
    have HF:=Aa (Po ht (u:=.slice (some ⟨g,0,none⟩) 0 0) (n:=0) (by simp) (by simpa [As] using ht.hr.cut (n':=0) (by simp) (by simp [maxLen]) rfl) rfl)
    clear ht h1
    go_enter Tryz.func41,Tryz.ntmps41
    go_wp2
    go_ret
    exact ⟨rfl,HF.o⟩
  ·have c5:w.cell? ⟨rb,0,none⟩=some (.slice (some ⟨g,0,none⟩) 0 0):=cell_of ht.hp rfl
   have HF:=Aa (Po ht (u:=.slice (some ⟨g,0,none⟩) 0 0) (n:=0) (by simp) (by simpa [As] using ht.hr.cut (n':=0) (by simp) (by simp [maxLen]) rfl) rfl)
   clear ht h1
   go_enter Tryz.func41,Tryz.ntmps41
   go_wp2
   go_ret
   exact ⟨rfl,HF.o⟩
 ·obtain ⟨g,c,rfl,hg,_⟩:=ht.hr.get h0
  have hcap:rows.length≤c:=by
   rcases ht.hr with h1 | ⟨g',cur,h1,_⟩
   ·rcases h1.2 with ⟨h,_⟩ | ⟨g',cap,cur,h,_,_,h2,_⟩
    ·cases h
    ·cases h;exact h2
   ·cases h1;exact Nat.le_refl _
  have c5:w.cell? ⟨rb,0,none⟩=some (.slice (some ⟨g,0,none⟩) rows.length c):=cell_of ht.hp rfl
  have hcn:n≤c:=by omega
  have HF:=Aa (Po ht (u:=.slice (some ⟨g,0,none⟩) n n) hn (by rw [Qy];exact ht.hr.cut hn hm rfl) rfl)
  clear ht
  go_enter Tryz.func41,Tryz.ntmps41
  go_wp2
  go_ret
  exact ⟨rfl,HF.o⟩
theorem lR (k:Nat) (ow:Own) (w:World) (t:Value) (rows:List ND) (h:RTab k ow w t rows) (n:Int) :
  Calls Tryz.prog 41 #[t,.int .i64 n] w fun e w'=>e = .returned (.int .i64 (Rz rows n).1)∧∃ ow',Kept k ow w ow' w'∧RTab k ow' w' t (Rz rows n).2:=by
 unfold Rz
 by_cases hn:0≤n∧n≤rows.length
 ·rw [if_pos hn]
  obtain ⟨m,rfl⟩:=Int.eq_ofNat_of_zero_le hn.1
  exact fK k ow w t rows h m (by omega)
 ·rw [if_neg hn]
  refine (kT k ow w t rows h n (by omega)).mono ?_
  rintro e w' ⟨rfl,rfl⟩
  exact ⟨rfl,ow,.refl _ _ _,h⟩
end Go.Dk
end
