/- Parts of the proof: Hh, Sq, Sr, St, Sj. -/
import Derived.Outline
import Derived.IntWalk
import Derived.BigQuiet
import Derived.Deep.QuietTactic
import Derived.Test.YthhokkfcdbcllaaGreatDoorR01
import Derived.Test.YthhokkfcdbcllaaGreatDoorR02
import Derived.Test.YthhokkfcdbcllaaGreatDoorR03
import Derived.Test.YthhokkfcdbcllaaGreatDoorR04
import Derived.Test.YthhokkfcdbcllaaGreatDoorR05
import Derived.Test.YthhokkfcdbcllaaGreatDoorR06
import Derived.Test.YthhokkfcdbcllaaGreatDoorR07
import Derived.Test.YthhokkfcdbcllaaGreatDoorR08
import Derived.Test.YthhokkfcdbcllaaGreatDoorR09
import Derived.Test.YthhokkfcdbcllaaGreatDoorR10
import Derived.Test.YthhokkfcdbcllaaGreatDoorR11
import Derived.Test.YthhokkfcdbcllaaGreatDoorR12
import Derived.Test.YthhokkfcdbcllaaGreatDoorR13
import Derived.Test.YthhokkfcdbcllaaGreatDoorR14
import Derived.Test.YthhokkfcdbcllaaGreatDoorR15
import Derived.Test.YthhokkfcdbcllaaGreatDoorR18
import Derived.Test.YthhokkfcdbcllaaGreatDoorR19
section
namespace Go.Dk
open Go.RowKit Go.Maps Go.MapKept Go.Shelf
open Go.Proofs hiding intOf
def Wy (rows:List ND):List Int→Nat→Int × Int
 | [],_=>(0,0)
 | z::t,i=>if Hf rows [] z.toNat≠0 then (0,110) else if Gz rows [] z.toNat=true then ((i:Int),0) else Wy rows t (i+1)
def aN (rows:List ND) (a b:List Int) (c d:Int):Int × Int:=
 if (Ej rows a b c d).err≠0 then (0,if (Ej rows a b c d).err=30 then 110 else (Ej rows a b c d).err)
 else if Hf (Ej rows a b c d).rows [] (Ej rows a b c d).prem.toNat≠0 then (0,110)
 else if Gz (Ej rows a b c d).rows [] (Ej rows a b c d).prem.toNat=false then (0,2)
 else Wy (Ej rows a b c d).rows (Ej rows a b c d).parts 0
theorem xZ (w:World):Ji w (.slice none 0 0) []:=⟨[],⟨⟨none,0,rfl,fun _=>⟨rfl,rfl⟩,fun _ h=>by cases h⟩,rfl⟩,fun i zs x h1 _=>by simp at h1⟩
theorem lV (w:World):Rd w (.slice none 0 0) ([]:List Int).length 1 (ints []):=⟨⟨none,0,rfl,fun _=>⟨rfl,rfl⟩,fun _ h=>by cases h⟩,rfl⟩
theorem IdT.has {rows:List ND} {z:Int} {T:Fm} (h:IdT rows z T):∃ n:Nat,z=(n:Int)∧n<rows.length:=by obtain ⟨n,h1,h2,_⟩:=h;exact ⟨n,h1,h2⟩
theorem Ox.has {rows:List ND} {zs:List Int} {ts:List Fm} (h:Ox rows zs ts):∀ z ∈ zs,hasB rows.length z=true:=by
 induction h with
 | nil=>intro z hz;cases hz
 | cons a _ ih=>
  intro z hz
  rcases List.mem_cons.1 hz with rfl | hz
  ·obtain ⟨n,rfl,hn⟩:=a.has;simp [hasB,hn]
  ·exact ih z hz
theorem KeptF.from_ {F F':FP} {w W W':World} (h:KeptF F W F' W') (hb:Below w.heap.size w W) (hn:∀ b,F b→w.heap.size≤b):Below w.heap.size w W':=
 hb.trans (h.below hb.size fun b hl hf=>by have:=hn b hf;omega)
theorem All2.len {α β:Type} {R:α→β→Prop} {l:List α} {m:List β} (h:All2 R l m):l.length=m.length:=by
 induction h with
 | nil=>rfl
 | cons _ _ ih=>simp [ih]
theorem rG {rows:List ND} {ps:List Int} {j k:Nat} {z:Int} (h:ps[j]? = some z):Wy rows (ps.drop j) k=if Hf rows [] z.toNat≠0 then (0,110) else if Gz rows [] z.toNat=true then ((k:Int),0) else Wy rows (ps.drop (j+1)) (k+1):=by
 have hj:=(List.getElem?_eq_some_iff.1 h).1
 rw [List.drop_eq_getElem_cons hj]
 have:ps[j]=z:=(List.getElem?_eq_some_iff.1 h).2
 rw [this]
 rfl
set_option maxRecDepth 100000 in
set_option maxHeartbeats 4000000 in
theorem lP (F:FP) (w:World) (t va vb:Value) (rows:List ND) (h:Cm F w t rows) (hT:TabG w) (a b:List Int) (ha:Rd w va a.length 1 (ints a)) (hb:Rd w vb b.length 1 (ints b)) (hla:a.length<2 ^ 62) (hlb:b.length<2 ^ 62) (c d:Int) :
  Calls Tryz.prog 14 #[t,va,vb,.int .i64 c,.int .i64 d] w (Tz w (aN rows a b c d)):=by
 have H:=Aa h
 have HT:=Aa hT
 have HOK:=Aa h.ok
 have HLK:Hid (∀ W,Below w.heap.size w W→Calls Tryz.prog 25 #[t,.slice none 0 0] W fun e w'=>e = .returned (.int .i64 0)∧Below W.heap.size W w'):=fun W hb=>by
  have:=Gu 0 _ W t (.slice none 0 0) rows [] ((h.below hb).col 0) (xZ W) (by simp)
  simpa [Fa] using this
 have HVI:Hid (∀ (F1:FP) (W:World) (t1:Value),Below w.heap.size w W→Cm F1 W t1 rows→(∀ b,F1 b→w.heap.size≤b)→Calls Tryz.prog 15 #[t1,va,vb,.int .i64 c,.int .i64 d] W (Ue F1 W t1 (Ej rows a b c d))):=fun F1 W t1 hbw ht hn=>
  Zg F1 W t1 va vb rows ht a b (fun F2 W2 hk=>ha.below (hk.from_ hbw hn)) (fun F2 W2 hk=>hb.below (hk.from_ hbw hn)) hla hlb c d
 clear h hT ha hb
 obtain ⟨r,hr⟩:∃ r,r=Ej rows a b c d:=⟨_,rfl⟩
 have HAD:Hid (aN rows a b c d=if r.err≠0 then (0,if r.err=30 then 110 else r.err) else if Hf r.rows [] r.prem.toNat≠0 then (0,110) else if Gz r.rows [] r.prem.toNat=false then (0,2) else Wy r.rows r.parts 0):=by
  unfold Hid aN;rw [← hr]
 have HVO:Hid (r.err=0→(∃ n:Nat,r.prem=(n:Int)∧n<r.rows.length)∧(∀ z ∈ r.parts,hasB r.rows.length z=true)∧r.parts.length<2 ^ 62):=fun he=>by
  rw [hr] at he
  have h1:=(bI HOK.o he).1
  have h2:=(bI HOK.o he).2.2.1
  rw [← hr] at h1
  refine ⟨h1.prem.has,h1.parts.has,?_⟩
  have:=h1.parts.len
  simp at this
  have:=List.length_zip (l₁:=a) (l₂:=b)
  omega
 rw [← hr] at HVI
 clear hr
 by_cases h30:r.err=30
 ·have g30:(r.err == 30)=true:=by simpa using h30
  have HP:Hid (aN rows a b c d=(0,110)):=by unfold Hid;rw [HAD.o,if_pos (by omega),if_pos h30]
  clear h30
  go_enter Tryz.func14,Tryz.ntmps14
  go_wp2_with (first
   | (go_at_call 25;refine (HLK.o _ (Below.refl _ _)).mono ?_;rintro e w2 ⟨rfl,hb2⟩;have HB2:=Aa hb2;clear hb2)
   | (go_at_call 28;refine (Pg F _ t rows (H.o.below HB2.o)).mono ?_;rintro e w3 ⟨c1,cb,Fc,rfl,hA3,hF3,hc3,hb3⟩;unfold nO;have HA3:=Aa hA3;have HF3:Hid (∀ b,Fc b→w.heap.size≤b):=(fun b hb=>Nat.le_trans HB2.o.size (hF3 b hb));have HB3:=Aa (Ac HB2.o hb3);clear hA3 hF3 hc3 hb3)
   | (go_at_call 15;refine (HVI.o Fc _ c1 HB3.o HA3.o.tab HF3.o).mono ?_;rintro e w4 ⟨pv,F4,rfl,hk4,ht4,ho4⟩;have HA4:=Aa (HA3.o.put hk4 ht4);have HB4:Hid (Below w.heap.size w w4):=HB3.o.trans (hk4.below HB3.o.size (fun b hb hf=>by have:=HF3.o b hf;omega));obtain ⟨qa,qc,rfl⟩:=Ba ho4.own;have HO4:=Aa ho4;clear hk4 ht4 ho4))
  go_ret2
  exact Cf HP.o HB4.o
 ·have g30:(r.err == 30)=false:=by simpa using h30
  by_cases h0:r.err=0
  case neg=>
   have g0:(r.err != 0)=true:=by simpa using h0
   have HP:Hid (aN rows a b c d=(0,r.err)):=by unfold Hid;rw [HAD.o,if_pos h0,if_neg h30]
   clear h30 h0
   go_enter Tryz.func14,Tryz.ntmps14
   go_wp2_with (first
    | (go_at_call 25;refine (HLK.o _ (Below.refl _ _)).mono ?_;rintro e w2 ⟨rfl,hb2⟩;have HB2:=Aa hb2;clear hb2)
    | (go_at_call 28;refine (Pg F _ t rows (H.o.below HB2.o)).mono ?_;rintro e w3 ⟨c1,cb,Fc,rfl,hA3,hF3,hc3,hb3⟩;unfold nO;have HA3:=Aa hA3;have HF3:Hid (∀ b,Fc b→w.heap.size≤b):=(fun b hb=>Nat.le_trans HB2.o.size (hF3 b hb));have HB3:=Aa (Ac HB2.o hb3);clear hA3 hF3 hc3 hb3)
    | (go_at_call 15;refine (HVI.o Fc _ c1 HB3.o HA3.o.tab HF3.o).mono ?_;rintro e w4 ⟨pv,F4,rfl,hk4,ht4,ho4⟩;have HA4:=Aa (HA3.o.put hk4 ht4);have HB4:Hid (Below w.heap.size w w4):=HB3.o.trans (hk4.below HB3.o.size (fun b hb hf=>by have:=HF3.o b hf;omega));obtain ⟨qa,qc,rfl⟩:=Ba ho4.own;have HO4:=Aa ho4;clear hk4 ht4 ho4))
   go_ret2
   exact Cf HP.o HB4.o
  case pos=>
   have g0:(r.err != 0)=false:=by simpa using h0
   have HP:Hid (aN rows a b c d=if Hf r.rows [] r.prem.toNat≠0 then (0,110) else if Gz r.rows [] r.prem.toNat=false then (0,2) else Wy r.rows r.parts 0):=by unfold Hid;rw [HAD.o,if_neg (by simpa using h0)]
   obtain ⟨⟨p,hp,hpl⟩,hps,hpn⟩:=HVO.o h0
   have HPS:=Aa hps
   have HPL:Hid (p<r.rows.length∧r.parts.length<2 ^ 62):=⟨hpl,hpn⟩
   obtain ⟨prows,pprem,pparts,perr⟩:=r
   simp only at hp HP HPS HPL g0 g30 HVI h0
   subst hp
   subst h0
   rw [Int.toNat_natCast] at HP
   clear HVO HAD hps hpl hpn h30
   go_enter Tryz.func14,Tryz.ntmps14
   go_wp2_with (first
    | (go_at_call 25;refine (HLK.o _ (Below.refl _ _)).mono ?_;rintro e w2 ⟨rfl,hb2⟩;have HB2:=Aa hb2;clear hb2)
    | (go_at_call 28;refine (Pg F _ t rows (H.o.below HB2.o)).mono ?_;rintro e w3 ⟨c1,cb,Fc,rfl,hA3,hF3,hc3,hb3⟩;unfold nO;have HA3:=Aa hA3;have HF3:Hid (∀ b,Fc b→w.heap.size≤b):=(fun b hb=>Nat.le_trans HB2.o.size (hF3 b hb));have HB3:=Aa (Ac HB2.o hb3);clear hA3 hF3 hc3 hb3)
    | (go_at_call 15;refine (HVI.o Fc _ c1 HB3.o HA3.o.tab HF3.o).mono ?_;rintro e w4 ⟨pv,F4,rfl,hk4,ht4,ho4⟩;have HA4:=Aa (HA3.o.put hk4 ht4);have HB4:Hid (Below w.heap.size w w4):=HB3.o.trans (hk4.below HB3.o.size (fun b hb hf=>by have:=HF3.o b hf;omega));obtain ⟨qa,qc,rfl⟩:=Ba ho4.own;have HO4:=Aa ho4;clear hk4 ht4 ho4))
   have HASK:Hid (∀ (W:World) (x:Nat),Below w4.heap.size w4 W→x<prows.length→Calls Tryz.prog 49 #[.slice none 0 0,.int .i64 (x:Int),.pointer (some ⟨cb,0,none⟩)] W fun e w'=>e = .returned (.tuple #[.bool (Gz prows [] x),.int .i64 (Hf prows [] x)])∧Below W.heap.size W w'):=
    fun W x hb hx=>dW F4 W cb c1 prows (HA4.o.below hb) ((HT.o.below HB4.o).below hb) _ [] (lV W) (by simp) (by simp) x hx
   refine (HASK.o _ p (Below.refl _ _) HPL.o.1).mono ?_
   rintro e w5 ⟨rfl,hb5⟩
   have HB5:=Aa hb5
   clear hb5
   rcases Gl prows [] p with he0 | he0
   ·rw [he0]
    cases hbp:Gz prows [] p with
    | false=>
     have hp:=HP.o
     rw [he0,hbp,if_neg (by simp),if_pos rfl] at hp
     have HP2:=Aa hp
     clear hp he0 hbp
     go_wp2_with fail
     go_ret2
     exact Cf HP2.o (Ac HB4.o HB5.o)
    | true=>
     have hp:=HP.o
     rw [he0,hbp,if_neg (by simp),if_neg (by simp)] at hp
     have HP2:=Aa hp
     clear hp he0 hbp
     go_wp2_with fail
     go_loopw [63] (fun u W=>∃ j:Nat,j≤pparts.length∧u = .int .i64 (j:Int)∧Wy prows pparts 0=Wy prows (pparts.drop j) j∧Below w4.heap.size w4 W) (fun u _=>pparts.length - (intOf u).toNat)
     case atStart=>exact ⟨0,Nat.zero_le _,rfl,rfl,HB5.o⟩
     case round=>
      obtain ⟨j,hj,rfl,hall,hb⟩:=hrel
      have HA:=Aa hall;have HB:=Aa hb
      clear hall hb
      by_cases hlt:j<pparts.length
      ·as_aux_lemma=>
       obtain ⟨ib,io,ic,z,he,hc1,hzk⟩:=ints_at ((HO4.o.below HB.o).rd) hlt
       cases he
       have hji:(j:Int)<(pparts.length:Int):=by omega
       obtain ⟨x,rfl,hx⟩:=Dx (HPS.o z (List.mem_of_getElem? hzk))
       have HAT:=Aa (rG (rows:=prows) (k:=j) hzk)
       rw [Int.toNat_natCast] at HAT
       have HX:=Aa hx
       have HPL2:=HPL.o.2
       clear hzk hx
       go_wp2_with fail
       refine (HASK.o _ x HB.o HX.o).mono ?_
       rintro e w7 ⟨rfl,hb7⟩
       have HB7:=Aa (Ac HB.o hb7)
       clear hb7
       rcases Gl prows [] x with hx0 | hx0
       ·rw [hx0]
        cases hbx:Gz prows [] x with
        | true=>
         have hp:=HAT.o
         rw [hx0,hbx,if_neg (by simp),if_pos rfl] at hp
         have HP3:Hid (aN rows a b c d=((j:Int),0)):=by unfold Hid;rw [HP2.o,HA.o,hp]
         clear hp hx0 hbx
         go_wp2_with fail
         go_ret2
         exact Cf HP3.o (Ac HB4.o HB7.o)
        | false=>
         have hp:=HAT.o
         rw [hx0,hbx,if_neg (by simp),if_neg (by simp)] at hp
         have HP3:=Aa hp
         clear hp hx0 hbx
         go_wp2_with fail
         exact ⟨⟨j+1,by omega,by go_num,by rw [HA.o,HP3.o],HB7.o⟩,by simp [intOf];omega⟩
       ·rw [hx0]
        have hp:=HAT.o
        rw [hx0,if_pos (by simp)] at hp
        have HP3:Hid (aN rows a b c d=(0,110)):=by unfold Hid;rw [HP2.o,HA.o,hp]
        clear hp hx0
        go_wp2_with fail
        go_ret2
        exact Cf HP3.o (Ac HB4.o HB7.o)
      ·obtain rfl:j=pparts.length:=by omega
       have HP3:Hid (aN rows a b c d=(0,0)):=by unfold Hid;rw [HP2.o,HA.o,List.drop_length];rfl
       have hnn:¬ (pparts.length:Int)<(pparts.length:Int):=Int.lt_irrefl _
       go_wp2_with fail
       go_ret2
       exact Cf HP3.o (Ac HB4.o HB.o)
   ·rw [he0]
    have hp:=HP.o
    rw [he0,if_pos (by simp)] at hp
    have HP2:=Aa hp
    clear hp he0
    go_wp2_with fail
    go_ret2
    exact Cf HP2.o (Ac HB4.o HB5.o)
end Go.Dk
end
section
namespace Go.Dk
open Go.RowKit Go.Maps Go.MapKept
open Go.Proofs hiding intOf
def cF (s:ByteArray):Value:=.string s
theorem Zh:∀ x y:ByteArray,cF x=cF y→x=y:=by
 intro x y h;simpa [cF] using h
theorem kS:Keyed Tryz.prog 9:=string_keyed Tryz.underlying9
theorem mG (s:ByteArray) (h:s.size≤maxLen):keyOf Tryz.prog 9 (cF s)=some (.string s.data.toList):=Go.WideMaps.keyOf_string_mk Tryz.underlying9 h
theorem jP {w:World} {b:Nat} {f:ByteArray→Option Int} (h:TM Tryz.prog 9 cF cV w b f) (s:ByteArray) (hs:s.size≤maxLen) :
  (Instr.lookup 124 (.map (some b)) (.string s) true).run Tryz.prog w = .ok (.tuple #[.int .i64 ((f s).getD 0),.bool (f s).isSome]) w:=by
 cases hf:f s with
 | none=>exact h.look_none kS Zh Tryz.underlying124 (dO _) (mG s hs) true hf
 | some v=>exact h.look_some kS Zh Tryz.underlying124 (mG s hs) true hf
set_option maxRecDepth 100000 in
set_option maxHeartbeats 1000000 in
theorem lW (ow:Own) (w:World) (t:Value) (rows:List ND) (h:Tab 1 ow w t rows) (b1 b2 nb:Nat) (f:ByteArray→Option Int) (h1:w.cell? ⟨b1,0,none⟩=some (.map (some nb))) (h2:w.cell? ⟨b2,0,none⟩=some t) (hm:TM Tryz.prog 9 cF cV w nb f) (k:Nat) (kd a b l r:Int) (nm:ByteArray) (hn:nm.size≤maxLen) :
  Calls Tryz.prog 57 #[.int .i64 (k:Int),.agg #[.int .i64 kd,.string nm,.int .i64 a,.int .i64 b],.int .i64 l,.int .i64 r,.pointer (some ⟨b1,0,none⟩),.pointer (some ⟨b2,0,none⟩)] w (Ew 1 ow w t (Jo f rows k ⟨kd,nm,a,b⟩ l r)):=by
 have H:=Aa h
 have HE:=Aa (Qj f rows k ⟨kd,nm,a,b⟩ l r)
 have hl:=jP (hm.below (Ab w (.cells #[.int .i64 kd,.string nm,.int .i64 a,.int .i64 b] 31))) nm hn
 have l1:=World.block_lt_of_cell? w _ h1
 have l2:=World.block_lt_of_cell? w _ h2
 clear h hm hn
 cases hf:f nm with
 | none=>
  rw [hf] at hl
  simp only [Option.getD_none,Option.isSome_none] at hl
  have HEE:Hid (Jo f rows k ⟨kd,nm,a,b⟩ l r=Jw rows k ⟨kd,nm,a,b⟩ l r):=by rw [Hid,HE.o,if_neg (by simp [hf])]
  clear hf HE
  go_enter Tryz.func57,Tryz.ntmps57
  go_wp2_with fail
  refine (bC ow _ t rows (H.o.below (Ab _ _)) k kd a b l r nm).mono ?_
  rintro e w1 hp
  have HP:=Aa (Ew.from (Ab _ _) hp)
  obtain ⟨rfl,_⟩:=hp
  go_wp2_with fail
  go_ret2
  rw [HEE.o]
  exact HP.o
 | some x=>
  rw [hf] at hl
  simp only [Option.getD_some,Option.isSome_some] at hl
  by_cases hk:kd=1
  ·have g1:(kd == 1)=true:=by simpa using hk
   have HEE:Hid (Jo f rows k ⟨kd,nm,a,b⟩ l r=⟨rows,x,0⟩):=by rw [Hid,HE.o,if_pos ⟨hk,by simp [hf]⟩];simp [hf]
   clear hf HE hk
   go_enter Tryz.func57,Tryz.ntmps57
   go_wp2_with fail
   go_ret2
   rw [HEE.o]
   exact ⟨rfl,ow,(Ab _ _).kept_ow,H.o.below (Ab _ _)⟩
  ·have g1:(kd == 1)=false:=by simpa using hk
   have HEE:Hid (Jo f rows k ⟨kd,nm,a,b⟩ l r=Jw rows k ⟨kd,nm,a,b⟩ l r):=by rw [Hid,HE.o,if_neg (fun h=>hk h.1)]
   clear hf HE hk
   go_enter Tryz.func57,Tryz.ntmps57
   go_wp2_with fail
   refine (bC ow _ t rows (H.o.below (Ab _ _)) k kd a b l r nm).mono ?_
   rintro e w1 hp
   have HP:=Aa (Ew.from (Ab _ _) hp)
   obtain ⟨rfl,_⟩:=hp
   go_wp2_with fail
   go_ret2
   rw [HEE.o]
   exact HP.o
end Go.Dk
end
section
namespace Go.Dk
open Go.RowKit Go.Maps Go.MapKept
open Go.Proofs hiding intOf
structure ImgB (w W:World) (t:Value) (n:ND):Prop where
 c0:W.cell? ⟨w.heap.size,0,none⟩=some t
 bx:Boxed W (w.heap.size+1) n
 bl:Below w.heap.size w W
theorem ImgB.below {w W W':World} {t:Value} {n:ND} (h:ImgB w W t n) (hb:Below W.heap.size W W'):ImgB w W' t n:=
 ⟨(hb.cell (World.block_lt_of_cell? _ _ h.c0)).trans h.c0,h.bx.below hb,Ac h.bl hb⟩
end Go.Dk
end
section
namespace Go.Dk
open Go.RowKit Go.Maps Go.MapKept
open Go.Proofs hiding intOf
theorem Ew.re {ow:Own} {w W:World} {t:Value} {p:Put} {e:Ending} {w':World} (hb:Below w.heap.size w W) (h:Ew 1 (fun b=>if b<w.heap.size then ow b else 2) W t p e w'):Ew 1 ow w t p e w':=by
 obtain ⟨he,ow',hk,ht⟩:=h
 exact ⟨he,ow',(hb.kept_ow.recolour (fun b hb=>by simp [hb]):Kept 1 ow w _ _).trans hk,ht⟩
theorem wX (w:World) {b:Nat} (x:Value) (e:TypeId) (hb:b=w.heap.size):Rd (w.alloc (.cells #[x] e)) (.slice (some ⟨b,0,none⟩) 1 1) 1 1 [x]:=hb▸Gs w x e
theorem yK {ow:Own} {w W:World} {t:Value} {rows:List ND} (h:Tab 1 ow w t rows) (hb:Below w.heap.size w W):Tab 1 (fun b=>if b<w.heap.size then ow b else 2) W t rows:=
 h.kept ((hb.kept_ow).recolour (fun b hb=>by simp [hb]):Kept 2 ow w _ _) (by decide)
theorem cell_kept {c:Nat} {ow ow':Own} {w w':World} {a:Addr} {v:Value} (h:w.cell? a=some v) (hk:Kept c ow w ow' w') (hc:ow a.block≠c):w'.cell? a=some v:=
 (World.cell?_of_block (hk.block _ (World.block_lt_of_cell? w _ h) hc)).trans h
def vV (ow:Own) (w:World) (b:Nat) (t:Value) (old by':Int):Prop:=
 w.cell? ⟨b,0,none⟩=some t∧w.cell? ⟨b+1,0,none⟩=some (.int .i64 old)∧w.cell? ⟨b+1+1,0,none⟩=some (.int .i64 by')∧ow b=2∧ow (b+1)=2∧ow (b+1+1)=2
theorem wA (b:Nat) (t:Value) (old by':Int):bO (fun ow w=>vV ow w b t old by'):=by
 rintro c hc ow w ow' w' ⟨h1,h2,h3,o1,o2,o3⟩ hk
 have n2:(2:Nat)≠c:=by omega
 exact ⟨cell_kept h1 hk (by rw [show (⟨b,0,none⟩:Addr).block=b from rfl,o1];exact n2),cell_kept h2 hk (by rw [show (⟨b+1,0,none⟩:Addr).block=b+1 from rfl,o2];exact n2),cell_kept h3 hk (by rw [show (⟨b+1+1,0,none⟩:Addr).block=b+1+1 from rfl,o3];exact n2),
  (hk.own _ (World.block_lt_of_cell? w _ h1)).trans o1,(hk.own _ (World.block_lt_of_cell? w _ h2)).trans o2,(hk.own _ (World.block_lt_of_cell? w _ h3)).trans o3⟩
theorem vV.below {ow:Own} {w w':World} {b:Nat} {t:Value} {old by':Int} (h:vV ow w b t old by') (hb:Below w.heap.size w w'):vV ow w' b t old by':=wA b t old by' 1 (.inl rfl) ow w ow w' h hb.kept_ow
end Go.Dk
end
section
namespace Go.Dk
open Go.RowKit Go.Maps Go.MapKept
open Go.Proofs hiding intOf
set_option maxRecDepth 100000 in
set_option maxHeartbeats 4000000 in
theorem gK (E:vT) (hE:bO E) (of:OfF) (hgr:sH of) (hnn:∀ rows k n l r,0≤l→0≤r→0≤(of rows k n l r).id) (ow:Own) (w:World) (t:Value) (rows:List ND) (h:Tab 1 ow w t rows) (p1 p2:Value)
  (hC:∀ ow w rows (k:Nat) (n:ND) (l r:Int),Tab 1 ow w t rows→E ow w→n.name.size≤maxLen→(1≤n.kind∧n.kind≤5)→0≤l→0≤r→Calls Tryz.prog 57 #[.int .i64 (k:Int),.agg #[.int .i64 n.kind,.string n.name,.int .i64 n.l,.int .i64 n.r],.int .i64 l,.int .i64 r,p1,p2] w (Ew 1 ow w t (of rows k n l r)))
  (hEw:E ow w) (id:Nat) (hid:id<rows.length) :
  Calls Tryz.prog 56 #[t,.int .i64 (id:Int),.func (.func 57) #[] #[p1,p2]] w (Ew 1 ow w t (Iw of rows id)):=by
 have hok:=h.ok
 have hle:=hok.le
 have H:=Aa h
 have HK:=Aa hok
 have HG:=Aa hgr
 have HN:=Aa hnn
 have HC:=Aa hC
 have HE:=Aa hE
 have HEW:=Aa hEw
 clear h hgr hnn hC hE hEw hok
 have hmm:=@run_makeMap Tryz.prog
 go_enter Tryz.func56,Tryz.ntmps56
 go_wp2_with (first
  | (go_at_call 31;refine (len_any 1 ow _ _ rows H.o).mono ?_;rintro e w' ⟨rfl,rfl⟩)
  | (go_at_call 77;refine (qS 1 ow _ _ _ H.o id hid).mono ?_;rintro e w2 ⟨v2,rfl,hown2,hb2⟩;have HI:=Aa (AnW.start (of:=of) HE.o H.o HEW.o hb2 hown2);obtain ⟨a2,c2,hv2⟩:=Ba hown2;subst hv2;clear hown2 hb2))
 clear hmm
 have hlb:=below_le rows id
 go_loopw [10,32] (fun e i W=>e = .int .i64 0∧∃ (j:Nat) (ow':Own) (rowsj:List ND) (img:Nat→Int),j≤(below rows id).length∧i = .int .i64 (j:Int)∧AnW E of ow w t rows id w2.heap.size (.slice a2 (below rows id).length c2) j ow' W rowsj img) (fun _ i _=>(below rows id).length - (intOf i).toNat)
 case atStart=>exact ⟨rfl,0,_,_,_,Nat.zero_le _,rfl,HI.o⟩
 case round=>
  obtain ⟨rfl,j,ow',rowsj,img,hj,rfl,hI⟩:=hrel
  have HJ:=Aa hI
  by_cases hlt:j<(below rows id).length
  ·obtain ⟨b,o,c1,x',he,hc1,hxk'⟩:=ints_at (Hv hI.own) hlt
   cases he
   obtain ⟨x,hx⟩:∃ x,(below rows id)[j]? = some x:=⟨_,List.getElem?_eq_getElem hlt⟩
   obtain rfl:x'=(x:Int):=by
    have:(Ey (below rows id))[j]? = some (x:Int):=by simp [Ey,hx]
    rw [this] at hxk';exact (Option.some.inj hxk').symm
   have hxi:x≤id:=((Jt HK.o).1 (List.mem_of_getElem? hx)).le HK.o
   have hpl:=Bh hI.pre
   have hrow:=Am (rows:=rowsj) (i:=x) (by omega)
   have hp0:pAt of rowsj x img=of rowsj x (rowAt rowsj x) (if 3≤(rowAt rowsj x).kind then img (rowAt rowsj x).l.toNat else 0) (if 3≤(rowAt rowsj x).kind then img (rowAt rowsj x).r.toNat else 0):=rfl
   generalize rowAt rowsj x=n at hrow hp0
   have hjk:=hI.tab.ok
   have hjl:=hjk.le
   have hfn:=Vm (hjk.fit _ _ hrow)
   obtain ⟨kd,nm,l',r'⟩:=n
   simp only at hfn hp0
   obtain ⟨l,rfl⟩:=Int.eq_ofNat_of_zero_le hfn.2.2.1.1
   obtain ⟨r,rfl⟩:=Int.eq_ofNat_of_zero_le hfn.2.2.2.1
   simp only [Int.toNat_natCast] at hp0
   have HX:=Aa hx
   have HRX:=Aa hrow
   have HLR:Hid (l≤9223372036854775807∧r≤9223372036854775807∧x≤9223372036854775807):=by unfold Hid;omega
   have HNM:Hid (nm.size≤maxLen):=by unfold Hid maxLen;omega
   have HKN:Hid (1≤kd∧kd≤5):=hfn.2.1
   have HGT:=Aa hI.get
   have n1:=hI.nn l;have n2:=hI.nn r
   clear hI hxk' hx hrow hfn hjk
   by_cases h3:3≤kd
   ·as_aux_lemma=>
    rw [if_pos h3,if_pos h3] at hp0
    have g3:(decide (3≤kd))=true:=by simpa using h3
    have HNN:Hid (0≤img l∧0≤img r):=⟨n1,n2⟩
    have HID:Hid (0≤(of rowsj x ⟨kd,nm,l,r⟩ (img l) (img r)).id):=HN.o _ _ _ _ _ n1 n2
    have HGR:Hid (rowsj <+: (of rowsj x ⟨kd,nm,l,r⟩ (img l) (img r)).rows):=HG.o _ _ _ _ _
    have HCC:Hid (∀ W,Tab 1 ow' W t rowsj→E ow' W→Calls Tryz.prog 57 #[.int .i64 (x:Int),.agg #[.int .i64 kd,.string nm,.int .i64 (l:Int),.int .i64 (r:Int)],.int .i64 (img l),.int .i64 (img r),p1,p2] W (Ew 1 ow' W t (of rowsj x ⟨kd,nm,l,r⟩ (img l) (img r)))):=fun W a b=>HC.o ow' W rowsj x ⟨kd,nm,l,r⟩ _ _ a b HNM.o HKN.o n1 n2
    have g1:=HGT.o l;have g2:=HGT.o r
    have HP0:=Aa hp0
    clear hp0 n1 n2
    generalize of rowsj x ⟨kd,nm,l,r⟩ (img l) (img r)=p at *
    generalize hil:img l=il at *
    generalize hir:img r=ir at *
    clear hil hir
    go_wp2_with (go_at_call 27;refine (Jl 1 ow' _ _ _ HJ.o.tab _ _ HRX.o).mono ?_;rintro e w4 ⟨rfl,hb4⟩;have HJ4:=Aa (HJ.o.later HE.o (Ac hb4 (Ab w4 (.cells #[.int .i64 kd,.string nm,.int .i64 (l:Int),.int .i64 (r:Int)] 31))));clear hb4)
    have HBX:Hid (Boxed (w4.alloc (.cells #[.int .i64 kd,.string nm,.int .i64 (l:Int),.int .i64 (r:Int)] 31)) w4.heap.size ⟨kd,nm,l,r⟩):=Gx w4 ⟨kd,nm,l,r⟩ _
    generalize w4.alloc (.cells #[.int .i64 kd,.string nm,.int .i64 (l:Int),.int .i64 (r:Int)] 31)=w5 at *
    have q0:=HBX.o.c0;have q2:=HBX.o.c2;have q3:=HBX.o.c3
    have hl1:∀ nq,(Instr.lookup 150 (.map (some w2.heap.size)) (.int .i64 (l:Int)) false).run Tryz.prog (w5.drewN nq) = .ok (.int .i64 il) (w5.drewN nq):=fun nq=>by
     have:=(HJ4.o.mp.below (below_drewN w5 nq)).look_int l HLR.o.1
     rw [g1] at this;exact this
    have hl2:∀ nq,(Instr.lookup 150 (.map (some w2.heap.size)) (.int .i64 (r:Int)) false).run Tryz.prog (w5.drewN nq) = .ok (.int .i64 ir) (w5.drewN nq):=fun nq=>by
     have:=(HJ4.o.mp.below (below_drewN w5 nq)).look_int r HLR.o.2.1
     rw [g2] at this;exact this
    have HGG:Hid ((Xu img ((below rows id).take j) l).getD 0=il):=g1
    clear g1 g2
    go_wp2_with fail
    go_quiet (fail)
    have HJ5:=Aa (HJ4.o.later HE.o (below_drewN w5 nq))
    obtain ⟨q0,q1,q2,q3⟩:=HBX.o.below (below_drewN w5 nq)
    simp only at q0 q1 q2 q3
    clear hl1 hl2 HBX HJ4
    generalize w5.drewN nq=w6 at *
    by_cases hz:p.err=0
    ·as_aux_lemma=>
     have gz:(p.err != 0)=false:=by simp [hz]
     have HZ:=Aa hz
     clear hz
     go_wp2_with (first
      | (go_at_call 57;refine (HCC.o _ HJ5.o.tab HJ5.o.env).mono ?_;rintro e w7 ⟨rfl,ow7,hk7,ht7⟩;have HK7:=Aa hk7;have HT7:=Aa ht7;have HM7:=Aa (HJ5.o.mp.kept hk7 (by rw [HJ5.o.cm];decide));clear hk7 ht7)
      | (at_mapUpdate;refine La HM7.o Hz Ek rfl (.tmp 54) (.tmp 55) _ 150 3 rfl Tryz.underlying150 rfl x rfl p.id rfl (Qh x HLR.o.2.2) ?_;intro w8 hm8 ho8;have HJ8:=Aa (HJ5.o.next HE.o HX.o HP0.o HZ.o HID.o HGR.o HK7.o HT7.o hm8 ho8);clear hm8 ho8))
     refine ⟨⟨by rw [HZ.o],j+1,_,_,_,by omega,by go_num,HJ8.o⟩,by simp [intOf];omega⟩
    ·as_aux_lemma=>
     have gz:(p.err != 0)=true:=by simp [hz]
     have HZ:=Aa hz
     have HST:Hid (Iw of rows id=⟨rows,0,p.err⟩):=by
      rw [Hid,Zr HX.o HJ5.o.st (by rw [HP0.o];exact HZ.o),HP0.o]
     clear hz
     go_wp2_with (first
      | (go_at_call 57;refine (HCC.o _ HJ5.o.tab HJ5.o.env).mono ?_;rintro e w7 ⟨rfl,ow7,hk7,ht7⟩;have HK7:=Aa hk7;have HT7:=Aa ht7;have HM7:=Aa (HJ5.o.mp.kept hk7 (by rw [HJ5.o.cm];decide));clear hk7 ht7)
      | (go_at_call 33;refine (cQ 1 ow7 _ t p.rows HF8.o.2 (rows.length:Int)).mono ?_;rintro e w9 ⟨rfl,ow9,hk9,ht9⟩;have HF9:Hid (Kept 1 ow w ow9 w9∧Tab 1 ow9 w9 t rows):=⟨HF8.o.1.trans hk9,by unfold Rz at ht9;rw [if_pos ⟨by omega,by have:=Bh HJ5.o.pre;have:=Bh HGR.o;omega⟩] at ht9;simp only [Int.toNat_natCast] at ht9;rw [Qv (HJ5.o.pre.trans HGR.o)] at ht9;exact ht9⟩;clear hk9 ht9)
      | (at_mapUpdate;refine La HM7.o Hz Ek rfl (.tmp 54) (.tmp 55) _ 150 3 rfl Tryz.underlying150 rfl x rfl p.id rfl (Qh x HLR.o.2.2) ?_;intro w8 hm8 ho8;have HF8:=Aa (HJ5.o.fail HK7.o HT7.o ho8);clear hm8 ho8))
     go_ret2
     rw [HST.o]
     exact ⟨rfl,_,HF9.o.1,HF9.o.2⟩
   ·as_aux_lemma=>
    rw [if_neg h3,if_neg h3] at hp0
    have g3:(decide (3≤kd))=false:=by simpa using h3
    have z0:(0:Int)≤0:=Int.le_refl _
    have HID:Hid (0≤(of rowsj x ⟨kd,nm,l,r⟩ 0 0).id):=HN.o _ _ _ _ _ z0 z0
    have HGR:Hid (rowsj <+: (of rowsj x ⟨kd,nm,l,r⟩ 0 0).rows):=HG.o _ _ _ _ _
    have HCC:Hid (∀ W,Tab 1 ow' W t rowsj→E ow' W→Calls Tryz.prog 57 #[.int .i64 (x:Int),.agg #[.int .i64 kd,.string nm,.int .i64 (l:Int),.int .i64 (r:Int)],.int .i64 0,.int .i64 0,p1,p2] W (Ew 1 ow' W t (of rowsj x ⟨kd,nm,l,r⟩ 0 0))):=fun W a b=>HC.o ow' W rowsj x ⟨kd,nm,l,r⟩ _ _ a b HNM.o HKN.o z0 z0
    have HP0:=Aa hp0
    clear hp0 n1 n2 z0 h3
    generalize of rowsj x ⟨kd,nm,l,r⟩ 0 0=p at *
    by_cases hz:p.err=0
    ·as_aux_lemma=>
     have gz:(p.err != 0)=false:=by simp [hz]
     have HZ:=Aa hz
     clear hz
     go_wp2_with (first
      | (go_at_call 27;refine (Jl 1 ow' _ _ _ HJ.o.tab _ _ HRX.o).mono ?_;rintro e w4 ⟨rfl,hb4⟩;have HJ5:=Aa (HJ.o.later HE.o (Ac hb4 (Ab w4 (.cells #[.int .i64 kd,.string nm,.int .i64 (l:Int),.int .i64 (r:Int)] 31))));clear hb4)
      | (go_at_call 57;refine (HCC.o _ HJ5.o.tab HJ5.o.env).mono ?_;rintro e w7 ⟨rfl,ow7,hk7,ht7⟩;have HK7:=Aa hk7;have HT7:=Aa ht7;have HM7:=Aa (HJ5.o.mp.kept hk7 (by rw [HJ5.o.cm];decide));clear hk7 ht7)
      | (at_mapUpdate;refine La HM7.o Hz Ek rfl (.tmp 54) (.tmp 55) _ 150 3 rfl Tryz.underlying150 rfl x rfl p.id rfl (Qh x HLR.o.2.2) ?_;intro w8 hm8 ho8;have HJ8:=Aa (HJ5.o.next HE.o HX.o HP0.o HZ.o HID.o HGR.o HK7.o HT7.o hm8 ho8);clear hm8 ho8))
     refine ⟨⟨by rw [HZ.o],j+1,_,_,_,by omega,by go_num,HJ8.o⟩,by simp [intOf];omega⟩
    ·as_aux_lemma=>
     have gz:(p.err != 0)=true:=by simp [hz]
     have HZ:=Aa hz
     have HST:Hid (Iw of rows id=⟨rows,0,p.err⟩):=by
      rw [Hid,Zr HX.o HJ.o.st (by rw [HP0.o];exact HZ.o),HP0.o]
     clear hz
     go_wp2_with (first
      | (go_at_call 27;refine (Jl 1 ow' _ _ _ HJ.o.tab _ _ HRX.o).mono ?_;rintro e w4 ⟨rfl,hb4⟩;have HJ5:=Aa (HJ.o.later HE.o (Ac hb4 (Ab w4 (.cells #[.int .i64 kd,.string nm,.int .i64 (l:Int),.int .i64 (r:Int)] 31))));clear hb4)
      | (go_at_call 57;refine (HCC.o _ HJ5.o.tab HJ5.o.env).mono ?_;rintro e w7 ⟨rfl,ow7,hk7,ht7⟩;have HK7:=Aa hk7;have HT7:=Aa ht7;have HM7:=Aa (HJ5.o.mp.kept hk7 (by rw [HJ5.o.cm];decide));clear hk7 ht7)
      | (go_at_call 33;refine (cQ 1 ow7 _ t p.rows HF8.o.2 (rows.length:Int)).mono ?_;rintro e w9 ⟨rfl,ow9,hk9,ht9⟩;have HF9:Hid (Kept 1 ow w ow9 w9∧Tab 1 ow9 w9 t rows):=⟨HF8.o.1.trans hk9,by unfold Rz at ht9;rw [if_pos ⟨by omega,by have:=Bh HJ5.o.pre;have:=Bh HGR.o;omega⟩] at ht9;simp only [Int.toNat_natCast] at ht9;rw [Qv (HJ5.o.pre.trans HGR.o)] at ht9;exact ht9⟩;clear hk9 ht9)
      | (at_mapUpdate;refine La HM7.o Hz Ek rfl (.tmp 54) (.tmp 55) _ 150 3 rfl Tryz.underlying150 rfl x rfl p.id rfl (Qh x HLR.o.2.2) ?_;intro w8 hm8 ho8;have HF8:=Aa (HJ5.o.fail HK7.o HT7.o ho8);clear hm8 ho8))
     go_ret2
     rw [HST.o]
     exact ⟨rfl,_,HF9.o.1,HF9.o.2⟩
  ·obtain rfl:j=(below rows id).length:=by omega
   have hst:=hI.st
   have hg:=hI.get id
   have hm:=hI.mp
   rw [List.take_length] at hst hg hm
   have HST:Hid (Iw of rows id=⟨rowsj,img id,0⟩):=pE hst
   have hl1:=hm.look_int id (by omega)
   rw [hg] at hl1
   have HKP:=Aa hI.kp
   have HTB:=Aa hI.tab
   clear hI hst hg hm
   go_wp2_with fail
   go_ret2
   rw [HST.o]
   exact ⟨rfl,_,HKP.o,HTB.o⟩
end Go.Dk
end
