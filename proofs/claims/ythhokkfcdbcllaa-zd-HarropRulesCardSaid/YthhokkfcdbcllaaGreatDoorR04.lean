/- Parts of the proof: Kl, Km, Kn, Ko, Kp, Kq, Ks. -/
import Derived.Sort.QuietIn
import Derived.Deep.RegionHeld3
import Derived.Test.YthhokkfcdbcllaaGreatDoorR01
import Derived.Test.YthhokkfcdbcllaaGreatDoorR02
import Derived.Test.YthhokkfcdbcllaaGreatDoorR03
section
namespace Go.Dk
open Go.RowKit Go.Maps Go.MapKept
open Go.Proofs hiding intOf
structure RowTy (P:Program) (ty:TypeId) (n:Nat):Prop where
 u:∃ d,P.underlying ty=some d∧d.isRow=true
 i:(P.info? ty).map (·.size)=some n
theorem Ds:RowTy Tryz.prog 31 4:=⟨row_of (by kernel_rfl),by kernel_rfl⟩
section
variable {P:Program} {ops:Array Oper} {rest:List Oper} {o:Oper} {a:Act} {Q:Exit→Act→World→Prop} {W:World} {b n:Nat} {ty:TypeId}
theorem Eo (R:RowTy P ty n) (x:Operand) (hop:o.op = .load ty x) (hg:o.guard=none) (hx:a.eval x = .pointer (some ⟨b,0,none⟩)) {T:TypeId} {xs:List Value} (h:Ae W b xs T) (hl:xs.length=n) (hk:wpList P ops Q rest (a.put o.dst (.agg xs.toArray)) W):wpList P ops Q (o::rest) a W:=by
 obtain ⟨d,hu,hd⟩:=R.u
 exact wpList_load_mid hg _ x hop b 0 hx xs d (h.range (by simp)) hu hd (by rw [hl];exact R.i) hk
theorem Aj (R:RowTy P ty n) (x y:Operand) (hop:o.op = .store ty x y) (hg:o.guard=none) (hx:a.eval x = .pointer (some ⟨b,0,none⟩)) {ys:List Value} (hy:a.eval y = .agg ys.toArray) {T:TypeId} {xs:List Value} (h:Ae W b xs T) (hl:xs.length=n) (hly:ys.length=n) (h1:ys.toArray.all (·.oneCell')=true)
  (hk:∀ W',Ae W' b ys T→Only b W W'→wpList P ops Q rest (a.put o.dst undef) W'):wpList P ops Q (o::rest) a W:=by
 have hw:=h.write ys 0
 rw [Zb (by omega)] at hw
 exact wpList_store_mid hg _ x y hop b 0 _ hx hy (h.there (by simp;omega)) (by simpa [hly] using R.i) h1 (hk _ hw (Oc _ _ _ _))
theorem Ha (R:RowTy P ty n) {T:TypeId} {fn:Func} {tmps:Array Value} {p:Tmp} (hf:fn.results = #[.cell p ty]) (hp:tmps.getD p undef = .pointer (some ⟨b,0,none⟩)) {xs:List Value} (h:Ae W b xs T) (hl:xs.length=n) :
  (results fn tmps).run P W = .ok (.agg xs.toArray) W:=by
 obtain ⟨d,hu,hd⟩:=R.u
 have h1:=run_loadVar_mid (P:=P) W b 0 ty xs d (h.range (by simp)) hu hd (by rw [hl];exact R.i)
 unfold results
 rw [hf]
 simp only [List.mapM_toArray,List.mapM_cons,List.mapM_nil,hp,asAddr,Sem.run_bind,Sem.run_map,Sem.run_pure,Result.andThen_ok,h1]
 simp
end
theorem Ft (a b c d:Value) (W:World):(Instr.field 31 (.agg #[a,b,c,d]) 0).run Tryz.prog W = .ok a W:=by kernel_rfl
def Do:ND:=⟨0,⟨#[]⟩,0,0⟩
def nodeAt (rows:List ND) (i:Int):ND:=if hasB rows.length i then rowAt rows i.toNat else Do
theorem Vp (rows:List ND) {i:Nat} (h:i<rows.length):nodeAt rows (i:Int)=rowAt rows i:=by simp [nodeAt,hasB,h]
theorem cells_one (n:ND):n.cells.toArray.all (·.oneCell')=true:=by simp [ND.cells,Value.oneCell']
theorem qJ (k:Nat) (ow:Own) (w:World) (t:Value) (rows:List ND) (h:Tab k ow w t rows) (i:Int) :
  Calls Tryz.prog 27 #[t,.int .i64 i] w fun e w'=>e = .returned (.tuple #[.agg (nodeAt rows i).cells.toArray,.bool (hasB rows.length i)])∧Below w.heap.size w w':=by
 cases hb:hasB rows.length i with
 | false=>
  have e:nodeAt rows i=Do:=by simp [nodeAt,hb]
  rw [e]
  exact dF k ow w t rows h i hb
 | true=>
  have hb':=hb
  simp only [hasB,Bool.and_eq_true,decide_eq_true_eq] at hb'
  obtain ⟨j,rfl⟩:=Int.eq_ofNat_of_zero_le hb'.1
  have hj:j<rows.length:=by omega
  rw [Vp rows hj]
  exact Jl k ow w t rows h j (rowAt rows j) (Am hj)
set_option maxRecDepth 100000 in
set_option maxHeartbeats 1000000 in
theorem Eb (k:Nat) (ow:Own) (w:World) (t:Value) (rows:List ND) (h:Tab k ow w t rows) (i:Int) :
  Calls Tryz.prog 104 #[t,.int .i64 i] w fun e w'=>e = .returned (.agg (nodeAt rows i).cells.toArray)∧Below w.heap.size w w':=by
 have HS:Hid (Ae (w.alloc (.cells Do.cells.toArray 31)) w.heap.size Do.cells 31∧Below w.heap.size w (w.alloc (.cells Do.cells.toArray 31))):=⟨Ae.new _ _ _,Ab _ _⟩
 have H:=Aa h
 clear h
 go_enter Tryz.func104,Tryz.ntmps104
 go_wp2_with (first
  | (rw [show (#[.int .i64 0,.string ⟨#[]⟩,.int .i64 0,.int .i64 0]:Array Value)=Do.cells.toArray from rfl];generalize (w.alloc (.cells Do.cells.toArray 31))=W0 at *)
  | (go_at_call 27;refine (qJ k ow W0 t rows (H.o.below HS.o.2) i).mono ?_;rintro e W1 ⟨rfl,hb1⟩;have HB1:=Aa hb1;clear hb1)
  | (refine Aj Ds (.tmp 5) (.tmp 11) rfl rfl rfl (ys:=(nodeAt rows i).cells) rfl (Ae.new W1 Do.cells 31) rfl rfl (cells_one _) ?_;intro W2 hb2 ho2;have HK2:=Aa hb2;have HB2:=Aa (HB1.o.trans (((Ab W1 _).trans (ho2.below (Nat.le_refl _))).mono HB1.o.size));clear hb2 ho2)
  | (refine Eo Ds (.tmp 5) rfl rfl rfl HK2.o rfl ?_)
  | (refine Aj Ds (.tmp 4) (.tmp 13) rfl rfl rfl (ys:=(nodeAt rows i).cells) rfl (HS.o.1.below HB2.o) rfl rfl (cells_one _) ?_;intro W7 hb7 ho7;have K7:=Aa hb7;have K8:=Aa ((Ac HS.o.2 HB2.o).trans (ho7.below (by omega)));clear hb7 ho7))
 exact bodyPost_ret (Ha Ds rfl rfl K7.o rfl) rfl ⟨rfl,K8.o⟩
end Go.Dk
end
section
namespace Go.Dk
open Go.RowKit Go.Maps Go.MapKept
open Go.Proofs hiding intOf
theorem Dc (k:Nat) (ow:Own) (w:World) (t:Value) (rows:List ND) (h:Tab k ow w t rows) (i:Nat) (hi:i<rows.length) (n:ND) (hn:rowAt rows i=n) :
  ∀ W,Below w.heap.size w W→Calls Tryz.prog 104 #[t,.int .i64 (i:Int)] W fun e w'=>e = .returned (.agg #[.int .i64 n.kind,.string n.name,.int .i64 n.l,.int .i64 n.r])∧Below W.heap.size W w':=fun W hb=>by
 have:=Eb k ow W t rows (h.below hb) (i:Int)
 rw [Vp rows hi,hn] at this
 exact this
set_option maxRecDepth 100000 in
set_option maxHeartbeats 1000000 in
theorem wH (w:World) (t:Value) (m:Nat) (g:Int) (main:Nat) (kd:Int) (nm:ByteArray) (l r:Int) (v:Int) (hv:(kd=1∧v=0)∨(kd=2∧v=1)∨(kd=3∧v=3)∨(kd=4∧v=10))
  (hC:∀ W,Below w.heap.size w W→Calls Tryz.prog 104 #[t,.int .i64 (main:Int)] W fun e w'=>e = .returned (.agg #[.int .i64 kd,.string nm,.int .i64 l,.int .i64 r])∧Below W.heap.size W w') :
  Calls Tryz.prog 108 #[t,.agg (Ad m g).toArray,.int .i64 (main:Int)] w fun e w'=>e = .returned (.int .i64 v)∧Below w.heap.size w w':=by
 have HC:=Aa hC
 clear hC
 rcases hv with ⟨rfl,rfl⟩ | ⟨rfl,rfl⟩ | ⟨rfl,rfl⟩ | ⟨rfl,rfl⟩
 all_goals
  as_aux_lemma=>
  go_enter Tryz.func108,Tryz.ntmps108
  go_wp2_with (first
   | (go_at_call 104;refine (HC.o _ (Ab _ _)).mono ?_;rintro e W1 ⟨rfl,hb1⟩;have HB1:=Aa (Ac (Ab w _) hb1);clear hb1 HC)
   | (refine Aj Ds (.tmp 7) (.tmp 10) rfl rfl rfl (ys:=(ND.mk _ nm l r).cells) rfl (Ae.new W1 Do.cells 31) rfl rfl (cells_one _) ?_;intro W2 hb2 ho2;have c0:=hb2.cell (i:=0) rfl;have HB2:=Aa (HB1.o.trans (((Ab W1 _).trans (ho2.below (Nat.le_refl _))).mono HB1.o.size));clear hb2 ho2;simp only at c0))
  go_ret
  exact ⟨rfl,HB2.o⟩
set_option maxRecDepth 100000 in
set_option maxHeartbeats 1000000 in
theorem yU (w:World) (t:Value) (m:Nat) (g:Int) (main:Nat) (nm:ByteArray) (l:Nat) (r:Int) (kd:Int) (nm2:ByteArray) (l2 r2:Int) (v:Int) (hl:l<1024)
  (hv:(kd=1∧m.testBit l=true∧v=4)∨(kd=1∧m.testBit l=false∧v=0)∨(kd=2∧v=5)∨(kd=3∧v=6)∨(kd=4∧v=7)∨(kd=5∧v=13))
  (hC:∀ W,Below w.heap.size w W→Calls Tryz.prog 104 #[t,.int .i64 (main:Int)] W fun e w'=>e = .returned (.agg #[.int .i64 5,.string nm,.int .i64 (l:Int),.int .i64 r])∧Below W.heap.size W w')
  (hD:∀ W,Below w.heap.size w W→Calls Tryz.prog 104 #[t,.int .i64 (l:Int)] W fun e w'=>e = .returned (.agg #[.int .i64 kd,.string nm2,.int .i64 l2,.int .i64 r2])∧Below W.heap.size W w') :
  Calls Tryz.prog 108 #[t,.agg (Ad m g).toArray,.int .i64 (main:Int)] w fun e w'=>e = .returned (.int .i64 v)∧Below w.heap.size w w':=by
 have HC:=Aa hC
 have HD:=Aa hD
 have HH:=Aa (fun W=>Qr W m l hl)
 clear hC hD
 rcases hv with ⟨rfl,hbit,rfl⟩ | ⟨rfl,hbit,rfl⟩ | ⟨rfl,rfl⟩ | ⟨rfl,rfl⟩ | ⟨rfl,rfl⟩ | ⟨rfl,rfl⟩
 ·as_aux_lemma=>
  rw [hbit] at HH
  clear hbit
  have hfk:=fun W=>Ft (.int .i64 1) (.string nm2) (.int .i64 l2) (.int .i64 r2) W
  go_enter Tryz.func108,Tryz.ntmps108
  go_wp2_with (first
   | (go_at_call 104;refine (HC.o _ (Ab _ _)).mono ?_;rintro e W1 ⟨rfl,hb1⟩;have HQ1:=Aa ((Ae.new w (Ad m g) 86).below hb1);have HB1:=Aa (Ac (Ab w _) hb1);clear hb1 HC)
   | (refine Aj Ds (.tmp 7) (.tmp 10) rfl rfl rfl (ys:=(ND.mk _ nm (l:Int) r).cells) rfl (Ae.new W1 Do.cells 31) rfl rfl (cells_one _) ?_;intro W2 hb2 ho2;have c0:=hb2.cell (i:=0) rfl;have c2:=hb2.cell (i:=2) rfl;have HB12:=Aa ((Ab W1 _).trans (ho2.below (Nat.le_refl _)));have HB2:=Aa (HB1.o.trans (HB12.o.mono HB1.o.size));have HQ2:=Aa (HQ1.o.below HB12.o);clear hb2 ho2;simp only at c0 c2)
   | (go_at_call 104;refine (HD.o _ HB2.o).mono ?_;rintro e W3 ⟨rfl,hb3⟩;have d2:=(hb3.cell (World.block_lt_of_cell? _ _ c2)).trans c2;have HB3:=Aa (Ac HB2.o hb3);have HQ3:=Aa (HQ2.o.below hb3);clear hb3)
   | (refine Ap (.tmp 28) rfl rfl rfl HQ3.o ?_)
   | (go_at_call 100;refine (HH.o _).mono ?_;rintro e W4 ⟨rfl,hb4⟩;have HB4:=Aa (Ac HB3.o hb4);clear hb4))
  go_ret
  exact ⟨rfl,HB4.o⟩
 ·as_aux_lemma=>
  rw [hbit] at HH
  clear hbit
  have hfk:=fun W=>Ft (.int .i64 1) (.string nm2) (.int .i64 l2) (.int .i64 r2) W
  go_enter Tryz.func108,Tryz.ntmps108
  go_wp2_with (first
   | (go_at_call 104;refine (HC.o _ (Ab _ _)).mono ?_;rintro e W1 ⟨rfl,hb1⟩;have HQ1:=Aa ((Ae.new w (Ad m g) 86).below hb1);have HB1:=Aa (Ac (Ab w _) hb1);clear hb1 HC)
   | (refine Aj Ds (.tmp 7) (.tmp 10) rfl rfl rfl (ys:=(ND.mk _ nm (l:Int) r).cells) rfl (Ae.new W1 Do.cells 31) rfl rfl (cells_one _) ?_;intro W2 hb2 ho2;have c0:=hb2.cell (i:=0) rfl;have c2:=hb2.cell (i:=2) rfl;have HB12:=Aa ((Ab W1 _).trans (ho2.below (Nat.le_refl _)));have HB2:=Aa (HB1.o.trans (HB12.o.mono HB1.o.size));have HQ2:=Aa (HQ1.o.below HB12.o);clear hb2 ho2;simp only at c0 c2)
   | (go_at_call 104;refine (HD.o _ HB2.o).mono ?_;rintro e W3 ⟨rfl,hb3⟩;have d2:=(hb3.cell (World.block_lt_of_cell? _ _ c2)).trans c2;have HB3:=Aa (Ac HB2.o hb3);have HQ3:=Aa (HQ2.o.below hb3);clear hb3)
   | (refine Ap (.tmp 28) rfl rfl rfl HQ3.o ?_)
   | (go_at_call 100;refine (HH.o _).mono ?_;rintro e W4 ⟨rfl,hb4⟩;have HB4:=Aa (Ac HB3.o hb4);clear hb4))
  go_ret
  exact ⟨rfl,HB4.o⟩
 all_goals
  as_aux_lemma=>
  have hfk:=fun (x:Int) W=>Ft (.int .i64 x) (.string nm2) (.int .i64 l2) (.int .i64 r2) W
  go_enter Tryz.func108,Tryz.ntmps108
  go_wp2_with (first
   | (go_at_call 104;refine (HC.o _ (Ab _ _)).mono ?_;rintro e W1 ⟨rfl,hb1⟩;have HB1:=Aa (Ac (Ab w _) hb1);clear hb1 HC)
   | (refine Aj Ds (.tmp 7) (.tmp 10) rfl rfl rfl (ys:=(ND.mk _ nm (l:Int) r).cells) rfl (Ae.new W1 Do.cells 31) rfl rfl (cells_one _) ?_;intro W2 hb2 ho2;have c0:=hb2.cell (i:=0) rfl;have c2:=hb2.cell (i:=2) rfl;have HB2:=Aa (HB1.o.trans (((Ab W1 _).trans (ho2.below (Nat.le_refl _))).mono HB1.o.size));clear hb2 ho2;simp only at c0 c2)
   | (go_at_call 104;refine (HD.o _ HB2.o).mono ?_;rintro e W3 ⟨rfl,hb3⟩;have HB3:=Aa (Ac HB2.o hb3);clear hb3))
  go_ret
  exact ⟨rfl,HB3.o⟩
theorem wB {rows:List ND} (s:SQ) {main l kd:Nat} {nm nm2:ByteArray} {r l2 r2:Int} (hx:rowAt rows main=⟨5,nm,(l:Int),r⟩) (hy:rowAt rows l=⟨(kd:Int),nm2,l2,r2⟩) :
  onP rows s main=if (kd:Int)=1 then (if s.left.testBit l then 4 else 0) else if (kd:Int)=2 then 5 else if (kd:Int)=3 then 6 else if (kd:Int)=4 then 7 else if (kd:Int)=5 then 13 else 0:=by
 simp [onP,hx,hy]
theorem tU {rows:List ND} (s:SQ) {main:Nat} {kd:Int} {nm:ByteArray} {l r:Int} (hx:rowAt rows main=⟨kd,nm,l,r⟩) (h5:kd≠5) :
  onP rows s main=if kd=2 then 1 else if kd=3 then 3 else if kd=4 then 10 else 0:=by
 unfold onP
 rw [hx]
 simp only [if_neg h5]
theorem on_any (k:Nat) (ow:Own) (w:World) (t:Value) (rows:List ND) (h:Tab k ow w t rows) (s:SQ) (g:Int) (main:Nat) (hm:main<rows.length) :
  Calls Tryz.prog 108 #[t,.agg (Ad s.left g).toArray,.int .i64 (main:Int)] w fun e w'=>e = .returned (.int .i64 (onP rows s main))∧Below w.heap.size w w':=by
 have hok:=h.ok
 have hp:=hok.parts (Am hm)
 have hf:=(Vm (hok.fit _ _ (Am hm))).2.1
 obtain ⟨x,hx⟩:∃ x,rowAt rows main=x:=⟨_,rfl⟩
 rw [hx] at hp hf
 have hC:=Dc k ow w t rows h main hm _ hx
 obtain ⟨kd,nm,l,r⟩:=x
 simp only at hC hp hf
 by_cases h5:kd=5
 ·subst h5
  obtain ⟨⟨h0,h1⟩,_⟩:=hp (by omega)
  obtain ⟨l0,rfl⟩:=Int.eq_ofNat_of_zero_le h0
  have hl:l0<rows.length:=by omega
  have hf2:=(Vm (hok.fit _ _ (Am hl))).2.1
  obtain ⟨y,hy⟩:∃ y,rowAt rows l0=y:=⟨_,rfl⟩
  rw [hy] at hf2
  have hD:=Dc k ow w t rows h l0 hl _ hy
  obtain ⟨kd2,nm2,l2,r2⟩:=y
  simp only at hD hf2
  obtain ⟨k2,rfl⟩:=Int.eq_ofNat_of_zero_le (show 0≤kd2 by omega)
  refine yU w t s.left g main nm l0 r k2 nm2 l2 r2 _ (by have:=hok.le;omega) ?_ hC hD
  rw [wB s hx hy]
  cases hb:s.left.testBit l0
  all_goals
   obtain h | h | h | h | h:k2=1∨k2=2∨k2=3∨k2=4∨k2=5:=by omega
   all_goals subst h;simp
 ·refine wH w t s.left g main kd nm l r _ ?_ hC
  rw [tU s hx h5]
  obtain h | h | h | h:kd=1∨kd=2∨kd=3∨kd=4:=by omega
  all_goals subst h;simp
end Go.Dk
end
section
namespace Go.Dk
open Go.RowKit Go.Maps Go.MapKept Go.Shelf
open Go.Proofs hiding intOf
attribute [local go_sem] Oper.semAt_some
section
variable {F:Fence} {nF:Nat} {ops:Array Oper} {rest:List Oper} {o:Oper} {a:Act} {Q:Exit→Act→World→Prop} {W:World} {b m n:Nat} {g:Int} {ty:TypeId}
theorem lY (R:RowTy Tryz.prog ty n) (x:Operand) (hop:o.op = .load ty x) (hx:a.eval x = .pointer (some ⟨b,0,none⟩)) {cs:List Value} (hc:W.rangeAt b 0 cs) (hl:cs.length=n):(execOp a.eval o).run Tryz.prog W = .ok (.value (.agg cs.toArray)) W:=by
 obtain ⟨d,hu,hd⟩:=R.u
 unfold execOp
 simp only [hop,hx,Instr.loadAt,Instr.sureAddr,Sem.run_bind,Sem.run_pure,Result.andThen_ok,run_loadVar_mid W b 0 ty cs d hc hu hd (by rw [hl];exact R.i)]
theorem Yr (R:RowTy Tryz.prog ty n) (x:Operand) (hop:o.op = .load ty x) (hg:o.guard=none) (hx:a.eval x = .pointer (some ⟨b,0,none⟩)) {cs:List Value} (hc:W.rangeAt b 0 cs) (hl:cs.length=n) (hk:wpListIn F nF Tryz.prog ops Q rest (a.put o.dst (.agg cs.toArray)) W):wpListIn F nF Tryz.prog ops Q (o::rest) a W:=by
 refine wpListIn_plain hg fun K' hK'=>?_
 unfold Oper.wpIn
 refine ⟨by simp [Oper.about,hop],?_⟩
 rw [Oper.semAt_plain F _ _ (by rw [hop];intro c hc';cases hc'),lY R x hop hx hc hl]
 exact hK' _ _ hk
theorem zC:RowTy Tryz.prog 77 16:=⟨nH,Nx⟩
theorem zN:RowTy Tryz.prog 86 17:=⟨fR,cE⟩
theorem Ij (x:Operand) (hop:o.op = .load 77 x) (hg:o.guard=none) (hx:a.eval x = .pointer (some ⟨b,0,none⟩)) {T:TypeId} (h:Ae W b (Ad m g) T) (hk:wpListIn F nF Tryz.prog ops Q rest (a.put o.dst (.agg (Ag m).toArray)) W):wpListIn F nF Tryz.prog ops Q (o::rest) a W:=
 Yr zC x hop hg hx (h.range (Hm m g)) (Bg m) hk
theorem Ea (x:Operand) (hop:o.op = .load 86 x) (hg:o.guard=none) (hx:a.eval x = .pointer (some ⟨b,0,none⟩)) {T:TypeId} (h:Ae W b (Ad m g) T) (hk:wpListIn F nF Tryz.prog ops Q rest (a.put o.dst (.agg (Ad m g).toArray)) W):wpListIn F nF Tryz.prog ops Q (o::rest) a W:=
 Yr zN x hop hg hx (h.range (by simp)) (Ai m g) hk
end
set_option maxRecDepth 100000 in
theorem mP (k:Nat) (ow:Own) (w:World) (t:Value) (rows:List ND) (h:Tab k ow w t rows) (a:Int) (ha:hasB rows.length a=false):Calls Tryz.prog 45 #[t,.int .i64 a] w fun e w'=>e = .returned (.tuple #[.int .i64 0,.int .i64 31])∧w=w':=by
 have H:=Aa h
 clear h
 go_enter Tryz.func45,Tryz.ntmps45
 go_wp2_with (first | (go_at_call 46;refine (Dz k ow _ _ rows H.o).mono ?_;rintro e w' ⟨rfl,rfl⟩) | (go_at_call 47;refine (Nr k ow _ _ rows H.o _).mono ?_;rintro e w' ⟨rfl,rfl⟩))
 go_ret2
 exact ⟨rfl,rfl⟩
theorem Rf (w:World) (m:Nat):CallsIn Fence.wide 7 Tryz.prog 52 #[.agg (Ag m).toArray] w fun e w'=>e = .returned (.func (.func 70) #[] #[.pointer (some ⟨w.heap.size,0,none⟩)])∧w'=w.alloc (.cells (Ag m).toArray 77):=callsIn_wide.2 (all_in w m)
structure LookF (w W5:World) (pb m:Nat) (g:Int):Prop where
 bel:Below w.heap.size w W5
 tb:∀ {W},Below W5.heap.size W5 W→W.cell? ⟨w.heap.size,0,none⟩=some (.pointer (some ⟨pb,0,none⟩))
 sq:∀ {W},Below W5.heap.size W5 W→Ae W (w.heap.size+1) (Ad m g) 86
 er:∀ {W},Below W5.heap.size W5 W→Ae W (w.heap.size+1+1) [.int .i64 0] 35
 bits:Ae W5 (w.heap.size+1+1+1) (Ag m) 77
 sz:W5.heap.size=w.heap.size+4
theorem kZ (w:World) (pb m:Nat) (g:Int):LookF w ((((w.alloc (.cells #[.pointer (some ⟨pb,0,none⟩)] 24)).alloc (.cells (Ad m g).toArray 86)).alloc (.cells #[.int .i64 0] 35)).alloc (.cells (Ag m).toArray 77)) pb m g:=by
 refine ⟨Ac (Ac (Ac (Ab _ _) (Ab _ _)) (Ab _ _)) (Ab _ _),fun hb=>?_,fun hb=>?_,fun hb=>?_,?_,by simp⟩
 ·have h1:=((((Ae.new w [.pointer (some ⟨pb,0,none⟩)] 24).below (Ab _ (.cells (Ad m g).toArray 86))).below (Ab _ (.cells #[.int .i64 0] 35))).below (Ab _ (.cells (Ag m).toArray 77))).below hb
  exact h1.cell (i:=0) rfl
 ·have h1:=(((Ae.new (w.alloc (.cells #[.pointer (some ⟨pb,0,none⟩)] 24)) (Ad m g) 86).below (Ab _ (.cells #[.int .i64 0] 35))).below (Ab _ (.cells (Ag m).toArray 77))).below hb
  simpa using h1
 ·have h1:=((Ae.new ((w.alloc (.cells #[.pointer (some ⟨pb,0,none⟩)] 24)).alloc (.cells (Ad m g).toArray 86)) [.int .i64 0] 35).below (Ab _ (.cells (Ag m).toArray 77))).below hb
  simpa using h1
 ·have h1:=Ae.new (((w.alloc (.cells #[.pointer (some ⟨pb,0,none⟩)] 24)).alloc (.cells (Ad m g).toArray 86)).alloc (.cells #[.int .i64 0] 35)) (Ag m) 77
  simpa using h1
set_option maxRecDepth 100000 in
set_option maxHeartbeats 2000000 in
theorem look_ok (k:Nat) (ow:Own) (w:World) (t:Value) (rows:List ND) (h:Tab k ow w t rows) (hT:TabG w) (s:SQ) (hs:Wf rows s) :
  Calls Tryz.prog 83 #[t,.agg (Ad s.left s.goal).toArray] w fun e w'=>e = .returned (.int .i64 0)∧Below w.heap.size w w':=by
 obtain ⟨pb,rfl⟩:∃ pb,t = .pointer (some ⟨pb,0,none⟩):=by obtain ⟨pb,_,_,e,_⟩:=h;exact ⟨pb,e⟩
 have H:=Aa h;have HT:=Aa hT;have HW:=Aa hs
 clear h hT hs
 refine (callsIn_wide (n:=8)).1 ?_
 refine callsIn_of_wp_marks Tryz.func83 rfl trivial ?_ rfl
 simp only [Tryz.ntmps83,List.size_toArray,List.length_cons,List.length_nil,Nat.reduceAdd,Nat.reduceSub,Array.replicate_succ,Array.replicate_zero,List.push_toArray,List.append_toArray,List.nil_append,List.cons_append]
 have HQ:Hid (∀ o,Ae (((w.alloc (.cells #[.pointer (some ⟨pb,0,none⟩)] 24)).alloc (.cells (Ad s.left s.goal).toArray 86)).alloc o) (w.heap.size+1) (Ad s.left s.goal) 86):=fun o=>by
  have:=(Ae.new (w.alloc (.cells #[.pointer (some ⟨pb,0,none⟩)] 24)) (Ad s.left s.goal) 86).below (Ab _ o)
  simpa using this
 gi_wp2_with (first
  | (refine ⟨trivial,?_⟩;gi_at_call 45;go_loud (refine (callsIn_wide.2 (mP k ow _ _ rows (H.o.below (Ac (Ac (Ab _ _) (Ab _ _)) (Ab _ _))) (-1) (by simp [hasB]))).mono ?_;rintro e w2 ⟨rfl,rfl⟩))
  | (refine Ij (.tmp 16) rfl rfl rfl (HQ.o _) ?_)
  | (refine ⟨trivial,?_⟩;gi_at_call 52;refine (Rf _ _).mono ?_;rintro e w5 ⟨rfl,rfl⟩))
 have HF:=Aa (kZ w pb s.left s.goal)
 generalize ((((w.alloc (.cells #[.pointer (some ⟨pb,0,none⟩)] 24)).alloc (.cells (Ad s.left s.goal).toArray 86)).alloc (.cells #[.int .i64 0] 35)).alloc (.cells (Ag s.left).toArray 77))=W5 at *
 have HS:Hid (∀ g,(g=0∨g=w.heap.size+1+1+1)→g<W5.heap.size):=fun g hg=>by
  have h1:=HF.o.sz
  rcases hg with rfl | rfl<;>omega
 refine wpIn_rangeFunc_ownG (I:=fun _ W=>Below W5.heap.size W5 W) (Ix:=fun _ _ _=>False) (Kp:=Lh fun g=>g=0∨g=w.heap.size+1+1+1)
  rfl (by omega) (gf:=70) (lb:=#[.pointer (some ⟨w.heap.size+1+1+1,0,none⟩)]) rfl trivial (enters_of Tryz.func70 (by kernel_rfl) rfl)
  (all_stops _ (by omega) (w.heap.size+1+1+1) s.left _ (.inl rfl) (.inr rfl) W5 HS.o (HT.o.below HF.o.bel) HF.o.bits) Pn (Uz HS.o) (Below.refl _ _) (fun _=>rfl) (ownFrom_below (Nat.le_refl _) (Nat.le_refl _)) (fun _ _ _ _ _ hs _ _=>hs) (Below.refl _ _)
  (fun x=>{ tmps:=#[.pointer (some ⟨pb,0,none⟩),.agg (Ad s.left s.goal).toArray,.pointer (some ⟨w.heap.size,0,none⟩),.pointer (some ⟨w.heap.size+1,0,none⟩),.pointer (some ⟨w.heap.size+1+1,0,none⟩),.int .i64 0,.int .i64 31,.int .i64 (x.1:Int),.tuple #[.int .i64 0,.int .i64 31],.pointer (some ⟨pb,0,none⟩),.tuple #[.int .i64 0,.int .i64 31],.int .i64 0,.int .i64 31,.int .i64 31,.bool false,undef,.pointer (some ⟨w.heap.size+1,0,none⟩),.agg (Ag s.left).toArray,.func (.func 70) #[] #[.pointer (some ⟨w.heap.size+1+1+1,0,none⟩)],.int .i64 (x.1:Int),undef,undef,undef,undef,undef,undef,undef,undef,undef,undef,undef,undef,undef,undef],defers:=[] }) ?assign ?body ?done ?stop
 case assign=>
  intro l x W K hK
  unfold eO
  gi_wp2
  exact hK
 case body=>
  rintro l pre x W hI hlt
  have HI:=Aa hI
  have hlt:x.1<rows.length:=HW.o.left _ x.2.2
  have hc:((x.1:Int)<(rows.length:Int)):=by omega
  have c1:W.cell? ⟨w.heap.size,0,none⟩=some (.pointer (some ⟨pb,0,none⟩)):=HF.o.tb hI
  clear hI
  gi_wp2_with (refine ⟨trivial,?_⟩;gi_at_call 31;refine (CallsIn.inRound l (callsIn_wide.2 (len_any k ow _ _ rows (H.o.below (Ac HF.o.bel HI.o))))).mono ?_;rintro e w6 ⟨rfl,rfl⟩)
  exact ⟨KeepsFrom.refl _ _,Zl _ _,HI.o⟩
 case done=>
  rintro D ys W hD hys hI hK
  have HI:=Aa hI
  have c1:W.cell? ⟨w.heap.size,0,none⟩=some (.pointer (some ⟨pb,0,none⟩)):=HF.o.tb hI
  have c16:=(HF.o.sq hI).cell (Bl s.left s.goal)
  have r0:=(HF.o.er hI).cell (i:=0) rfl
  have f0:=(HF.o.er hI).fr 0
  have HTL:Hid (∀ n,Tab k ow (W.drewN n) (.pointer (some ⟨pb,0,none⟩)) rows):=fun n=>H.o.below (Ac (Ac HF.o.bel hI) (below_drewN W n))
  have hg:(s.goal:Int)<(rows.length:Int):=by have:=HW.o.goal;omega
  have hg0:¬ ((s.goal:Int)<0):=by omega
  have hgd:decide ((s.goal:Int)<0)=false:=decide_eq_false hg0
  have hge:decide ((rows.length:Int)≤(s.goal:Int))=false:=decide_eq_false (by omega)
  have HLW:Hid (∀ a,CallsIn Fence.wide 7 Tryz.prog 31 #[.pointer (some ⟨pb,0,none⟩)] (W.drewN a) fun e w''=>e = .returned (.int .i64 (rows.length:Int))∧∃ n,w''=W.drewN n):=fun a=>
   CallsIn.quiet_of_same ((callsIn_wide.2 (len_any k ow _ _ rows (HTL.o a))).mono fun e w' ⟨h1,h2⟩=>⟨h1,h2.symm⟩)
  clear hI
  gi_wp2
  refine wpIn_region_quiet_lit rfl (by kernel_rfl) (by kernel_rfl) ?_
  repeat (
   refine wpQuietIn_step (by unfold Oper.askedIn;intros;trivial) (fun K hK=>?_)
   go_simp
   first
    | (refine hK _ ?_;clear hK K)
    |(apply Exists.intro
      refine ⟨fun _=>?_,hK _ ?_⟩
      (exact HLW.o _)
      clear hK K))
  refine wpQuietIn_nil ?_
  intro _ hw'
  obtain ⟨nq,hw''⟩:=hw'
  subst hw''
  gi_wp2
  have hK8:((W.drewN nq).setCell ⟨w.heap.size+1+1,0,none⟩ (.int .i64 0)).heap[D]? = some (.deferred (some [])):=(KeepsOthers.setCell (W.drewN nq) _ _).same D _ (by simpa using hK) rfl
  have c8:((W.drewN nq).setCell ⟨w.heap.size+1+1,0,none⟩ (.int .i64 0)).cell? ⟨w.heap.size+1+1,0,none⟩=some (.int .i64 0):=World.cell?_setCell_same' _ _ _ (by simp [r0])
  have c9:=cell_kept c8 (grownBy_putObj' _ D (.deferred none)) (fun r e=>by cases e;exact ⟨_,hK8,rfl⟩)
  have HB:Hid (Below w.heap.size w ((W.drewN nq).setCell ⟨w.heap.size+1+1,0,none⟩ (.int .i64 0))):=(Ac (Ac HF.o.bel HI.o) (below_drewN W nq)).setCell (p:=⟨w.heap.size+1+1,0,none⟩) (by show w.heap.size≤w.heap.size+1+1;omega) _
  have HDD:Hid (w.heap.size≤D):=by have:=HF.o.sz;unfold Hid;omega
  generalize ((W.drewN nq).setCell ⟨w.heap.size+1+1,0,none⟩ (.int .i64 0))=W8 at *
  refine ⟨by simp,.inl ⟨_,_,rfl,run_takeDeferred hK8,?_⟩⟩
  refine ⟨.int .i64 0,by simp [results,Tryz.results83,go_sem,c9],rfl,?_⟩
  exact HB.o.trans (belowK_b (w:=w) (Nat.le_refl _) W8 D _ _ HDD.o hK8 rfl rfl)
 case stop=>
  rintro D c pre W _ _ h _
  exact h.elim
end Go.Dk
end
section
namespace Go.Dk
open Go.RowKit Go.Maps Go.MapKept Go.Shelf
open Go.Proofs hiding intOf
attribute [local go_sem] Oper.semAt_some
theorem iW (m k:Nat):(upto m k).Pairwise (· < ·):=List.Pairwise.filter _ List.pairwise_lt_range
theorem Yq {m k j:Nat}:j ∈ upto m k↔j<k∧m.testBit j=true:=by simp [upto]
theorem nS {m x j:Nat} {l:List Nat} (h:l++[x] <+: upto m 1024) (hj:j<x) (hb:m.testBit j=true):j ∈ l:=by
 obtain ⟨r,hr⟩:=h
 have hx:x ∈ upto m 1024:=by rw [← hr];simp
 have hju:j ∈ upto m 1024:=Yq.2 ⟨Nat.lt_trans hj (Yq.1 hx).1,hb⟩
 have hs:=iW m 1024
 rw [← hr] at hju hs
 rw [List.mem_append,List.mem_append] at hju
 rcases hju with (h1 | h1) | h1
 ·exact h1
 ·rw [List.mem_singleton] at h1;omega
 ·have:=(List.pairwise_append.1 hs).2.2 x (by simp) j h1
  omega
theorem eJ {rows:List ND} {s:SQ} {p:Int→Bool} (hle:rows.length≤1024) {ys:List Nat} (hy:ys=upto s.left 1024) (hn:∀ y ∈ ys,p (onP rows s y)=false):Bt rows s p=none:=by
 unfold Bt
 rw [Option.map_eq_none_iff,List.find?_eq_none]
 intro x hx
 have hx:=List.mem_range.1 hx
 by_cases hb:s.left.testBit x=true
 ·have:=hn x (by rw [hy];exact Yq.2 ⟨by omega,hb⟩)
  simp [this]
 ·simp [hb]
theorem jC {rows:List ND} {s:SQ} {p:Int→Bool} {l:List Nat} {x:Nat} (hx:x<rows.length) (hb:s.left.testBit x=true) (h:l++[x] <+: upto s.left 1024) (hn:∀ y ∈ l,p (onP rows s y)=false) (hp:p (onP rows s x)=true) :
  Bt rows s p=some (onP rows s x,x):=by
 unfold Bt
 rw [find_range hx (by simp [hb,hp]) (fun j hj=>?_)]
 ·rfl
 ·by_cases hbj:s.left.testBit j=true
  ·simp [hn j (nS h hj hbj)]
  ·simp [hbj]
def Rh:Option (Int × Nat)→Value
 | some x=>.tuple #[.agg #[.int .i64 x.1,.int .i64 (x.2:Int)],.bool true]
 | none=>.tuple #[.agg #[.int .i64 0,.int .i64 0],.bool false]
structure LeastF (w W5:World) (pb m:Nat) (g:Int) (fv:Value):Prop where
 bel:Below w.heap.size w W5
 tb:∀ {W},Below W5.heap.size W5 W→W.cell? ⟨w.heap.size,0,none⟩=some (.pointer (some ⟨pb,0,none⟩))
 sq:∀ {W},Below W5.heap.size W5 W→Ae W (w.heap.size+1) (Ad m g) 86
 fn:∀ {W},Below W5.heap.size W5 W→W.cell? ⟨w.heap.size+1+1,0,none⟩=some fv
 fo:∀ {W},Below W5.heap.size W5 W→Ae W (w.heap.size+1+1+1) [.int .i64 0,.int .i64 0] 162
 ok:∀ {W},Below W5.heap.size W5 W→Ae W (w.heap.size+1+1+1+1) [.bool false] 4
 bits:Ae W5 (w.heap.size+1+1+1+1+1) (Ag m) 77
 sz:W5.heap.size=w.heap.size+6
theorem eZ (w:World) (pb m:Nat) (g:Int) (fv:Value):LeastF w ((((((w.alloc (.cells #[.pointer (some ⟨pb,0,none⟩)] 24)).alloc (.cells (Ad m g).toArray 86)).alloc (.cells #[fv] 180)).alloc (.cells #[.int .i64 0,.int .i64 0] 162)).alloc (.cells #[.bool false] 4)).alloc (.cells (Ag m).toArray 77)) pb m g fv:=by
 have b2:=Ac (Ab w (.cells #[.pointer (some ⟨pb,0,none⟩)] 24)) (Ab _ (.cells (Ad m g).toArray 86))
 refine ⟨Ac (Ac (Ac (Ac b2 (Ab _ _)) (Ab _ _)) (Ab _ _)) (Ab _ _),fun hb=>?_,fun hb=>?_,fun hb=>?_,fun hb=>?_,fun hb=>?_,?_,by simp⟩
 ·have h1:=((((((Ae.new w [.pointer (some ⟨pb,0,none⟩)] 24).below (Ab _ (.cells (Ad m g).toArray 86))).below (Ab _ (.cells #[fv] 180))).below (Ab _ (.cells #[.int .i64 0,.int .i64 0] 162))).below (Ab _ (.cells #[.bool false] 4))).below (Ab _ (.cells (Ag m).toArray 77))).below hb
  exact h1.cell (i:=0) rfl
 ·have h1:=(((((Ae.new (w.alloc (.cells #[.pointer (some ⟨pb,0,none⟩)] 24)) (Ad m g) 86).below (Ab _ (.cells #[fv] 180))).below (Ab _ (.cells #[.int .i64 0,.int .i64 0] 162))).below (Ab _ (.cells #[.bool false] 4))).below (Ab _ (.cells (Ag m).toArray 77))).below hb
  simpa using h1
 ·have h1:=((((Ae.new ((w.alloc (.cells #[.pointer (some ⟨pb,0,none⟩)] 24)).alloc (.cells (Ad m g).toArray 86)) [fv] 180).below (Ab _ (.cells #[.int .i64 0,.int .i64 0] 162))).below (Ab _ (.cells #[.bool false] 4))).below (Ab _ (.cells (Ag m).toArray 77))).below hb
  have h2:=h1.cell (i:=0) rfl
  simpa using h2
 ·have h1:=(((Ae.new (((w.alloc (.cells #[.pointer (some ⟨pb,0,none⟩)] 24)).alloc (.cells (Ad m g).toArray 86)).alloc (.cells #[fv] 180)) [.int .i64 0,.int .i64 0] 162).below (Ab _ (.cells #[.bool false] 4))).below (Ab _ (.cells (Ag m).toArray 77))).below hb
  simpa using h1
 ·have h1:=((Ae.new ((((w.alloc (.cells #[.pointer (some ⟨pb,0,none⟩)] 24)).alloc (.cells (Ad m g).toArray 86)).alloc (.cells #[fv] 180)).alloc (.cells #[.int .i64 0,.int .i64 0] 162)) [.bool false] 4).below (Ab _ (.cells (Ag m).toArray 77))).below hb
  simpa using h1
 ·have h1:=Ae.new (((((w.alloc (.cells #[.pointer (some ⟨pb,0,none⟩)] 24)).alloc (.cells (Ad m g).toArray 86)).alloc (.cells #[fv] 180)).alloc (.cells #[.int .i64 0,.int .i64 0] 162)).alloc (.cells #[.bool false] 4)) (Ag m) 77
  simpa using h1
theorem Ae.grown {W W':World} {b:Nat} {xs:List Value} {T:TypeId} {row:Option Nat} (h:Ae W b xs T) (hg:W.grownBy W' row) (hr:∀ r,row=some r→∃ o:Obj,W.heap[r]? = some o∧o.isCells=false):Ae W' b xs T:=
 (hg.block b h.lt (fun e=>by
  obtain ⟨o,ho,hc⟩:=hr b e.symm
  unfold Ae at h
  rw [h] at ho
  cases ho
  cases hc)).trans h
def tB (w W5:World) (rows:List ND) (s:SQ) (p:Int→Bool) (c:Code) (pre:List (Mem s.left)) (W:World):Prop:=
 c = .ret∧∃ (pre':List (Mem s.left)) (x:Mem s.left),pre=pre'++[x]∧(∀ y ∈ pre',p (onP rows s y.1)=false)∧p (onP rows s x.1)=true ∧
  Ae W (w.heap.size+1+1+1) [.int .i64 (onP rows s x.1),.int .i64 (x.1:Int)] 162∧Ae W (w.heap.size+1+1+1+1) [.bool true] 4∧Below w.heap.size w W∧W5.heap.size≤W.heap.size
theorem kF {w W5:World} {rows:List ND} {s:SQ} {p:Int→Bool} (hz:w.heap.size≤W5.heap.size) (c:Code):OwnFrom W5.heap.size (tB w W5 rows s p c):=fun q A B row hs hg hr=>by
 obtain ⟨hc,pre',x,e,h1,h2,h3,h4,h5,h6⟩:=hs
 refine ⟨hc,pre',x,e,h1,h2,h3.grown hg (fun r e=>(hr r e).2),h4.grown hg (fun r e=>(hr r e).2),?_,Nat.le_trans h6 hg.size⟩
 exact (ownFrom_below (β:=Unit) (n₀:=w.heap.size) (w₀:=w) (Nat.le_refl _) hz) () A B row h5 hg hr
set_option maxRecDepth 100000 in
set_option maxHeartbeats 2000000 in
theorem Vv (k:Nat) (ow:Own) (w:World) (t:Value) (rows:List ND) (h:Tab k ow w t rows) (hT:TabG w) (s:SQ) (hs:Wf rows s) (p:Int→Bool) (fid:Nat) (caps:Array Value)
  (he:∀ args w,(callFunc fid args).run Tryz.prog w = .ok (.enter fid args) w) (hp:∀ (x:Int) (W:World),Calls Tryz.prog fid (#[.int .i64 x]++caps) W fun e W'=>e = .returned (.bool (p x))∧W'=W) :
  Calls Tryz.prog 97 #[t,.agg (Ad s.left s.goal).toArray,.func (.func fid) #[] caps] w fun e w'=>e = .returned (Rh (Bt rows s p))∧Below w.heap.size w w':=by
 obtain ⟨pb,rfl⟩:∃ pb,t = .pointer (some ⟨pb,0,none⟩):=by obtain ⟨pb,_,_,e,_⟩:=h;exact ⟨pb,e⟩
 have H:=Aa h;have HT:=Aa hT;have HW:=Aa hs;have HP:=Aa hp;have HE:=Aa he
 clear h hT hs hp he
 refine (callsIn_wide (n:=8)).1 ?_
 refine callsIn_of_wp_marks Tryz.func97 rfl trivial ?_ rfl
 simp only [Tryz.ntmps97,List.size_toArray,List.length_cons,List.length_nil,Nat.reduceAdd,Nat.reduceSub,Array.replicate_succ,Array.replicate_zero,List.push_toArray,List.append_toArray,List.nil_append,List.cons_append]
 have HQ:Hid (∀ o1 o2 o3,Ae (((((w.alloc (.cells #[.pointer (some ⟨pb,0,none⟩)] 24)).alloc (.cells (Ad s.left s.goal).toArray 86)).alloc o1).alloc o2).alloc o3) (w.heap.size+1) (Ad s.left s.goal) 86):=fun o1 o2 o3=>by
  have:=(((Ae.new (w.alloc (.cells #[.pointer (some ⟨pb,0,none⟩)] 24)) (Ad s.left s.goal) 86).below (Ab _ o1)).below (Ab _ o2)).below (Ab _ o3)
  simpa using this
 gi_wp2_with (first
  | (refine Ij (.tmp 10) rfl rfl rfl (HQ.o _ _ _) ?_)
  | (refine ⟨trivial,?_⟩;gi_at_call 52;refine (Rf _ _).mono ?_;rintro e w5 ⟨rfl,rfl⟩))
 have HF:=Aa (eZ w pb s.left s.goal (.func (.func fid) #[] caps))
 generalize ((((((w.alloc (.cells #[.pointer (some ⟨pb,0,none⟩)] 24)).alloc (.cells (Ad s.left s.goal).toArray 86)).alloc (.cells #[.func (.func fid) #[] caps] 180)).alloc (.cells #[.int .i64 0,.int .i64 0] 162)).alloc (.cells #[.bool false] 4)).alloc (.cells (Ag s.left).toArray 77))=W5 at *
 have HS:Hid (∀ g,(g=0∨g=w.heap.size+1+1+1+1+1)→g<W5.heap.size):=fun g hg=>by
  have h1:=HF.o.sz
  rcases hg with rfl | rfl<;>omega
 have HZ:Hid (w.heap.size≤W5.heap.size):=HF.o.bel.size
 clear HQ
 refine wpIn_rangeFunc_ownG (I:=fun pre W=>Below W5.heap.size W5 W∧∀ y ∈ pre,p (onP rows s y.1)=false) (Ix:=tB w W5 rows s p) (Kp:=Lh fun g=>g=0∨g=w.heap.size+1+1+1+1+1)
  rfl (by omega) (gf:=70) (lb:=#[.pointer (some ⟨w.heap.size+1+1+1+1+1,0,none⟩)]) rfl trivial (enters_of Tryz.func70 (by kernel_rfl) rfl)
  (all_stops _ (by omega) (w.heap.size+1+1+1+1+1) s.left _ (.inl rfl) (.inr rfl) W5 HS.o (HT.o.below HF.o.bel) HF.o.bits) Pn (Uz HS.o) (Below.refl _ _) (fun _=>rfl) ((ownFrom_below (Nat.le_refl _) (Nat.le_refl _)).and (fun _ _ _ _ hs _ _=>hs)) (kF HZ.o) ⟨Below.refl _ _,fun y hy=>by cases hy⟩
  (fun x=>{ tmps:=#[.pointer (some ⟨pb,0,none⟩),.agg (Ad s.left s.goal).toArray,.func (.func fid) #[] caps,.pointer (some ⟨w.heap.size,0,none⟩),.pointer (some ⟨w.heap.size+1,0,none⟩),.pointer (some ⟨w.heap.size+1+1,0,none⟩),.pointer (some ⟨w.heap.size+1+1+1,0,none⟩),.pointer (some ⟨w.heap.size+1+1+1+1,0,none⟩),.int .i64 (x.1:Int),undef,.pointer (some ⟨w.heap.size+1,0,none⟩),.agg (Ag s.left).toArray,.func (.func 70) #[] #[.pointer (some ⟨w.heap.size+1+1+1+1+1,0,none⟩)],.int .i64 (x.1:Int),undef,undef,undef,undef,undef,undef,undef,undef,undef,undef,undef],defers:=[] }) ?assign ?body ?done ?stop
 case assign=>
  intro l x W K hK
  unfold eO
  gi_wp2
  exact hK
 case body=>
  rintro l pre x W ⟨hI,hno⟩ hlt
  have HI:=Aa hI
  have HN:=Aa hno
  have hlt:x.1<rows.length:=HW.o.left _ x.2.2
  have HL:=Aa hlt
  have c1:W.cell? ⟨w.heap.size,0,none⟩=some (.pointer (some ⟨pb,0,none⟩)):=HF.o.tb hI
  have HO:=Aa (on_any k ow W _ rows (H.o.below (Ac HF.o.bel hI)) s s.goal x.1 hlt)
  obtain ⟨kd,hkd⟩:∃ kd,kd=onP rows s x.1:=⟨_,rfl⟩
  rw [← hkd] at HO
  have HK:=Aa hkd
  have HP1:=Aa (HP.o kd)
  obtain ⟨bb,hbb⟩:∃ bb,bb=p kd:=⟨_,rfl⟩
  rw [← hbb] at HP1
  have HBB:=Aa hbb
  clear hI hno hlt hkd hbb
  cases bb with
  | false=>
   have hent:=HE.o
   gi_wp2_with (first
    | (refine Ea (.tmp 4) rfl rfl rfl (HF.o.sq HI.o) ?_)
    | (refine ⟨trivial,?_⟩;gi_at_call 108;refine (CallsIn.inRound l (callsIn_wide.2 HO.o)).mono ?_;rintro e W6 ⟨rfl,hb6⟩;have HB6:=Aa hb6;have c2:=HF.o.fn (HI.o.trans (hb6.mono HI.o.size));clear hb6)
    | (refine ⟨trivial,?_⟩;refine (CallsIn.inRound l (callsIn_wide.2 (HP1.o _))).mono ?_;rintro e W7 ⟨rfl,rfl⟩))
   exact ⟨KeepsFrom.of_grownBy (row:=none) (Et HB6.o) (fun j e=>by cases e),Kx (fun g hg=>Nat.lt_of_lt_of_le (HS.o g hg) HI.o.size) HB6.o,HI.o.trans (HB6.o.mono HI.o.size),fun y hy=>by
    rcases List.mem_append.1 hy with h1 | h1
    ·exact HN.o y h1
    ·rw [List.mem_singleton.1 h1,← HK.o];exact HBB.o.symm⟩
  | true=>
   have hent:=HE.o
   gi_wp2_with (first
    | (refine Ea (.tmp 4) rfl rfl rfl (HF.o.sq HI.o) ?_)
    | (refine ⟨trivial,?_⟩;gi_at_call 108;refine (CallsIn.inRound l (callsIn_wide.2 HO.o)).mono ?_;rintro e W6 ⟨rfl,hb6⟩;have HB6:=Aa hb6;have hI6:=HI.o.trans (hb6.mono HI.o.size);have HI6:=Aa hI6;have c2:=HF.o.fn hI6;have c60:=(HF.o.fo hI6).cell (i:=0) rfl;have c61:=(HF.o.fo hI6).cell (i:=1) rfl;have f60:=(HF.o.fo hI6).fr 0;have f61:=(HF.o.fo hI6).fr 1;have c70:=(HF.o.ok hI6).cell (i:=0) rfl;have f70:=(HF.o.ok hI6).fr 0;clear hb6 hI6)
    | (refine ⟨trivial,?_⟩;refine (CallsIn.inRound l (callsIn_wide.2 (HP1.o _))).mono ?_;rintro e W7 ⟨rfl,rfl⟩))
   have K6:=(((HF.o.fo HI6.o).set 0 (.int .i64 kd)).set 1 (.int .i64 (x.1:Int))).other (c:=w.heap.size+1+1+1+1) (by omega) 0 (.bool true)
   have K7:=(((HF.o.ok HI6.o).other (c:=w.heap.size+1+1+1) (by omega) 0 (.int .i64 kd)).other (c:=w.heap.size+1+1+1) (by omega) 1 (.int .i64 (x.1:Int))).set 0 (.bool true)
   refine ⟨((KeepsFrom.of_grownBy (row:=none) (Et HB6.o) (fun j e=>by cases e)).trans ((((KeepsOthers.setCell _ _ _).trans (KeepsOthers.setCell _ _ _)).trans (KeepsOthers.setCell _ _ _)).from _)),rfl,pre,x,rfl,HN.o,by rw [← HK.o];exact HBB.o.symm,by rw [← HK.o];exact K6,K7,?_,by simp;exact HI6.o.size⟩
   exact (((HF.o.bel.trans (HI6.o.mono HZ.o)).setCell (p:=⟨w.heap.size+1+1+1,0,none⟩) (by show w.heap.size≤w.heap.size+1+1+1;omega) _).setCell (p:=⟨w.heap.size+1+1+1,1,none⟩) (by show w.heap.size≤w.heap.size+1+1+1;omega) _).setCell (p:=⟨w.heap.size+1+1+1+1,0,none⟩) (by show w.heap.size≤w.heap.size+1+1+1+1;omega) _
 case done=>
  rintro D ys W hD hys ⟨hI,hno⟩ hK
  have HI:=Aa hI
  have HN:=Aa hno
  have c60:=(HF.o.fo hI).cell (i:=0) rfl;have c61:=(HF.o.fo hI).cell (i:=1) rfl;have f60:=(HF.o.fo hI).fr 0;have f61:=(HF.o.fo hI).fr 1;have c70:=(HF.o.ok hI).cell (i:=0) rfl;have f70:=(HF.o.ok hI).fr 0
  clear hI hno
  gi_wp2
  have K6:=(((HF.o.fo HI.o).set 0 (.int .i64 0)).set 1 (.int .i64 0)).other (c:=w.heap.size+1+1+1+1) (by omega) 0 (.bool false)
  have K7:=(((HF.o.ok HI.o).other (c:=w.heap.size+1+1+1) (by omega) 0 (.int .i64 0)).other (c:=w.heap.size+1+1+1) (by omega) 1 (.int .i64 0)).set 0 (.bool false)
  have HB:Hid (Below w.heap.size w (((W.setCell ⟨w.heap.size+1+1+1,0,none⟩ (.int .i64 0)).setCell ⟨w.heap.size+1+1+1,1,none⟩ (.int .i64 0)).setCell ⟨w.heap.size+1+1+1+1,0,none⟩ (.bool false))):=
   (((HF.o.bel.trans (HI.o.mono HZ.o)).setCell (p:=⟨w.heap.size+1+1+1,0,none⟩) (by show w.heap.size≤w.heap.size+1+1+1;omega) _).setCell (p:=⟨w.heap.size+1+1+1,1,none⟩) (by show w.heap.size≤w.heap.size+1+1+1;omega) _).setCell (p:=⟨w.heap.size+1+1+1+1,0,none⟩) (by show w.heap.size≤w.heap.size+1+1+1+1;omega) _
  have hK8:(((W.setCell ⟨w.heap.size+1+1+1,0,none⟩ (.int .i64 0)).setCell ⟨w.heap.size+1+1+1,1,none⟩ (.int .i64 0)).setCell ⟨w.heap.size+1+1+1+1,0,none⟩ (.bool false)).heap[D]? = some (.deferred (some [])):=
   (((KeepsOthers.setCell _ _ _).trans (KeepsOthers.setCell _ _ _)).trans (KeepsOthers.setCell _ _ _)).same D _ hK rfl
  have hlp:Bt rows s p=none:=eJ H.o.ok.le hys (fun y hy=>by
   obtain ⟨z,hz,rfl⟩:=List.mem_map.1 hy
   exact HN.o z hz)
  clear c60 c61 f60 f61 c70 f70 hK
  generalize (((W.setCell ⟨w.heap.size+1+1+1,0,none⟩ (.int .i64 0)).setCell ⟨w.heap.size+1+1+1,1,none⟩ (.int .i64 0)).setCell ⟨w.heap.size+1+1+1+1,0,none⟩ (.bool false))=W8 at *
  have g6:=K6.grown (grownBy_putObj' W8 D (.deferred none)) (fun r e=>by cases e;exact ⟨_,hK8,rfl⟩)
  have g7:=K7.grown (grownBy_putObj' W8 D (.deferred none)) (fun r e=>by cases e;exact ⟨_,hK8,rfl⟩)
  have d0:=g6.cell (i:=0) rfl;have d1:=g6.cell (i:=1) rfl;have d2:=g7.cell (i:=0) rfl
  have HDD:w.heap.size≤D:=Nat.le_trans HZ.o hD
  refine ⟨by simp,.inl ⟨_,_,rfl,run_takeDeferred hK8,?_⟩⟩
  exact ⟨.tuple #[.agg #[.int .i64 0,.int .i64 0],.bool false],by simp [results,Tryz.results97,go_sem,d0,d1,d2],by rw [hlp];rfl,HB.o.trans (belowK_b (w:=w) (Nat.le_refl _) W8 D _ _ HDD hK8 rfl rfl)⟩
 case stop=>
  rintro D c pre W hD hpre ⟨rfl,pre',x,rfl,hno,hpx,hb6,hb7,hbw,hsz⟩ hK
  gi_wp2
  have hK8:=hK
  have K6:=hb6;have K7:=hb7
  have HB:=Aa hbw
  have hlp:Bt rows s p=some (onP rows s x.1,x.1):=jC (HW.o.left _ x.2.2) x.2.2 (by simpa using hpre) (fun y hy=>by
   obtain ⟨z,hz,rfl⟩:=List.mem_map.1 hy
   exact hno z hz) hpx
  clear hK hb6 hb7 hbw
  obtain ⟨W8,rfl⟩:∃ W8,W8=W:=⟨_,rfl⟩
  have g6:=K6.grown (grownBy_putObj' W8 D (.deferred none)) (fun r e=>by cases e;exact ⟨_,hK8,rfl⟩)
  have g7:=K7.grown (grownBy_putObj' W8 D (.deferred none)) (fun r e=>by cases e;exact ⟨_,hK8,rfl⟩)
  have d0:=g6.cell (i:=0) rfl;have d1:=g6.cell (i:=1) rfl;have d2:=g7.cell (i:=0) rfl
  have HDD:w.heap.size≤D:=Nat.le_trans HZ.o hD
  refine ⟨by simp,.inl ⟨_,_,rfl,run_takeDeferred hK8,?_⟩⟩
  exact ⟨.tuple #[.agg #[.int .i64 (onP rows s x.1),.int .i64 (x.1:Int)],.bool true],by simp [results,Tryz.results97,go_sem,d0,d1,d2],by rw [hlp];rfl,HB.o.trans (belowK_b (w:=w) (Nat.le_refl _) W8 D _ _ HDD hK8 rfl rfl)⟩
end Go.Dk
end
section
namespace Go.Dk
open Go.RowKit Go.Maps Go.MapKept
open Go.Proofs hiding intOf
theorem Cc:RowTy Tryz.prog 162 2:=⟨row_of (by kernel_rfl),by kernel_rfl⟩
def Un (x:Int):Bool:=x == 1
def Ly (x:Int):Bool:=decide (3≤x) && decide (x≤7)
def cG (x:Int):Bool:=x == 10
theorem oQ (x:Int) (W:World):Calls Tryz.prog 98 (#[.int .i64 x]++#[]) W fun e W'=>e = .returned (.bool (Un x))∧W'=W:=by
 show Calls Tryz.prog 98 #[.int .i64 x] W fun e W'=>e = .returned (.bool (Un x))∧W'=W
 go_enter Tryz.func98,Tryz.ntmps98
 go_wp2
 go_ret
 exact ⟨rfl,rfl⟩
theorem uB (x:Int) (W:World):Calls Tryz.prog 107 (#[.int .i64 x]++#[]) W fun e W'=>e = .returned (.bool (cG x))∧W'=W:=by
 show Calls Tryz.prog 107 #[.int .i64 x] W fun e W'=>e = .returned (.bool (cG x))∧W'=W
 go_enter Tryz.func107,Tryz.ntmps107
 go_wp2
 go_ret
 exact ⟨rfl,rfl⟩
theorem lZ (x:Int) (W:World):Calls Tryz.prog 102 (#[.int .i64 x]++#[]) W fun e W'=>e = .returned (.bool (Ly x))∧W'=W:=by
 show Calls Tryz.prog 102 #[.int .i64 x] W fun e W'=>e = .returned (.bool (Ly x))∧W'=W
 by_cases h3:3≤x
 ·have hd:decide (3≤x)=true:=decide_eq_true h3
  go_enter Tryz.func102,Tryz.ntmps102
  go_wp2
  go_ret
  exact ⟨by simp [Ly,h3],rfl⟩
 ·have hd:decide (3≤x)=false:=decide_eq_false h3
  go_enter Tryz.func102,Tryz.ntmps102
  go_wp2
  go_ret
  exact ⟨by simp [Ly];omega,rfl⟩
structure TryW (k:Nat) (ow:Own) (W:World) (pb bt bs:Nat) (rows:List ND) (s:SQ):Prop where
 tab:Tab k ow W (.pointer (some ⟨pb,0,none⟩)) rows
 g:TabG W
 wf:Wf rows s
 t:W.cell? ⟨bt,0,none⟩=some (.pointer (some ⟨pb,0,none⟩))
 q:Ae W bs (Ad s.left s.goal) 86
theorem TryW.below {k:Nat} {ow:Own} {W W':World} {pb bt bs:Nat} {rows:List ND} {s:SQ} (h:TryW k ow W pb bt bs rows s) (hb:Below W.heap.size W W'):TryW k ow W' pb bt bs rows s:=
 ⟨h.tab.below hb,h.g.below hb,h.wf,(hb.cell (World.block_lt_of_cell? _ _ h.t)).trans h.t,h.q.below hb⟩
set_option maxRecDepth 100000 in
set_option maxHeartbeats 1000000 in
theorem rO (k:Nat) (ow:Own) (W:World) (pb bt bs:Nat) (rows:List ND) (s:SQ) (h:TryW k ow W pb bt bs rows s) :
  Calls Tryz.prog 96 #[.pointer (some ⟨bt,0,none⟩),.pointer (some ⟨bs,0,none⟩)] W fun e W'=>e = .returned (Rh (Bt rows s Un))∧Below W.heap.size W W':=by
 obtain ⟨a,b,c,hv⟩:∃ a b c,Rh (Bt rows s Un) = .tuple #[.agg #[.int .i64 a,.int .i64 b],.bool c]:=by
  cases Bt rows s Un with
  | none=>exact ⟨_,_,_,rfl⟩
  | some x=>exact ⟨_,_,_,rfl⟩
 rw [hv]
 have ct:=(h.below (Ab W (.cells #[.int .i64 0,.int .i64 0] 162))).t
 have HQ:=Aa (h.below (Ab W (.cells #[.int .i64 0,.int .i64 0] 162))).q
 have HL:=Aa (Vv k ow _ _ rows (h.below (Ab W (.cells #[.int .i64 0,.int .i64 0] 162))).tab (h.below (Ab W (.cells #[.int .i64 0,.int .i64 0] 162))).g s h.wf Un 98 #[] (enters_of Tryz.func98 (by kernel_rfl) rfl) oQ)
 unfold Hid at HL
 rw [hv] at HL
 have HL:=Aa HL
 clear h hv
 go_enter Tryz.func96,Tryz.ntmps96
 go_wp2_with (first
  | (refine Ah (.tmp 1) rfl rfl rfl HQ.o ?_)
  | (go_at_call 97;refine HL.o.mono ?_;rintro e W1 ⟨rfl,hb1⟩;have HB1:=Aa (Ac (Ab W _) hb1);have HX:=Aa ((Ae.new W [.int .i64 0,.int .i64 0] 162).below hb1);clear hb1)
  | (refine Aj Cc (.tmp 2) (.tmp 7) rfl rfl rfl (ys:=[.int .i64 a,.int .i64 b]) rfl HX.o rfl rfl (by simp [Value.oneCell']) ?_;intro W7 hb7 ho7;have d0:=hb7.cell (i:=0) rfl;have d1:=hb7.cell (i:=1) rfl;have K8:=Aa (HB1.o.trans (ho7.below (Nat.le_refl _)));clear hb7 ho7))
 exact bodyPost_ret (v:=.tuple #[.agg #[.int .i64 a,.int .i64 b],.bool c]) (by simp [results,Tryz.results96,go_sem,d0,d1]) rfl ⟨rfl,K8.o⟩
set_option maxRecDepth 100000 in
set_option maxHeartbeats 1000000 in
theorem tK (k:Nat) (ow:Own) (W:World) (pb bt bs:Nat) (rows:List ND) (s:SQ) (h:TryW k ow W pb bt bs rows s) :
  Calls Tryz.prog 101 #[.pointer (some ⟨bt,0,none⟩),.pointer (some ⟨bs,0,none⟩)] W fun e W'=>e = .returned (Rh (Bt rows s Ly))∧Below W.heap.size W W':=by
 obtain ⟨a,b,c,hv⟩:∃ a b c,Rh (Bt rows s Ly) = .tuple #[.agg #[.int .i64 a,.int .i64 b],.bool c]:=by
  cases Bt rows s Ly with
  | none=>exact ⟨_,_,_,rfl⟩
  | some x=>exact ⟨_,_,_,rfl⟩
 rw [hv]
 have ct:=(h.below (Ab W (.cells #[.int .i64 0,.int .i64 0] 162))).t
 have HQ:=Aa (h.below (Ab W (.cells #[.int .i64 0,.int .i64 0] 162))).q
 have HL:=Aa (Vv k ow _ _ rows (h.below (Ab W (.cells #[.int .i64 0,.int .i64 0] 162))).tab (h.below (Ab W (.cells #[.int .i64 0,.int .i64 0] 162))).g s h.wf Ly 102 #[] (enters_of Tryz.func102 (by kernel_rfl) rfl) lZ)
 unfold Hid at HL
 rw [hv] at HL
 have HL:=Aa HL
 clear h hv
 go_enter Tryz.func101,Tryz.ntmps101
 go_wp2_with (first
  | (refine Ah (.tmp 1) rfl rfl rfl HQ.o ?_)
  | (go_at_call 97;refine HL.o.mono ?_;rintro e W1 ⟨rfl,hb1⟩;have HB1:=Aa (Ac (Ab W _) hb1);have HX:=Aa ((Ae.new W [.int .i64 0,.int .i64 0] 162).below hb1);clear hb1)
  | (refine Aj Cc (.tmp 2) (.tmp 7) rfl rfl rfl (ys:=[.int .i64 a,.int .i64 b]) rfl HX.o rfl rfl (by simp [Value.oneCell']) ?_;intro W7 hb7 ho7;have d0:=hb7.cell (i:=0) rfl;have d1:=hb7.cell (i:=1) rfl;have K8:=Aa (HB1.o.trans (ho7.below (Nat.le_refl _)));clear hb7 ho7))
 exact bodyPost_ret (v:=.tuple #[.agg #[.int .i64 a,.int .i64 b],.bool c]) (by simp [results,Tryz.results101,go_sem,d0,d1]) rfl ⟨rfl,K8.o⟩
set_option maxRecDepth 100000 in
set_option maxHeartbeats 1000000 in
theorem sV (k:Nat) (ow:Own) (W:World) (pb bt bs:Nat) (rows:List ND) (s:SQ) (h:TryW k ow W pb bt bs rows s) :
  Calls Tryz.prog 106 #[.pointer (some ⟨bt,0,none⟩),.pointer (some ⟨bs,0,none⟩)] W fun e W'=>e = .returned (Rh (Bt rows s cG))∧Below W.heap.size W W':=by
 obtain ⟨a,b,c,hv⟩:∃ a b c,Rh (Bt rows s cG) = .tuple #[.agg #[.int .i64 a,.int .i64 b],.bool c]:=by
  cases Bt rows s cG with
  | none=>exact ⟨_,_,_,rfl⟩
  | some x=>exact ⟨_,_,_,rfl⟩
 rw [hv]
 have ct:=(h.below (Ab W (.cells #[.int .i64 0,.int .i64 0] 162))).t
 have HQ:=Aa (h.below (Ab W (.cells #[.int .i64 0,.int .i64 0] 162))).q
 have HL:=Aa (Vv k ow _ _ rows (h.below (Ab W (.cells #[.int .i64 0,.int .i64 0] 162))).tab (h.below (Ab W (.cells #[.int .i64 0,.int .i64 0] 162))).g s h.wf cG 107 #[] (enters_of Tryz.func107 (by kernel_rfl) rfl) uB)
 unfold Hid at HL
 rw [hv] at HL
 have HL:=Aa HL
 clear h hv
 go_enter Tryz.func106,Tryz.ntmps106
 go_wp2_with (first
  | (refine Ah (.tmp 1) rfl rfl rfl HQ.o ?_)
  | (go_at_call 97;refine HL.o.mono ?_;rintro e W1 ⟨rfl,hb1⟩;have HB1:=Aa (Ac (Ab W _) hb1);have HX:=Aa ((Ae.new W [.int .i64 0,.int .i64 0] 162).below hb1);clear hb1)
  | (refine Aj Cc (.tmp 2) (.tmp 7) rfl rfl rfl (ys:=[.int .i64 a,.int .i64 b]) rfl HX.o rfl rfl (by simp [Value.oneCell']) ?_;intro W7 hb7 ho7;have d0:=hb7.cell (i:=0) rfl;have d1:=hb7.cell (i:=1) rfl;have K8:=Aa (HB1.o.trans (ho7.below (Nat.le_refl _)));clear hb7 ho7))
 exact bodyPost_ret (v:=.tuple #[.agg #[.int .i64 a,.int .i64 b],.bool c]) (by simp [results,Tryz.results106,go_sem,d0,d1]) rfl ⟨rfl,K8.o⟩
end Go.Dk
end
section
namespace Go.Dk
open Go.RowKit Go.Maps Go.MapKept
open Go.Proofs hiding intOf
set_option maxRecDepth 100000 in
set_option maxHeartbeats 2000000 in
theorem uJ (k:Nat) (ow:Own) (W:World) (pb bt bs:Nat) (rows:List ND) (s:SQ) (h:TryW k ow W pb bt bs rows s) :
  Calls Tryz.prog 103 #[.pointer (some ⟨bs,0,none⟩),.pointer (some ⟨bt,0,none⟩)] W fun e W'=>e = .returned (.tuple #[.agg #[.int .i64 8,.int .i64 (s.goal:Int)],.bool ((rowAt rows s.goal).kind == 5)])∧Below W.heap.size W W':=by
 have HNE:Hid (bs≠W.heap.size∧bt≠W.heap.size):=⟨Nat.ne_of_lt h.q.lt,Nat.ne_of_lt (World.block_lt_of_cell? W _ h.t)⟩
 have hW0:=h.below (Ab W (.cells #[.int .i64 0,.int .i64 0] 162))
 have HX:=Aa (Ae.new W [.int .i64 0,.int .i64 0] 162)
 have HT:=Aa hW0
 have HB0:=Aa (Ab W (.cells #[.int .i64 0,.int .i64 0] 162))
 obtain ⟨n,hn⟩:∃ n,rowAt rows s.goal=n:=⟨_,rfl⟩
 have HN:=Aa (Dc k ow _ _ rows hW0.tab s.goal h.wf.goal n hn)
 rw [hn]
 clear h hW0 hn
 obtain ⟨kd,nm,l,r⟩:=n
 simp only at HN
 go_enter Tryz.func103,Tryz.ntmps103
 go_wp2_with fail
 have e0:(.cells #[.int .i64 0,.int .i64 0] 162:Obj) = .cells [.int .i64 0,.int .i64 0].toArray 162:=rfl
 rw [e0] at *
 clear e0
 generalize (W.alloc (.cells [.int .i64 0,.int .i64 0].toArray 162))=W0 at *
 have hfk:=fun W=>Ft (.int .i64 kd) (.string nm) (.int .i64 l) (.int .i64 r) W
 have HC:Hid (∀ W',Below W0.heap.size W0 W'→W'.cell? ⟨bs,16,none⟩=some (.int .i64 (s.goal:Int))∧W'.cell? ⟨bt,0,none⟩=some (.pointer (some ⟨pb,0,none⟩))):=fun W' hb=>⟨(HT.o.q.below hb).cell (Bl s.left s.goal),(HT.o.below hb).t⟩
 go_region_held3 (fun W'=>W'.cell? ⟨bs,16,none⟩=some (.int .i64 (s.goal:Int))∧W'.cell? ⟨bt,0,none⟩=some (.pointer (some ⟨pb,0,none⟩))) (first | exact HC.o _ (below_drewN W0 1) | assumption | exact ⟨(World.cell?_of_block (((Aq W1 W.heap.size 0 _).trans (Aq _ W.heap.size 1 _)).block _ HNE.o.1)).trans hs1.1,(World.cell?_of_block (((Aq W1 W.heap.size 0 _).trans (Aq _ W.heap.size 1 _)).block _ HNE.o.2)).trans hs1.2⟩)
  ((go_at_call 104;refine (HN.o _ (below_drewN W0 1)).mono ?_;rintro e W1 ⟨rfl,hb1⟩;have HB1:=Aa (Ac (below_drewN W0 1) hb1);have hs1:=HC.o _ HB1.o;have hx1:=HX.o.below HB1.o;have x0:=hx1.cell (i:=0) rfl;have x1:=hx1.cell (i:=1) rfl;have y0:=hx1.fr 0;have y1:=hx1.fr 1;have HX1:=Aa hx1;clear hb1 hx1))
 have K:=(HX1.o.set 0 (.int .i64 8)).set 1 (.int .i64 (s.goal:Int))
 have d0:=K.cell (i:=0) rfl;have d1:=K.cell (i:=1) rfl
 have K8:=Aa (((Ac HB0.o HB1.o).setCell (p:=⟨W.heap.size,0,none⟩) (Nat.le_refl _) (.int .i64 8)).setCell (p:=⟨W.heap.size,1,none⟩) (Nat.le_refl _) (.int .i64 (s.goal:Int)))
 clear K x0 x1 y0 y1
 generalize ((W1.setCell ⟨W.heap.size,0,none⟩ (.int .i64 8)).setCell ⟨W.heap.size,1,none⟩ (.int .i64 (s.goal:Int)))=W7 at *
 go_wp2_with fail
 exact bodyPost_ret (v:=.tuple #[.agg #[.int .i64 8,.int .i64 (s.goal:Int)],.bool (kd == 5)]) (by simp [results,Tryz.results103,go_sem,d0,d1]) rfl ⟨rfl,K8.o⟩
set_option maxRecDepth 100000 in
set_option maxHeartbeats 2000000 in
theorem rW (k:Nat) (ow:Own) (W:World) (pb bt bs:Nat) (rows:List ND) (s:SQ) (h:TryW k ow W pb bt bs rows s) :
  Calls Tryz.prog 105 #[.pointer (some ⟨bs,0,none⟩),.pointer (some ⟨bt,0,none⟩)] W fun e W'=>e = .returned (.tuple #[.agg #[.int .i64 9,.int .i64 (s.goal:Int)],.bool ((rowAt rows s.goal).kind == 3)])∧Below W.heap.size W W':=by
 have HNE:Hid (bs≠W.heap.size∧bt≠W.heap.size):=⟨Nat.ne_of_lt h.q.lt,Nat.ne_of_lt (World.block_lt_of_cell? W _ h.t)⟩
 have hW0:=h.below (Ab W (.cells #[.int .i64 0,.int .i64 0] 162))
 have HX:=Aa (Ae.new W [.int .i64 0,.int .i64 0] 162)
 have HT:=Aa hW0
 have HB0:=Aa (Ab W (.cells #[.int .i64 0,.int .i64 0] 162))
 obtain ⟨n,hn⟩:∃ n,rowAt rows s.goal=n:=⟨_,rfl⟩
 have HN:=Aa (Dc k ow _ _ rows hW0.tab s.goal h.wf.goal n hn)
 rw [hn]
 clear h hW0 hn
 obtain ⟨kd,nm,l,r⟩:=n
 simp only at HN
 go_enter Tryz.func105,Tryz.ntmps105
 go_wp2_with fail
 have e0:(.cells #[.int .i64 0,.int .i64 0] 162:Obj) = .cells [.int .i64 0,.int .i64 0].toArray 162:=rfl
 rw [e0] at *
 clear e0
 generalize (W.alloc (.cells [.int .i64 0,.int .i64 0].toArray 162))=W0 at *
 have hfk:=fun W=>Ft (.int .i64 kd) (.string nm) (.int .i64 l) (.int .i64 r) W
 have HC:Hid (∀ W',Below W0.heap.size W0 W'→W'.cell? ⟨bs,16,none⟩=some (.int .i64 (s.goal:Int))∧W'.cell? ⟨bt,0,none⟩=some (.pointer (some ⟨pb,0,none⟩))):=fun W' hb=>⟨(HT.o.q.below hb).cell (Bl s.left s.goal),(HT.o.below hb).t⟩
 go_region_held3 (fun W'=>W'.cell? ⟨bs,16,none⟩=some (.int .i64 (s.goal:Int))∧W'.cell? ⟨bt,0,none⟩=some (.pointer (some ⟨pb,0,none⟩))) (first | exact HC.o _ (below_drewN W0 1) | assumption | exact ⟨(World.cell?_of_block (((Aq W1 W.heap.size 0 _).trans (Aq _ W.heap.size 1 _)).block _ HNE.o.1)).trans hs1.1,(World.cell?_of_block (((Aq W1 W.heap.size 0 _).trans (Aq _ W.heap.size 1 _)).block _ HNE.o.2)).trans hs1.2⟩)
  ((go_at_call 104;refine (HN.o _ (below_drewN W0 1)).mono ?_;rintro e W1 ⟨rfl,hb1⟩;have HB1:=Aa (Ac (below_drewN W0 1) hb1);have hs1:=HC.o _ HB1.o;have hx1:=HX.o.below HB1.o;have x0:=hx1.cell (i:=0) rfl;have x1:=hx1.cell (i:=1) rfl;have y0:=hx1.fr 0;have y1:=hx1.fr 1;have HX1:=Aa hx1;clear hb1 hx1))
 have K:=(HX1.o.set 0 (.int .i64 9)).set 1 (.int .i64 (s.goal:Int))
 have d0:=K.cell (i:=0) rfl;have d1:=K.cell (i:=1) rfl
 have K8:=Aa (((Ac HB0.o HB1.o).setCell (p:=⟨W.heap.size,0,none⟩) (Nat.le_refl _) (.int .i64 9)).setCell (p:=⟨W.heap.size,1,none⟩) (Nat.le_refl _) (.int .i64 (s.goal:Int)))
 clear K x0 x1 y0 y1
 generalize ((W1.setCell ⟨W.heap.size,0,none⟩ (.int .i64 9)).setCell ⟨W.heap.size,1,none⟩ (.int .i64 (s.goal:Int)))=W7 at *
 go_wp2_with fail
 exact bodyPost_ret (v:=.tuple #[.agg #[.int .i64 9,.int .i64 (s.goal:Int)],.bool (kd == 3)]) (by simp [results,Tryz.results105,go_sem,d0,d1]) rfl ⟨rfl,K8.o⟩
end Go.Dk
end
section
namespace Go.Dk
open Go.RowKit Go.Maps Go.MapKept
open Go.Proofs hiding intOf
set_option maxRecDepth 100000 in
set_option maxHeartbeats 2000000 in
theorem rA (k:Nat) (ow:Own) (W:World) (pb bt bs:Nat) (rows:List ND) (s:SQ) (h:TryW k ow W pb bt bs rows s) :
  Calls Tryz.prog 99 #[.pointer (some ⟨bs,0,none⟩)] W fun e W'=>e = .returned (.tuple #[.agg #[.int .i64 2,.int .i64 (s.goal:Int)],.bool (s.left.testBit s.goal)])∧Below W.heap.size W W':=by
 have HNE:Hid (bs≠W.heap.size):=Nat.ne_of_lt h.q.lt
 have hW0:=h.below (Ab W (.cells #[.int .i64 0,.int .i64 0] 162))
 have HX:=Aa (Ae.new W [.int .i64 0,.int .i64 0] 162)
 have HT:=Aa hW0
 have HB0:=Aa (Ab W (.cells #[.int .i64 0,.int .i64 0] 162))
 have HH:=Aa (fun W'=>Qr W' s.left s.goal (Nat.lt_of_lt_of_le h.wf.goal h.tab.ok.le))
 obtain ⟨bb,hbb⟩:∃ bb,bb=s.left.testBit s.goal:=⟨_,rfl⟩
 rw [← hbb] at HH ⊢
 clear h hW0 hbb
 go_enter Tryz.func99,Tryz.ntmps99
 go_wp2_with fail
 have e0:(.cells #[.int .i64 0,.int .i64 0] 162:Obj) = .cells [.int .i64 0,.int .i64 0].toArray 162:=rfl
 rw [e0] at *
 clear e0
 generalize (W.alloc (.cells [.int .i64 0,.int .i64 0].toArray 162))=W0 at *
 have hu:Tryz.prog.underlying 77=some (.array 16 75):=by kernel_rfl
 have hi:(Tryz.prog.info? 77).map (·.size)=some (Ag s.left).length:=by rw [Bg];exact Nx
 have HC:Hid (∀ W',Ae W' bs (Ad s.left s.goal) 86→W'.cell? ⟨bs,16,none⟩=some (.int .i64 (s.goal:Int))∧W'.rangeAt bs 0 (Ag s.left)):=fun W' hb=>⟨hb.cell (Bl s.left s.goal),hb.range (Hm s.left s.goal)⟩
 go_region_held3 (fun W'=>W'.cell? ⟨bs,16,none⟩=some (.int .i64 (s.goal:Int))∧W'.rangeAt bs 0 (Ag s.left)) (first | exact HC.o _ (HT.o.q.below (below_drewN W0 1)) | assumption | exact HC.o _ ((HQ1.o.other (Ne.symm (Ne.symm HNE.o)) 0 _).other (Ne.symm (Ne.symm HNE.o)) 1 _))
  ((go_at_call 100;refine (HH.o _).mono ?_;rintro e W1 ⟨rfl,hb1⟩;have HB1:=Aa (Ac (below_drewN W0 1) hb1);have HQ1:=Aa (HT.o.q.below HB1.o);have hs1:=HC.o _ HQ1.o;have hx1:=HX.o.below HB1.o;have x0:=hx1.cell (i:=0) rfl;have x1:=hx1.cell (i:=1) rfl;have y0:=hx1.fr 0;have y1:=hx1.fr 1;have HX1:=Aa hx1;clear hb1 hx1))
 have K:=(HX1.o.set 0 (.int .i64 2)).set 1 (.int .i64 (s.goal:Int))
 have d0:=K.cell (i:=0) rfl;have d1:=K.cell (i:=1) rfl
 have K8:=Aa (((Ac HB0.o HB1.o).setCell (p:=⟨W.heap.size,0,none⟩) (Nat.le_refl _) (.int .i64 2)).setCell (p:=⟨W.heap.size,1,none⟩) (Nat.le_refl _) (.int .i64 (s.goal:Int)))
 clear K x0 x1 y0 y1
 generalize ((W1.setCell ⟨W.heap.size,0,none⟩ (.int .i64 2)).setCell ⟨W.heap.size,1,none⟩ (.int .i64 (s.goal:Int)))=W7 at *
 go_wp2_with fail
 exact bodyPost_ret (v:=.tuple #[.agg #[.int .i64 2,.int .i64 (s.goal:Int)],.bool bb]) (by simp [results,Tryz.results99,go_sem,d0,d1]) rfl ⟨rfl,K8.o⟩
end Go.Dk
end
