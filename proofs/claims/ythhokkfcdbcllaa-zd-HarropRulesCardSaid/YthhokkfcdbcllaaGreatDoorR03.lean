/- Parts of the proof: Kd, Ke, Kf, Kg, Kh, Kj, Sf. -/
import Derived.RangeFuncNested
import Derived.RangeFuncBound
import Derived.RangeFuncCalls
import Derived.RangeFuncLeaves
import Derived.RangeFuncWrites
import Derived.Shelf.Abstract
import Derived.Shelf.RegionOpen
import Derived.WalkKit
import Derived.OwnWalkIn
import Derived.TacticsInMore
import Derived.LoopNIn
import Derived.LoopIn
import Derived.Deep.MidRow
import Derived.Test.YthhokkfcdbcllaaGreatDoorR01
import Derived.Test.YthhokkfcdbcllaaGreatDoorR02
section
namespace Go.Dk
open Go.RowKit Go.Maps Go.MapKept
open Go.Proofs hiding intOf
def Ae (W:World) (b:Nat) (xs:List Value) (T:TypeId):Prop:=W.heap[b]? = some (.cells xs.toArray T (0,0))
section
variable {W W':World} {b c:Nat} {xs:List Value} {T:TypeId}
theorem Ae.new (w:World) (xs:List Value) (T:TypeId):Ae (w.alloc (.cells xs.toArray T)) w.heap.size xs T:=Cd _ _ rfl
theorem Ae.lt (h:Ae W b xs T):b<W.heap.size:=lt_of_block h
theorem Ae.cell (h:Ae W b xs T) {i:Nat} {v:Value} (hi:xs[i]? = some v):W.cell? ⟨b,i,none⟩=some v:=cell_of h (by simpa using hi)
theorem Ae.fr (h:Ae W b xs T) (i:Nat):W.frozen? ⟨b,i,none⟩=false:=Dt h
theorem Ae.below (h:Ae W b xs T) (hb:Below W.heap.size W W'):Ae W' b xs T:=(hb.block b (lt_of_block h)).trans h
theorem Ae.set (h:Ae W b xs T) (i:Nat) (u:Value):Ae (W.setCell ⟨b,i,none⟩ u) b (xs.set i u) T:=by
 unfold Ae at *
 rw [Di h]
 simp
theorem Ae.other (h:Ae W b xs T) (hne:b≠c) (i:Nat) (u:Value):Ae (W.setCell ⟨c,i,none⟩ u) b xs T:=by
 unfold Ae at *
 rw [← h]
 exact Below.heap_setCell _ _ _ _ hne
end
structure L16 (m:Nat):Prop where
 h0:(Ag m)[0]? = some (.int .u64 (wd m 0:Int))
 h1:(Ag m)[1]? = some (.int .u64 (wd m 1:Int))
 h2:(Ag m)[2]? = some (.int .u64 (wd m 2:Int))
 h3:(Ag m)[3]? = some (.int .u64 (wd m 3:Int))
 h4:(Ag m)[4]? = some (.int .u64 (wd m 4:Int))
 h5:(Ag m)[5]? = some (.int .u64 (wd m 5:Int))
 h6:(Ag m)[6]? = some (.int .u64 (wd m 6:Int))
 h7:(Ag m)[7]? = some (.int .u64 (wd m 7:Int))
 h8:(Ag m)[8]? = some (.int .u64 (wd m 8:Int))
 h9:(Ag m)[9]? = some (.int .u64 (wd m 9:Int))
 h10:(Ag m)[10]? = some (.int .u64 (wd m 10:Int))
 h11:(Ag m)[11]? = some (.int .u64 (wd m 11:Int))
 h12:(Ag m)[12]? = some (.int .u64 (wd m 12:Int))
 h13:(Ag m)[13]? = some (.int .u64 (wd m 13:Int))
 h14:(Ag m)[14]? = some (.int .u64 (wd m 14:Int))
 h15:(Ag m)[15]? = some (.int .u64 (wd m 15:Int))
theorem l16 (m:Nat):L16 m:=⟨rfl,rfl,rfl,rfl,rfl,rfl,rfl,rfl,rfl,rfl,rfl,rfl,rfl,rfl,rfl,rfl⟩
theorem cY (m:Nat):(Ag m).toArray = #[.int .u64 (wd m 0:Int),.int .u64 (wd m 1:Int),.int .u64 (wd m 2:Int),.int .u64 (wd m 3:Int),.int .u64 (wd m 4:Int),.int .u64 (wd m 5:Int),.int .u64 (wd m 6:Int),.int .u64 (wd m 7:Int),.int .u64 (wd m 8:Int),.int .u64 (wd m 9:Int),.int .u64 (wd m 10:Int),.int .u64 (wd m 11:Int),.int .u64 (wd m 12:Int),.int .u64 (wd m 13:Int),.int .u64 (wd m 14:Int),.int .u64 (wd m 15:Int)]:=rfl
set_option maxRecDepth 100000 in
theorem Ux {W:World} {b m:Nat} {T:TypeId} (h:Ae W b (Ag m) T):(Instr.loadAt 77 (.pointer (some ⟨b,0,none⟩))).run Tryz.prog W = .ok (.agg (Ag m).toArray) W:=by
 have a0:=h.cell (l16 m).h0;have a1:=h.cell (l16 m).h1;have a2:=h.cell (l16 m).h2;have a3:=h.cell (l16 m).h3
 have a4:=h.cell (l16 m).h4;have a5:=h.cell (l16 m).h5;have a6:=h.cell (l16 m).h6;have a7:=h.cell (l16 m).h7
 have a8:=h.cell (l16 m).h8;have a9:=h.cell (l16 m).h9;have a10:=h.cell (l16 m).h10;have a11:=h.cell (l16 m).h11
 have a12:=h.cell (l16 m).h12;have a13:=h.cell (l16 m).h13;have a14:=h.cell (l16 m).h14;have a15:=h.cell (l16 m).h15
 rw [cY]
 simp [go_sem,a0,a1,a2,a3,a4,a5,a6,a7,a8,a9,a10,a11,a12,a13,a14,a15]
set_option maxRecDepth 100000 in
theorem Xi {W:World} {b m:Nat} {T:TypeId} (h:Ae W b (Ag m) T):(loadVar 77 ⟨b,0,none⟩).run Tryz.prog W = .ok (.agg (Ag m).toArray) W:=by
 have a0:=h.cell (l16 m).h0;have a1:=h.cell (l16 m).h1;have a2:=h.cell (l16 m).h2;have a3:=h.cell (l16 m).h3
 have a4:=h.cell (l16 m).h4;have a5:=h.cell (l16 m).h5;have a6:=h.cell (l16 m).h6;have a7:=h.cell (l16 m).h7
 have a8:=h.cell (l16 m).h8;have a9:=h.cell (l16 m).h9;have a10:=h.cell (l16 m).h10;have a11:=h.cell (l16 m).h11
 have a12:=h.cell (l16 m).h12;have a13:=h.cell (l16 m).h13;have a14:=h.cell (l16 m).h14;have a15:=h.cell (l16 m).h15
 rw [cY]
 simp [go_sem,a0,a1,a2,a3,a4,a5,a6,a7,a8,a9,a10,a11,a12,a13,a14,a15]
theorem Fp {W:World} {b m:Nat} {T:TypeId} {fn:Func} {tmps:Array Value} {p:Tmp} (hf:fn.results = #[.cell p 77]) (hp:tmps.getD p undef = .pointer (some ⟨b,0,none⟩)) (h:Ae W b (Ag m) T) :
  (results fn tmps).run Tryz.prog W = .ok (.agg (Ag m).toArray) W:=by
 unfold results
 rw [hf]
 simp only [List.mapM_toArray,List.mapM_cons,List.mapM_nil,hp,asAddr,Sem.run_bind,Sem.run_map,Sem.run_pure,Result.andThen_ok,Xi h]
 simp
theorem zJ {xs:List Value} (hl:xs.length=16):∃ x0 x1 x2 x3 x4 x5 x6 x7 x8 x9 x10 x11 x12 x13 x14 x15,xs = [x0,x1,x2,x3,x4,x5,x6,x7,x8,x9,x10,x11,x12,x13,x14,x15]:=
 match xs,hl with
 | [x0,x1,x2,x3,x4,x5,x6,x7,x8,x9,x10,x11,x12,x13,x14,x15],_=>⟨x0,x1,x2,x3,x4,x5,x6,x7,x8,x9,x10,x11,x12,x13,x14,x15,rfl⟩
theorem Aq (W:World) (b i:Nat) (u:Value):Only b W (W.setCell ⟨b,i,none⟩ u):=⟨rfl,rfl,rfl,by simp,fun _ hc=>Below.heap_setCell _ _ _ _ hc⟩
theorem Only.trans {b:Nat} {w w1 w2:World} (h:Only b w w1) (g:Only b w1 w2):Only b w w2:=⟨g.os.trans h.os,g.tape.trans h.tape,g.output.trans h.output,g.size.trans h.size,fun c hc=>(g.block c hc).trans (h.block c hc)⟩
set_option maxRecDepth 100000 in
set_option maxHeartbeats 1000000 in
theorem aG {W:World} {b m:Nat} {xs:List Value} (h:Ae W b xs 77) (hl:xs.length=16):∃ W',(Instr.storeAt 77 (.pointer (some ⟨b,0,none⟩)) (.agg (Ag m).toArray)).run Tryz.prog W = .ok () W'∧Ae W' b (Ag m) 77∧Only b W W':=by
 obtain ⟨x0,x1,x2,x3,x4,x5,x6,x7,x8,x9,x10,x11,x12,x13,x14,x15,rfl⟩:=zJ hl
 rw [cY]
 have o0:Only b W W:=⟨rfl,rfl,rfl,rfl,fun _ _=>rfl⟩
 have c0:=h.cell (i:=0) rfl;have f0:=h.fr 0
 have h1:=h.set 0 (.int .u64 (wd m 0:Int));have o1:=o0.trans (Aq _ b 0 (.int .u64 (wd m 0:Int)))
 simp only [List.set_cons_zero] at h1
 have c1:=h1.cell (i:=1) rfl;have f1:=h1.fr 1
 have h2:=h1.set 1 (.int .u64 (wd m 1:Int));have o2:=o1.trans (Aq _ b 1 (.int .u64 (wd m 1:Int)))
 simp only [List.set_cons_zero,List.set_cons_succ] at h2
 have c2:=h2.cell (i:=2) rfl;have f2:=h2.fr 2
 have h3:=h2.set 2 (.int .u64 (wd m 2:Int));have o3:=o2.trans (Aq _ b 2 (.int .u64 (wd m 2:Int)))
 simp only [List.set_cons_zero,List.set_cons_succ] at h3
 have c3:=h3.cell (i:=3) rfl;have f3:=h3.fr 3
 have h4:=h3.set 3 (.int .u64 (wd m 3:Int));have o4:=o3.trans (Aq _ b 3 (.int .u64 (wd m 3:Int)))
 simp only [List.set_cons_zero,List.set_cons_succ] at h4
 have c4:=h4.cell (i:=4) rfl;have f4:=h4.fr 4
 have h5:=h4.set 4 (.int .u64 (wd m 4:Int));have o5:=o4.trans (Aq _ b 4 (.int .u64 (wd m 4:Int)))
 simp only [List.set_cons_zero,List.set_cons_succ] at h5
 have c5:=h5.cell (i:=5) rfl;have f5:=h5.fr 5
 have h6:=h5.set 5 (.int .u64 (wd m 5:Int));have o6:=o5.trans (Aq _ b 5 (.int .u64 (wd m 5:Int)))
 simp only [List.set_cons_zero,List.set_cons_succ] at h6
 have c6:=h6.cell (i:=6) rfl;have f6:=h6.fr 6
 have h7:=h6.set 6 (.int .u64 (wd m 6:Int));have o7:=o6.trans (Aq _ b 6 (.int .u64 (wd m 6:Int)))
 simp only [List.set_cons_zero,List.set_cons_succ] at h7
 have c7:=h7.cell (i:=7) rfl;have f7:=h7.fr 7
 have h8:=h7.set 7 (.int .u64 (wd m 7:Int));have o8:=o7.trans (Aq _ b 7 (.int .u64 (wd m 7:Int)))
 simp only [List.set_cons_zero,List.set_cons_succ] at h8
 have c8:=h8.cell (i:=8) rfl;have f8:=h8.fr 8
 have h9:=h8.set 8 (.int .u64 (wd m 8:Int));have o9:=o8.trans (Aq _ b 8 (.int .u64 (wd m 8:Int)))
 simp only [List.set_cons_zero,List.set_cons_succ] at h9
 have c9:=h9.cell (i:=9) rfl;have f9:=h9.fr 9
 have h10:=h9.set 9 (.int .u64 (wd m 9:Int));have o10:=o9.trans (Aq _ b 9 (.int .u64 (wd m 9:Int)))
 simp only [List.set_cons_zero,List.set_cons_succ] at h10
 have c10:=h10.cell (i:=10) rfl;have f10:=h10.fr 10
 have h11:=h10.set 10 (.int .u64 (wd m 10:Int));have o11:=o10.trans (Aq _ b 10 (.int .u64 (wd m 10:Int)))
 simp only [List.set_cons_zero,List.set_cons_succ] at h11
 have c11:=h11.cell (i:=11) rfl;have f11:=h11.fr 11
 have h12:=h11.set 11 (.int .u64 (wd m 11:Int));have o12:=o11.trans (Aq _ b 11 (.int .u64 (wd m 11:Int)))
 simp only [List.set_cons_zero,List.set_cons_succ] at h12
 have c12:=h12.cell (i:=12) rfl;have f12:=h12.fr 12
 have h13:=h12.set 12 (.int .u64 (wd m 12:Int));have o13:=o12.trans (Aq _ b 12 (.int .u64 (wd m 12:Int)))
 simp only [List.set_cons_zero,List.set_cons_succ] at h13
 have c13:=h13.cell (i:=13) rfl;have f13:=h13.fr 13
 have h14:=h13.set 13 (.int .u64 (wd m 13:Int));have o14:=o13.trans (Aq _ b 13 (.int .u64 (wd m 13:Int)))
 simp only [List.set_cons_zero,List.set_cons_succ] at h14
 have c14:=h14.cell (i:=14) rfl;have f14:=h14.fr 14
 have h15:=h14.set 14 (.int .u64 (wd m 14:Int));have o15:=o14.trans (Aq _ b 14 (.int .u64 (wd m 14:Int)))
 simp only [List.set_cons_zero,List.set_cons_succ] at h15
 have c15:=h15.cell (i:=15) rfl;have f15:=h15.fr 15
 have h16:=h15.set 15 (.int .u64 (wd m 15:Int));have o16:=o15.trans (Aq _ b 15 (.int .u64 (wd m 15:Int)))
 simp only [List.set_cons_zero,List.set_cons_succ] at h16
 refine ⟨_,?_,h16,o16⟩
 simp [go_sem,c0,f0,c1,f1,c2,f2,c3,f3,c4,f4,c5,f5,c6,f6,c7,f7,c8,f8,c9,f9,c10,f10,c11,f11,c12,f12,c13,f13,c14,f14,c15,f15]
section
variable {ops:Array Oper} {rest:List Oper} {o:Oper} {a:Act} {Q:Exit→Act→World→Prop} {W:World} {b m:Nat}
theorem Bv (x:Operand) (hop:o.op = .load 77 x) (hg:o.guard=none) (hx:a.eval x = .pointer (some ⟨b,0,none⟩)) {T:TypeId} (h:Ae W b (Ag m) T) (hk:wpList Tryz.prog ops Q rest (a.put o.dst (.agg (Ag m).toArray)) W):wpList Tryz.prog ops Q (o::rest) a W:=by
 unfold wpList
 rw [if_pos (by simp [Region.wanted,hg])]
 left
 have hr:(execOp a.eval o).run Tryz.prog W = .ok (.value (.agg (Ag m).toArray)) W:=by
  have h1:=Ux h
  unfold execOp
  rw [hop]
  simp only [hx]
  have:(do let y ← Instr.loadAt 77 (.pointer (some ⟨b,0,none⟩));pure (Next.value y)).run Tryz.prog W=((Instr.loadAt 77 (.pointer (some ⟨b,0,none⟩))).run Tryz.prog W).andThen fun y w=>.ok (.value y) w:=by simp
  rw [this,h1]
  rfl
 unfold Oper.wp
 rw [hr]
 exact hk
theorem Da (x y:Operand) (hop:o.op = .store 77 x y) (hg:o.guard=none) (hx:a.eval x = .pointer (some ⟨b,0,none⟩)) (hy:a.eval y = .agg (Ag m).toArray) {xs:List Value} (h:Ae W b xs 77) (hl:xs.length=16)
  (hk:∀ W',Ae W' b (Ag m) 77→Only b W W'→wpList Tryz.prog ops Q rest (a.put o.dst undef) W'):wpList Tryz.prog ops Q (o::rest) a W:=by
 unfold wpList
 rw [if_pos (by simp [Region.wanted,hg])]
 left
 obtain ⟨W',h1,h2,h3⟩:=aG (m:=m) h hl
 have hr:(execOp a.eval o).run Tryz.prog W = .ok .skip W':=by
  unfold execOp
  rw [hop]
  simp only [hx,hy]
  have:(do Instr.storeAt 77 (.pointer (some ⟨b,0,none⟩)) (.agg (Ag m).toArray);pure Next.skip).run Tryz.prog W=((Instr.storeAt 77 (.pointer (some ⟨b,0,none⟩)) (.agg (Ag m).toArray)).run Tryz.prog W).andThen fun _ w=>.ok .skip w:=by simp
  rw [this,h1]
  rfl
 unfold Oper.wp
 rw [hr]
 exact hk W' h2 h3
end
def zeroV:List Value:=Ag 0
def Ry (c a j:Nat):List Value:=(List.range 16).map fun i=>.int .u64 (((if i<j then wd c i else wd a i):Nat):Int)
theorem Yn (c a j:Nat):(Ry c a j).length=16:=by simp [Ry]
theorem bP (c a:Nat):Ry c a 0=Ag a:=by simp [Ry,Ag]
theorem fP (c a:Nat):Ry c a 16=Ag c:=by
 unfold Ry Ag
 refine List.map_congr_left fun i hi=>?_
 rw [if_pos (List.mem_range.1 hi)]
theorem mK (c a:Nat) {j:Nat} (h:j<16):(Ry c a j)[j]? = some (.int .u64 (wd a j:Int)):=by simp [Ry,h]
theorem fD (c a:Nat) {j:Nat} (h:j<16):(Ry c a j).set j (.int .u64 (wd c j:Int))=Ry c a (j+1):=by
 apply List.ext_getElem?
 intro i
 rw [List.getElem?_set]
 by_cases e:j=i
 ·subst e
  rw [if_pos rfl,if_pos (by rw [Yn];exact h)]
  simp [Ry,h]
 ·rw [if_neg e]
  by_cases hi:i<16
  ·simp only [Ry,List.getElem?_map,List.getElem?_range hi,Option.map_some,Option.some.injEq]
   by_cases h1:i<j
   ·rw [if_pos h1,if_pos (by omega)]
   ·rw [if_neg h1,if_neg (by omega)]
  ·rw [List.getElem?_eq_none (by rw [Yn];omega),List.getElem?_eq_none (by rw [Yn];omega)]
set_option maxRecDepth 100000 in
set_option maxHeartbeats 2000000 in
theorem lS (w:World) (a b:Nat):Calls Tryz.prog 140 #[.agg (Ag a).toArray,.agg (Ag b).toArray,.func (.func 142) #[] #[]] w fun e w'=>e = .returned (.agg (Ag (a ||| b)).toArray)∧Below w.heap.size w w':=by
 have HW0:Hid (∃ W0,W0=(((w.alloc (.cells (Ag a).toArray 77)).alloc (.cells (Ag b).toArray 77)).alloc (.cells zeroV.toArray 77))):=⟨_,rfl⟩
 have hA:Ae (((w.alloc (.cells (Ag a).toArray 77)).alloc (.cells (Ag b).toArray 77)).alloc (.cells zeroV.toArray 77)) w.heap.size (Ag a) 77:=((Ae.new w (Ag a) _).below (Ab _ _)).below (Ab _ _)
 have hB:Ae (((w.alloc (.cells (Ag a).toArray 77)).alloc (.cells (Ag b).toArray 77)).alloc (.cells zeroV.toArray 77)) (w.heap.size+1) (Ag b) 77:=by
  have:=(Ae.new (w.alloc (.cells (Ag a).toArray 77)) (Ag b) 77).below (Ab _ (.cells zeroV.toArray 77))
  simpa using this
 have hR:Ae (((w.alloc (.cells (Ag a).toArray 77)).alloc (.cells (Ag b).toArray 77)).alloc (.cells zeroV.toArray 77)) (w.heap.size+1+1) zeroV 77:=by
  have:=Ae.new ((w.alloc (.cells (Ag a).toArray 77)).alloc (.cells (Ag b).toArray 77)) zeroV 77
  simpa using this
 have HS:Hid (Ae (((w.alloc (.cells (Ag a).toArray 77)).alloc (.cells (Ag b).toArray 77)).alloc (.cells zeroV.toArray 77)) w.heap.size (Ry (a ||| b) a 0) 77∧Ae (((w.alloc (.cells (Ag a).toArray 77)).alloc (.cells (Ag b).toArray 77)).alloc (.cells zeroV.toArray 77)) (w.heap.size+1) (Ag b) 77 ∧
   Ae (((w.alloc (.cells (Ag a).toArray 77)).alloc (.cells (Ag b).toArray 77)).alloc (.cells zeroV.toArray 77)) (w.heap.size+1+1) zeroV 77∧Below w.heap.size w (((w.alloc (.cells (Ag a).toArray 77)).alloc (.cells (Ag b).toArray 77)).alloc (.cells zeroV.toArray 77))):=
  ⟨by rw [bP];exact hA,hB,hR,Ac (Ac (Ab _ _) (Ab _ _)) (Ab _ _)⟩
 clear hA hB hR HW0
 go_enter Tryz.func140,Tryz.ntmps140
 go_wp2_with fail
 rw [show (#[.int .u64 0,.int .u64 0,.int .u64 0,.int .u64 0,.int .u64 0,.int .u64 0,.int .u64 0,.int .u64 0,.int .u64 0,.int .u64 0,.int .u64 0,.int .u64 0,.int .u64 0,.int .u64 0,.int .u64 0,.int .u64 0]:Array Value)=zeroV.toArray from rfl]
 generalize (((w.alloc (.cells (Ag a).toArray 77)).alloc (.cells (Ag b).toArray 77)).alloc (.cells zeroV.toArray 77))=W0 at *
 go_loopw [8] (fun i W=>∃ j:Nat,j≤16∧i = .int .i64 (j:Int)∧Ae W w.heap.size (Ry (a ||| b) a j) 77∧Ae W (w.heap.size+1) (Ag b) 77∧Ae W (w.heap.size+1+1) zeroV 77∧Below w.heap.size w W) (fun i _=>16 - (intOf i).toNat)
 case atStart=>exact ⟨0,by omega,rfl,HS.o⟩
 case round=>
  obtain ⟨j,hj,rfl,h1,h2,h3,h4⟩:=hrel
  have H1:=Aa h1;have H2:=Aa h2;have H3:=Aa h3;have H4:=Aa h4
  clear h1 h2 h3 h4
  by_cases hlt:j<16
  ·as_aux_lemma=>
   have hji:(j:Int)<16:=by omega
   have d1:=H1.o.cell (mK (a ||| b) a hlt)
   have d2:=H2.o.cell (Es b hlt)
   have f1:=H1.o.fr j
   have HF:Hid (∀ W,Calls Tryz.prog 142 #[.int .u64 (wd a j:Int),.int .u64 (wd b j:Int)] W fun e w'=>e = .returned (.int .u64 (wd (a ||| b) j:Int))∧W=w'):=fun W=>by
    refine (rV W _ _ (Qg a j) (Qg b j)).mono ?_
    rintro e w' ⟨rfl,rfl⟩
    exact ⟨by rw [sG],rfl⟩
   go_wp2_with fail
   obtain ⟨I,_,F,L⟩:=later wr
   have a1:=L.cell d1;have a2:=L.cell d2
   have HL:=Aa L
   clear L d1 d2
   refine Qm (W:=F) 10 (by kernel_rfl) (by kernel_rfl) HL.o.drew ?_
   simp only [List.take_succ_cons,List.take_zero,List.drop_succ_cons,List.drop_zero]
   repeat (go_big_quiet_step ((go_at_call 142;refine Later.call_same (HF.o _))))
   refine wpQuiet_nil ?_
   rintro w6 ⟨i6,rfl⟩
   have HB:=Aa (HL.o.bel i6)
   have d1:=a1 i6
   have f1:=(H1.o.below HB.o).fr j
   clear a1 a2 HL
   generalize F i6=W6 at *
   have K1:=Aa ((H1.o.below HB.o).set j (.int .u64 (wd (a ||| b) j:Int)))
   have K2:=Aa ((H2.o.below HB.o).other (c:=w.heap.size) (by omega) j (.int .u64 (wd (a ||| b) j:Int)))
   have K3:=Aa ((H3.o.below HB.o).other (c:=w.heap.size) (by omega) j (.int .u64 (wd (a ||| b) j:Int)))
   have K4:=Aa ((Ac H4.o HB.o).trans ((Aq W6 w.heap.size j (.int .u64 (wd (a ||| b) j:Int))).below (Nat.le_refl _)))
   go_wp2_with fail
   exact ⟨⟨j+1,by omega,by go_num,by rw [← fD _ _ hlt];exact K1.o,K2.o,K3.o,K4.o⟩,by simp [intOf];omega⟩
  ·as_aux_lemma=>
   obtain rfl:j=16:=by omega
   have h1:=H1.o
   rw [fP] at h1
   have K1:=Aa h1
   clear h1
   go_wp2_with (first
    | (refine Bv (.tmp 3) rfl rfl rfl K1.o ?_)
    | (refine Da (.tmp 6) (.tmp 22) rfl rfl rfl rfl H3.o (by simp [zeroV,Ag]) ?_;intro W7 hb7 ho7;have K7:=Aa hb7;have K8:=Aa (H4.o.trans (ho7.below (by omega)));clear hb7 ho7))
   exact bodyPost_ret (Fp rfl rfl K7.o) rfl ⟨rfl,K8.o⟩
end Go.Dk
end
section
namespace Go.Dk
open Go.RowKit Go.Maps Go.MapKept
open Go.Proofs hiding intOf
theorem three (w:World) (a b:Nat):Ae (((w.alloc (.cells (Ag a).toArray 77)).alloc (.cells (Ag b).toArray 77)).alloc (.cells zeroV.toArray 77)) w.heap.size (Ag a) 77∧Ae (((w.alloc (.cells (Ag a).toArray 77)).alloc (.cells (Ag b).toArray 77)).alloc (.cells zeroV.toArray 77)) (w.heap.size+1) (Ag b) 77 ∧
  Ae (((w.alloc (.cells (Ag a).toArray 77)).alloc (.cells (Ag b).toArray 77)).alloc (.cells zeroV.toArray 77)) (w.heap.size+1+1) zeroV 77∧Below w.heap.size w (((w.alloc (.cells (Ag a).toArray 77)).alloc (.cells (Ag b).toArray 77)).alloc (.cells zeroV.toArray 77)):=by
 refine ⟨((Ae.new w (Ag a) _).below (Ab _ _)).below (Ab _ _),?_,?_,Ac (Ac (Ab _ _) (Ab _ _)) (Ab _ _)⟩
 ·have:=(Ae.new (w.alloc (.cells (Ag a).toArray 77)) (Ag b) 77).below (Ab _ (.cells zeroV.toArray 77))
  simpa using this
 ·have:=Ae.new ((w.alloc (.cells (Ag a).toArray 77)).alloc (.cells (Ag b).toArray 77)) zeroV 77
  simpa using this
set_option maxRecDepth 100000 in
set_option maxHeartbeats 2000000 in
theorem iV (w:World) (a b:Nat):Calls Tryz.prog 140 #[.agg (Ag a).toArray,.agg (Ag b).toArray,.func (.func 141) #[] #[]] w fun e w'=>e = .returned (.agg (Ag (Gt a b)).toArray)∧Below w.heap.size w w':=by
 have HW0:Hid (∃ W0,W0=(((w.alloc (.cells (Ag a).toArray 77)).alloc (.cells (Ag b).toArray 77)).alloc (.cells zeroV.toArray 77))):=⟨_,rfl⟩
 have hA:Ae (((w.alloc (.cells (Ag a).toArray 77)).alloc (.cells (Ag b).toArray 77)).alloc (.cells zeroV.toArray 77)) w.heap.size (Ag a) 77:=((Ae.new w (Ag a) _).below (Ab _ _)).below (Ab _ _)
 have hB:Ae (((w.alloc (.cells (Ag a).toArray 77)).alloc (.cells (Ag b).toArray 77)).alloc (.cells zeroV.toArray 77)) (w.heap.size+1) (Ag b) 77:=by
  have:=(Ae.new (w.alloc (.cells (Ag a).toArray 77)) (Ag b) 77).below (Ab _ (.cells zeroV.toArray 77))
  simpa using this
 have hR:Ae (((w.alloc (.cells (Ag a).toArray 77)).alloc (.cells (Ag b).toArray 77)).alloc (.cells zeroV.toArray 77)) (w.heap.size+1+1) zeroV 77:=by
  have:=Ae.new ((w.alloc (.cells (Ag a).toArray 77)).alloc (.cells (Ag b).toArray 77)) zeroV 77
  simpa using this
 have HS:Hid (Ae (((w.alloc (.cells (Ag a).toArray 77)).alloc (.cells (Ag b).toArray 77)).alloc (.cells zeroV.toArray 77)) w.heap.size (Ry (Gt a b) a 0) 77∧Ae (((w.alloc (.cells (Ag a).toArray 77)).alloc (.cells (Ag b).toArray 77)).alloc (.cells zeroV.toArray 77)) (w.heap.size+1) (Ag b) 77 ∧
   Ae (((w.alloc (.cells (Ag a).toArray 77)).alloc (.cells (Ag b).toArray 77)).alloc (.cells zeroV.toArray 77)) (w.heap.size+1+1) zeroV 77∧Below w.heap.size w (((w.alloc (.cells (Ag a).toArray 77)).alloc (.cells (Ag b).toArray 77)).alloc (.cells zeroV.toArray 77))):=
  ⟨by rw [bP];exact hA,hB,hR,Ac (Ac (Ab _ _) (Ab _ _)) (Ab _ _)⟩
 clear hA hB hR HW0
 go_enter Tryz.func140,Tryz.ntmps140
 go_wp2_with fail
 rw [show (#[.int .u64 0,.int .u64 0,.int .u64 0,.int .u64 0,.int .u64 0,.int .u64 0,.int .u64 0,.int .u64 0,.int .u64 0,.int .u64 0,.int .u64 0,.int .u64 0,.int .u64 0,.int .u64 0,.int .u64 0,.int .u64 0]:Array Value)=zeroV.toArray from rfl]
 generalize (((w.alloc (.cells (Ag a).toArray 77)).alloc (.cells (Ag b).toArray 77)).alloc (.cells zeroV.toArray 77))=W0 at *
 go_loopw [8] (fun i W=>∃ j:Nat,j≤16∧i = .int .i64 (j:Int)∧Ae W w.heap.size (Ry (Gt a b) a j) 77∧Ae W (w.heap.size+1) (Ag b) 77∧Ae W (w.heap.size+1+1) zeroV 77∧Below w.heap.size w W) (fun i _=>16 - (intOf i).toNat)
 case atStart=>exact ⟨0,by omega,rfl,HS.o⟩
 case round=>
  obtain ⟨j,hj,rfl,h1,h2,h3,h4⟩:=hrel
  have H1:=Aa h1;have H2:=Aa h2;have H3:=Aa h3;have H4:=Aa h4
  clear h1 h2 h3 h4
  by_cases hlt:j<16
  ·as_aux_lemma=>
   have hji:(j:Int)<16:=by omega
   have d1:=H1.o.cell (mK (Gt a b) a hlt)
   have d2:=H2.o.cell (Es b hlt)
   have f1:=H1.o.fr j
   have HF:Hid (∀ W,Calls Tryz.prog 141 #[.int .u64 (wd a j:Int),.int .u64 (wd b j:Int)] W fun e w'=>e = .returned (.int .u64 (wd (Gt a b) j:Int))∧W=w'):=fun W=>by
    refine (pW W _ _ (Qg a j) (Qg b j)).mono ?_
    rintro e w' ⟨rfl,rfl⟩
    exact ⟨by rw [uD],rfl⟩
   go_wp2_with fail
   obtain ⟨I,_,F,L⟩:=later wr
   have a1:=L.cell d1;have a2:=L.cell d2
   have HL:=Aa L
   clear L d1 d2
   refine Qm (W:=F) 10 (by kernel_rfl) (by kernel_rfl) HL.o.drew ?_
   simp only [List.take_succ_cons,List.take_zero,List.drop_succ_cons,List.drop_zero]
   repeat (go_big_quiet_step ((go_at_call 141;refine Later.call_same (HF.o _))))
   refine wpQuiet_nil ?_
   rintro w6 ⟨i6,rfl⟩
   have HB:=Aa (HL.o.bel i6)
   have d1:=a1 i6
   have f1:=(H1.o.below HB.o).fr j
   clear a1 a2 HL
   generalize F i6=W6 at *
   have K1:=Aa ((H1.o.below HB.o).set j (.int .u64 (wd (Gt a b) j:Int)))
   have K2:=Aa ((H2.o.below HB.o).other (c:=w.heap.size) (by omega) j (.int .u64 (wd (Gt a b) j:Int)))
   have K3:=Aa ((H3.o.below HB.o).other (c:=w.heap.size) (by omega) j (.int .u64 (wd (Gt a b) j:Int)))
   have K4:=Aa ((Ac H4.o HB.o).trans ((Aq W6 w.heap.size j (.int .u64 (wd (Gt a b) j:Int))).below (Nat.le_refl _)))
   go_wp2_with fail
   exact ⟨⟨j+1,by omega,by go_num,by rw [← fD _ _ hlt];exact K1.o,K2.o,K3.o,K4.o⟩,by simp [intOf];omega⟩
  ·as_aux_lemma=>
   obtain rfl:j=16:=by omega
   have h1:=H1.o
   rw [fP] at h1
   have K1:=Aa h1
   clear h1
   go_wp2_with (first
    | (refine Bv (.tmp 3) rfl rfl rfl K1.o ?_)
    | (refine Da (.tmp 6) (.tmp 22) rfl rfl rfl rfl H3.o (by simp [zeroV,Ag]) ?_;intro W7 hb7 ho7;have K7:=Aa hb7;have K8:=Aa (H4.o.trans (ho7.below (by omega)));clear hb7 ho7))
   exact bodyPost_ret (Fp rfl rfl K7.o) rfl ⟨rfl,K8.o⟩
set_option maxRecDepth 100000 in
set_option maxHeartbeats 1000000 in
theorem pX (w:World) (a b:Nat):Calls Tryz.prog 126 #[.agg (Ag a).toArray,.agg (Ag b).toArray] w fun e w'=>e = .returned (.agg (Ag (a ||| b)).toArray)∧Below w.heap.size w w':=by
 have HS:=Aa (three w a b)
 go_enter Tryz.func126,Tryz.ntmps126
 go_wp2_with (first
  | (rw [show (#[.int .u64 0,.int .u64 0,.int .u64 0,.int .u64 0,.int .u64 0,.int .u64 0,.int .u64 0,.int .u64 0,.int .u64 0,.int .u64 0,.int .u64 0,.int .u64 0,.int .u64 0,.int .u64 0,.int .u64 0,.int .u64 0]:Array Value)=zeroV.toArray from rfl];generalize (((w.alloc (.cells (Ag a).toArray 77)).alloc (.cells (Ag b).toArray 77)).alloc (.cells zeroV.toArray 77))=W0 at *;refine Bv (.tmp 2) rfl rfl rfl HS.o.1 ?_)
  | (refine Bv (.tmp 2) rfl rfl rfl HS.o.1 ?_)
  | (refine Bv (.tmp 3) rfl rfl rfl HS.o.2.1 ?_)
  | (go_at_call 140;refine (lS _ a b).mono ?_;rintro e W1 ⟨rfl,hb1⟩;have HR:=Aa (HS.o.2.2.1.below hb1);have HB:=Aa (Ac HS.o.2.2.2 hb1);clear hb1)
  | (refine Da (.tmp 4) (.tmp 7) rfl rfl rfl rfl HR.o (by simp [zeroV,Ag]) ?_;intro W7 hb7 ho7;have K7:=Aa hb7;have K8:=Aa (HB.o.trans (ho7.below (by omega)));clear hb7 ho7))
 exact bodyPost_ret (Fp rfl rfl K7.o) rfl ⟨rfl,K8.o⟩
set_option maxRecDepth 100000 in
set_option maxHeartbeats 1000000 in
theorem nT (w:World) (a b:Nat):Calls Tryz.prog 125 #[.agg (Ag a).toArray,.agg (Ag b).toArray] w fun e w'=>e = .returned (.agg (Ag (Gt a b)).toArray)∧Below w.heap.size w w':=by
 have HS:=Aa (three w a b)
 go_enter Tryz.func125,Tryz.ntmps125
 go_wp2_with (first
  | (rw [show (#[.int .u64 0,.int .u64 0,.int .u64 0,.int .u64 0,.int .u64 0,.int .u64 0,.int .u64 0,.int .u64 0,.int .u64 0,.int .u64 0,.int .u64 0,.int .u64 0,.int .u64 0,.int .u64 0,.int .u64 0,.int .u64 0]:Array Value)=zeroV.toArray from rfl];generalize (((w.alloc (.cells (Ag a).toArray 77)).alloc (.cells (Ag b).toArray 77)).alloc (.cells zeroV.toArray 77))=W0 at *;refine Bv (.tmp 2) rfl rfl rfl HS.o.1 ?_)
  | (refine Bv (.tmp 2) rfl rfl rfl HS.o.1 ?_)
  | (refine Bv (.tmp 3) rfl rfl rfl HS.o.2.1 ?_)
  | (go_at_call 140;refine (iV _ a b).mono ?_;rintro e W1 ⟨rfl,hb1⟩;have HR:=Aa (HS.o.2.2.1.below hb1);have HB:=Aa (Ac HS.o.2.2.2 hb1);clear hb1)
  | (refine Da (.tmp 4) (.tmp 7) rfl rfl rfl rfl HR.o (by simp [zeroV,Ag]) ?_;intro W7 hb7 ho7;have K7:=Aa hb7;have K8:=Aa (HB.o.trans (ho7.below (by omega)));clear hb7 ho7))
 exact bodyPost_ret (Fp rfl rfl K7.o) rfl ⟨rfl,K8.o⟩
end Go.Dk
end
section
namespace Go.Dk
open Go.RowKit Go.Maps Go.MapKept
open Go.Proofs hiding intOf
def Df (ns:List Nat):Nat:=ns.foldl (fun m n=>m ||| 1 <<< n) 0
theorem Xj (ns:List Nat) {j:Nat} (h:j<ns.length):Df (ns.take (j+1))=Df (ns.take j) ||| 1 <<< ns[j]:=by
 unfold Df
 rw [List.take_succ_eq_append_getElem h,List.foldl_append]
 rfl
theorem Hy (n:Nat):Df [n]=1 <<< n:=by simp [Df]
theorem Qd (m:Nat) {n:Nat} (_hn:n<1024):(Ag m).set (n / 64) (.int .u64 ((wd m (n / 64) ||| 1 <<< (n % 64):Nat):Int))=Ag (m ||| 1 <<< n):=by
 apply List.ext_getElem?
 intro i
 rw [List.getElem?_set]
 by_cases hi:i<16
 ·rw [Es _ hi,Es _ hi]
  by_cases e:n / 64=i
  ·subst e
   rw [if_pos rfl,if_pos (by rw [Bg];exact hi),sG,cM,if_pos rfl]
  ·rw [if_neg e,sG,cM,if_neg (fun h=>e h.symm),Nat.or_zero]
 ·rw [List.getElem?_eq_none (by rw [Bg];omega),List.getElem?_eq_none (by rw [Bg];omega)]
  split
  ·rw [if_neg (by rw [Bg];omega)]
  ·rfl
theorem mY (n:Nat):IntKind.u64.wrap (2 ^ (n % 64))=((1 <<< (n % 64):Nat):Int):=by
 have h:2 ^ (n % 64)<2 ^ 64:=Nat.pow_lt_pow_right (by decide) (Nat.mod_lt _ (by decide))
 have h2:((2:Int) ^ (n % 64))=((2 ^ (n % 64):Nat):Int):=by push_cast;rfl
 rw [IntKind.wrap_u64,Nat.one_shiftLeft,h2]
 generalize 2 ^ (n % 64)=x at *
 omega
theorem Zs (m n:Nat):bits .or .u64 (wd m (n / 64):Int) (IntKind.u64.wrap (2 ^ (n % 64)))=((wd m (n / 64) ||| 1 <<< (n % 64):Nat):Int):=by
 rw [mY]
 exact mL _ _ (Qg _ _) (tL (Nat.mod_lt _ (by decide)))
theorem Oi {W:World} {b m:Nat} {T:TypeId} {fn:Func} {tmps:Array Value} {p q:Tmp} {v:Value} (hf:fn.results = #[.cell p 77,.tmp q]) (hp:tmps.getD p undef = .pointer (some ⟨b,0,none⟩)) (hq:tmps.getD q undef=v) (h:Ae W b (Ag m) T) :
  (results fn tmps).run Tryz.prog W = .ok (.tuple #[.agg (Ag m).toArray,v]) W:=by
 unfold results
 rw [hf]
 simp only [List.mapM_toArray,List.mapM_cons,List.mapM_nil,hp,hq,asAddr,Sem.run_bind,Sem.run_map,Sem.run_pure,Result.andThen_ok,Xi h]
 simp
set_option maxRecDepth 100000 in
set_option maxHeartbeats 2000000 in
theorem jY (w:World) (g o c:Nat) (ns:List Nat) (hl:ns.length<2 ^ 62) (hn:∀ n ∈ ns,n<1024) (hs:∀ j (h:j<ns.length),w.cell? ⟨g,o+j,none⟩=some (.int .i64 (ns[j]:Int))) :
  Calls Tryz.prog 50 #[.slice (some ⟨g,o,none⟩) ns.length c] w fun e w'=>e = .returned (.tuple #[.agg (Ag (Df ns)).toArray,.int .i64 0])∧Below w.heap.size w w':=by
 have HZ:Hid (Ae ((w.alloc (.cells zeroV.toArray 77)).alloc (.cells zeroV.toArray 77)) w.heap.size zeroV 77∧Ae ((w.alloc (.cells zeroV.toArray 77)).alloc (.cells zeroV.toArray 77)) (w.heap.size+1) (Ag (Df (ns.take 0))) 77∧Below w.heap.size w ((w.alloc (.cells zeroV.toArray 77)).alloc (.cells zeroV.toArray 77))):=by
  refine ⟨(Ae.new w zeroV _).below (Ab _ _),?_,Ac (Ab _ _) (Ab _ _)⟩
  have:=Ae.new (w.alloc (.cells zeroV.toArray 77)) zeroV 77
  simpa [Df,zeroV] using this
 have HN:=Aa hn
 have HL:=Aa hl
 have HC:=Aa hs
 clear hn hl hs
 go_enter Tryz.func50,Tryz.ntmps50
 go_wp2_with fail
 rw [show (#[.int .u64 0,.int .u64 0,.int .u64 0,.int .u64 0,.int .u64 0,.int .u64 0,.int .u64 0,.int .u64 0,.int .u64 0,.int .u64 0,.int .u64 0,.int .u64 0,.int .u64 0,.int .u64 0,.int .u64 0,.int .u64 0]:Array Value)=zeroV.toArray from rfl]
 generalize ((w.alloc (.cells zeroV.toArray 77)).alloc (.cells zeroV.toArray 77))=W0 at *
 go_loopw [9] (fun i W=>∃ j:Nat,j≤ns.length∧i = .int .i64 (j:Int)∧Ae W w.heap.size zeroV 77∧Ae W (w.heap.size+1) (Ag (Df (ns.take j))) 77∧Below w.heap.size w W) (fun i _=>ns.length - (intOf i).toNat)
 case atStart=>exact ⟨0,by omega,rfl,HZ.o.1,HZ.o.2.1,HZ.o.2.2⟩
 case round=>
  obtain ⟨j,hj,rfl,h1,h2,h3⟩:=hrel
  have H1:=Aa h1;have H2:=Aa h2;have H3:=Aa h3
  clear h1 h2 h3
  by_cases hlt:j<ns.length
  ·as_aux_lemma=>
   have hji:(j:Int)<(ns.length:Int):=by omega
   have hz:=HC.o j hlt
   have hcell:=(H3.o.cell (World.block_lt_of_cell? _ _ hz)).trans hz
   obtain ⟨n,hnj⟩:∃ n,n=ns[j]:=⟨_,rfl⟩
   rw [← hnj] at hcell
   have hn:n<1024:=by rw [hnj];exact HN.o _ (List.getElem_mem hlt)
   have HM:Hid (Df (ns.take (j+1))=Df (ns.take j) ||| 1 <<< n):=by rw [hnj];exact Xj ns hlt
   have d2:=H2.o.cell (Es (Df (ns.take j)) (i:=n / 64) (by omega))
   have f2:=H2.o.fr (n / 64)
   have hI:Hg (n:Int)=true:=by simp [Hg];omega
   have HI:=Aa (fun W=>Pq W (n:Int))
   rw [hI] at HI
   clear hI hz hnj
   go_wp2_with (go_at_call 69;refine (HI.o _).mono ?_;rintro e w' ⟨rfl,hw⟩;rw [hw];clear hw)
   obtain ⟨I,_,F,L⟩:=later wr
   have a2:=L.cell d2
   have HF:=Aa L
   clear L d2
   refine Qm (W:=F) 9 (by kernel_rfl) (by kernel_rfl) HF.o.drew ?_
   simp only [List.take_succ_cons,List.take_zero,List.drop_succ_cons,List.drop_zero]
   repeat (go_big_quiet_step (fail))
   refine wpQuiet_nil ?_
   rintro w6 ⟨i6,rfl⟩
   have HB:=Aa (HF.o.bel i6)
   have d2:=a2 i6
   have f2:=(H2.o.below HB.o).fr (n / 64)
   clear a2 HF
   generalize F i6=W6 at *
   rw [Zs]
   have K1:=Aa ((H1.o.below HB.o).other (c:=w.heap.size+1) (by omega) (n / 64) (.int .u64 ((wd (Df (ns.take j)) (n / 64) ||| 1 <<< (n % 64):Nat):Int)))
   have K2:=Aa ((H2.o.below HB.o).set (n / 64) (.int .u64 ((wd (Df (ns.take j)) (n / 64) ||| 1 <<< (n % 64):Nat):Int)))
   have K3:=Aa ((Ac H3.o HB.o).trans ((Aq W6 (w.heap.size+1) (n / 64) (.int .u64 ((wd (Df (ns.take j)) (n / 64) ||| 1 <<< (n % 64):Nat):Int))).below (Nat.le_succ _)))
   have HLL:=HL.o
   clear HI
   go_wp2_with fail
   exact ⟨⟨j+1,by omega,by go_num,K1.o,by rw [HM.o,← Qd _ hn];exact K2.o,K3.o⟩,by simp [intOf];omega⟩
  ·as_aux_lemma=>
   obtain rfl:j=ns.length:=by omega
   have h2:=H2.o
   rw [List.take_length] at h2
   have K2:=Aa h2
   clear h2
   go_wp2_with (first
    | (refine Bv (.tmp 4) rfl rfl rfl K2.o ?_)
    | (refine Da (.tmp 2) (.tmp 27) rfl rfl rfl rfl H1.o (by simp [zeroV,Ag]) ?_;intro W7 hb7 ho7;have K7:=Aa hb7;have K8:=Aa (H3.o.trans (ho7.below (by omega)));clear hb7 ho7))
   exact bodyPost_ret (Oi rfl rfl rfl K7.o) rfl ⟨rfl,K8.o⟩
set_option maxRecDepth 100000 in
set_option maxHeartbeats 1000000 in
theorem Fg (w:World) (m n:Nat) (hn:n<1024):Calls Tryz.prog 109 #[.agg (Ag m).toArray,.int .i64 (n:Int)] w fun e w'=>e = .returned (.agg (Ag (Be m n)).toArray)∧Below w.heap.size w w':=by
 have HS:Hid (Ae ((w.alloc (.cells (Ag m).toArray 77)).alloc (.cells zeroV.toArray 77)) w.heap.size (Ag m) 77∧Ae ((w.alloc (.cells (Ag m).toArray 77)).alloc (.cells zeroV.toArray 77)) (w.heap.size+1) zeroV 77∧Below w.heap.size w ((w.alloc (.cells (Ag m).toArray 77)).alloc (.cells zeroV.toArray 77))):=by
  refine ⟨(Ae.new w (Ag m) _).below (Ab _ _),?_,Ac (Ab _ _) (Ab _ _)⟩
  have:=Ae.new (w.alloc (.cells (Ag m).toArray 77)) zeroV 77
  simpa using this
 go_enter Tryz.func109,Tryz.ntmps109
 go_wp2_with (first
  | (rw [show (#[.int .u64 0,.int .u64 0,.int .u64 0,.int .u64 0,.int .u64 0,.int .u64 0,.int .u64 0,.int .u64 0,.int .u64 0,.int .u64 0,.int .u64 0,.int .u64 0,.int .u64 0,.int .u64 0,.int .u64 0,.int .u64 0]:Array Value)=zeroV.toArray from rfl];generalize ((w.alloc (.cells (Ag m).toArray 77)).alloc (.cells zeroV.toArray 77))=W0 at *)
  | (go_at_call 50;go_loud (refine (jY (W0.alloc (.cells #[.int .i64 (n:Int)] 3)) W0.heap.size 0 1 [n] (by simp) (by simpa using hn) (fun j h=>by simp at h;subst h;exact World.cell?_alloc_at _ _ _ _ rfl)).mono ?_;rintro e W1 ⟨rfl,hb1⟩;rw [Hy];have HB1:=Aa ((Ab W0 _).trans (hb1.mono (by simp)));clear hb1))
  | (refine Da (.tmp 5) (.tmp 11) rfl rfl rfl rfl (Ae.new W1 zeroV 77) (by simp [zeroV,Ag]) ?_;intro W2 hb2 ho2;have HK2:=Aa hb2;have HB2:=Aa (HB1.o.trans (((Ab W1 _).trans (ho2.below (Nat.le_refl _))).mono HB1.o.size));clear hb2 ho2)
  | (refine Bv (.tmp 2) rfl rfl rfl (HS.o.1.below HB2.o) ?_)
  | (refine Bv (.tmp 5) rfl rfl rfl HK2.o ?_)
  | (go_at_call 125;refine (nT _ m (1 <<< n)).mono ?_;rintro e W3 ⟨rfl,hb3⟩;rw [pQ];have HR:=Aa ((HS.o.2.1.below HB2.o).below hb3);have HB:=Aa (Ac (Ac HS.o.2.2 HB2.o) hb3);clear hb3)
  | (refine Da (.tmp 4) (.tmp 15) rfl rfl rfl rfl HR.o (by simp [zeroV,Ag]) ?_;intro W7 hb7 ho7;have K7:=Aa hb7;have K8:=Aa (HB.o.trans (ho7.below (by omega)));clear hb7 ho7))
 exact bodyPost_ret (Fp rfl rfl K7.o) rfl ⟨rfl,K8.o⟩
end Go.Dk
end
section
namespace Go.Dk
open Go.RowKit Go.Maps Go.MapKept
open Go.Proofs hiding intOf
theorem TabG.below {w W:World} (h:TabG w) (hb:Below w.heap.size w W):TabG W:=fun j hj=>(hb.cell (World.block_lt_of_cell? _ _ (h j hj))).trans (h j hj)
def swd (m fr i:Nat):Nat:=if i=fr / 64 then Uj (wd m i) (fr % 64) else wd m i
def Pj (m fr:Nat):List Value:=(List.range 16).map fun i=>.int .u64 (swd m fr i:Int)
theorem Zm (m fr:Nat) {i:Nat} (h:i<16):(Pj m fr)[i]? = some (.int .u64 (swd m fr i:Int)):=by simp [Pj,h]
theorem sF {x k:Nat} (hx:x<2 ^ 64):Uj x k<2 ^ 64:=Nat.lt_of_le_of_lt Nat.and_le_left hx
theorem lJ (m fr i:Nat):swd m fr i<2 ^ 64:=by
 unfold swd
 split
 ·exact sF (Qg _ _)
 ·exact Qg _ _
theorem fC (m:Nat) {fr:Nat} (_h:fr<1024):(Ag m).set (fr / 64) (.int .u64 ((Uj (wd m (fr / 64)) (fr % 64):Nat):Int))=Pj m fr:=by
 apply List.ext_getElem?
 intro i
 rw [List.getElem?_set]
 by_cases hi:i<16
 ·rw [Es _ hi,Zm _ _ hi]
  by_cases e:fr / 64=i
  ·subst e
   rw [if_pos rfl,if_pos (by rw [Bg];exact hi)]
   simp [swd]
  ·rw [if_neg e]
   simp [swd,Ne.symm e]
 ·have h1:(Pj m fr).length=16:=by simp [Pj]
  rw [List.getElem?_eq_none (l:=Ag m) (by rw [Bg];omega),List.getElem?_eq_none (l:=Pj m fr) (by omega)]
  split
  ·rw [if_neg (by rw [Bg];omega)]
  ·rfl
theorem dS (m:Nat) {fr j k:Nat} (hj:fr / 64≤j) (hk:k<64):(swd m fr j).testBit k=(m.testBit (64 * j+k) && decide (fr≤64 * j+k)):=by
 unfold swd
 have hd:=Nat.div_add_mod fr 64
 have hm:=Nat.mod_lt fr (show 0<64 by decide)
 split
 ·rename_i e
  subst e
  rw [nR _ hm (Qg _ _),Qz]
  simp only [hk,decide_true,Bool.true_and]
  congr 1
  apply decide_eq_decide.2
  omega
 ·rename_i e
  rw [Qz]
  simp only [hk,decide_true,Bool.true_and]
  rw [decide_eq_true (show fr≤64 * j+k by omega),Bool.and_true]
theorem vQ (n:Nat):IntKind.u64.wrap (18446744073709551615 * 2 ^ (n % 64))=((2 ^ 64 - 2 ^ (n % 64):Nat):Int):=by
 have hm:=Nat.mod_lt n (show 0<64 by decide)
 generalize n % 64=k at *
 have h:2 ^ k<2 ^ 64:=Nat.pow_lt_pow_right (by decide) hm
 have h0:0<2 ^ k:=Nat.pos_of_ne_zero (by simp)
 have h2:((2:Int) ^ k)=((2 ^ k:Nat):Int):=by push_cast;rfl
 rw [IntKind.wrap_u64,h2]
 generalize 2 ^ k=x at *
 omega
theorem jZ (m n:Nat):bits .and .u64 (wd m (n / 64):Int) (IntKind.u64.wrap (18446744073709551615 * 2 ^ (n % 64)))=((Uj (wd m (n / 64)) (n % 64):Nat):Int):=by
 have hp:0<2 ^ (n % 64):=Nat.pos_of_ne_zero (by simp)
 rw [vQ]
 exact tV _ _ (Qg _ _) (by omega)
def Za:Option Nat→Value
 | some x=>.tuple #[.int .i64 (x:Int),.bool true]
 | none=>.tuple #[.int .i64 0,.bool false]
def Xx (m fr j:Nat):Prop:=∀ x,fr≤x→x<64 * j→m.testBit x=false
theorem cK {m fr j:Nat} (h:Xx m fr j) (hj:fr / 64≤j) (h0:swd m fr j=0):Xx m fr (j+1):=by
 intro x hf hx
 by_cases h1:x<64 * j
 ·exact h x hf h1
 ·have:=dS m hj (k:=x - 64 * j) (by omega)
  rw [h0,Nat.zero_testBit,show 64 * j+(x - 64 * j)=x by omega] at this
  simpa [hf] using this.symm
theorem wF {m fr j:Nat} (h:Xx m fr j) (hj:fr / 64≤j) (hj16:j<16) (h0:swd m fr j≠0):Hi m fr=some (64 * j+Lib.ctz 64 (swd m fr j)):=by
 obtain ⟨h1,h2,h3⟩:=mJ h0 (lJ m fr j)
 generalize Lib.ctz 64 (swd m fr j)=k at *
 rw [dS m hj h1] at h2
 simp only [Bool.and_eq_true,decide_eq_true_eq] at h2
 refine lU (by omega) h2.2 h2.1 fun x hf hx=>?_
 by_cases hx1:x<64 * j
 ·exact h x hf hx1
 ·have:=h3 (x - 64 * j) (by omega)
  rw [dS m hj (by omega),show 64 * j+(x - 64 * j)=x by omega] at this
  simpa [hf] using this
set_option maxRecDepth 100000 in
set_option maxHeartbeats 2000000 in
theorem tY (w:World) (m fr:Nat) (hf:1024≤fr) (hfr:fr<2 ^ 62):Calls Tryz.prog 71 #[.agg (Ag m).toArray,.int .i64 (fr:Int)] w fun e w'=>e = .returned (Za none)∧Below w.heap.size w w':=by
 have hI:Hg (fr:Int)=false:=by simp [Hg];omega
 have HI:=Aa (fun W=>Pq W (fr:Int))
 rw [hI] at HI
 clear hI
 have hmx:max (fr:Int) 0=fr:=by omega
 go_enter Tryz.func71,Tryz.ntmps71
 go_wp2_with (go_at_call 69;refine (HI.o _).mono ?_;rintro e w' ⟨rfl,hw⟩;rw [hw];clear hw)
 go_ret2
 exact ⟨rfl,Ab _ _⟩
set_option maxRecDepth 100000 in
set_option maxHeartbeats 2000000 in
theorem uY (w:World) (hT:TabG w) (m fr:Nat) (hf:fr<1024):Calls Tryz.prog 71 #[.agg (Ag m).toArray,.int .i64 (fr:Int)] w fun e w'=>e = .returned (Za (Hi m fr))∧Below w.heap.size w w':=by
 have HT:=Aa hT
 have hI:Hg (fr:Int)=true:=by simp [Hg];omega
 have HI:=Aa (fun W=>Pq W (fr:Int))
 rw [hI] at HI
 clear hI hT
 have hmx:max (fr:Int) 0=fr:=by omega
 have HB:Hid (Ae (w.alloc (.cells (Ag m).toArray 77)) w.heap.size (Ag m) 77∧Below w.heap.size w (w.alloc (.cells (Ag m).toArray 77))):=⟨Ae.new w (Ag m) _,Ab _ _⟩
 go_enter Tryz.func71,Tryz.ntmps71
 go_wp2_with (go_at_call 69;refine (HI.o _).mono ?_;rintro e w' ⟨rfl,hw⟩;rw [hw];clear hw)
 generalize (w.alloc (.cells (Ag m).toArray 77))=W0 at *
 have d2:=HB.o.1.cell (Es m (i:=fr / 64) (by omega))
 obtain ⟨I,_,F,L⟩:=later W0
 have a2:=L.cell d2
 have HF:=Aa L
 clear L d2
 refine Qm (W:=F) 9 (by kernel_rfl) (by kernel_rfl) HF.o.drew ?_
 simp only [List.take_succ_cons,List.take_zero,List.drop_succ_cons,List.drop_zero]
 repeat (go_big_quiet_step (fail))
 refine wpQuiet_nil ?_
 rintro w6 ⟨i6,rfl⟩
 have HB6:=Aa (HF.o.bel i6)
 have d2:=a2 i6
 have f2:=(HB.o.1.below HB6.o).fr (fr / 64)
 clear a2 HF
 generalize F i6=W6 at *
 rw [jZ]
 have K1:=(HB.o.1.below HB6.o).set (fr / 64) (.int .u64 ((Uj (wd m (fr / 64)) (fr % 64):Nat):Int))
 rw [fC m hf] at K1
 have HK1:=Aa K1
 have HK2:=Aa ((Ac HB.o.2 HB6.o).trans ((Aq W6 w.heap.size (fr / 64) (.int .u64 ((Uj (wd m (fr / 64)) (fr % 64):Nat):Int))).below (Nat.le_refl _)))
 clear HI K1 HB HB6
 go_wp2_with fail
 generalize (W6.setCell ⟨w.heap.size,fr / 64,none⟩ (.int .u64 ((Uj (wd m (fr / 64)) (fr % 64):Nat):Int)))=W7 at *
 go_loopw [6] (fun i W=>∃ j:Nat,fr / 64≤j∧j≤16∧i = .int .i64 (j:Int)∧Xx m fr j∧Ae W w.heap.size (Pj m fr) 77∧Below w.heap.size w W) (fun i _=>16 - (intOf i).toNat)
 case atStart=>exact ⟨fr / 64,Nat.le_refl _,by omega,by simp,fun x h1 h2=>by omega,HK1.o,HK2.o⟩
 case round=>
  obtain ⟨j,hj,hj16,rfl,hcl,h1,h2⟩:=hrel
  have HC:=Aa hcl;have H1:=Aa h1;have H2:=Aa h2
  clear hcl h1 h2
  by_cases hlt:j<16
  ·have hji:(j:Int)<16:=by omega
   have d1:=H1.o.cell (Zm m fr hlt)
   by_cases h0:swd m fr j=0
   ·as_aux_lemma=>
    rw [h0] at d1
    go_wp2_with fail
    exact ⟨⟨j+1,by omega,by omega,by go_num,cK HC.o hj h0,H1.o,H2.o⟩,by simp [intOf];omega⟩
   ·as_aux_lemma=>
    have hz:¬ ((swd m fr j:Int)=0):=by omega
    have HZ:=Aa h0
    go_wp2_with (go_at_call 82;refine (xP _ (HT.o.below H2.o) _ HZ.o (lJ _ _ _)).mono ?_;rintro e w' ⟨rfl,hw⟩;rw [hw];clear hw)
    have hw:wrap64 (64 * (j:Int)+(Lib.ctz 64 (swd m fr j):Int))=((64 * j+Lib.ctz 64 (swd m fr j):Nat):Int):=by
     have:=(mJ HZ.o (lJ m fr j)).1
     generalize Lib.ctz 64 (swd m fr j)=k at *
     clear d1 d2
     unfold wrap64
     omega
    rw [hw]
    go_ret2
    rw [wF HC.o hj hlt HZ.o]
    exact ⟨rfl,H2.o⟩
  ·as_aux_lemma=>
   obtain rfl:j=16:=by omega
   go_wp2_with fail
   go_ret2
   rw [Yf (fun x h1 h2=>HC.o x h1 (by omega))]
   exact ⟨rfl,H2.o⟩
end Go.Dk
end
section
namespace Go.Dk
open Go.RowKit Go.Maps Go.MapKept Go.Shelf
open Go.Proofs hiding intOf
attribute [local go_sem] Oper.semAt_some
def Lh (S:Nat→Prop) (W W':World):Prop:=∀ g,S g→W'.heap[g]? = W.heap[g]?
theorem Pn {S:Nat→Prop} {A B C:World} (h:Lh S A B) (k:Lh S B C):Lh S A C:=fun g hg=>(k g hg).trans (h g hg)
theorem Uz {S:Nat→Prop} {B:Nat} (hS:∀ g,S g→g<B) (W:World) (l:Nat) (o o':Obj) (hl:B≤l) (_:W.heap[l]? = some o) (_:o.isCells=false) (_:o.isWalk=false):Lh S W (W.putObj l o'):=fun g hg=>by
 have:g≠l:=by have:=hS g hg;omega
 simp [World.putObj,Ne.symm this]
theorem Zl (S:Nat→Prop) (W:World):Lh S W W:=fun _ _=>rfl
theorem Kx {S:Nat→Prop} {B:Nat} {W W':World} (hS:∀ g,S g→g<B) (h:Below B W W'):Lh S W W':=fun g hg=>h.block g (hS g hg)
def upto (m k:Nat):List Nat:=(List.range k).filter m.testBit
theorem Wq (m:Nat) {k x:Nat} (h:k≤x) (hc:∀ j,k≤j→j<x→m.testBit j=false):upto m x=upto m k:=by
 induction x with
 | zero=>rw [show k=0 by omega]
 | succ x ih=>
  by_cases e:k=x+1
  ·rw [e]
  ·have h1:=ih (by omega) (fun j h1 h2=>hc j h1 (by omega))
   rw [← h1]
   unfold upto
   rw [List.range_succ,List.filter_append]
   simp [hc x (by omega) (by omega)]
theorem aP {m k x:Nat} (h:Hi m k=some x):upto m (x+1)=upto m k++[x]:=by
 obtain ⟨_,h2,h3,h4⟩:=Tf h
 rw [← Wq m h2 h4]
 unfold upto
 rw [List.range_succ,List.filter_append]
 simp [h3]
theorem fZ {m k:Nat} (h:Hi m k=none):∀ j,k≤j→j<1024→m.testBit j=false:=by
 unfold Hi at h
 rw [List.find?_eq_none] at h
 intro j h1 h2
 have:=h j (List.mem_range.2 h2)
 simpa [h1] using this
theorem qI {m k:Nat} (h:Hi m k=none) (hk:k≤1024):upto m 1024=upto m k:=Wq m hk (fZ h)
theorem uU (m k:Nat):(upto m k).length≤k:=by
 unfold upto
 exact Nat.le_trans (List.length_filter_le _ _) (by simp)
theorem gC (m:Nat) {k l:Nat} (h:k≤l):upto m k <+: upto m l:=by
 unfold upto
 have:(List.range l)=List.range k++(List.range (l - k)).map (k + ·):=by
  rw [← List.range_add];congr 1;omega
 rw [this,List.filter_append]
 exact List.prefix_append _ _
abbrev Mem (m:Nat):={ x:Nat // x<1024∧m.testBit x=true }
def eO {m:Nat} (x:Mem m):Array Value:=#[.int .i64 (x.1:Int)]
section
variable {F:Fence} {nF:Nat} {ops:Array Oper} {rest:List Oper} {o:Oper} {a:Act} {Q:Exit→Act→World→Prop} {W:World} {b m:Nat}
theorem aI (x:Operand) (hop:o.op = .load 77 x) (hx:a.eval x = .pointer (some ⟨b,0,none⟩)) {T:TypeId} (h:Ae W b (Ag m) T):(execOp a.eval o).run Tryz.prog W = .ok (.value (.agg (Ag m).toArray)) W:=by
 have h1:=Ux h
 unfold execOp
 rw [hop]
 simp only [hx]
 have:(do let y ← Instr.loadAt 77 (.pointer (some ⟨b,0,none⟩));pure (Next.value y)).run Tryz.prog W=((Instr.loadAt 77 (.pointer (some ⟨b,0,none⟩))).run Tryz.prog W).andThen fun y w=>.ok (.value y) w:=by simp
 rw [this,h1]
 rfl
theorem Sv (x:Operand) (hop:o.op = .load 77 x) (hg:o.guard=none) (hx:a.eval x = .pointer (some ⟨b,0,none⟩)) {T:TypeId} (h:Ae W b (Ag m) T) (hk:wpListIn F nF Tryz.prog ops Q rest (a.put o.dst (.agg (Ag m).toArray)) W):wpListIn F nF Tryz.prog ops Q (o::rest) a W:=by
 refine wpListIn_plain hg fun K' hK'=>?_
 unfold Oper.wpIn
 refine ⟨by simp [Oper.about,hop],?_⟩
 rw [Oper.semAt_plain F _ _ (by rw [hop];intro c hc';cases hc'),aI x hop hx h]
 exact hK' _ _ hk
end
def nv:Option Nat→Value
 | some x=>.int .i64 (x:Int)
 | none=>.int .i64 0
def nb:Option Nat→Value
 | some _=>.bool true
 | none=>.bool false
def leftV (v u:Value):Nat:=match u with
 | .bool true=>1025 - (intOf v).toNat
 | _=>0
theorem Et {w w':World} (h:Below w.heap.size w w') {r:Option Nat}:w.grownBy w' r:=⟨h.os,h.tape,h.output,h.size,fun k hk _=>h.block k hk⟩
theorem vD {m x:Nat} (hx:x<1024):leftV (nv (Hi m (x+1))) (nb (Hi m (x+1)))<leftV (.int .i64 (x:Int)) (.bool true):=by
 cases h:Hi m (x+1) with
 | none=>simp [nb,leftV,intOf];omega
 | some y=>
  obtain ⟨h1,h2,_⟩:=Tf h
  simp [nv,nb,leftV,intOf];omega
theorem vF {S:Nat→Prop} {A B:World} (h:Lh S A B) (hS:∀ g,S g→g<A.heap.size):∀ g,S g→g<B.heap.size:=fun g hg=>by
 have h1:=h g hg
 rw [Array.getElem?_eq_getElem (hS g hg)] at h1
 exact (Array.getElem?_eq_some_iff.1 h1).1
theorem eL (w:World) (hT:TabG w) (m fr:Nat) (hf:fr≤1024):Calls Tryz.prog 71 #[.agg (Ag m).toArray,.int .i64 (fr:Int)] w fun e w'=>e = .returned (Za (Hi m fr))∧Below w.heap.size w w':=by
 by_cases h:fr<1024
 ·exact uY w hT m fr h
 ·rw [Yf (fun x h1 h2=>by omega)]
  exact tY w m fr (by omega) (by omega)
theorem oC {S:Nat→Prop} {W W':World} (hS:S 0) (h:Lh S W W') (hT:TabG W):TabG W':=fun j hj=>(World.cell?_of_block (h 0 hS)).trans (hT j hj)
set_option maxRecDepth 100000 in
set_option maxHeartbeats 2000000 in
theorem all1_in (n:Nat) (hn:1≤n) (l Bs m:Nat) (S:Nat→Prop) (hS0:S 0) (hSb:S Bs) (J Jx:List (Mem m)→World→Prop) (W:World) (hSs:∀ g,S g→g<W.heap.size) (hJ:AbidesFrom W.heap.size J) (_hJx:AbidesFrom W.heap.size Jx)
  (hY:∀ pre x W1,J pre W1→pre.length<1024→YieldAt Fence.wide (n - 1) Tryz.prog l (eO x) W1 fun e W'=>
   (e = .returned (.bool true)∧J (pre++[x]) W'∧Lh S W1 W')∨(e = .returned (.bool false)∧Jx (pre++[x]) W'))
  (hT:TabG W) (hB:Ae W Bs (Ag m) 77) (h0:J [] W) :
  CallsIn Fence.wide n Tryz.prog 70 #[.func (.yield l) #[] #[],.pointer (some ⟨Bs,0,none⟩)] W fun e W'=>(∃ v,e = .returned v) ∧
   ((∃ ys,ys.map (·.1)=upto m 1024∧J ys W')∨(∃ pre,pre.map (·.1) <+: upto m 1024∧Jx pre W')):=by
 have HT:=Aa hT
 have HB:=Aa hB
 obtain ⟨o0,ho0⟩:∃ o,o=Hi m 0:=⟨_,rfl⟩
 have HN:Hid (Calls Tryz.prog 71 #[.agg (Ag m).toArray,.int .i64 0] W fun e w'=>e = .returned (Za (Hi m 0))∧Below W.heap.size W w'):=eL W hT m 0 (by omega)
 have HO:=Aa ho0
 rw [← ho0] at HN
 clear hT hB ho0
 refine callsIn_of_wp Tryz.func70 rfl trivial ?_ rfl
 simp only [Tryz.ntmps70,List.size_toArray,List.length_cons,List.length_nil,Nat.reduceAdd,Nat.reduceSub,Array.replicate_succ,Array.replicate_zero,List.push_toArray,List.append_toArray,List.nil_append,List.cons_append]
 obtain ⟨v0,u0,hv0,hu0,HE⟩:∃ v0 u0,v0=nv o0∧u0=nb o0∧Hid (Za o0 = .tuple #[v0,u0]):=⟨_,_,rfl,rfl,by cases o0<;>rfl⟩
 have HV:=Aa hv0
 have HU:=Aa hu0
 unfold Hid at HN
 rw [HE.o] at HN
 have HN':=Aa HN
 clear HN hv0 hu0
 gi_wp2_with (first
  | (refine Sv (.tmp 1) rfl rfl rfl HB.o ?_)
  | (refine ⟨trivial,?_⟩;gi_at_call 71;refine (callsIn_wide.2 HN'.o).mono ?_;rintro e W2 ⟨rfl,hb2⟩;have HB2:=Aa hb2;clear hb2))
 gi_loopw [3,4] (fun v u wr=>∃ k pre,k≤1024∧v=nv (Hi m k)∧u=nb (Hi m k)∧pre.map (·.1)=upto m k∧J pre wr∧Lh S W wr)
  (fun v u _=>leftV v u)
 case atStart=>exact ⟨0,[],by omega,by rw [← HO.o];exact HV.o,by rw [← HO.o];exact HU.o,rfl,hJ _ _ _ none h0 (Et HB2.o) (fun r e=>by cases e),Kx hSs HB2.o⟩
 case round=>
  obtain ⟨k,pre,hk,hv,hu,hpre,hJs,hho⟩:=hrel
  have H1:=Aa hho;have H3:=Aa hpre
  clear hho hpre
  cases hnx:Hi m k with
  | none=>
   rw [hnx,nv] at hv
   rw [hnx,nb] at hu
   subst hv
   subst hu
   gi_wp2
   go_end0
   exact ⟨⟨_,rfl⟩,.inl ⟨_,by rw [qI hnx hk];exact H3.o,hJs⟩⟩
  | some x=>
   obtain ⟨g1,g2,g3,g4⟩:=Tf hnx
   obtain ⟨fn,tmps,assign,body,hy,hR⟩:=hY pre ⟨x,g1,g3⟩ wr hJs (by have:=uU m k;have:=congrArg List.length H3.o;simp at this;omega)
   unfold eO at hy
   rw [hnx,nv] at hv
   rw [hnx,nb] at hu
   subst hv
   subst hu
   have HX:=Aa hnx
   have HG:=Aa (And.intro g1 g2)
   clear hnx g2 g4
   gi_wp2
   refine hR.mono ?_
   rintro e W3 (⟨rfl,hJ3,hk3⟩ | ⟨rfl,hJx3⟩)
   ·have HK3:=Aa (Pn H1.o hk3)
    have HB3:=Aa ((HK3.o Bs hSb).trans HB.o)
    have HJ3:=Aa hJ3
    have HN3:Calls Tryz.prog 71 #[.agg (Ag m).toArray,.int .i64 ((x:Int)+1)] W3 fun e w'=>e = .returned (Za (Hi m (x+1)))∧Below W3.heap.size W3 w':=eL W3 (oC hS0 HK3.o HT.o) m (x+1) (by omega)
    obtain ⟨v1,u1,hv1,hu1,HE1⟩:∃ v1 u1,v1=nv (Hi m (x+1))∧u1=nb (Hi m (x+1))∧Hid (Za (Hi m (x+1)) = .tuple #[v1,u1]):=⟨_,_,rfl,rfl,by cases Hi m (x+1)<;>rfl⟩
    rw [HE1.o] at HN3
    have HN4:=Aa HN3
    have HV1:=Aa hv1
    have HU1:=Aa hu1
    clear hk3 hJ3 HN3 hv1 hu1
    gi_wp2_with (first
     | (refine Sv (.tmp 1) rfl rfl rfl HB3.o ?_)
     | (refine ⟨trivial,?_⟩;gi_at_call 71;refine (callsIn_wide.2 HN4.o).mono ?_;rintro e W4 ⟨rfl,hb4⟩;have HB4:=Aa hb4;clear hb4))
    go_roundw
    case rel=>exact ⟨x+1,pre++[⟨x,g1,g3⟩],by omega,HV1.o,HU1.o,by rw [aP HX.o,List.map_append,H3.o];rfl,hJ _ _ _ none HJ3.o (Et HB4.o) (fun r e=>by cases e),Pn HK3.o (Kx (vF HK3.o hSs) HB4.o)⟩
    case measure=>rw [HV1.o,HU1.o];exact vD g1
   ·gi_wp2
    refine bodyPost_ret (results_none rfl _ _ _) rfl ?_
    exact ⟨⟨_,rfl⟩,.inr ⟨_,by rw [List.map_append,H3.o];show upto m k++[x] <+: _;rw [← aP HX.o];exact gC m (by omega),hJx3⟩⟩
theorem all_stops (n:Nat) (hn:1≤n) (Bs m:Nat) (S:Nat→Prop) (hS0:S 0) (hSb:S Bs) (w:World) (hSs:∀ g,S g→g<w.heap.size) (hT:TabG w) (hB:Ae w Bs (Ag m) 77) :
  SeqStopsK Fence.wide n Tryz.prog 70 #[.pointer (some ⟨Bs,0,none⟩)] (eO (m:=m)) (Lh S) (fun ys=>ys.map (·.1)=upto m 1024) (fun pre=>pre.map (·.1) <+: upto m 1024) 1024 w:=fun l J Jx W hW hJ hJx hY h0=>by
 exact all1_in n hn l Bs m S hS0 hSb J Jx W (fun g hg=>Nat.lt_of_lt_of_le (hSs g hg) hW.size) hJ hJx hY (hT.below hW) (hB.below hW) h0
set_option maxHeartbeats 1000000 in
theorem all_in (w:World) (m:Nat):Calls Tryz.prog 52 #[.agg (Ag m).toArray] w fun e w'=>e = .returned (.func (.func 70) #[] #[.pointer (some ⟨w.heap.size,0,none⟩)])∧w'=w.alloc (.cells (Ag m).toArray 77):=by
 go_enter Tryz.func52,Tryz.ntmps52
 go_wp2
 go_ret
 exact ⟨rfl,rfl⟩
end Go.Dk
end
section
namespace Go.Dk
open Go.RowKit Go.Maps Go.MapKept
open Go.Proofs hiding intOf
def Ad (m:Nat) (g:Int):List Value:=Ag m++[.int .i64 g]
theorem Ai (m:Nat) (g:Int):(Ad m g).length=17:=by simp [Ad,Ag]
theorem row_of {o:Option TypeDesc} (h:o.map (fun d=>d.isRow)=some true):∃ d,o=some d∧d.isRow=true:=by
 cases o with
 | none=>cases h
 | some d=>exact ⟨d,rfl,by simpa using h⟩
theorem nH:∃ d,Tryz.prog.underlying 77=some d∧d.isRow=true:=row_of (by kernel_rfl)
theorem fR:∃ d,Tryz.prog.underlying 86=some d∧d.isRow=true:=row_of (by kernel_rfl)
theorem Nx:(Tryz.prog.info? 77).map (·.size)=some 16:=by kernel_rfl
theorem cE:(Tryz.prog.info? 86).map (·.size)=some 17:=by kernel_rfl
def Wc:List Value→Nat→List Value→List Value
 | xs,_,[]=>xs
 | xs,o,v::vs=>Wc (xs.set o v) (o+1) vs
theorem Yc (vs:List Value):∀ (xs:List Value) (o i:Nat),(Wc xs o vs)[i]? = if o≤i∧i<o+vs.length∧i<xs.length then vs[i - o]? else xs[i]?:=by
 induction vs with
 | nil=>intro xs o i;rw [if_neg (by simp;omega)];rfl
 | cons v vs ih=>
  intro xs o i
  unfold Wc
  rw [ih,List.getElem?_set]
  simp only [List.length_cons,List.length_set]
  by_cases h1:o+1≤i∧i<o+1+vs.length∧i<xs.length
  ·rw [if_pos h1,if_pos (by omega),show i - o=(i - (o+1))+1 by omega,List.getElem?_cons_succ]
  ·rw [if_neg h1]
   by_cases h2:o=i
   ·subst h2
    rw [if_pos rfl]
    by_cases h3:o<xs.length
    ·rw [if_pos h3,if_pos (by omega)];simp
    ·rw [if_neg h3,if_neg (by omega)];exact (List.getElem?_eq_none (by omega)).symm
   ·rw [if_neg h2,if_neg (by omega)]
theorem Zb {xs vs:List Value} (h:xs.length=vs.length):Wc xs 0 vs=vs:=by
 apply List.ext_getElem?
 intro i
 rw [Yc]
 by_cases hi:i<vs.length
 ·rw [if_pos (by omega)];rfl
 ·rw [if_neg (by omega),List.getElem?_eq_none (by omega),List.getElem?_eq_none (by omega)]
theorem gA (m m':Nat) (g:Int):Wc (Ad m g) 0 (Ag m')=Ad m' g:=by
 apply List.ext_getElem?
 intro i
 rw [Yc,Ai,Bg]
 unfold Ad
 by_cases hi:i<16
 ·rw [if_pos (by omega),List.getElem?_append_left (by rw [Bg];exact hi)];rfl
 ·rw [if_neg (by omega),List.getElem?_append_right (by rw [Bg];omega),List.getElem?_append_right (by rw [Bg];omega),Bg,Bg]
theorem Oc (b:Nat) (vs:List Value):∀ (o:Nat) (W:World),Only b W (W.setCells b o vs):=by
 induction vs with
 | nil=>intro o W;exact ⟨rfl,rfl,rfl,rfl,fun _ _=>rfl⟩
 | cons v vs ih=>intro o W;exact (Aq W b o v).trans (ih (o+1) _)
theorem Ae.write {b:Nat} {T:TypeId} (vs:List Value):∀ {xs:List Value} {W:World} (o:Nat),Ae W b xs T→Ae (W.setCells b o vs) b (Wc xs o vs) T:=by
 induction vs with
 | nil=>intro xs W o h;exact h
 | cons v vs ih=>intro xs W o h;exact ih (o+1) (h.set o v)
theorem Ae.range {W:World} {b:Nat} {xs:List Value} {T:TypeId} (h:Ae W b xs T) {o:Nat} {cs:List Value} (hc:(xs.drop o).take cs.length=cs):W.rangeAt b o cs:=fun j v hj=>by
 refine h.cell ?_
 have hl:=(List.getElem?_eq_some_iff.1 hj).1
 rw [← hc,List.getElem?_take_of_lt hl,List.getElem?_drop] at hj
 exact hj
theorem Ae.there {W:World} {b:Nat} {xs:List Value} {T:TypeId} (h:Ae W b xs T) {o n:Nat} (hn:o+n≤xs.length):W.there b o n:=fun j hj=>⟨by rw [h.cell (List.getElem?_eq_getElem (show o+j<xs.length by omega))];rfl,h.fr _⟩
theorem Hm (m:Nat) (g:Int):((Ad m g).drop 0).take (Ag m).length=Ag m:=by
 rw [Bg];simp [Ad,Ag]
theorem Bl (m:Nat) (g:Int):(Ad m g)[16]? = some (.int .i64 g):=by
 unfold Ad
 rw [List.getElem?_append_right (by rw [Bg];exact Nat.le_refl _),Bg];rfl
theorem rM (m:Nat):(Ag m).toArray.all (·.oneCell')=true:=all_oneCell_toArray fun v hv=>by
 obtain ⟨i,_,rfl⟩:=List.mem_map.1 hv
 rfl
theorem dX (m:Nat) (g:Int):(Ad m g).toArray.all (·.oneCell')=true:=all_oneCell_toArray fun v hv=>by
 rcases List.mem_append.1 hv with h | h
 ·obtain ⟨i,_,rfl⟩:=List.mem_map.1 h
  rfl
 ·rw [List.mem_singleton.1 h];rfl
section
variable {ops:Array Oper} {rest:List Oper} {o:Oper} {a:Act} {Q:Exit→Act→World→Prop} {W:World} {b m:Nat} {g:Int}
theorem Ap (x:Operand) (hop:o.op = .load 77 x) (hg:o.guard=none) (hx:a.eval x = .pointer (some ⟨b,0,none⟩)) {T:TypeId} (h:Ae W b (Ad m g) T) (hk:wpList Tryz.prog ops Q rest (a.put o.dst (.agg (Ag m).toArray)) W):wpList Tryz.prog ops Q (o::rest) a W:=by
 obtain ⟨d,hu,hd⟩:=nH
 exact wpList_load_mid hg _ x hop b 0 hx (Ag m) d (h.range (Hm m g)) hu hd (by rw [Bg];exact Nx) hk
theorem Ah (x:Operand) (hop:o.op = .load 86 x) (hg:o.guard=none) (hx:a.eval x = .pointer (some ⟨b,0,none⟩)) {T:TypeId} (h:Ae W b (Ad m g) T) (hk:wpList Tryz.prog ops Q rest (a.put o.dst (.agg (Ad m g).toArray)) W):wpList Tryz.prog ops Q (o::rest) a W:=by
 obtain ⟨d,hu,hd⟩:=fR
 exact wpList_load_mid hg _ x hop b 0 hx (Ad m g) d (h.range (by simp)) hu hd (by rw [Ai];exact cE) hk
theorem Au (x y:Operand) (hop:o.op = .store 77 x y) (hg:o.guard=none) (hx:a.eval x = .pointer (some ⟨b,0,none⟩)) (hy:a.eval y = .agg (Ag m).toArray) {T:TypeId} {m0:Nat} (h:Ae W b (Ad m0 g) T)
  (hk:∀ W',Ae W' b (Ad m g) T→Only b W W'→wpList Tryz.prog ops Q rest (a.put o.dst undef) W'):wpList Tryz.prog ops Q (o::rest) a W:=by
 have hw:=h.write (Ag m) 0
 rw [gA] at hw
 exact wpList_store_mid hg _ x y hop b 0 _ hx hy (h.there (by simp [Ai,Bg])) (by simpa [Bg] using Nx) (rM m) (hk _ hw (Oc _ _ _ _))
theorem Ar (x y:Operand) (hop:o.op = .store 86 x y) (hg:o.guard=none) (hx:a.eval x = .pointer (some ⟨b,0,none⟩)) (hy:a.eval y = .agg (Ad m g).toArray) {T:TypeId} {xs:List Value} (h:Ae W b xs T) (hl:xs.length=17)
  (hk:∀ W',Ae W' b (Ad m g) T→Only b W W'→wpList Tryz.prog ops Q rest (a.put o.dst undef) W'):wpList Tryz.prog ops Q (o::rest) a W:=by
 have hw:=h.write (Ad m g) 0
 rw [Zb (by rw [hl,Ai])] at hw
 exact wpList_store_mid hg _ x y hop b 0 _ hx hy (h.there (by simp [Ai,hl])) (by simpa [Ai] using cE) (dX m g) (hk _ hw (Oc _ _ _ _))
theorem Nv {T:TypeId} {fn:Func} {tmps:Array Value} {p:Tmp} (hf:fn.results = #[.cell p 86]) (hp:tmps.getD p undef = .pointer (some ⟨b,0,none⟩)) (h:Ae W b (Ad m g) T) :
  (results fn tmps).run Tryz.prog W = .ok (.agg (Ad m g).toArray) W:=by
 obtain ⟨d,hu,hd⟩:=fR
 have h1:=run_loadVar_mid (P:=Tryz.prog) W b 0 86 (Ad m g) d (h.range (by simp)) hu hd (by rw [Ai];exact cE)
 unfold results
 rw [hf]
 simp only [List.mapM_toArray,List.mapM_cons,List.mapM_nil,hp,asAddr,Sem.run_bind,Sem.run_map,Sem.run_pure,Result.andThen_ok,h1]
 simp
end
theorem Ae.goal {W:World} {b m:Nat} {g:Int} {T:TypeId} (h:Ae W b (Ad m g) T) (g':Int):Ae (W.setCell ⟨b,16,none⟩ (.int .i64 g')) b (Ad m g') T:=by
 have:=h.set 16 (.int .i64 g')
 have e:(Ad m g).set 16 (.int .i64 g')=Ad m g':=by simp [Ad,Ag]
 rw [e] at this
 exact this
theorem Ae.only {W W':World} {b c:Nat} {xs:List Value} {T:TypeId} (h:Ae W b xs T) (ho:Only c W W') (hne:b≠c):Ae W' b xs T:=(ho.block b hne).trans h
theorem Xy (w:World) (m:Nat) (g:Int):Ae ((w.alloc (.cells (Ad m g).toArray 86)).alloc (.cells (Ad 0 0).toArray 86)) w.heap.size (Ad m g) 86∧Ae ((w.alloc (.cells (Ad m g).toArray 86)).alloc (.cells (Ad 0 0).toArray 86)) (w.heap.size+1) (Ad 0 0) 86∧Below w.heap.size w ((w.alloc (.cells (Ad m g).toArray 86)).alloc (.cells (Ad 0 0).toArray 86)):=by
 refine ⟨(Ae.new w (Ad m g) _).below (Ab _ _),?_,Ac (Ab _ _) (Ab _ _)⟩
 have:=Ae.new (w.alloc (.cells (Ad m g).toArray 86)) (Ad 0 0) 86
 simpa using this
set_option maxRecDepth 100000 in
set_option maxHeartbeats 1000000 in
theorem Wn (w:World) (m:Nat) (g g':Int):Calls Tryz.prog 114 #[.agg (Ad m g).toArray,.int .i64 g'] w fun e w'=>e = .returned (.agg (Ad m g').toArray)∧Below w.heap.size w w':=by
 have HS:=Aa (Xy w m g)
 go_enter Tryz.func114,Tryz.ntmps114
 go_wp2_with (first
  | (rw [show (#[.int .u64 0,.int .u64 0,.int .u64 0,.int .u64 0,.int .u64 0,.int .u64 0,.int .u64 0,.int .u64 0,.int .u64 0,.int .u64 0,.int .u64 0,.int .u64 0,.int .u64 0,.int .u64 0,.int .u64 0,.int .u64 0,.int .i64 0]:Array Value)=(Ad 0 0).toArray from rfl];generalize ((w.alloc (.cells (Ad m g).toArray 86)).alloc (.cells (Ad 0 0).toArray 86))=W0 at *;have c16:=HS.o.1.cell (Bl m g);have f16:=HS.o.1.fr 16;have K1:=Aa (HS.o.1.goal g');have K2:=Aa (HS.o.2.1.other (c:=w.heap.size) (by omega) 16 (.int .i64 g'));have K3:=Aa (HS.o.2.2.trans ((Aq W0 w.heap.size 16 (.int .i64 g')).below (Nat.le_refl _))))
  | (refine Ah (.tmp 2) rfl rfl rfl K1.o ?_)
  | (refine Ar (.tmp 4) (.tmp 7) rfl rfl rfl rfl K2.o (Ai _ _) ?_;intro W7 hb7 ho7;have K7:=Aa hb7;have K8:=Aa (K3.o.trans (ho7.below (by omega)));clear hb7 ho7))
 exact bodyPost_ret (Nv rfl rfl K7.o) rfl ⟨rfl,K8.o⟩
set_option maxRecDepth 100000 in
set_option maxHeartbeats 1000000 in
theorem Jg (w:World) (m:Nat) (g:Int) (gb o c:Nat) (ns:List Nat) (hl:ns.length<2 ^ 62) (hn:∀ n ∈ ns,n<1024) (hs:∀ j (h:j<ns.length),w.cell? ⟨gb,o+j,none⟩=some (.int .i64 (ns[j]:Int))) :
  Calls Tryz.prog 110 #[.agg (Ad m g).toArray,.slice (some ⟨gb,o,none⟩) ns.length c] w fun e w'=>e = .returned (.agg (Ad (m ||| Df ns) g).toArray)∧Below w.heap.size w w':=by
 have HS:=Aa (Xy w m g)
 have HN:=Aa hn;have HL:=Aa hl;have HC:=Aa hs
 clear hn hl hs
 go_enter Tryz.func110,Tryz.ntmps110
 go_wp2_with (first
  | (rw [show (#[.int .u64 0,.int .u64 0,.int .u64 0,.int .u64 0,.int .u64 0,.int .u64 0,.int .u64 0,.int .u64 0,.int .u64 0,.int .u64 0,.int .u64 0,.int .u64 0,.int .u64 0,.int .u64 0,.int .u64 0,.int .u64 0,.int .i64 0]:Array Value)=(Ad 0 0).toArray from rfl];generalize ((w.alloc (.cells (Ad m g).toArray 86)).alloc (.cells (Ad 0 0).toArray 86))=W0 at *)
  | (go_at_call 50;refine (jY W0 gb o c ns HL.o HN.o (fun j h=>(HS.o.2.2.cell (World.block_lt_of_cell? _ _ (HC.o j h))).trans (HC.o j h))).mono ?_;rintro e W1 ⟨rfl,hb1⟩;have HB1:=Aa hb1;clear hb1)
  | (refine Da (.tmp 5) (.tmp 10) rfl rfl rfl rfl (Ae.new W1 zeroV 77) (by simp [zeroV,Ag]) ?_;intro W2 hb2 ho2;have HK2:=Aa hb2;have HB2:=Aa (HB1.o.trans (((Ab W1 _).trans (ho2.below (Nat.le_refl _))).mono HB1.o.size));clear hb2 ho2)
  | (refine Ap (.tmp 12) rfl rfl rfl (HS.o.1.below HB2.o) ?_)
  | (refine Bv (.tmp 5) rfl rfl rfl HK2.o ?_)
  | (go_at_call 126;refine (pX _ m (Df ns)).mono ?_;rintro e W3 ⟨rfl,hb3⟩;have HR:=Aa ((HS.o.1.below HB2.o).below hb3);have HR4:=Aa ((HS.o.2.1.below HB2.o).below hb3);have HB:=Aa (Ac (Ac HS.o.2.2 HB2.o) hb3);clear hb3)
  | (refine Au (.tmp 16) (.tmp 15) rfl rfl rfl rfl HR.o ?_;intro W6 hb6 ho6;have K6:=Aa hb6;have K5:=Aa (HR4.o.only ho6 (by omega));have K4:=Aa (HB.o.trans (ho6.below (by omega)));clear hb6 ho6)
  | (refine Ah (.tmp 2) rfl rfl rfl K6.o ?_)
  | (refine Ar (.tmp 4) (.tmp 17) rfl rfl rfl rfl K5.o (Ai _ _) ?_;intro W7 hb7 ho7;have K7:=Aa hb7;have K8:=Aa (K4.o.trans (ho7.below (by omega)));clear hb7 ho7))
 exact bodyPost_ret (Nv rfl rfl K7.o) rfl ⟨rfl,K8.o⟩
end Go.Dk
end
section
namespace Go.Dk
structure Wf (rows:List ND) (s:SQ):Prop where
 left:∀ i,s.left.testBit i=true→i<rows.length
 goal:s.goal<rows.length
def gam (rows:List ND) (l:Nat):FS:=fun f=>∃ i,l.testBit i=true∧Av rows i=f
def Gj (rows:List ND) (s:SQ):Prop:=Fz (gam rows s.left) (Av rows s.goal)
def Fb (rows:List ND) (s:SQ):Prop:=Fj (gam rows s.left) (Av rows s.goal)
theorem Wf.ext {rows rows':List ND} {s:SQ} (h:Wf rows s) (hp:rows <+: rows'):Wf rows' s:=
 ⟨fun i hi=>Nat.lt_of_lt_of_le (h.left i hi) (Bh hp),Nat.lt_of_lt_of_le h.goal (Bh hp)⟩
theorem Lm {rows rows':List ND} {l:Nat} (h:∀ i,l.testBit i=true→i<rows.length) (hp:rows <+: rows'):gam rows' l=gam rows l:=by
 funext f
 apply propext
 constructor
 ·rintro ⟨i,hi,rfl⟩;exact ⟨i,hi,(Br hp (h i hi)).symm⟩
 ·rintro ⟨i,hi,rfl⟩;exact ⟨i,hi,Br hp (h i hi)⟩
theorem Ia {rows rows':List ND} {s:SQ} (h:Wf rows s) (hp:rows <+: rows'):Gj rows' s↔Gj rows s:=by
 unfold Gj;rw [Lm h.left hp,Br hp h.goal]
theorem If {rows rows':List ND} {s:SQ} (h:Wf rows s) (hp:rows <+: rows'):Fb rows' s↔Fb rows s:=by
 unfold Fb;rw [Lm h.left hp,Br hp h.goal]
theorem Hu (rows:List ND) (l n:Nat):gam rows (Aw l n)=wi (gam rows l) (Av rows n):=by
 funext f
 apply propext
 unfold gam wi
 constructor
 ·rintro ⟨i,hi,rfl⟩
  rw [Ja] at hi
  simp only [Bool.or_eq_true,decide_eq_true_eq] at hi
  rcases hi with hi | rfl
  ·exact .inl ⟨i,hi,rfl⟩
  ·exact .inr rfl
 ·rintro (⟨i,hi,rfl⟩ | rfl)
  ·exact ⟨i,by rw [Ja,hi];rfl,rfl⟩
  ·exact ⟨n,by rw [Ja];simp,rfl⟩
theorem iP {rows:List ND} (ok:Ok rows) {l n:Nat} (h:∀ i,l.testBit i=true→i<rows.length) (hn:n<rows.length):gam rows (Be l n)=wo (gam rows l) (Av rows n):=by
 funext f
 apply propext
 unfold gam wo
 constructor
 ·rintro ⟨i,hi,rfl⟩
  rw [Lp] at hi
  simp only [Bool.and_eq_true,decide_eq_true_eq] at hi
  exact ⟨⟨i,hi.1,rfl⟩,fun e=>hi.2 (Ve ok (h i hi.1) hn e)⟩
 ·rintro ⟨⟨i,hi,rfl⟩,hne⟩
  exact ⟨i,by rw [Lp,hi];simp;rintro rfl;exact hne rfl,rfl⟩
theorem Je {l n m:Nat} (h:∀ i,l.testBit i=true→i<m) (hn:n<m):∀ i,(Aw l n).testBit i=true→i<m:=by
 intro i hi
 rw [Ja] at hi
 simp only [Bool.or_eq_true,decide_eq_true_eq] at hi
 rcases hi with hi | rfl
 ·exact h i hi
 ·exact hn
theorem mH {l n m:Nat} (h:∀ i,l.testBit i=true→i<m):∀ i,(Be l n).testBit i=true→i<m:=by
 intro i hi
 rw [Lp] at hi
 simp only [Bool.and_eq_true] at hi
 exact h i hi.1
structure RuleInv (rows:List ND) (s:SQ) (prems:List SQ):Prop where
 wf:∀ p ∈ prems,Wf rows p
 sound:(∀ p ∈ prems,Gj rows p)→Gj rows s
 back:∀ p ∈ prems,Fb rows p→Fb rows s
theorem RuleInv.one {rows:List ND} {s p:SQ} (w:Wf rows p) (h:(Gj rows p→Gj rows s)∧(Fb rows p→Fb rows s)):RuleInv rows s [p]:=
 ⟨fun q hq=>by simp only [List.mem_singleton] at hq;subst hq;exact w,fun hv=>h.1 (hv p (by simp)),fun q hq=>by simp only [List.mem_singleton] at hq;subst hq;exact h.2⟩
theorem RuleInv.two {rows:List ND} {s p q:SQ} (w:Wf rows p) (w2:Wf rows q) (h:(Gj rows p→Gj rows q→Gj rows s)∧(Fb rows p→Fb rows s)∧(Fb rows q→Fb rows s)):RuleInv rows s [p,q]:=by
 refine ⟨fun x hx=>?_,fun hv=>h.1 (hv p (by simp)) (hv q (by simp)),fun x hx=>?_⟩<;>simp only [List.mem_cons,List.not_mem_nil,or_false] at hx
 ·rcases hx with rfl | rfl
  ·exact w
  ·exact w2
 ·rcases hx with rfl | rfl
  ·exact h.2.1
  ·exact h.2.2
theorem Uk {rows:List ND} (ok:Ok rows) {a b:Nat} (ha:a<rows.length) (hb:b<rows.length) {rows0:List ND} {k:List ND→Nat→Prem} (he:(Jn rows0 rows a b k).err=0) :
  ∃ (rows1:List ND) (f:Nat),Jn rows0 rows a b k=k rows1 f∧Ok rows1∧rows <+: rows1∧f<rows1.length∧Av rows1 f = .imp (Av rows a) (Av rows b):=by
 unfold Jn at he ⊢
 simp only at he ⊢
 by_cases hz:(put rows (rT a b)).err=0
 ·rw [if_neg (by simpa using hz)] at he ⊢
  obtain ⟨o1,o2,i,o3,o4,o5⟩:=Om ok (.inr (.inr rfl)) ha hb hz
  refine ⟨_,_,rfl,o1,o2,?_,?_⟩
  ·show ((put rows ⟨5,ByteArray.empty,a,b⟩).id).toNat<_
   rw [o3];simp only [Int.toNat_natCast];exact o4
  ·show Av (put rows ⟨5,ByteArray.empty,a,b⟩).rows ((put rows ⟨5,ByteArray.empty,a,b⟩).id).toNat=_
   rw [o3];simp only [Int.toNat_natCast];rw [o5];simp [Dy]
 ·rw [if_pos hz] at he;exact absurd he hz
theorem Qq {rows:List ND} (ok:Ok rows) {s:SQ} {main:Nat} (hm:main<rows.length) {k:Int} (hk:onP rows s main=k) (h0:k≠0) :
  (k=1∧Av rows main = .bot) ∨
  (∃ l r:Nat,l<main∧r<main∧rowAt rows main=⟨3,ByteArray.empty,l,r⟩∧k=3∧Av rows main = .and (Av rows l) (Av rows r)) ∨
  (∃ l r:Nat,l<main∧r<main∧rowAt rows main=⟨4,ByteArray.empty,l,r⟩∧k=10∧Av rows main = .or (Av rows l) (Av rows r)) ∨
  ∃ l r:Nat,l<main∧r<main∧rowAt rows main=⟨5,ByteArray.empty,l,r⟩∧Av rows main = .imp (Av rows l) (Av rows r) ∧
   ((k=4∧s.left.testBit l=true∧∃ a,Av rows l = .atom a)∨(k=5∧Av rows l = .bot) ∨
     ∃ x y:Nat,x<l∧y<l∧((k=6∧rowAt rows l=⟨3,ByteArray.empty,x,y⟩∧Av rows l = .and (Av rows x) (Av rows y))∨(k=7∧rowAt rows l=⟨4,ByteArray.empty,x,y⟩∧Av rows l = .or (Av rows x) (Av rows y)) ∨
      (k=13∧rowAt rows l=⟨5,ByteArray.empty,x,y⟩∧Av rows l = .imp (Av rows x) (Av rows y)))):=by
 have hrow:=Am hm
 unfold onP at hk
 simp only at hk
 generalize hN:rowAt rows main=n at *
 rcases Gh ok hrow with ⟨a,rfl,ht,hw⟩ | ⟨rfl,ht⟩ | ⟨x,y,hx,hy,ht⟩
 ·simp at hk;exact absurd hk.symm h0
 ·simp at hk;exact .inl ⟨hk.symm,ht⟩
 ·rcases ht with ⟨rfl,ht⟩ | ⟨rfl,ht⟩ | ⟨rfl,ht⟩
  ·simp at hk;exact .inr (.inl ⟨x,y,hx,hy,rfl,hk.symm,ht⟩)
  ·simp at hk;exact .inr (.inr (.inl ⟨x,y,hx,hy,rfl,hk.symm,ht⟩))
  ·simp only [show ¬ (5:Int)=2 by decide,show ¬ (5:Int)=3 by decide,show ¬ (5:Int)=4 by decide,if_false,if_true,Int.toNat_natCast] at hk
   refine .inr (.inr (.inr ⟨x,y,hx,hy,rfl,ht,?_⟩))
   have hrl:=Am (rows:=rows) (i:=x) (by omega)
   rcases Gh ok hrl with ⟨a,e2,ht2,hw⟩ | ⟨e2,ht2⟩ | ⟨u,v,hu,hv,ht2⟩
   · simp [e2] at hk
     split at hk
     ·rename_i hb;exact .inl ⟨hk.symm,hb,a,ht2⟩
     ·exact absurd hk.symm h0
   · simp [e2] at hk;exact .inr (.inl ⟨hk.symm,ht2⟩)
   · right;right
     refine ⟨u,v,hu,hv,?_⟩
     rcases ht2 with ⟨e2,ht2⟩ | ⟨e2,ht2⟩ | ⟨e2,ht2⟩
     ·simp [e2] at hk;exact .inl ⟨hk.symm,e2,ht2⟩
     ·simp [e2] at hk;exact .inr (.inl ⟨hk.symm,e2,ht2⟩)
     ·simp [e2] at hk;exact .inr (.inr ⟨hk.symm,e2,ht2⟩)
structure PremOk (rows:List ND) (s:SQ) (p:Prem):Prop where
 ok:Ok p.rows
 pre:rows <+: p.rows
 inv:RuleInv p.rows s p.seqs
theorem Qs {rows rows':List ND} {s:SQ} {l:List SQ} (ok:Ok rows') (hp:rows <+: rows') (h:RuleInv rows' s l):PremOk rows s ⟨rows',0,l⟩:=⟨ok,hp,h⟩
section
variable {rows:List ND} (ok:Ok rows) {s:SQ} (wf:Wf rows s)
include ok wf
theorem left_ok {main:Nat} (hb:s.left.testBit main=true) {k:Int} (hk:onP rows s main=k) (h0:k≠0) (h13:k≠13) (he:(Af rows s k main).err=0):PremOk rows s (Af rows s k main):=by
 have hm:=wf.left main hb
 have hg:gam rows s.left (Av rows main):=⟨main,hb,rfl⟩
 have hd:=iP ok wf.left hm
 have dl:∀ i,(Be s.left main).testBit i=true→i<rows.length:=mH wf.left
 rcases Qq ok hm hk h0 with ⟨rfl,ht⟩ | ⟨l,r,hl,hr,hn,rfl,ht⟩ | ⟨l,r,hl,hr,hn,rfl,ht⟩ | ⟨l,r,hl,hr,hn,ht,hc⟩
 ·refine ⟨ok,List.prefix_refl _,⟨by simp [Af],fun _=>?_,by simp [Af]⟩⟩
  exact qC (ht▸hg)
 ·simp only [Af,if_true,hn,Int.toNat_natCast]
  rw [ht] at hg hd
  have hR:=oV (g:=Av rows s.goal) hg
  rw [← hd,← Hu,← Hu] at hR
  exact Qs ok (List.prefix_refl _) (.one ⟨Je (Je dl (by omega)) (by omega),wf.goal⟩ hR)
 ·simp only [Af,if_true,hn,Int.toNat_natCast,show ¬ (10:Int)=3 by decide,show ¬ (10:Int)=4 by decide,show ¬ (10:Int)=5 by decide,show ¬ (10:Int)=6 by decide,show ¬ (10:Int)=7 by decide,show ¬ (10:Int)=8 by decide,show ¬ (10:Int)=9 by decide,if_false]
  rw [ht] at hg hd
  have hR:=sM (g:=Av rows s.goal) hg
  rw [← hd,← Hu,← Hu] at hR
  exact Qs ok (List.prefix_refl _) (.two ⟨Je dl (by omega),wf.goal⟩ ⟨Je dl (by omega),wf.goal⟩ hR)
 ·rw [ht] at hg hd
  rcases hc with ⟨rfl,hbl,a,hta⟩ | ⟨rfl,htl⟩ | ⟨x,y,hx,hy,⟨rfl,hnl,htl⟩ | ⟨rfl,hnl,htl⟩ | ⟨rfl,_⟩⟩
  ·simp only [Af,if_true,hn,Int.toNat_natCast,show ¬ (4:Int)=3 by decide,if_false]
   rw [hta] at hg hd
   have hR:=cT (g:=Av rows s.goal) hg ⟨l,hbl,hta⟩
   rw [← hd,← Hu] at hR
   exact Qs ok (List.prefix_refl _) (.one ⟨Je dl (by omega),wf.goal⟩ hR)
  ·simp only [Af,if_true,show ¬ (5:Int)=3 by decide,show ¬ (5:Int)=4 by decide,if_false]
   rw [htl] at hg hd
   have hR:=eK (g:=Av rows s.goal) hg
   rw [← hd] at hR
   exact Qs ok (List.prefix_refl _) (.one ⟨dl,wf.goal⟩ hR)
  ·simp only [Af,if_true,hn,hnl,Int.toNat_natCast,show ¬ (6:Int)=3 by decide,show ¬ (6:Int)=4 by decide,show ¬ (6:Int)=5 by decide,if_false] at he ⊢
   obtain ⟨rows1,f,e1,o1,p1,f1,t1⟩:=Uk ok (a:=y) (b:=r) (by omega) (by omega) he
   rw [e1] at he ⊢
   have x1:x<rows1.length:=Nat.lt_of_lt_of_le (by omega) (Bh p1)
   obtain ⟨rows2,g,e2,o2,p2,g2,t2⟩:=Uk o1 (a:=x) (b:=f) x1 f1 he
   rw [e2]
   have p12:=p1.trans p2
   rw [htl] at hg hd
   have hR:=gZ (g:=Av rows s.goal) hg
   have tg:Av rows2 g = .imp (Av rows x) (.imp (Av rows y) (Av rows r)):=by rw [t2,t1,Br p1 (by omega)]
   rw [← hd,← tg,← Lm dl p12,← Hu,← Lm wf.left p12,← Br p12 wf.goal] at hR
   exact Qs o2 (p12) (.one ⟨Je (fun i hi=>Nat.lt_of_lt_of_le (dl i hi) (Bh p12)) g2,Nat.lt_of_lt_of_le wf.goal (Bh p12)⟩ hR)
  ·simp only [Af,if_true,hn,hnl,Int.toNat_natCast,show ¬ (7:Int)=3 by decide,show ¬ (7:Int)=4 by decide,show ¬ (7:Int)=5 by decide,show ¬ (7:Int)=6 by decide,if_false] at he ⊢
   obtain ⟨rows1,f,e1,o1,p1,f1,t1⟩:=Uk ok (a:=x) (b:=r) (by omega) (by omega) he
   rw [e1] at he ⊢
   obtain ⟨rows2,g,e2,o2,p2,g2,t2⟩:=Uk o1 (a:=y) (b:=r) (Nat.lt_of_lt_of_le (by omega) (Bh p1)) (Nat.lt_of_lt_of_le (by omega) (Bh p1)) he
   rw [e2]
   have p12:=p1.trans p2
   rw [htl] at hg hd
   have hR:=lX (g:=Av rows s.goal) hg
   have tf:Av rows2 f = .imp (Av rows x) (Av rows r):=by rw [Br p2 f1,t1]
   have tg:Av rows2 g = .imp (Av rows y) (Av rows r):=by rw [t2,Br p1 (by omega),Br p1 (by omega)]
   rw [← hd,← tf,← tg,← Lm dl p12,← Hu,← Hu,← Lm wf.left p12,← Br p12 wf.goal] at hR
   exact Qs o2 (p12) (.one ⟨Je (Je (fun i hi=>Nat.lt_of_lt_of_le (dl i hi) (Bh p12)) (Nat.lt_of_lt_of_le f1 (Bh p2))) g2,Nat.lt_of_lt_of_le wf.goal (Bh p12)⟩ hR)
  ·exact absurd rfl h13
theorem zE (h:s.left.testBit s.goal=true):PremOk rows s (Af rows s 2 s.goal):=
 (fun _=>⟨ok,List.prefix_refl _,⟨by simp [Af],fun _=>rR ⟨_,h,rfl⟩,by simp [Af]⟩⟩:Wf rows s→PremOk rows s (Af rows s 2 s.goal)) wf
theorem wR (h:(rowAt rows s.goal).kind=5):PremOk rows s (Af rows s 8 s.goal):=by
 have hrow:=Am wf.goal
 rcases Gh ok hrow with ⟨a,e,_⟩ | ⟨e,_⟩ | ⟨l,r,hl,hr,⟨e,_⟩ | ⟨e,_⟩ | ⟨e,ht⟩⟩<;>(rw [e] at h;simp only at h)
 all_goals first | omega | skip
 simp only [Af,e,Int.toNat_natCast,show ¬ (8:Int)=3 by decide,show ¬ (8:Int)=4 by decide,show ¬ (8:Int)=5 by decide,show ¬ (8:Int)=6 by decide,show ¬ (8:Int)=7 by decide,if_false,if_true]
 have hgl:=wf.goal
 have hR:=pL (Γ:=gam rows s.left) (a:=Av rows l) (b:=Av rows r)
 rw [← ht,← Hu] at hR
 exact Qs ok (List.prefix_refl _) (.one ⟨Je wf.left (by omega),by (try simp only);omega⟩ hR)
theorem vS (h:(rowAt rows s.goal).kind=3):PremOk rows s (Af rows s 9 s.goal):=by
 have hrow:=Am wf.goal
 rcases Gh ok hrow with ⟨a,e,_⟩ | ⟨e,_⟩ | ⟨l,r,hl,hr,⟨e,ht⟩ | ⟨e,_⟩ | ⟨e,_⟩⟩<;>(rw [e] at h;simp only at h)
 all_goals first | omega | skip
 simp only [Af,e,Int.toNat_natCast,show ¬ (9:Int)=3 by decide,show ¬ (9:Int)=4 by decide,show ¬ (9:Int)=5 by decide,show ¬ (9:Int)=6 by decide,show ¬ (9:Int)=7 by decide,show ¬ (9:Int)=8 by decide,if_false,if_true]
 have hgl:=wf.goal
 have hR:=qE (Γ:=gam rows s.left) (a:=Av rows l) (b:=Av rows r)
 rw [← ht] at hR
 exact Qs ok (List.prefix_refl _) (.two ⟨wf.left,by (try simp only);omega⟩ ⟨wf.left,by (try simp only);omega⟩ hR)
end
theorem least_some {rows:List ND} {s:SQ} {p:Int→Bool} {x:Int × Nat} (h:Bt rows s p=some x):s.left.testBit x.2=true∧onP rows s x.2=x.1∧p x.1=true:=by
 unfold Bt at h
 obtain ⟨i,hi,rfl⟩:=Option.map_eq_some_iff.1 h
 have:=List.find?_some hi
 simp only [Bool.and_eq_true] at this
 exact ⟨this.1,rfl,this.2⟩
theorem Tj {rows:List ND} {s:SQ} (wf:Wf rows s) {p:Int→Bool} (h:Bt rows s p=none) {i:Nat} (hi:s.left.testBit i=true):p (onP rows s i)=false:=by
 unfold Bt at h
 have:=List.find?_eq_none.1 (Option.map_eq_none_iff.1 h) i (List.mem_range.2 (wf.left i hi))
 simpa [hi] using this
theorem Qk {rows:List ND} (ok:Ok rows) {s:SQ} (wf:Wf rows s) (h14:(Ak rows s).1≠14) (he:(Af rows s (Ak rows s).1 (Ak rows s).2).err=0):PremOk rows s (Af rows s (Ak rows s).1 (Ak rows s).2):=by
 unfold Ak at h14 he ⊢
 cases h1:Bt rows s (fun k=>k == 1) with
 | some x=>
  simp only [h1] at h14 he ⊢
  obtain ⟨a,b,c⟩:=least_some h1
  simp only [beq_iff_eq] at c
  exact left_ok ok wf a b (by omega) (by omega) he
 | none=>
  simp only [h1] at h14 he ⊢
  by_cases h2:s.left.testBit s.goal=true
  ·rw [if_pos h2];exact zE ok wf h2
  ·rw [if_neg h2] at h14 he ⊢
   cases h3:Bt rows s (fun k=>decide (3≤k) && decide (k≤7)) with
   | some x=>
    simp only [h3] at h14 he ⊢
    obtain ⟨a,b,c⟩:=least_some h3
    simp only [Bool.and_eq_true,decide_eq_true_eq] at c
    exact left_ok ok wf a b (by omega) (by omega) he
   | none=>
    simp only [h3] at h14 he ⊢
    by_cases h4:(rowAt rows s.goal).kind=5
    ·rw [if_pos h4];exact wR ok wf h4
    ·rw [if_neg h4] at h14 he ⊢
     by_cases h5:(rowAt rows s.goal).kind=3
     ·rw [if_pos h5];exact vS ok wf h5
     ·rw [if_neg h5] at h14 he ⊢
      cases h6:Bt rows s (fun k=>k == 10) with
      | some x=>
       simp only [h6] at h14 he ⊢
       obtain ⟨a,b,c⟩:=least_some h6
       simp only [beq_iff_eq] at c
       exact left_ok ok wf a b (by omega) (by omega) he
      | none=>simp only [h6] at h14;exact absurd rfl h14
theorem iZ {rows:List ND} (ok:Ok rows) {s:SQ} (wf:Wf rows s) (h:(Ak rows s).1=14):Stuck (gam rows s.left) (Av rows s.goal):=by
 have hon:∀ i,s.left.testBit i=true→onP rows s i≠14:=fun i hi e=>by
  rcases Qq ok (wf.left i hi) e (by omega) with ⟨a,_⟩ | ⟨_,_,_,_,_,a,_⟩ | ⟨_,_,_,_,_,a,_⟩ | ⟨_,_,_,_,_,_,⟨a,_⟩ | ⟨a,_⟩ | ⟨_,_,_,_,⟨a,_⟩ | ⟨a,_⟩ | ⟨a,_⟩⟩⟩<;>omega
 unfold Ak at h
 cases h1:Bt rows s (fun k=>k == 1) with
 | some x=>simp only [h1] at h;obtain ⟨a,b,c⟩:=least_some h1;simp only [beq_iff_eq] at c;omega
 | none=>
  simp only [h1] at h
  by_cases h2:s.left.testBit s.goal=true
  ·rw [if_pos h2] at h;simp only at h;omega
  ·rw [if_neg h2] at h
   cases h3:Bt rows s (fun k=>decide (3≤k) && decide (k≤7)) with
   | some x=>simp only [h3] at h;obtain ⟨a,b,c⟩:=least_some h3;simp only [Bool.and_eq_true,decide_eq_true_eq] at c;omega
   | none=>
    simp only [h3] at h
    by_cases h4:(rowAt rows s.goal).kind=5
    ·rw [if_pos h4] at h;simp only at h;omega
    ·rw [if_neg h4] at h
     by_cases h5:(rowAt rows s.goal).kind=3
     ·rw [if_pos h5] at h;simp only at h;omega
     ·rw [if_neg h5] at h
      cases h6:Bt rows s (fun k=>k == 10) with
      | some x=>simp only [h6] at h;obtain ⟨a,b,c⟩:=least_some h6;simp only [beq_iff_eq] at c;omega
      | none=>
       constructor
       ·rintro f ⟨i,hi,rfl⟩
        have g1:=Tj wf h1 hi
        have g3:=Tj wf h3 hi
        have g6:=Tj wf h6 hi
        simp only [beq_eq_false_iff_ne,Bool.and_eq_false_iff,decide_eq_false_iff_not] at g1 g3 g6
        have hil:=wf.left i hi
        by_cases h0:onP rows s i=0
        ·have hrow:=Am hil
         unfold onP at h0
         simp only at h0
         rcases Gh ok hrow with ⟨a,e,ht,_⟩ | ⟨e,ht⟩ | ⟨l,r,hl,hr,⟨e,ht⟩ | ⟨e,ht⟩ | ⟨e,ht⟩⟩
         ·exact .inl ⟨a,ht⟩
         ·rw [e] at h0;simp at h0
         ·rw [e] at h0;simp at h0
         ·rw [e] at h0;simp at h0
         ·rw [e] at h0
          simp only [show ¬ (5:Int)=2 by decide,show ¬ (5:Int)=3 by decide,show ¬ (5:Int)=4 by decide,if_false,if_true,Int.toNat_natCast] at h0
          have hrl:=Am (rows:=rows) (i:=l) (by omega)
          rcases Gh ok hrl with ⟨a,e2,ht2,_⟩ | ⟨e2,ht2⟩ | ⟨u,v,hu,hv,⟨e2,ht2⟩ | ⟨e2,ht2⟩ | ⟨e2,ht2⟩⟩
          ·simp [e2] at h0
           refine .inr (.inl ⟨a,Av rows r,by rw [ht,ht2],?_⟩)
           rintro ⟨j,hj,hja⟩
           have:=Ve ok (wf.left j hj) (i:=j) (j:=l) (by omega) (by rw [hja,ht2])
           subst this
           rw [hj] at h0;cases h0
          ·simp [e2] at h0
          ·simp [e2] at h0
          ·simp [e2] at h0
          ·simp [e2] at h0
        ·rcases Qq ok hil rfl h0 with ⟨a,_⟩ | ⟨_,_,_,_,_,a,_⟩ | ⟨_,_,_,_,_,a,_⟩ | ⟨l,r,hl,hr,hn,ht,⟨a,_⟩ | ⟨a,_⟩ | ⟨x,y,hx,hy,⟨a,_⟩ | ⟨a,_⟩ | ⟨a,_,ht2⟩⟩⟩
         ·omega
         ·omega
         ·omega
         ·omega
         ·omega
         ·omega
         ·omega
         ·exact .inr (.inr ⟨_,_,_,by rw [ht,ht2]⟩)
       ·have hrow:=Am wf.goal
        rcases Gh ok hrow with ⟨a,e,ht,_⟩ | ⟨e,ht⟩ | ⟨l,r,hl,hr,⟨e,ht⟩ | ⟨e,ht⟩ | ⟨e,ht⟩⟩
        ·refine .inl ⟨a,ht,?_⟩
         rintro ⟨j,hj,hja⟩
         have:=Ve ok (wf.left j hj) wf.goal (by rw [hja,ht])
         subst this
         exact h2 hj
        ·exact .inr (.inl ht)
        ·rw [e] at h5;exact absurd rfl h5
        ·exact .inr (.inr ⟨_,_,ht⟩)
        ·rw [e] at h4;exact absurd rfl h4
end Go.Dk
end
