/- Parts of the proof: Kv, Kw, Kx, Ky. -/
import Derived.Test.YthhokkfcdbcllaaGreatDoorR01
import Derived.Test.YthhokkfcdbcllaaGreatDoorR02
import Derived.Test.YthhokkfcdbcllaaGreatDoorR03
import Derived.Test.YthhokkfcdbcllaaGreatDoorR04
import Derived.Test.YthhokkfcdbcllaaGreatDoorR05
section
namespace Go.Dk
open Go.RowKit Go.Maps Go.MapKept
open Go.Proofs hiding intOf
def Sz (rows:List ND) (s:SQ) (k:Int) (main:Nat):Bool:=
 if k=2 then main == s.goal && s.left.testBit main
 else if k=8 then main == s.goal && (rowAt rows main).kind == 5
 else if k=9 then main == s.goal && (rowAt rows main).kind == 3
 else if k=11∨k=12 then main == s.goal && (rowAt rows main).kind == 4
 else decide (k≠0) && s.left.testBit main && onP rows s main == k
set_option maxRecDepth 100000 in
set_option maxHeartbeats 2000000 in
theorem nP (k:Nat) (ow:Own) (w:World) (t:Value) (rows:List ND) (h:Tab k ow w t rows) (s:SQ) (main:Nat) (hm:main<rows.length) (gl:Bool) (hg:((main:Int) == (s.goal:Int))=gl) :
  Calls Tryz.prog 86 #[t,.agg (Ad s.left s.goal).toArray,.int .i64 2,.int .i64 (main:Int)] w fun e w'=>e = .returned (.bool (gl && s.left.testBit main))∧Below w.heap.size w w':=by
 have HB0:=Aa (Ab w (.cells (Ad s.left s.goal).toArray 86))
 have HQ0:=Aa (Ae.new w (Ad s.left s.goal) 86)
 have HL:=Aa (len_any k ow _ t rows (h.below HB0.o))
 have HH:=Aa (fun W'=>Qr W' s.left main (Nat.lt_of_lt_of_le hm h.ok.le))
 obtain ⟨n,hn⟩:∃ n,rowAt rows main=n:=⟨_,rfl⟩
 have HN:=Aa (Dc k ow w t rows h main hm n hn)
 obtain ⟨lf,hlf⟩:∃ lf,lf=s.left.testBit main:=⟨_,rfl⟩
 rw [← hlf] at HH
 try rw [← hlf]
 have hlen:((rows.length:Int)≤(main:Int))=False:=by simp;omega
 have hd:decide ((main:Int)<0)=false:=decide_eq_false (by omega)
 have hd2:decide ((rows.length:Int)≤(main:Int))=false:=decide_eq_false (by omega)
 obtain ⟨kd,nm,l,r⟩:=n
 simp only at HN ⊢
 have hfk:=fun W=>Ft (.int .i64 kd) (.string nm) (.int .i64 l) (.int .i64 r) W
 clear h hn hlf hlen
 have hu:Tryz.prog.underlying 77=some (.array 16 75):=by kernel_rfl
 have hi:(Tryz.prog.info? 77).map (·.size)=some (Ag s.left).length:=by rw [Bg];exact Nx
 have HC:Hid (∀ W',Ae W' w.heap.size (Ad s.left s.goal) 86→W'.cell? ⟨w.heap.size,16,none⟩=some (.int .i64 (s.goal:Int))∧W'.rangeAt w.heap.size 0 (Ag s.left)):=fun W' hb=>⟨hb.cell (Bl s.left s.goal),hb.range (Hm s.left s.goal)⟩
 go_enter Tryz.func86,Tryz.ntmps86
 go_wp2_with (go_at_call 31;refine HL.o.mono ?_;rintro e w1 ⟨rfl,rfl⟩)
 generalize (w.alloc (.cells (Ad s.left s.goal).toArray 86))=W0 at *
 go_region_held3 (fun W'=>W'.cell? ⟨w.heap.size,16,none⟩=some (.int .i64 (s.goal:Int))∧W'.rangeAt w.heap.size 0 (Ag s.left)) (first | exact HC.o _ (HQ0.o.below (below_drewN W0 1)) | exact HC.o _ HQ1.o)
  ((go_at_call 100;refine (HH.o _).mono ?_;rintro e W1 ⟨rfl,hb1⟩;have HB1:=Aa (Ac HB0.o (Ac (below_drewN W0 1) hb1));have HQ1:=Aa (HQ0.o.below (Ac (below_drewN W0 1) hb1));clear hb1))
 cases gl
 all_goals
  as_aux_lemma=>
  go_wp2_with (go_at_call 104;refine (HN.o _ HB1.o).mono ?_;rintro e W2 ⟨rfl,hb2⟩;have HB2:=Aa (Ac HB1.o hb2);clear hb2)
  go_ret
  exact ⟨by simp,HB2.o⟩
set_option maxRecDepth 100000 in
set_option maxHeartbeats 2000000 in
theorem pJ (k:Nat) (ow:Own) (w:World) (t:Value) (rows:List ND) (h:Tab k ow w t rows) (s:SQ) (main:Nat) (hm:main<rows.length) (gl:Bool) (hg:((main:Int) == (s.goal:Int))=gl) :
  Calls Tryz.prog 86 #[t,.agg (Ad s.left s.goal).toArray,.int .i64 8,.int .i64 (main:Int)] w fun e w'=>e = .returned (.bool (gl && ((rowAt rows main).kind == 5)))∧Below w.heap.size w w':=by
 have HB0:=Aa (Ab w (.cells (Ad s.left s.goal).toArray 86))
 have HQ0:=Aa (Ae.new w (Ad s.left s.goal) 86)
 have HL:=Aa (len_any k ow _ t rows (h.below HB0.o))
 have HH:=Aa (fun W'=>Qr W' s.left main (Nat.lt_of_lt_of_le hm h.ok.le))
 obtain ⟨n,hn⟩:∃ n,rowAt rows main=n:=⟨_,rfl⟩
 have HN:=Aa (Dc k ow w t rows h main hm n hn)
 rw [hn]
 obtain ⟨lf,hlf⟩:∃ lf,lf=s.left.testBit main:=⟨_,rfl⟩
 rw [← hlf] at HH
 try rw [← hlf]
 have hlen:((rows.length:Int)≤(main:Int))=False:=by simp;omega
 have hd:decide ((main:Int)<0)=false:=decide_eq_false (by omega)
 have hd2:decide ((rows.length:Int)≤(main:Int))=false:=decide_eq_false (by omega)
 obtain ⟨kd,nm,l,r⟩:=n
 simp only at HN ⊢
 have hfk:=fun W=>Ft (.int .i64 kd) (.string nm) (.int .i64 l) (.int .i64 r) W
 clear h hn hlf hlen
 have hu:Tryz.prog.underlying 77=some (.array 16 75):=by kernel_rfl
 have hi:(Tryz.prog.info? 77).map (·.size)=some (Ag s.left).length:=by rw [Bg];exact Nx
 have HC:Hid (∀ W',Ae W' w.heap.size (Ad s.left s.goal) 86→W'.cell? ⟨w.heap.size,16,none⟩=some (.int .i64 (s.goal:Int))∧W'.rangeAt w.heap.size 0 (Ag s.left)):=fun W' hb=>⟨hb.cell (Bl s.left s.goal),hb.range (Hm s.left s.goal)⟩
 go_enter Tryz.func86,Tryz.ntmps86
 go_wp2_with (go_at_call 31;refine HL.o.mono ?_;rintro e w1 ⟨rfl,rfl⟩)
 generalize (w.alloc (.cells (Ad s.left s.goal).toArray 86))=W0 at *
 go_region_held3 (fun W'=>W'.cell? ⟨w.heap.size,16,none⟩=some (.int .i64 (s.goal:Int))∧W'.rangeAt w.heap.size 0 (Ag s.left)) (first | exact HC.o _ (HQ0.o.below (below_drewN W0 1)) | exact HC.o _ HQ1.o)
  ((go_at_call 100;refine (HH.o _).mono ?_;rintro e W1 ⟨rfl,hb1⟩;have HB1:=Aa (Ac HB0.o (Ac (below_drewN W0 1) hb1));have HQ1:=Aa (HQ0.o.below (Ac (below_drewN W0 1) hb1));clear hb1))
 cases gl
 all_goals
  as_aux_lemma=>
  go_wp2_with (go_at_call 104;refine (HN.o _ HB1.o).mono ?_;rintro e W2 ⟨rfl,hb2⟩;have HB2:=Aa (Ac HB1.o hb2);clear hb2)
  go_ret
  exact ⟨by simp,HB2.o⟩
set_option maxRecDepth 100000 in
set_option maxHeartbeats 2000000 in
theorem pP (k:Nat) (ow:Own) (w:World) (t:Value) (rows:List ND) (h:Tab k ow w t rows) (s:SQ) (main:Nat) (hm:main<rows.length) (gl:Bool) (hg:((main:Int) == (s.goal:Int))=gl) :
  Calls Tryz.prog 86 #[t,.agg (Ad s.left s.goal).toArray,.int .i64 9,.int .i64 (main:Int)] w fun e w'=>e = .returned (.bool (gl && ((rowAt rows main).kind == 3)))∧Below w.heap.size w w':=by
 have HB0:=Aa (Ab w (.cells (Ad s.left s.goal).toArray 86))
 have HQ0:=Aa (Ae.new w (Ad s.left s.goal) 86)
 have HL:=Aa (len_any k ow _ t rows (h.below HB0.o))
 have HH:=Aa (fun W'=>Qr W' s.left main (Nat.lt_of_lt_of_le hm h.ok.le))
 obtain ⟨n,hn⟩:∃ n,rowAt rows main=n:=⟨_,rfl⟩
 have HN:=Aa (Dc k ow w t rows h main hm n hn)
 rw [hn]
 obtain ⟨lf,hlf⟩:∃ lf,lf=s.left.testBit main:=⟨_,rfl⟩
 rw [← hlf] at HH
 try rw [← hlf]
 have hlen:((rows.length:Int)≤(main:Int))=False:=by simp;omega
 have hd:decide ((main:Int)<0)=false:=decide_eq_false (by omega)
 have hd2:decide ((rows.length:Int)≤(main:Int))=false:=decide_eq_false (by omega)
 obtain ⟨kd,nm,l,r⟩:=n
 simp only at HN ⊢
 have hfk:=fun W=>Ft (.int .i64 kd) (.string nm) (.int .i64 l) (.int .i64 r) W
 clear h hn hlf hlen
 have hu:Tryz.prog.underlying 77=some (.array 16 75):=by kernel_rfl
 have hi:(Tryz.prog.info? 77).map (·.size)=some (Ag s.left).length:=by rw [Bg];exact Nx
 have HC:Hid (∀ W',Ae W' w.heap.size (Ad s.left s.goal) 86→W'.cell? ⟨w.heap.size,16,none⟩=some (.int .i64 (s.goal:Int))∧W'.rangeAt w.heap.size 0 (Ag s.left)):=fun W' hb=>⟨hb.cell (Bl s.left s.goal),hb.range (Hm s.left s.goal)⟩
 go_enter Tryz.func86,Tryz.ntmps86
 go_wp2_with (go_at_call 31;refine HL.o.mono ?_;rintro e w1 ⟨rfl,rfl⟩)
 generalize (w.alloc (.cells (Ad s.left s.goal).toArray 86))=W0 at *
 go_region_held3 (fun W'=>W'.cell? ⟨w.heap.size,16,none⟩=some (.int .i64 (s.goal:Int))∧W'.rangeAt w.heap.size 0 (Ag s.left)) (first | exact HC.o _ (HQ0.o.below (below_drewN W0 1)) | exact HC.o _ HQ1.o)
  ((go_at_call 100;refine (HH.o _).mono ?_;rintro e W1 ⟨rfl,hb1⟩;have HB1:=Aa (Ac HB0.o (Ac (below_drewN W0 1) hb1));have HQ1:=Aa (HQ0.o.below (Ac (below_drewN W0 1) hb1));clear hb1))
 cases gl
 all_goals
  as_aux_lemma=>
  go_wp2_with (go_at_call 104;refine (HN.o _ HB1.o).mono ?_;rintro e W2 ⟨rfl,hb2⟩;have HB2:=Aa (Ac HB1.o hb2);clear hb2)
  go_ret
  exact ⟨by simp,HB2.o⟩
set_option maxRecDepth 100000 in
set_option maxHeartbeats 2000000 in
theorem mA (k:Nat) (ow:Own) (w:World) (t:Value) (rows:List ND) (h:Tab k ow w t rows) (s:SQ) (main:Nat) (hm:main<rows.length) (gl:Bool) (hg:((main:Int) == (s.goal:Int))=gl) :
  Calls Tryz.prog 86 #[t,.agg (Ad s.left s.goal).toArray,.int .i64 11,.int .i64 (main:Int)] w fun e w'=>e = .returned (.bool (gl && ((rowAt rows main).kind == 4)))∧Below w.heap.size w w':=by
 have HB0:=Aa (Ab w (.cells (Ad s.left s.goal).toArray 86))
 have HQ0:=Aa (Ae.new w (Ad s.left s.goal) 86)
 have HL:=Aa (len_any k ow _ t rows (h.below HB0.o))
 have HH:=Aa (fun W'=>Qr W' s.left main (Nat.lt_of_lt_of_le hm h.ok.le))
 obtain ⟨n,hn⟩:∃ n,rowAt rows main=n:=⟨_,rfl⟩
 have HN:=Aa (Dc k ow w t rows h main hm n hn)
 rw [hn]
 obtain ⟨lf,hlf⟩:∃ lf,lf=s.left.testBit main:=⟨_,rfl⟩
 rw [← hlf] at HH
 try rw [← hlf]
 have hlen:((rows.length:Int)≤(main:Int))=False:=by simp;omega
 have hd:decide ((main:Int)<0)=false:=decide_eq_false (by omega)
 have hd2:decide ((rows.length:Int)≤(main:Int))=false:=decide_eq_false (by omega)
 obtain ⟨kd,nm,l,r⟩:=n
 simp only at HN ⊢
 have hfk:=fun W=>Ft (.int .i64 kd) (.string nm) (.int .i64 l) (.int .i64 r) W
 clear h hn hlf hlen
 have hu:Tryz.prog.underlying 77=some (.array 16 75):=by kernel_rfl
 have hi:(Tryz.prog.info? 77).map (·.size)=some (Ag s.left).length:=by rw [Bg];exact Nx
 have HC:Hid (∀ W',Ae W' w.heap.size (Ad s.left s.goal) 86→W'.cell? ⟨w.heap.size,16,none⟩=some (.int .i64 (s.goal:Int))∧W'.rangeAt w.heap.size 0 (Ag s.left)):=fun W' hb=>⟨hb.cell (Bl s.left s.goal),hb.range (Hm s.left s.goal)⟩
 go_enter Tryz.func86,Tryz.ntmps86
 go_wp2_with (go_at_call 31;refine HL.o.mono ?_;rintro e w1 ⟨rfl,rfl⟩)
 generalize (w.alloc (.cells (Ad s.left s.goal).toArray 86))=W0 at *
 go_region_held3 (fun W'=>W'.cell? ⟨w.heap.size,16,none⟩=some (.int .i64 (s.goal:Int))∧W'.rangeAt w.heap.size 0 (Ag s.left)) (first | exact HC.o _ (HQ0.o.below (below_drewN W0 1)) | exact HC.o _ HQ1.o)
  ((go_at_call 100;refine (HH.o _).mono ?_;rintro e W1 ⟨rfl,hb1⟩;have HB1:=Aa (Ac HB0.o (Ac (below_drewN W0 1) hb1));have HQ1:=Aa (HQ0.o.below (Ac (below_drewN W0 1) hb1));clear hb1))
 cases gl
 all_goals
  as_aux_lemma=>
  go_wp2_with (go_at_call 104;refine (HN.o _ HB1.o).mono ?_;rintro e W2 ⟨rfl,hb2⟩;have HB2:=Aa (Ac HB1.o hb2);clear hb2)
  go_ret
  exact ⟨by simp,HB2.o⟩
set_option maxRecDepth 100000 in
set_option maxHeartbeats 2000000 in
theorem jX (k:Nat) (ow:Own) (w:World) (t:Value) (rows:List ND) (h:Tab k ow w t rows) (s:SQ) (main:Nat) (hm:main<rows.length) (gl:Bool) (hg:((main:Int) == (s.goal:Int))=gl) :
  Calls Tryz.prog 86 #[t,.agg (Ad s.left s.goal).toArray,.int .i64 12,.int .i64 (main:Int)] w fun e w'=>e = .returned (.bool (gl && ((rowAt rows main).kind == 4)))∧Below w.heap.size w w':=by
 have HB0:=Aa (Ab w (.cells (Ad s.left s.goal).toArray 86))
 have HQ0:=Aa (Ae.new w (Ad s.left s.goal) 86)
 have HL:=Aa (len_any k ow _ t rows (h.below HB0.o))
 have HH:=Aa (fun W'=>Qr W' s.left main (Nat.lt_of_lt_of_le hm h.ok.le))
 obtain ⟨n,hn⟩:∃ n,rowAt rows main=n:=⟨_,rfl⟩
 have HN:=Aa (Dc k ow w t rows h main hm n hn)
 rw [hn]
 obtain ⟨lf,hlf⟩:∃ lf,lf=s.left.testBit main:=⟨_,rfl⟩
 rw [← hlf] at HH
 try rw [← hlf]
 have hlen:((rows.length:Int)≤(main:Int))=False:=by simp;omega
 have hd:decide ((main:Int)<0)=false:=decide_eq_false (by omega)
 have hd2:decide ((rows.length:Int)≤(main:Int))=false:=decide_eq_false (by omega)
 obtain ⟨kd,nm,l,r⟩:=n
 simp only at HN ⊢
 have hfk:=fun W=>Ft (.int .i64 kd) (.string nm) (.int .i64 l) (.int .i64 r) W
 clear h hn hlf hlen
 have hu:Tryz.prog.underlying 77=some (.array 16 75):=by kernel_rfl
 have hi:(Tryz.prog.info? 77).map (·.size)=some (Ag s.left).length:=by rw [Bg];exact Nx
 have HC:Hid (∀ W',Ae W' w.heap.size (Ad s.left s.goal) 86→W'.cell? ⟨w.heap.size,16,none⟩=some (.int .i64 (s.goal:Int))∧W'.rangeAt w.heap.size 0 (Ag s.left)):=fun W' hb=>⟨hb.cell (Bl s.left s.goal),hb.range (Hm s.left s.goal)⟩
 go_enter Tryz.func86,Tryz.ntmps86
 go_wp2_with (go_at_call 31;refine HL.o.mono ?_;rintro e w1 ⟨rfl,rfl⟩)
 generalize (w.alloc (.cells (Ad s.left s.goal).toArray 86))=W0 at *
 go_region_held3 (fun W'=>W'.cell? ⟨w.heap.size,16,none⟩=some (.int .i64 (s.goal:Int))∧W'.rangeAt w.heap.size 0 (Ag s.left)) (first | exact HC.o _ (HQ0.o.below (below_drewN W0 1)) | exact HC.o _ HQ1.o)
  ((go_at_call 100;refine (HH.o _).mono ?_;rintro e W1 ⟨rfl,hb1⟩;have HB1:=Aa (Ac HB0.o (Ac (below_drewN W0 1) hb1));have HQ1:=Aa (HQ0.o.below (Ac (below_drewN W0 1) hb1));clear hb1))
 cases gl
 all_goals
  as_aux_lemma=>
  go_wp2_with (go_at_call 104;refine (HN.o _ HB1.o).mono ?_;rintro e W2 ⟨rfl,hb2⟩;have HB2:=Aa (Ac HB1.o hb2);clear hb2)
  go_ret
  exact ⟨by simp,HB2.o⟩
end Go.Dk
end
section
namespace Go.Dk
open Go.RowKit Go.Maps Go.MapKept
open Go.Proofs hiding intOf
section
variable {ops:Array Oper} {rest:List Oper} {o:Oper} {a:Act} {Q:Exit→Act→World→Prop} {W:World} {b m:Nat} {g:Int}
theorem eX (x:Operand) (hop:o.op = .load 86 x) (hw:Region.wanted o (yielded ops a.tmps)=true) (hx:a.eval x = .pointer (some ⟨b,0,none⟩)) {T:TypeId} (h:Ae W b (Ad m g) T) (hk:wpList Tryz.prog ops Q rest (a.put o.dst (.agg (Ad m g).toArray)) W):wpList Tryz.prog ops Q (o::rest) a W:=by
 obtain ⟨d,hu,hd⟩:=fR
 unfold wpList
 rw [if_pos hw]
 left
 exact wp_load_mid _ x hop b 0 hx (Ad m g) d (h.range (by simp)) hu hd (by rw [Ai];exact cE) hk
end
set_option maxRecDepth 100000 in
set_option maxHeartbeats 2000000 in
theorem qD (k:Nat) (ow:Own) (w:World) (t:Value) (rows:List ND) (h:Tab k ow w t rows) (s:SQ) (main:Nat) (kk:Int) (h0:¬ kk=0) (h2:(kk == 2)=false) (h8:(kk == 8)=false) (h9:(kk == 9)=false) (h11:(kk == 11)=false) (h12:(kk == 12)=false) (hm:main<rows.length) (gl:Bool) (hg:((main:Int) == (s.goal:Int))=gl) :
  Calls Tryz.prog 86 #[t,.agg (Ad s.left s.goal).toArray,.int .i64 kk,.int .i64 (main:Int)] w fun e w'=>e = .returned (.bool (s.left.testBit main && (onP rows s main == kk)))∧Below w.heap.size w w':=by
 have HB0:=Aa (Ab w (.cells (Ad s.left s.goal).toArray 86))
 have HQ0:=Aa (Ae.new w (Ad s.left s.goal) 86)
 have HL:=Aa (len_any k ow _ t rows (h.below HB0.o))
 have HO:Hid (∀ W,Below w.heap.size w W→Calls Tryz.prog 108 #[t,.agg (Ad s.left s.goal).toArray,.int .i64 (main:Int)] W fun e w'=>e = .returned (.int .i64 (onP rows s main))∧Below W.heap.size W w'):=fun W hb=>on_any k ow W t rows (h.below hb) s s.goal main hm
 obtain ⟨ov,hov⟩:∃ ov,ov=onP rows s main:=⟨_,rfl⟩
 rw [← hov] at HO ⊢
 clear hov
 have HH:=Aa (fun W'=>Qr W' s.left main (Nat.lt_of_lt_of_le hm h.ok.le))
 obtain ⟨n,hn⟩:∃ n,rowAt rows main=n:=⟨_,rfl⟩
 have HN:=Aa (Dc k ow w t rows h main hm n hn)
 obtain ⟨lf,hlf⟩:∃ lf,lf=s.left.testBit main:=⟨_,rfl⟩
 rw [← hlf] at HH
 try rw [← hlf]
 have hlen:((rows.length:Int)≤(main:Int))=False:=by simp;omega
 have hd:decide ((main:Int)<0)=false:=decide_eq_false (by omega)
 have hd2:decide ((rows.length:Int)≤(main:Int))=false:=decide_eq_false (by omega)
 obtain ⟨kd,nm,l,r⟩:=n
 simp only at HN ⊢
 have hfk:=fun W=>Ft (.int .i64 kd) (.string nm) (.int .i64 l) (.int .i64 r) W
 clear h hn hlf hlen
 have hu:Tryz.prog.underlying 77=some (.array 16 75):=by kernel_rfl
 have hi:(Tryz.prog.info? 77).map (·.size)=some (Ag s.left).length:=by rw [Bg];exact Nx
 have HC:Hid (∀ W',Ae W' w.heap.size (Ad s.left s.goal) 86→W'.cell? ⟨w.heap.size,16,none⟩=some (.int .i64 (s.goal:Int))∧W'.rangeAt w.heap.size 0 (Ag s.left)):=fun W' hb=>⟨hb.cell (Bl s.left s.goal),hb.range (Hm s.left s.goal)⟩
 go_enter Tryz.func86,Tryz.ntmps86
 go_wp2_with (go_at_call 31;refine HL.o.mono ?_;rintro e w1 ⟨rfl,rfl⟩)
 generalize (w.alloc (.cells (Ad s.left s.goal).toArray 86))=W0 at *
 go_region_held3 (fun W'=>W'.cell? ⟨w.heap.size,16,none⟩=some (.int .i64 (s.goal:Int))∧W'.rangeAt w.heap.size 0 (Ag s.left)) (first | exact HC.o _ (HQ0.o.below (below_drewN W0 1)) | exact HC.o _ HQ1.o)
  ((go_at_call 100;refine (HH.o _).mono ?_;rintro e W1 ⟨rfl,hb1⟩;have HB1:=Aa (Ac HB0.o (Ac (below_drewN W0 1) hb1));have HQ1:=Aa (HQ0.o.below (Ac (below_drewN W0 1) hb1));clear hb1))
 cases lf
 ·as_aux_lemma=>
  go_wp2_with (go_at_call 104;refine (HN.o _ HB1.o).mono ?_;rintro e W2 ⟨rfl,hb2⟩;have HB2:=Aa (Ac HB1.o hb2);clear hb2)
  go_ret
  exact ⟨by simp,HB2.o⟩
 ·as_aux_lemma=>
  go_wp2_with (first
   | (go_at_call 104;refine (HN.o _ HB1.o).mono ?_;rintro e W2 ⟨rfl,hb2⟩;have HB2:=Aa (Ac HB1.o hb2);have HQ2:=Aa (HQ1.o.below hb2);clear hb2)
   | (refine eX (.tmp 5) rfl (by first | rfl | simp [Region.wanted,yielded,h0]) rfl HQ2.o ?_)
   | (go_at_call 108;refine (HO.o _ HB2.o).mono ?_;rintro e W3 ⟨rfl,hb3⟩;have HB3:=Aa (Ac HB2.o hb3);clear hb3))
  go_ret
  exact ⟨by simp [h0],HB3.o⟩
end Go.Dk
end
section
namespace Go.Dk
open Go.RowKit Go.Maps Go.MapKept
open Go.Proofs hiding intOf
theorem take_set (l:List Value) (k:Nat) (v:Value) (h:k<l.length):(l.set k v).take (k+1)=l.take k++[v]:=by
 rw [List.take_succ_eq_append_getElem (by simpa using h),List.take_set_of_le (Nat.le_refl _)]
 simp
theorem eW (vs:List Value):∀ (k:Nat) (cs:Array Value),cs.size=k+vs.length→List.foldl (fun (cs:Array Value) (x:Value × Nat)=>cs.setIfInBounds x.2 x.1) cs (vs.zipIdx k)=(cs.toList.take k++vs).toArray:=by
 induction vs with
 | nil=>
  intro k cs h
  have e:cs.toList.take k=cs.toList:=List.take_of_length_le (by simp at h ⊢;omega)
  simp [e]
 | cons v vs ih=>
  intro k cs h
  rw [List.zipIdx_cons,List.foldl_cons,ih (k+1) _ (by simp at h ⊢;omega)]
  rw [Array.toList_setIfInBounds,take_set _ _ _ (by simp at h ⊢;omega)]
  simp
theorem Fh (m:Nat) (g:Int):List.foldl (fun (cs:Array Value) (x:Value × Nat)=>cs.setIfInBounds x.2 x.1) (#[.int .u64 0,.int .u64 0,.int .u64 0,.int .u64 0,.int .u64 0,.int .u64 0,.int .u64 0,.int .u64 0,.int .u64 0,.int .u64 0,.int .u64 0,.int .u64 0,.int .u64 0,.int .u64 0,.int .u64 0,.int .u64 0,.int .i64 0]:Array Value) (Ad m g).zipIdx=(Ad m g).toArray:=by
 rw [eW (Ad m g) 0 _ (by rw [Ai];rfl)]
 simp
set_option maxRecDepth 100000 in
set_option maxHeartbeats 2000000 in
theorem nU (k:Nat) (ow:Own) (w:World) (t:Value) (rows:List ND) (h:Tab k ow w t rows) (s:SQ) (main:Nat) (hm:main<rows.length) :
  Calls Tryz.prog 87 #[t,.agg (Ad s.left s.goal).toArray,.int .i64 5,.int .i64 (main:Int)] w fun e w'=>∃ b,e = .returned (.tuple #[.slice (some ⟨b,0,none⟩) 1 1,.int .i64 0])∧w.heap.size≤b∧Ae w' b (Ad (Be s.left main) s.goal) 86∧Below w.heap.size w w':=by
 have HB0:=Aa (Ab w (.cells (Ad s.left s.goal).toArray 86))
 have HQ0:=Aa (Ae.new w (Ad s.left s.goal) 86)
 obtain ⟨x,hx⟩:∃ n,rowAt rows main=n:=⟨_,rfl⟩
 have HN1:=Aa (Dc k ow w t rows h main hm x hx)
 obtain ⟨kd,nm,l,r⟩:=x
 obtain ⟨y,hy⟩:∃ n,nodeAt rows l=n:=⟨_,rfl⟩
 have HN2:Hid (∀ W,Below w.heap.size w W→Calls Tryz.prog 104 #[t,.int .i64 l] W fun e w'=>e = .returned (.agg y.cells.toArray)∧Below W.heap.size W w'):=fun W hb=>hy▸Eb k ow W t rows (h.below hb) l
 obtain ⟨kd2,nm2,l2,r2⟩:=y
 have hmx:main<1024:=Nat.lt_of_lt_of_le hm h.ok.le
 have HM:=Aa hmx
 simp only at HN1
 clear h hx hy hmx hm
 have hsl:=Ai (Be s.left main) s.goal
 go_enter Tryz.func87,Tryz.ntmps87
 go_wp2_with (first
  | (go_at_call 104;refine (HN1.o _ HB0.o).mono ?_;rintro e W1 ⟨rfl,hb1⟩;have HB1:=Aa (Ac HB0.o hb1);have HQ1:=Aa (HQ0.o.below hb1);clear hb1 HN1)
  | (refine Aj Ds (.tmp 10) (.tmp 21) rfl rfl rfl (ys:=(ND.mk kd nm l r).cells) rfl (Ae.new W1 Do.cells 31) rfl rfl (cells_one _) ?_;intro W2 hb2 ho2;have c2:=hb2.cell (i:=2) rfl;have HX2:=Aa hb2;have HB12:=Aa ((Ab W1 _).trans (ho2.below (Nat.le_refl _)));have HB2:=Aa (HB1.o.trans (HB12.o.mono HB1.o.size));have HQ2:=Aa (HQ1.o.below HB12.o);clear hb2 ho2;simp only at c2)
  | (go_at_call 104;refine (HN2.o _ HB2.o).mono ?_;rintro e W3 ⟨rfl,hb3⟩;have HB3:=Aa (Ac HB2.o hb3);have HQ3:=Aa (HQ2.o.below hb3);have HX3:=Aa (HX2.o.below hb3);clear hb3 c2)
  | (refine Aj Ds (.tmp 11) (.tmp 25) rfl rfl rfl (ys:=(ND.mk kd2 nm2 l2 r2).cells) rfl (Ae.new W3 Do.cells 31) rfl rfl (cells_one _) ?_;intro W4 hb4 ho4;have HY4:=Aa hb4;have HB34:=Aa ((Ab W3 _).trans (ho4.below (Nat.le_refl _)));have HB4:=Aa (HB3.o.trans (HB34.o.mono HB3.o.size));have HQ4:=Aa (HQ3.o.below HB34.o);have HX4:=Aa (HX3.o.below HB34.o);clear hb4 ho4)
  | (refine Ah (.tmp 5) rfl rfl rfl HQ4.o ?_)
  | (refine Ar (.tmp 12) (.tmp 26) rfl rfl rfl rfl (Ae.new W4 (Ad 0 0) 86) (Ai _ _) ?_;intro W5 hb5 ho5;have HR5:=Aa hb5;have HB45:=Aa ((Ab W4 _).trans (ho5.below (Nat.le_refl _)));have HB5:=Aa (HB4.o.trans (HB45.o.mono HB4.o.size));have HQ5:=Aa (HQ4.o.below HB45.o);have HX5:=Aa (HX4.o.below HB45.o);have HY5:=Aa (HY4.o.below HB45.o);have HZ4:=Aa HB4.o.size;have HZ5:=Aa HB45.o.size;clear hb5 ho5)
  | (refine Ap (.tmp 27) rfl rfl rfl HQ5.o ?_)
  | (go_at_call 109;refine (Fg W5 s.left main HM.o).mono ?_;rintro e W6 ⟨rfl,hb6⟩;have HB6:=Aa (HB5.o.trans (hb6.mono HB5.o.size));have HR6:=Aa (HR5.o.below hb6);have HX6:=Aa (HX5.o.below hb6);have HY6:=Aa (HY5.o.below hb6);clear hb6)
  | (refine Au (.tmp 31) (.tmp 30) rfl rfl rfl rfl HR6.o ?_;intro W7 hb7 ho7;have HR7:=Aa hb7;have HB7:=Aa (HB6.o.trans (ho7.below HZ4.o));clear hb7 ho7)
  | (refine Ah (.tmp 12) rfl rfl rfl HR7.o ?_))
 rw [Fh]
 exact bodyPost_ret (v:=.tuple #[.slice (some ⟨W7.heap.size,0,none⟩) 1 1,.int .i64 0]) (by simp [results,Tryz.results87,go_sem]) rfl ⟨W7.heap.size,rfl,HB7.o.size,Ae.new W7 _ _,Ac HB7.o (Ab _ _)⟩
end Go.Dk
end
section
namespace Go.Dk
open Go.RowKit Go.Maps Go.MapKept
open Go.Proofs hiding intOf
set_option maxRecDepth 100000 in
set_option maxHeartbeats 2000000 in
theorem oZ (k:Nat) (ow:Own) (w:World) (t:Value) (rows:List ND) (h:Tab k ow w t rows) (s:SQ) (main:Nat) (hm:main<rows.length) (kd:Int) (nm:ByteArray) (l:Int) (r:Nat) (hx:rowAt rows main=⟨kd,nm,l,(r:Int)⟩) (hr:r<1024) :
  Calls Tryz.prog 87 #[t,.agg (Ad s.left s.goal).toArray,.int .i64 4,.int .i64 (main:Int)] w fun e w'=>∃ b,e = .returned (.tuple #[.slice (some ⟨b,0,none⟩) 1 1,.int .i64 0])∧w.heap.size≤b∧Ae w' b (Ad (Aw (Be s.left main) r) s.goal) 86∧Below w.heap.size w w':=by
 have HB0:=Aa (Ab w (.cells (Ad s.left s.goal).toArray 86))
 have HQ0:=Aa (Ae.new w (Ad s.left s.goal) 86)
 have HN1:=Aa (Dc k ow w t rows h main hm _ hx)
 have HR:=Aa hr
 clear hr
 obtain ⟨y,hy⟩:∃ n,nodeAt rows l=n:=⟨_,rfl⟩
 have HN2:Hid (∀ W,Below w.heap.size w W→Calls Tryz.prog 104 #[t,.int .i64 l] W fun e w'=>e = .returned (.agg y.cells.toArray)∧Below W.heap.size W w'):=fun W hb=>hy▸Eb k ow W t rows (h.below hb) l
 obtain ⟨kd2,nm2,l2,r2⟩:=y
 have hmx:main<1024:=Nat.lt_of_lt_of_le hm h.ok.le
 have HM:=Aa hmx
 simp only at HN1
 clear h hx hy hmx hm
 go_enter Tryz.func87,Tryz.ntmps87
 go_wp2_with (first
  | (go_at_call 104;refine (HN1.o _ HB0.o).mono ?_;rintro e W1 ⟨rfl,hb1⟩;have HB1:=Aa (Ac HB0.o hb1);have HQ1:=Aa (HQ0.o.below hb1);clear hb1 HN1)
  | (refine Aj Ds (.tmp 10) (.tmp 21) rfl rfl rfl (ys:=(ND.mk kd nm l (r:Int)).cells) rfl (Ae.new W1 Do.cells 31) rfl rfl (cells_one _) ?_;intro W2 hb2 ho2;have c2:=hb2.cell (i:=2) rfl;have HX2:=Aa hb2;have HB12:=Aa ((Ab W1 _).trans (ho2.below (Nat.le_refl _)));have HB2:=Aa (HB1.o.trans (HB12.o.mono HB1.o.size));have HQ2:=Aa (HQ1.o.below HB12.o);clear hb2 ho2;simp only at c2)
  | (go_at_call 104;refine (HN2.o _ HB2.o).mono ?_;rintro e W3 ⟨rfl,hb3⟩;have HB3:=Aa (Ac HB2.o hb3);have HQ3:=Aa (HQ2.o.below hb3);have HX3:=Aa (HX2.o.below hb3);clear hb3 c2)
  | (refine Aj Ds (.tmp 11) (.tmp 25) rfl rfl rfl (ys:=(ND.mk kd2 nm2 l2 r2).cells) rfl (Ae.new W3 Do.cells 31) rfl rfl (cells_one _) ?_;intro W4 hb4 ho4;have HY4:=Aa hb4;have HB34:=Aa ((Ab W3 _).trans (ho4.below (Nat.le_refl _)));have HB4:=Aa (HB3.o.trans (HB34.o.mono HB3.o.size));have HQ4:=Aa (HQ3.o.below HB34.o);have HX4:=Aa (HX3.o.below HB34.o);clear hb4 ho4)
  | (refine Ah (.tmp 5) rfl rfl rfl HQ4.o ?_)
  | (refine Ar (.tmp 12) (.tmp 26) rfl rfl rfl rfl (Ae.new W4 (Ad 0 0) 86) (Ai _ _) ?_;intro W5 hb5 ho5;have HR5:=Aa hb5;have HB45:=Aa ((Ab W4 _).trans (ho5.below (Nat.le_refl _)));have HB5:=Aa (HB4.o.trans (HB45.o.mono HB4.o.size));have HQ5:=Aa (HQ4.o.below HB45.o);have HX5:=Aa (HX4.o.below HB45.o);have HY5:=Aa (HY4.o.below HB45.o);have HZ4:=Aa HB4.o.size;have HZ5:=Aa HB45.o.size;clear hb5 ho5)
  | (refine Ap (.tmp 27) rfl rfl rfl HQ5.o ?_)
  | (go_at_call 109;refine (Fg W5 s.left main HM.o).mono ?_;rintro e W6 ⟨rfl,hb6⟩;have HB6:=Aa (HB5.o.trans (hb6.mono HB5.o.size));have HR6:=Aa (HR5.o.below hb6);have HX6:=Aa (HX5.o.below hb6);have HY6:=Aa (HY5.o.below hb6);clear hb6)
  | (refine Au (.tmp 31) (.tmp 30) rfl rfl rfl rfl HR6.o ?_;intro W7 hb7 ho7;have HR7:=Aa hb7;have HX7:=Aa (HX6.o.only ho7 (Nat.ne_of_lt HX4.o.lt));have c7:=HX7.o.cell (i:=3) rfl;have HB7:=Aa (HB6.o.trans (ho7.below HZ4.o));clear hb7 ho7;simp only at c7)
  | (refine Ah (.tmp 12) rfl rfl rfl HR7.o ?_)
  | (go_at_call 110;refine (Jg (W7.alloc (.cells #[.int .i64 (r:Int)] 3)) (Be s.left main) s.goal W7.heap.size 0 1 [r] (by simp) (by simpa using HR.o) (fun j hj=>by simp at hj;subst hj;exact World.cell?_alloc_at _ _ _ _ rfl)).mono ?_;rintro e W9 ⟨rfl,hb9⟩;rw [Hy];have HB9:=Aa ((Ac HB7.o (Ab _ _)).trans (hb9.mono (Ac HB7.o (Ab _ _)).size));have hsl:=Ai (Be s.left main ||| 1 <<< r) s.goal;clear hb9))
 rw [Fh]
 exact bodyPost_ret (v:=.tuple #[.slice (some ⟨W9.heap.size,0,none⟩) 1 1,.int .i64 0]) (by simp [results,Tryz.results87,go_sem]) rfl ⟨W9.heap.size,rfl,HB9.o.size,Ae.new W9 _ _,Ac HB9.o (Ab _ _)⟩
theorem oM (W:World) (l r:Nat):∀ j (h:j < [l,r].length),(W.alloc (.cells #[.int .i64 (l:Int),.int .i64 (r:Int)] 3)).cell? ⟨W.heap.size,0+j,none⟩=some (.int .i64 (([l,r][j]:Nat):Int)):=fun j hj=>by
 match j,hj with
 | 0,_=>exact World.cell?_alloc_at _ _ _ _ rfl
 | 1,_=>exact World.cell?_alloc_at _ _ _ _ rfl
 | j+2,hj=>exact absurd hj (by simp)
theorem eU (m a b:Nat):m ||| Df [a,b]=Aw (Aw m a) b:=by
 simp [Df,Aw,Nat.or_assoc]
set_option maxRecDepth 100000 in
set_option maxHeartbeats 2000000 in
theorem pD (k:Nat) (ow:Own) (w:World) (t:Value) (rows:List ND) (h:Tab k ow w t rows) (s:SQ) (main:Nat) (hm:main<rows.length) (kd:Int) (nm:ByteArray) (l r:Nat) (hx:rowAt rows main=⟨kd,nm,(l:Int),(r:Int)⟩) (hl:l<1024) (hr:r<1024) :
  Calls Tryz.prog 87 #[t,.agg (Ad s.left s.goal).toArray,.int .i64 3,.int .i64 (main:Int)] w fun e w'=>∃ b,e = .returned (.tuple #[.slice (some ⟨b,0,none⟩) 1 1,.int .i64 0])∧w.heap.size≤b∧Ae w' b (Ad (Aw (Aw (Be s.left main) l) r) s.goal) 86∧Below w.heap.size w w':=by
 have HB0:=Aa (Ab w (.cells (Ad s.left s.goal).toArray 86))
 have HQ0:=Aa (Ae.new w (Ad s.left s.goal) 86)
 have HN1:=Aa (Dc k ow w t rows h main hm _ hx)
 have HR:=Aa hr
 have HLR:Hid (∀ n ∈ [l,r],n<1024):=fun n hn=>by
  simp at hn
  rcases hn with rfl | rfl
  ·exact hl
  ·exact hr
 clear hr hl
 obtain ⟨y,hy⟩:∃ n,nodeAt rows (l:Int)=n:=⟨_,rfl⟩
 have HN2:Hid (∀ W,Below w.heap.size w W→Calls Tryz.prog 104 #[t,.int .i64 (l:Int)] W fun e w'=>e = .returned (.agg y.cells.toArray)∧Below W.heap.size W w'):=fun W hb=>hy▸Eb k ow W t rows (h.below hb) (l:Int)
 obtain ⟨kd2,nm2,l2,r2⟩:=y
 have hmx:main<1024:=Nat.lt_of_lt_of_le hm h.ok.le
 have HM:=Aa hmx
 simp only at HN1
 clear h hx hy hmx hm
 go_enter Tryz.func87,Tryz.ntmps87
 go_wp2_with (first
  | (go_at_call 104;refine (HN1.o _ HB0.o).mono ?_;rintro e W1 ⟨rfl,hb1⟩;have HB1:=Aa (Ac HB0.o hb1);have HQ1:=Aa (HQ0.o.below hb1);clear hb1 HN1)
  | (refine Aj Ds (.tmp 10) (.tmp 21) rfl rfl rfl (ys:=(ND.mk kd nm (l:Int) (r:Int)).cells) rfl (Ae.new W1 Do.cells 31) rfl rfl (cells_one _) ?_;intro W2 hb2 ho2;have c2:=hb2.cell (i:=2) rfl;have HX2:=Aa hb2;have HB12:=Aa ((Ab W1 _).trans (ho2.below (Nat.le_refl _)));have HB2:=Aa (HB1.o.trans (HB12.o.mono HB1.o.size));have HQ2:=Aa (HQ1.o.below HB12.o);clear hb2 ho2;simp only at c2)
  | (go_at_call 104;refine (HN2.o _ HB2.o).mono ?_;rintro e W3 ⟨rfl,hb3⟩;have HB3:=Aa (Ac HB2.o hb3);have HQ3:=Aa (HQ2.o.below hb3);have HX3:=Aa (HX2.o.below hb3);clear hb3 c2)
  | (refine Aj Ds (.tmp 11) (.tmp 25) rfl rfl rfl (ys:=(ND.mk kd2 nm2 l2 r2).cells) rfl (Ae.new W3 Do.cells 31) rfl rfl (cells_one _) ?_;intro W4 hb4 ho4;have HY4:=Aa hb4;have HB34:=Aa ((Ab W3 _).trans (ho4.below (Nat.le_refl _)));have HB4:=Aa (HB3.o.trans (HB34.o.mono HB3.o.size));have HQ4:=Aa (HQ3.o.below HB34.o);have HX4:=Aa (HX3.o.below HB34.o);clear hb4 ho4)
  | (refine Ah (.tmp 5) rfl rfl rfl HQ4.o ?_)
  | (refine Ar (.tmp 12) (.tmp 26) rfl rfl rfl rfl (Ae.new W4 (Ad 0 0) 86) (Ai _ _) ?_;intro W5 hb5 ho5;have HR5:=Aa hb5;have HB45:=Aa ((Ab W4 _).trans (ho5.below (Nat.le_refl _)));have HB5:=Aa (HB4.o.trans (HB45.o.mono HB4.o.size));have HQ5:=Aa (HQ4.o.below HB45.o);have HX5:=Aa (HX4.o.below HB45.o);have HY5:=Aa (HY4.o.below HB45.o);have HZ4:=Aa HB4.o.size;have HZ5:=Aa HB45.o.size;clear hb5 ho5)
  | (refine Ap (.tmp 27) rfl rfl rfl HQ5.o ?_)
  | (go_at_call 109;refine (Fg W5 s.left main HM.o).mono ?_;rintro e W6 ⟨rfl,hb6⟩;have HB6:=Aa (HB5.o.trans (hb6.mono HB5.o.size));have HR6:=Aa (HR5.o.below hb6);have HX6:=Aa (HX5.o.below hb6);have HY6:=Aa (HY5.o.below hb6);clear hb6)
  | (refine Au (.tmp 31) (.tmp 30) rfl rfl rfl rfl HR6.o ?_;intro W7 hb7 ho7;have HR7:=Aa hb7;have HX7:=Aa (HX6.o.only ho7 (Nat.ne_of_lt HX4.o.lt));have c7:=HX7.o.cell (i:=3) rfl;have c6:=HX7.o.cell (i:=2) rfl;have HB7:=Aa (HB6.o.trans (ho7.below HZ4.o));clear hb7 ho7;simp only at c7 c6)
  | (refine Ah (.tmp 12) rfl rfl rfl HR7.o ?_)
  | (go_at_call 110;refine (Jg (W7.alloc (.cells #[.int .i64 (l:Int),.int .i64 (r:Int)] 3)) (Be s.left main) s.goal W7.heap.size 0 2 [l,r] (by simp) (HLR.o) (oM W7 l r)).mono ?_;rintro e W9 ⟨rfl,hb9⟩;rw [eU];have HB9:=Aa ((Ac HB7.o (Ab _ _)).trans (hb9.mono (Ac HB7.o (Ab _ _)).size));have hsl:=Ai (Aw (Aw (Be s.left main) l) r) s.goal;clear hb9))
 rw [Fh]
 exact bodyPost_ret (v:=.tuple #[.slice (some ⟨W9.heap.size,0,none⟩) 1 1,.int .i64 0]) (by simp [results,Tryz.results87,go_sem]) rfl ⟨W9.heap.size,rfl,HB9.o.size,Ae.new W9 _ _,Ac HB9.o (Ab _ _)⟩
end Go.Dk
end
