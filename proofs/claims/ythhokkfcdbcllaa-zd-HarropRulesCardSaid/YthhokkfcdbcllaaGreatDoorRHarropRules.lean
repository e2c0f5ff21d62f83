/- HarropRules: the row, for every input that a call can be given, where the library's table holds what its text lays; and the card, which ties the table to the text. Written by wip/rowc.py. -/
import Derived.Test.YthhokkfcdbcllaaGreatDoorCards
import Derived.Test.YthhokkfcdbcllaaGreatDoorTie
import Derived.ProofKit
import Derived.OpenShut
import Derived.ShutString
import Derived.ChangeOld
import Derived.SizedLaws
import Derived.Deep.DeepHandedRow
import Derived.Lib.LaidTab
import Derived.Outline
import Derived.IntWalk
import Derived.BigQuiet
import Derived.Deep.QuietTactic
import Derived.Test.YthhokkfcdbcllaaGreatDoorR01
import Derived.Test.YthhokkfcdbcllaaGreatDoorR02
import Derived.Test.YthhokkfcdbcllaaGreatDoorR03
import Derived.Test.YthhokkfcdbcllaaGreatDoorR04
import Derived.Test.YthhokkfcdbcllaaGreatDoorR05
import Derived.Test.YthhokkfcdbcllaaGreatDoorR06
import Derived.Test.YthhokkfcdbcllaaGreatDoorR07
import Derived.Test.YthhokkfcdbcllaaGreatDoorR08
import Derived.Test.YthhokkfcdbcllaaGreatDoorR09
import Derived.Test.YthhokkfcdbcllaaGreatDoorR10
import Derived.Test.YthhokkfcdbcllaaGreatDoorR11
import Derived.Test.YthhokkfcdbcllaaGreatDoorR12
import Derived.Test.YthhokkfcdbcllaaGreatDoorR13
import Derived.Test.YthhokkfcdbcllaaGreatDoorR14
import Derived.Test.YthhokkfcdbcllaaGreatDoorR15
import Derived.Test.YthhokkfcdbcllaaGreatDoorR16
import Derived.Test.YthhokkfcdbcllaaGreatDoorR17
import Derived.Test.YthhokkfcdbcllaaGreatDoorR18
import Derived.Test.YthhokkfcdbcllaaGreatDoorR19
import Derived.Test.YthhokkfcdbcllaaGreatDoorR20
import Derived.Test.YthhokkfcdbcllaaGreatDoorR21
import Derived.Test.YthhokkfcdbcllaaGreatDoorR22
section
namespace Go.Proofs.YthhokkfcdbcllaaGreatDoor
open Go.ChangeShapes Go.WideShapes Go.ChangeAt Go.RowKit
open Go.ChangeMaps (open_string shut_string)
theorem harropRules_own:ownKnob Tryz.prog.godebug=none:=by kernel_rfl
theorem harropRules_laidOut:laidOutB Tryz.prog=true:=by kernel_rfl
theorem harropRules_gTab : Tryz.prog.globalNamed "math/bits.deBruijn64tab" = some 0 := by kernel_rfl
theorem harropRules_gType:(Tryz.prog.globals[0]?).map (·.type)=some 177:=by kernel_rfl
theorem harropRules_c64:Tryz.prog.cellsOf 177=64:=by kernel_rfl
theorem harropRules_c1:Tryz.prog.cellsOf 5=1:=by kernel_rfl
theorem harropRules_table {W:World} (h:laidMetH Tryz.prog Rows.harropRulesRow.laid W):Dk.TabG W:=fun j hj=>by
 have t : Lib.TabIs Tryz.prog W "math/bits.deBruijn64tab" .u8 (Lib.deBruijn64tab.map fun n : Nat => (n : Int)) := Lib.tabIs_of_head (rest := []) harropRules_gTab harropRules_gType Tryz.underlying177 Tryz.underlying5 harropRules_c1 harropRules_c64 h
 exact Dk.tab_of t harropRules_gTab j hj
noncomputable def harropRules_world (os:Os):World:=
 { World.holding Tryz.prog os ⟨#[],#[],[]⟩ with heap:=(World.holding Tryz.prog os ⟨#[],#[],[]⟩).heap.modify 0 fun
  | .cells _ t frozen=>.cells (Lib.deBruijn64tab.map fun n:Nat=>(Value.int .u8 (n:Int))).toArray t frozen
  | o=>o }
theorem harropRules_met (os:Os):laidMet Tryz.prog Rows.harropRulesRow.laid ((harropRules_world os).forCall (fun _ _=>0) ⟨#[],#[.slice none 0 0,.slice none 0 0,.slice none 0 0,.int .i64 0,.int .i64 0],[]⟩).memory:=
 laidMet_of_run' 8 (by kernel_rfl) (by kernel_rfl)
theorem harropRules_reads (os:Os) {H:Type} (enc:TypeId × Value→H):∃ places,DataW.whole enc Tryz.prog ((harropRules_world os).forCall (fun _ _=>0) ⟨#[],#[.slice none 0 0,.slice none 0 0,.slice none 0 0,.int .i64 0,.int .i64 0],[]⟩).memory Tryz.f7.params.toList Rows.harropRulesSpec.vars false (#[.slice none 0 0,.slice none 0 0,.slice none 0 0,.int .i64 0,.int .i64 0]:Array Value).toList 8=some ([.nil,.nil,.nil,.lit (.int .i64 0),.lit (.int .i64 0)],[],places):=
 ⟨[],by kernel_rfl⟩
set_option maxRecDepth 100000 in
theorem harropRules_lifted (os:Os) (started:os.Started) (H:Type) (enc:TypeId × Value→H) (F:Stop.Interp) :
  ReturnsInHanded {} Tryz.checked os 7 .any ((OpenSpec.ofChange Rows.harropRulesSpec).preRow enc Tryz.prog Tryz.f7 Rows.harropRulesRow.domain false Rows.harropRulesRow.laid) (((OpenSpec.ofChange Rows.harropRulesSpec).at F).post enc Tryz.prog Tryz.f7 false true false false):=by
 obtain ⟨places,hx⟩:=harropRules_reads os enc
 refine returnsInHanded_of_row (C:=Tryz.checked) (s:=OpenSpec.ofChange Rows.harropRulesSpec) harropRules_own started (by kernel_rfl) Tryz.func7
  (witness_row_at (enc:=enc) (C:=Tryz.checked) false (harropRules_world os) #[.slice none 0 0,.slice none 0 0,.slice none 0 0,.int .i64 0,.int .i64 0] rfl (by kernel_rfl) (by kernel_rfl) (by kernel_rfl)
   (OpenSpec.preRow_of_cond 8 hx (by kernel_rfl) (fun k hk=>by cases hk) (by kernel_rfl) (harropRules_met os))) ?_
 intro W base args ds gs before hval0 hW _ _ hsz0 hL _ _
 have hTab:Dk.TabG W:=harropRules_table hL
 clear hL
 have hsz:(DataW.weightsEach Tryz.prog (Tryz.f7.params.toList++Rows.harropRulesSpec.plain.varTypes Tryz.prog) (ds++gs)).all (·≤reachBytes)=true:=hsz0
 clear hsz0
 have hval:∀ (j:Nat) t v,Tryz.f7.params[j]? = some t→args[j]? = some v→Value.okWide Tryz.prog W .any base t v:=hval0
 have hW':=hW
 obtain ⟨p,q,hA0,hV,rfl,hfz,hnd⟩:=hW
 have hA:DataW.TrodAll enc Tryz.prog W 0 (fun _=>true) true Tryz.f7.params.toList args.toList ds p:=hA0
 rw [Tryz.params7] at hA hval hsz
 obtain ⟨v0,vs0,d0,ds0,p0,q0,hargs,rfl,rfl,h0,r0⟩:=trodAll_cons hA
 obtain ⟨v1,vs1,d1,ds1,p1,q1,rfl,rfl,rfl,h1,r1⟩:=trodAll_cons r0
 obtain ⟨v2,vs2,d2,ds2,p2,q2,rfl,rfl,rfl,h2,r2⟩:=trodAll_cons r1
 obtain ⟨v3,vs3,d3,ds3,p3,q3,rfl,rfl,rfl,h3,r3⟩:=trodAll_cons r2
 obtain ⟨v4,vs4,d4,ds4,p4,q4,rfl,rfl,rfl,h4,r4⟩:=trodAll_cons r3
 obtain ⟨rfl,rfl,rfl⟩:=trodAll_nil r4
 obtain rfl:args = #[v0,v1,v2,v3,v4]:=by cases args;simp_all
 obtain ⟨rfl,rfl⟩:=trodVars_none hV
 have k0:=h0
 have lt0:∀ x ∈ p0,x.block<W.heap.size:=by obtain ⟨m,hm⟩:=k0;exact DataW.trod_lt m _ _ _ hm
 obtain ⟨rows0,hr0,hm0,hin0,hby0⟩:=Dk.open_nodes (hval 0 22 v0 rfl rfl) h0
 have hl0:=hby0 _ (Dk.sized_arg (j:=0) (t:=22) hsz rfl rfl)
 have k1:=h1
 have lt1:∀ x ∈ p1,x.block<W.heap.size:=by obtain ⟨m,hm⟩:=k1;exact DataW.trod_lt m _ _ _ hm
 obtain ⟨zs1,hr1,hm1,hin1,hby1⟩:=Dk.open_intsR (hval 1 23 v1 rfl rfl) h1
 have hl1:=hby1 _ (Dk.sized_arg (j:=1) (t:=23) hsz rfl rfl)
 have k2:=h2
 have lt2:∀ x ∈ p2,x.block<W.heap.size:=by obtain ⟨m,hm⟩:=k2;exact DataW.trod_lt m _ _ _ hm
 obtain ⟨zs2,hr2,hm2,hin2,hby2⟩:=Dk.open_intsR (hval 2 23 v2 rfl rfl) h2
 have hl2:=hby2 _ (Dk.sized_arg (j:=2) (t:=23) hsz rfl rfl)
 have k3:=h3
 have lt3:∀ x ∈ p3,x.block<W.heap.size:=by obtain ⟨m,hm⟩:=k3;exact DataW.trod_lt m _ _ _ hm
 obtain ⟨a3,rfl,e3,e3p,w3⟩:=open_int Tryz.underlying3 (hval 3 3 v3 rfl rfl) h3
 have k4:=h4
 have lt4:∀ x ∈ p4,x.block<W.heap.size:=by obtain ⟨m,hm⟩:=k4;exact DataW.trod_lt m _ _ _ hm
 obtain ⟨a4,rfl,e4,e4p,w4⟩:=open_int Tryz.underlying3 (hval 4 3 v4 rfl rfl) h4
 clear hA0 hval0
 refine (Dk.rulesLaw_any W hTab _ rows0 (fun n hn=>(hin0 n hn).nm) hr0 hm0 hl0 _ _ zs1 zs2 hr1 hr2 (by omega) (by omega) a3 a4).mono fun e W' ⟨he,bel⟩=>?_
 subst he
 exact ⟨_,rfl,_,_,_,[],_,[],hW',trodAll_mk1 (shut_bool Tryz.underlying4 _),(trodAll_cons_mk (Below.trod harropRules_laidOut (by kernel_rfl) (of_decide_eq_true (by kernel_rfl)) k0 bel lt0) (trodAll_cons_mk (Below.trod harropRules_laidOut (by kernel_rfl) (of_decide_eq_true (by kernel_rfl)) k1 bel lt1) (trodAll_cons_mk (Below.trod harropRules_laidOut (by kernel_rfl) (of_decide_eq_true (by kernel_rfl)) k2 bel lt2) (trodAll_cons_mk (Below.trod harropRules_laidOut (by kernel_rfl) (of_decide_eq_true (by kernel_rfl)) k3 bel lt3) (trodAll_cons_mk (Below.trod harropRules_laidOut (by kernel_rfl) (of_decide_eq_true (by kernel_rfl)) k4 bel lt4) trodAll_mk0))))),rfl,bel.frame _,fun h=>by cases h⟩
theorem harropRules_said:Rows.HarropRulesSaid:=
 OpenClaim.holds_of_cond 7 Tryz.f7 rfl rfl rfl rfl rfl rfl rfl ⟨rfl,rfl,rfl,rfl,rfl⟩ rfl rfl rfl rfl rfl (by kernel_rfl) Tryz.func7 (by kernel_rfl)
  (of_decide_eq_true (by kernel_rfl)) (by unfold Func.isWrapper;first | (rw [if_pos (by decide +kernel)];kernel_rfl) | (rw [if_neg (by decide +kernel)];exact ⟨rfl,rfl⟩))
  (fun os started H enc _ F=>by rw [OpenClaim.pre_eq_preRow];exact harropRules_lifted os started H enc F)
theorem harropRules_plain (f : FuncId) (fn : Func) (hf : Tryz.pinned.checked.prog.funcNamed "dictum/dictumlaw27.HarropRules" = some f) (hfn : Tryz.pinned.checked.prog.funcs[f]? = some fn) :
  false=Tryz.pinned.checked.prog.looks []∧∀ (j:Nat) t,fn.params[j]? = some t→Tryz.pinned.checked.prog.wantsStandIn t=false:=by
 obtain rfl : f = 7 := Option.some.inj ((show Tryz.prog.funcNamed "dictum/dictumlaw27.HarropRules" = some 7 by kernel_rfl).symm.trans hf) |>.symm
 obtain rfl:fn=Tryz.f7:=(Option.some.inj (Tryz.func7.symm.trans hfn)).symm
 refine ⟨by kernel_rfl,fun j t ht=>?_⟩
 rw [Tryz.params7] at ht
 have hm:=Array.mem_of_getElem? ht
 simp only [List.mem_toArray,List.mem_cons,List.not_mem_nil,or_false] at hm
 rcases hm with rfl | rfl | rfl | rfl | rfl
 ·exact (show Tryz.prog.wantsStandIn 22=false by kernel_rfl)
 ·exact (show Tryz.prog.wantsStandIn 23=false by kernel_rfl)
 ·exact (show Tryz.prog.wantsStandIn 23=false by kernel_rfl)
 ·exact (show Tryz.prog.wantsStandIn 3=false by kernel_rfl)
 ·exact (show Tryz.prog.wantsStandIn 3=false by kernel_rfl)
theorem harropRules_holds:Rows.HarropRulesCardSaid:=
 Claim7.holds_tied_plain_at .later [] _ _ _ _ harropRules_said (fun _ h=>by cases h) (by kernel_rfl) (fun _ h=>by cases h) harropRules_row_tie rfl ⟨rfl,rfl⟩ (by kernel_rfl) rfl harropRules_plain (by kernel_rfl)
#print axioms harropRules_holds
end Go.Proofs.YthhokkfcdbcllaaGreatDoor
end
