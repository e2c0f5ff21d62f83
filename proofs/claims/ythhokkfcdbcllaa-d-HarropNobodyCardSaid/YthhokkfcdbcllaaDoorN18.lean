/- Parts of the proof: Hi, Hl, Hm, N, Hs, Hr, Ho. -/
import Derived.Deep.DeepCutAuto
import Derived.Deep.CutBlock
import Derived.Deep.RegionLaw
import Derived.Deep.RegionHeld3
import Derived.ArgAppend
import Derived.Outline
import Derived.IntWalk
import Derived.BigQuiet
import Derived.Deep.QuietTactic
import Derived.Lib.LaidTab
import Derived.Test.YthhokkfcdbcllaaDoorN01
import Derived.Test.YthhokkfcdbcllaaDoorN02
import Derived.Test.YthhokkfcdbcllaaDoorN03
import Derived.Test.YthhokkfcdbcllaaDoorN04
import Derived.Test.YthhokkfcdbcllaaDoorN05
import Derived.Test.YthhokkfcdbcllaaDoorN06
import Derived.Test.YthhokkfcdbcllaaDoorN07
import Derived.Test.YthhokkfcdbcllaaDoorN08
import Derived.Test.YthhokkfcdbcllaaDoorN09
import Derived.Test.YthhokkfcdbcllaaDoorN10
import Derived.Test.YthhokkfcdbcllaaDoorN11
import Derived.Test.YthhokkfcdbcllaaDoorN12
import Derived.Test.YthhokkfcdbcllaaDoorN13
import Derived.Test.YthhokkfcdbcllaaDoorN14
import Derived.Test.YthhokkfcdbcllaaDoorN15
import Derived.Test.YthhokkfcdbcllaaDoorN16
import Derived.Test.YthhokkfcdbcllaaDoorN17
section
namespace Go.Dk
open Go.RowKit Go.Maps Go.MapKept Go.Shelf
open Go.Proofs hiding intOf
noncomputable def killP (rows : List ND) (a b : Int) (l : List HY) : Bool × Int :=
  if lookE rows [a, b] ≠ 0 then (false, 31)
  else if (putP rows a l).err ≠ 0 then (false, if (putP rows a l).err = 30 then 110 else (putP rows a l).err)
  else if (putP (putP rows a l).rows b l).err ≠ 0 then (false, if (putP (putP rows a l).rows b l).err = 30 then 110 else (putP (putP rows a l).rows b l).err)
  else if askE (putP (putP rows a l).rows b l).rows [] (putP rows a l).id.toNat ≠ 0 then (false, 110)
  else if askB (putP (putP rows a l).rows b l).rows [] (putP rows a l).id.toNat = false then (false, 0)
  else if askE (putP (putP rows a l).rows b l).rows [] (putP (putP rows a l).rows b l).id.toNat ≠ 0 then (false, 110)
  else (!askB (putP (putP rows a l).rows b l).rows [] (putP (putP rows a l).rows b l).id.toNat, 0)
/-- Put of formulas for names, in footprints. -/
theorem sput_F {F : FP} {w : World} {t : Value} {rows : List ND} (h : TabF F w t rows) (id : Int) (v : Value) (l : List HY) (hn : ∀ x ∈ l, x.name.size ≤ maxLen) (hv : Rd w v l.length 2 (hyCells l)) (hl : l.length * 16 ≤ 140737488355328) :
    Calls Tryd.prog 19 #[t, .int .i64 id, v] w (PutF F w t (putP rows id l)) := by
  refine (put07_any (colF F 1) w t v rows (h.col 1) id l hn hv hl).mono ?_
  rintro e w' ⟨he, ow', hk, ht⟩
  exact ⟨he, fun b => b < w'.heap.size ∧ ow' b = 1, ⟨hk.os, hk.tape, hk.output, hk.size, fun b hb hf => colF_iff.1 ((hk.own b hb).symm.trans hf.2), fun b hf => hf.1, fun b hb hn => hk.block b hb fun e => hn (colF_iff.1 e)⟩, fun b hf => hf.1, 1, ow', ht, fun b hb e => ⟨hb, e⟩⟩
/-- In the loop of Kills: the copy, an own row of numbers. -/
structure KS (F0 F : FP) (w W : World) (cb : Nat) (c : Value) (rows : List ND) (v : Value) (ids : List Int) : Prop where
  asks : Asks F W cb c rows
  kp : KeptF F0 w F W
  own : OwnI w.heap.size F W v ids
section
variable {F0 F : FP} {w W W' : World} {cb : Nat} {c v : Value} {rows : List ND} {ids : List Int}
theorem KS.below (h : KS F0 F w W cb c rows v ids) (hb : Below W.heap.size W W') : KS F0 F w W' cb c rows v ids :=
  ⟨h.asks.below hb, h.kp.trans (KeptF.of_below h.asks.tab.in_ hb), h.own.below hb⟩
theorem KS.put (h : KS F0 F w W cb c rows v ids) {p : Put} {e : Ending} (hp : PutF F W c p e W') : e = .returned (.tuple #[.int .i64 p.id, .int .i64 p.err]) ∧ ∃ F', KS F0 F' w W' cb c p.rows v ids := by
  obtain ⟨he, F', hk, ht⟩ := hp
  exact ⟨he, F', h.asks.put hk ht, h.kp.trans hk, h.own.kept hk⟩
theorem KS.app {w0 : World} {v' : Value} {x : Int} (h : KS F0 F w W cb c rows v ids) (hcb : cb < w.heap.size) (hown : W'.ownsRow w.heap.size 3 1 v' (ids.length + 1) (ints ids ++ [.int .i64 x])) (hg : W.grownBy W' v.ownBlock) (hat : v'.ownBlock = v.ownBlock ∨ v'.ownBlock = some w0.heap.size) (hz : W.heap.size ≤ w0.heap.size) : KS F0 F w W' cb c rows v' (ids ++ [x]) := by
  refine ⟨⟨?_, h.asks.tab.grown hg (fun b hb hf => h.own.out b hb hf), h.asks.out⟩, h.kp.later hg (fun b hb => (h.own.own.lt b hb).1), h.own.append hown hat h.asks.tab.in_ hz⟩
  exact hg.cell h.asks.cell (fun e => by have := (h.own.own.lt cb e.symm).1; omega)
end
/-- Behind j puts. -/
def KJ (rows : List ND) (a b : Int) (l : List HY) (j : Nat) (rows' : List ND) (ids : List Int) : Prop :=
  (j = 0 ∧ rows' = rows ∧ ids = []) ∨ (j = 1 ∧ (putP rows a l).err = 0 ∧ rows' = (putP rows a l).rows ∧ ids = [(putP rows a l).id]) ∨
    (j = 2 ∧ (putP rows a l).err = 0 ∧ (putP (putP rows a l).rows b l).err = 0 ∧ rows' = (putP (putP rows a l).rows b l).rows ∧ ids = [(putP rows a l).id, (putP (putP rows a l).rows b l).id])
theorem kj_get {rows : List ND} {a b : Int} {l : List HY} {j : Nat} {rows' : List ND} {ids : List Int} (h : KJ rows a b l j rows' ids) (hj : j < 2) {x : Int} (hx : [a, b][j]? = some x) (hE : lookE rows [a, b] = 0) :
    ((putP rows' x l).err = 0 → KJ rows a b l (j + 1) (putP rows' x l).rows (ids ++ [(putP rows' x l).id])) ∧ ((putP rows' x l).err ≠ 0 → killP rows a b l = (false, if (putP rows' x l).err = 30 then 110 else (putP rows' x l).err)) := by
  rcases h with ⟨rfl, rfl, rfl⟩ | ⟨rfl, h0, rfl, rfl⟩ | ⟨rfl, _⟩
  · have hxa : a = x := by simpa using hx
    subst hxa
    refine ⟨fun he => .inr (.inl ⟨rfl, he, rfl, rfl⟩), fun he => ?_⟩
    unfold killP; rw [if_neg (by simpa using hE), if_pos he]
  · have hxb : b = x := by simpa using hx
    subst hxb
    refine ⟨fun he => .inr (.inr ⟨rfl, h0, he, rfl, rfl⟩), fun he => ?_⟩
    unfold killP; rw [if_neg (by simpa using hE), if_neg (by simpa using h0), if_pos he]
  · omega
theorem kj_end {rows : List ND} (ok : Ok rows) {a b : Int} {l : List HY} {rows' : List ND} {ids : List Int} (h : KJ rows a b l 2 rows' ids) (hE : lookE rows [a, b] = 0) :
    ∃ x y : Nat, ids = [(x : Int), (y : Int)] ∧ x < rows'.length ∧ y < rows'.length ∧ killP rows a b l = if askE rows' [] x ≠ 0 then (false, 110) else if askB rows' [] x = false then (false, 0) else if askE rows' [] y ≠ 0 then (false, 110) else (!askB rows' [] y, 0) := by
  rcases h with ⟨h, _⟩ | ⟨h, _⟩ | ⟨_, h0, h1, rfl, rfl⟩
  · cases h
  · cases h
  · obtain ⟨ok1, _, x, hx, hxl, _⟩ := putP_img ok h0
    obtain ⟨_, hp2, y, hy, hyl, _⟩ := putP_img ok1 h1
    refine ⟨x, y, by rw [hx, hy], Nat.lt_of_lt_of_le hxl (prefix_length hp2), hyl, ?_⟩
    unfold killP
    rw [if_neg (by simpa using hE), if_neg (by simpa using h0), if_neg (by simpa using h1), hx, hy]
    rfl
def KiPost (w : World) (p : Bool × Int) (e : Ending) (w' : World) : Prop := e = .returned (.tuple #[.bool p.1, .int .i64 p.2]) ∧ Below w.heap.size w w'
theorem kiPost_mk {w w' : World} {p : Bool × Int} {a : Bool} {b : Int} (hp : p = (a, b)) (hb : Below w.heap.size w w') : KiPost w p (.returned (.tuple #[.bool a, .int .i64 b])) w' := by
  subst hp; exact ⟨rfl, hb⟩
/-- The blocks ahead of look. -/
structure KiF (w w3 : World) (a b : Int) : Prop where
  bel : Below w.heap.size w w3
  ls : ListsR w3 (.slice (some ⟨w.heap.size + 1, 0, none⟩) 1 1) [[a, b]]
theorem ki_frame (w : World) (a b : Int) : KiF w ((w.alloc (.cells #[.int .i64 a, .int .i64 b] 3)).alloc (.cells #[.slice (some ⟨w.heap.size, 0, none⟩) 2 2] 22)) a b :=
  ⟨below_trans (below_alloc _ _) (below_alloc _ _),
   lists1 (rdH _ (by simp) _ _ rfl rfl) ((rdH (n := 2) (size := 1) w (b := w.heap.size) rfl #[.int .i64 a, .int .i64 b] 3 rfl rfl).below (below_alloc _ _)) (by simp)⟩
theorem flat1 (a b : Int) : [[a, b]].flatten = [a, b] := by simp
set_option maxRecDepth 100000 in
set_option maxHeartbeats 4000000 in
theorem kills_any (F : FP) (w : World) (t v : Value) (rows : List ND) (h : TabF F w t rows) (hT : TabG w) (a b : Int) (l : List HY) (hn : ∀ x ∈ l, x.name.size ≤ maxLen) (hv : Rd w v l.length 2 (hyCells l)) (hl : l.length * 16 ≤ 140737488355328) :
    Calls Tryd.prog 10 #[t, .int .i64 a, .int .i64 b, v] w (KiPost w (killP rows a b l)) := by
  have H := Lib.hid h
  have HT := Lib.hid hT
  have HOK := Lib.hid h.ok
  have HFR := Lib.hid (ki_frame w a b)
  have HN := Lib.hid hn
  have HL := Lib.hid hl
  have HV := Lib.hid hv
  clear h hT hn hl hv
  by_cases hE : lookE rows [a, b] = 0
  case neg =>
    have HE := Lib.hid (lookE_bad hE)
    have HP : Hid (killP rows a b l = (false, 31)) := by unfold Hid killP; rw [if_pos hE]
    clear hE
    go_enter Tryd.func10, Tryd.ntmps10
    go_wp2_with fail
    generalize ((w.alloc (.cells #[.int .i64 a, .int .i64 b] 3)).alloc (.cells #[.slice (some ⟨w.heap.size, 0, none⟩) 2 2] 22)) = w3 at *
    refine (lookH_any 0 _ _ _ _ rows [[a, b]] ((H.out.col 0).below HFR.out.bel) HFR.out.ls (by simp)).mono ?_
    rintro e w4 ⟨rfl, hb4⟩
    rw [flat1, HE.out]
    have HB4 := Lib.hid (below_trans HFR.out.bel hb4)
    clear hb4
    go_wp2_with fail
    go_ret2
    exact kiPost_mk HP.out HB4.out
  case pos =>
    have HE := Lib.hid hE
    clear hE
    go_enter Tryd.func10, Tryd.ntmps10
    go_wp2_with fail
    generalize ((w.alloc (.cells #[.int .i64 a, .int .i64 b] 3)).alloc (.cells #[.slice (some ⟨w.heap.size, 0, none⟩) 2 2] 22)) = w3 at *
    refine (lookH_any 0 _ _ _ _ rows [[a, b]] ((H.out.col 0).below HFR.out.bel) HFR.out.ls (by simp)).mono ?_
    rintro e w4 ⟨rfl, hb4⟩
    rw [flat1, HE.out]
    have HB4 := Lib.hid (below_trans HFR.out.bel hb4)
    clear hb4
    go_wp2_with (go_at_call 15; refine (asker_any F _ t rows (H.out.below HB4.out)).mono ?_; rintro e w5 ⟨c, cb, Fc, rfl, hA5, hF5, hc5, hb5⟩; unfold askV; have HA5 := Lib.hid hA5; have HF5 : Hid (∀ b, Fc b → w.heap.size ≤ b) := (fun b hb => Nat.le_trans HB4.out.size (hF5 b hb)); have HB5 := Lib.hid (below_trans HB4.out hb5); clear hA5 hF5 hc5 hb5)
    have HS0 : Hid (KS Fc Fc (w5.alloc (.cells #[.int .i64 a, .int .i64 b] 3)) (w5.alloc (.cells #[.int .i64 a, .int .i64 b] 3)) cb c rows (.slice none 0 0) []) :=
      ⟨HA5.out.below (below_alloc _ _), KeptF.refl (HA5.out.tab.below (below_alloc _ _)).in_, OwnI.nil _ _ _⟩
    have HCB : Hid (cb < (w5.alloc (.cells #[.int .i64 a, .int .i64 b] 3)).heap.size) := by have := World.block_lt_of_cell? _ _ HA5.out.cell; simp at this; unfold Hid; simp; omega
    have HSL : Hid (∀ (F1 : FP) (W : World), KeptF Fc (w5.alloc (.cells #[.int .i64 a, .int .i64 b] 3)) F1 W → Rd W (.slice (some ⟨w5.heap.size, 0, none⟩) 2 2) 2 1 (ints [a, b])) := fun F1 W hk =>
      hk.rd (rd_lit w5 _ _ rfl rfl) (fun ad m k e hf => by cases e; exact Nat.lt_irrefl _ (HA5.out.tab.in_ _ hf))
    have HBW : Hid (∀ (F1 : FP) (W : World), KeptF Fc (w5.alloc (.cells #[.int .i64 a, .int .i64 b] 3)) F1 W → Below w.heap.size w W) := fun F1 W hk => by
      have h1 := below_trans HB5.out (below_alloc w5 (.cells #[.int .i64 a, .int .i64 b] 3))
      exact h1.trans (hk.below h1.size (fun b hb hf => by have := HF5.out b hf; omega))
    generalize (w5.alloc (.cells #[.int .i64 a, .int .i64 b] 3)) = w6 at *
    go_loopw [13, 38] (fun iv u W => ∃ (j : Nat) (F1 : FP) (rows1 : List ND) (ids : List Int), j ≤ 2 ∧ u = .int .i64 (j : Int) ∧ KS Fc F1 w6 W cb c rows1 iv ids ∧ KJ rows a b l j rows1 ids ∧ ids.length = j) (fun _ u _ => 2 - (intOf u).toNat)
    case atStart => exact ⟨0, Fc, rows, [], by omega, rfl, HS0.out, .inl ⟨rfl, rfl, rfl⟩, rfl⟩
    case round =>
      obtain ⟨j, F1, rows1, ids, hj, rfl, hs, hk, hlen⟩ := hrel
      have HS := Lib.hid hs; have HK := Lib.hid hk; have HLN := Lib.hid hlen
      obtain ⟨qa, qc, rfl⟩ := own_slice hs.own.own
      clear hs hk hlen
      by_cases hlt : j < 2
      · as_aux_lemma =>
        have hji : (j : Int) < 2 := by omega
        obtain ⟨ib, io, ic, x, he, hcx, hidx⟩ := ints_at (HSL.out _ _ HS.out.kp) hlt
        cases he
        rw [Nat.zero_add] at hcx
        have HJ := Lib.hid (kj_get HK.out hlt hidx HE.out)
        have HBR := Lib.hid (HBW.out _ _ HS.out.kp)
        have HPU := Lib.hid (sput_F HS.out.asks.tab x v l HN.out (HV.out.below HBR.out) HL.out)
        obtain ⟨p, hp⟩ : ∃ p, p = putP rows1 x l := ⟨_, rfl⟩
        rw [← hp] at HPU HJ
        clear hp hidx
        have HI2 : Hid (ids.length ≤ 2) := by have := HLN.out; unfold Hid; omega
        by_cases h30 : p.err = 30
        · have g30 : (p.err == 30) = true := by simpa using h30
          have hp := HJ.out.2 (by omega)
          rw [if_pos h30] at hp
          have HP := Lib.hid hp
          clear hp h30
          go_wp2_with (go_at_call 19; refine HPU.out.mono ?_; intro e w7 hp7; obtain ⟨rfl, F7, hs7⟩ := HS.out.put hp7; have HS7 := Lib.hid hs7; clear hs7 hp7)
          go_ret2
          exact kiPost_mk HP.out (HBW.out _ _ HS7.out.kp)
        · have g30 : (p.err == 30) = false := by simpa using h30
          by_cases h0 : p.err = 0
          · have hp := HJ.out.1 h0
            have HP := Lib.hid hp
            obtain ⟨prows, pid, perr⟩ := p
            simp only at h0 HP HPU g30
            subst h0
            clear hp h30
            go_wp2_with (first
              | (go_at_call 19; refine HPU.out.mono ?_; intro e w7 hp7; obtain ⟨rfl, F7, hs7⟩ := HS.out.put hp7; have HS7 := Lib.hid hs7; clear hs7 hp7)
              | (at_builtin; refine wp_append rfl (.tmp 54) (.tmp 56) 22 rfl w6.heap.size 3 _ 1 8 Tryd.underlying22 infoInt rfl (by decide) (by decide) _ ids.length (ints ids) rfl ((HS7.out.below (below_alloc w7 _)).own.own) _ 1 [.int .i64 pid] rfl (rd_one w7 _ _) (by simp [Value.oneCell']) (by have := HI2.out; omega) (by have := HS7.out.kp.size; simp; omega) ?_; intro v8 w8 hown8 hgr8 hat8 hnil8; have HS8 := Lib.hid ((HS7.out.below (below_alloc w7 _)).app HCB.out hown8 hgr8 hat8 (Nat.le_refl _)); clear hown8 hgr8 hat8 hnil8))
            exact ⟨⟨j + 1, F7, _, _, by omega, by go_num, HS8.out, HP.out, by rw [List.length_append, HLN.out]; rfl⟩, by simp [intOf]; omega⟩
          · have g0 : (p.err != 0) = true := by simpa using h0
            have hp := HJ.out.2 h0
            rw [if_neg h30] at hp
            have HP := Lib.hid hp
            clear hp h30 h0
            go_wp2_with (go_at_call 19; refine HPU.out.mono ?_; intro e w7 hp7; obtain ⟨rfl, F7, hs7⟩ := HS.out.put hp7; have HS7 := Lib.hid hs7; clear hs7 hp7)
            go_ret2
            exact kiPost_mk HP.out (HBW.out _ _ HS7.out.kp)
      · as_aux_lemma =>
        obtain rfl : j = 2 := by omega
        obtain ⟨x, y, hids, hx, hy, hkp⟩ := kj_end HOK.out HK.out HE.out
        subst hids
        have HXY : Hid (x < rows1.length ∧ y < rows1.length) := ⟨hx, hy⟩
        have HP := Lib.hid hkp
        clear hkp hx hy HK HLN
        obtain ⟨ib, io, ic, z, he, hc0, hz⟩ := ints_at (k := 0) HS.out.own.rd (by simp)
        cases he
        obtain ⟨ib, io, ic, z1, he, hc1, hz1⟩ := ints_at (k := 1) HS.out.own.rd (by simp)
        cases he
        simp only [List.getElem?_cons_zero, List.getElem?_cons_succ, Option.some.injEq] at hz hz1
        subst hz
        subst hz1
        have HBR := Lib.hid (HBW.out _ _ HS.out.kp)
        have HASK : Hid (∀ (W : World) (n : Nat), Below wr.heap.size wr W → n < rows1.length → Calls Tryd.prog 26 #[.slice none 0 0, .int .i64 (n : Int), .pointer (some ⟨cb, 0, none⟩)] W fun e w' => e = .returned (.tuple #[.bool (askB rows1 [] n), .int .i64 (askE rows1 [] n)]) ∧ Below W.heap.size W w') :=
          fun W n hb hn => ask_any F1 W cb c rows1 (HS.out.asks.below hb) ((HT.out.below HBR.out).below hb) _ [] (rd_nil W) (by simp) (by simp) n hn
        rw [Nat.add_zero] at hc0
        go_wp2_with fail
        refine (HASK.out _ x (Below.refl _ _) HXY.out.1).mono ?_
        rintro e w7 ⟨rfl, hb7⟩
        have HB7 := Lib.hid hb7
        have hc7 : w7.cell? ⟨ib, io + 1, none⟩ = some (.int .i64 (y : Int)) := (hb7.cell (World.block_lt_of_cell? _ _ hc1)).trans hc1
        clear hb7 hc0 hc1
        rcases askE_cases rows1 [] x with he0 | he0
        · rw [he0]
          cases hbp : askB rows1 [] x with
          | false =>
            have hp := HP.out
            rw [he0, hbp, if_neg (by simp), if_pos rfl] at hp
            have HP2 := Lib.hid hp
            clear hp he0 hbp
            go_wp2_with fail
            go_ret2
            exact kiPost_mk HP2.out (below_trans HBR.out HB7.out)
          | true =>
            have hp := HP.out
            rw [he0, hbp, if_neg (by simp), if_neg (by simp)] at hp
            have HP2 := Lib.hid hp
            clear hp he0 hbp
            go_wp2_with fail
            refine (HASK.out _ y HB7.out HXY.out.2).mono ?_
            rintro e w8 ⟨rfl, hb8⟩
            have HB8 := Lib.hid (below_trans (below_trans HBR.out HB7.out) hb8)
            clear hb8
            rcases askE_cases rows1 [] y with hy0 | hy0
            · rw [hy0]
              have hp := HP2.out
              rw [hy0, if_neg (by simp)] at hp
              have HP3 := Lib.hid hp
              clear hp hy0
              generalize askB rows1 [] y = by' at *
              cases by' with
              | false =>
                go_wp2_with fail
                go_ret2
                exact kiPost_mk HP3.out HB8.out
              | true =>
                go_wp2_with fail
                go_ret2
                exact kiPost_mk HP3.out HB8.out
            · rw [hy0]
              have hp := HP2.out
              rw [hy0, if_pos (by simp)] at hp
              have HP3 := Lib.hid hp
              clear hp hy0
              go_wp2_with fail
              go_ret2
              exact kiPost_mk HP3.out HB8.out
        · rw [he0]
          have hp := HP.out
          rw [he0, if_pos (by simp)] at hp
          have HP2 := Lib.hid hp
          clear hp he0
          go_wp2_with fail
          go_ret2
          exact kiPost_mk HP2.out (below_trans HBR.out HB7.out)
end Go.Dk
end

section
namespace Go.Dk
def h27 : List ND := [⟨1, ⟨#[112]⟩, 0, 0⟩, ⟨1, ⟨#[113]⟩, 0, 0⟩, ⟨2, ⟨#[]⟩, 0, 0⟩, ⟨4, ⟨#[]⟩, 0, 1⟩, ⟨5, ⟨#[]⟩, 0, 3⟩, ⟨5, ⟨#[]⟩, 0, 2⟩, ⟨4, ⟨#[]⟩, 0, 5⟩]
def v27 : List ND := h27 ++ [⟨4, ⟨#[]⟩, 1, 0⟩, ⟨5, ⟨#[]⟩, 5, 7⟩, ⟨5, ⟨#[]⟩, 5, 0⟩, ⟨5, ⟨#[]⟩, 5, 1⟩]
set_option maxRecDepth 100000
theorem h27_is5 : isP h27 5 = (true, 0) := by kernel_rfl
theorem h27_is4 : isP h27 4 = (false, 0) := by kernel_rfl
theorem h27_d1 : disjP h27 [0] 3 = (0, 0) := by kernel_rfl
theorem h27_d2 : disjP h27 [3] 3 = (0, 270) := by kernel_rfl
theorem h27_d3 : disjP h27 [] 6 = (0, 2) := by kernel_rfl
theorem h27_ad : admP h27 [0] [2] 1 5 = (2, 0) := by kernel_rfl
theorem h27_vi : visserP h27 [0] [2] 1 0 = ⟨v27, 8, [9, 10, 9], 0⟩ := by kernel_rfl
theorem below_h {rows : List ND} {i : Nat} {l : List Nat} (hs : l = (List.range (i + 1)).filter (fun j => decide (j ∈ l))) (h : ∀ j, Reach rows i j ↔ j ∈ l) : below rows i = l := by
  have : below rows i = (List.range (i + 1)).filter (fun j => decide (j ∈ l)) := by
    unfold below
    congr 1
    funext j
    simp [h]
  rw [this, ← hs]
theorem reach_leafH {rows : List ND} {i : Nat} {n : ND} (hn : rows[i]? = some n) (hk : n.kind < 3) (j : Nat) : Reach rows i j ↔ j = i := by
  constructor
  · intro h
    cases h with
    | refl => rfl
    | left hi hk2 _ => rw [hn] at hi; cases hi; omega
    | right hi hk2 _ => rw [hn] at hi; cases hi; omega
  · rintro rfl; exact .refl _
def by27 : List HY := [⟨⟨#[113]⟩, 5⟩]
theorem v27_b1 : below v27 1 = [1] := by
  refine below_h (by decide) fun j => ?_
  rw [reach_leafH (n := ⟨1, ⟨#[113]⟩, 0, 0⟩) rfl (by decide)]
  simp
theorem v27_b0 : below v27 0 = [0] := by
  refine below_h (by decide) fun j => ?_
  rw [reach_leafH (n := ⟨1, ⟨#[112]⟩, 0, 0⟩) rfl (by decide)]
  simp
theorem v27_p1 : putP v27 1 by27 = ⟨v27, 5, 0⟩ := by
  unfold putP
  rw [if_neg (by decide), if_neg (by decide), if_neg (by decide)]
  unfold anewP
  rw [show Int.toNat 1 = 1 from rfl, v27_b1]
  kernel_rfl
theorem v27_p0 : putP v27 0 by27 = ⟨v27, 0, 0⟩ := by
  unfold putP
  rw [if_neg (by decide), if_neg (by decide), if_neg (by decide)]
  unfold anewP
  rw [show Int.toNat 0 = 0 from rfl, v27_b0]
  kernel_rfl
theorem v27_a : askE v27 [] 5 = 0 ∧ askB v27 [] 5 = false := by
  constructor <;> kernel_rfl
theorem v27_k : killP v27 1 0 by27 = (false, 0) := by
  have h := v27_a
  unfold killP
  rw [v27_p1]
  simp only
  rw [v27_p0]
  simp only [show (5 : Int).toNat = 5 from rfl, h.1, h.2]
  rfl
end Go.Dk
end

section
namespace Go.Dk
open Go.RowKit Go.Maps Go.MapKept Go.Shelf
open Go.Proofs hiding intOf
/-- A table of rows that fit, of new blocks. -/
theorem from_F (w : World) (v : Value) (rows : List ND) (hn : ∀ n ∈ rows, n.name.size ≤ maxLen) (hr : Rd w v rows.length 4 (nodeCells rows)) (hm : rows.length ≤ maxLen) (h0 : fromE [] rows = 0) :
    Calls Tryd.prog 11 #[v] w fun e w' => ∃ t F, e = .returned (.tuple #[t, .int .i64 0]) ∧ TabF F w' t rows ∧ (∀ b, F b → w.heap.size ≤ b) ∧ Below w.heap.size w w' := by
  refine (from_any 1 (fun _ => 0) w v rows hn hr hm).mono ?_
  rintro e w' ⟨t, he, hb, ht, _⟩
  rw [h0] at he
  subst he
  obtain ⟨ow, hk, ht⟩ := ht h0
  refine ⟨t, _, rfl, TabF.of_tab ht, fun b hb => ?_, hb⟩
  apply Classical.byContradiction
  intro hn
  have := hk.own b (by omega)
  rw [hb.2] at this
  cases this
theorem slice_block {b o n m n' m' : Nat} {ad : Addr} (h : (Value.slice (some ⟨b, o, none⟩) n m) = .slice (some ad) n' m') : ad.block = b := by cases h; rfl
set_option maxRecDepth 100000 in
set_option maxHeartbeats 4000000 in
theorem heads27_any (w : World) (hT : TabG w) : Calls Tryd.prog 5 #[] w fun e w' => e = .returned (.bool true) ∧ Below w.heap.size w w' := by
  have HT := Lib.hid hT
  have HF : Hid (∀ W : World, Below w.heap.size w W → ∀ v, Rd W v h27.length 4 (nodeCells h27) → Calls Tryd.prog 11 #[v] W fun e w' => ∃ t F, e = .returned (.tuple #[t, .int .i64 0]) ∧ TabF F w' t h27 ∧ (∀ b, F b → w.heap.size ≤ b) ∧ Below W.heap.size W w') := fun W hb v hr =>
    (from_F W v h27 (by decide) hr (by decide) (by kernel_rfl)).mono fun e w' ⟨t, F, a, b, c, d⟩ => ⟨t, F, a, b, fun x hx => Nat.le_trans hb.size (c x hx), d⟩
  clear hT
  go_enter Tryd.func5, Tryd.ntmps5
  go_wp2_with fail
  refine (HF.out _ (below_alloc _ _) _ (rd_lit (n := 7) (size := 4) w _ _ rfl rfl)).mono ?_
  rintro e w2 ⟨t, F, rfl, ht2, hf2, hb2⟩
  have HT2 := Lib.hid ht2
  have HN2 := Lib.hid hf2
  have HB2 := Lib.hid (below_trans (below_alloc w _) hb2)
  have HG2 := Lib.hid (HT.out.below HB2.out)
  clear ht2 hf2 hb2 HF
  have HIS : Hid (∀ (W : World) (id : Int) (b : Bool), Below w2.heap.size w2 W → isP h27 id = (b, 0) → Calls Tryd.prog 6 #[t, .int .i64 id] W fun e w' => e = .returned (.tuple #[.bool b, .int .i64 0]) ∧ Below W.heap.size W w') := fun W id b hb he => by
    have := is_any F W t h27 (HT2.out.below hb) id
    rwa [he] at this
  have HDJ : Hid (∀ (W : World) (v : Value) (zs : List Int) (g x y : Int), Below w2.heap.size w2 W → Rd W v zs.length 1 (ints zs) → zs.length ≤ 1 → disjP h27 zs g = (x, y) → Calls Tryd.prog 7 #[t, v, .int .i64 g] W fun e w' => e = .returned (.tuple #[.int .i64 x, .int .i64 y]) ∧ Below W.heap.size W w') := fun W v zs g x y hb hr hl he => by
    have := disj_any F W t v h27 (HT2.out.below hb) (HG2.out.below hb) zs hr (by omega) g
    rw [he] at this
    exact this
  have e1 : (.int .i64 5 : Value) = .int .i64 5 := rfl
  go_wp2_with fail
  refine (HIS.out w2 5 true (Below.refl _ _) h27_is5).mono ?_
  rintro e w3 ⟨rfl, hb3⟩
  have HB3 := Lib.hid hb3
  clear hb3
  go_wp2_with fail
  refine (HIS.out w3 4 false HB3.out h27_is4).mono ?_
  rintro e w4 ⟨rfl, hb4⟩
  have HB4 := Lib.hid (below_trans HB3.out hb4)
  clear hb4 HB3
  go_wp2_with fail
  refine (HDJ.out (w4.alloc _) _ [0] 3 _ _ (below_trans HB4.out (below_alloc _ _)) (rd_lit (n := 1) (size := 1) w4 _ _ rfl rfl) (by simp) h27_d1).mono ?_
  rintro e w5 ⟨rfl, hb5⟩
  have HB5 := Lib.hid (below_trans (below_trans HB4.out (below_alloc _ _)) hb5)
  clear hb5 HB4
  go_wp2_with fail
  refine (HDJ.out (w5.alloc _) _ [3] 3 _ _ (below_trans HB5.out (below_alloc _ _)) (rd_lit (n := 1) (size := 1) w5 _ _ rfl rfl) (by simp) h27_d2).mono ?_
  rintro e w6 ⟨rfl, hb6⟩
  have HB6 := Lib.hid (below_trans (below_trans HB5.out (below_alloc _ _)) hb6)
  clear hb6 HB5
  go_wp2_with fail
  refine (HDJ.out w6 _ [] 6 _ _ HB6.out (rd_nil w6) (by simp) h27_d3).mono ?_
  rintro e w7 ⟨rfl, hb7⟩
  have HB7 := Lib.hid (below_trans HB6.out hb7)
  clear hb7 HB6
  go_wp2_with fail
  have HB8 := Lib.hid (below_trans HB7.out (below_trans (below_alloc w7 (.cells #[.int .i64 0] 3)) (below_alloc _ (.cells #[.int .i64 2] 3))))
  have HR8 : Hid (Rd ((w7.alloc (.cells #[.int .i64 0] 3)).alloc (.cells #[.int .i64 2] 3)) (.slice (some ⟨w7.heap.size, 0, none⟩) 1 1) [(0 : Int)].length 1 (ints [0]) ∧ Rd ((w7.alloc (.cells #[.int .i64 0] 3)).alloc (.cells #[.int .i64 2] 3)) (.slice (some ⟨w7.heap.size + 1, 0, none⟩) 1 1) [(2 : Int)].length 1 (ints [2])) :=
    ⟨(rd_lit (n := 1) (size := 1) w7 _ _ rfl rfl).below (below_alloc _ _), rdH (n := 1) (size := 1) _ (by simp) _ _ rfl rfl⟩
  have HS8 : Hid (((w7.alloc (.cells #[.int .i64 0] 3)).alloc (.cells #[.int .i64 2] 3)).heap.size = w7.heap.size + 2) := by unfold Hid; simp
  generalize (w7.alloc (.cells #[.int .i64 0] 3)).alloc (.cells #[.int .i64 2] 3) = w8 at *
  have HAD := Lib.hid (admits_any F w8 t _ _ h27 (HT2.out.below HB8.out) (HG2.out.below HB8.out) [0] [2] HR8.out.1 HR8.out.2 (by decide) (by decide) 1 5)
  rw [h27_ad] at HAD
  refine HAD.out.mono ?_
  rintro e w9 ⟨rfl, hb9⟩
  have HB9 := Lib.hid (below_trans HB8.out hb9)
  clear hb9 HB8 HAD HR8 HS8
  go_wp2_with fail
  have HB10 := Lib.hid (below_trans HB9.out (below_trans (below_alloc w9 (.cells #[.int .i64 0] 3)) (below_alloc _ (.cells #[.int .i64 2] 3))))
  have HR10 : Hid (Rd ((w9.alloc (.cells #[.int .i64 0] 3)).alloc (.cells #[.int .i64 2] 3)) (.slice (some ⟨w9.heap.size, 0, none⟩) 1 1) [(0 : Int)].length 1 (ints [0]) ∧ Rd ((w9.alloc (.cells #[.int .i64 0] 3)).alloc (.cells #[.int .i64 2] 3)) (.slice (some ⟨w9.heap.size + 1, 0, none⟩) 1 1) [(2 : Int)].length 1 (ints [2])) :=
    ⟨(rd_lit (n := 1) (size := 1) w9 _ _ rfl rfl).below (below_alloc _ _), rdH (n := 1) (size := 1) _ (by simp) _ _ rfl rfl⟩
  have HS9 : Hid (w2.heap.size ≤ w9.heap.size) := HB9.out.size
  generalize (w9.alloc (.cells #[.int .i64 0] 3)).alloc (.cells #[.int .i64 2] 3) = w10 at *
  have HVI := Lib.hid (visser_any F w10 t _ _ h27 (HT2.out.below HB10.out) [0] [2] (fun F1 W hk => hk.rd HR10.out.1 (fun ad m c e hf => by have := slice_block e; have := HT2.out.in_ _ hf; have := HS9.out; omega)) (fun F1 W hk => hk.rd HR10.out.2 (fun ad m c e hf => by have := slice_block e; have := HT2.out.in_ _ hf; have := HS9.out; omega)) (by decide) (by decide) 1 0)
  rw [h27_vi] at HVI
  refine HVI.out.mono ?_
  rintro e w11 ⟨pv, F11, rfl, hk11, ht11, ho11⟩
  obtain ⟨qa, qc, rfl⟩ := own_slice ho11.own
  have HK11 := Lib.hid ((KeptF.of_below HT2.out.in_ HB10.out).trans hk11)
  have HT11 := Lib.hid ht11
  have HB11 : Hid (Below w.heap.size w w11) := HB2.out.trans (HK11.out.below HB2.out.size (fun b hb hf => by have := HN2.out b hf; omega))
  clear hk11 ht11 ho11 HVI HR10 HS9 HB9 HB10
  go_wp2_with fail
  have HX12 := Lib.hid (kills_any F11 (w11.alloc (.cells #[.string ⟨#[113]⟩, .int .i64 5] 47)) t _ v27 (HT11.out.below (below_alloc _ _)) ((HT.out.below HB11.out).below (below_alloc _ _)) 1 0 by27 (by decide) (rd_lit (n := 1) (size := 2) w11 _ _ rfl rfl) (by decide))
  rw [v27_k] at HX12
  refine HX12.out.mono ?_
  rintro e w13 ⟨rfl, hb13⟩
  have HB13 := Lib.hid (below_trans (below_trans HB11.out (below_alloc _ _)) hb13)
  clear hb13 HX12
  go_wp2_with fail
  go_ret
  exact ⟨rfl, HB13.out⟩
end Go.Dk
end

section
namespace Go.Dk
open Go.RowKit Go.Maps Go.MapKept
open Go.Proofs hiding intOf
/-- A table that no call made: nil, or the zero value. -/
def Dead (w : World) (t : Value) : Prop :=
  t = .pointer none ∨ ∃ b, t = .pointer (some ⟨b, 0, none⟩) ∧ w.cell? ⟨b, 1, none⟩ = some (.map none)
theorem Dead.below {w w' : World} {t : Value} (h : Dead w t) (hb : Below w.heap.size w w') : Dead w' t := by
  rcases h with h | ⟨b, e, h⟩
  · exact .inl h
  · exact .inr ⟨b, e, (hb.cell (World.block_lt_of_cell? w _ h)).trans h⟩
set_option maxRecDepth 100000 in
theorem alive_dead (w : World) (t : Value) (h : Dead w t) : Calls Tryd.prog 23 #[t] w fun e w' => e = .returned (.bool false) ∧ w = w' := by
  rcases h with rfl | ⟨b, rfl, c1⟩
  · go_enter Tryd.func23, Tryd.ntmps23
    go_wp2
    go_ret
    exact ⟨rfl, rfl⟩
  · have hn := fun w => run_neq_map_nil (P := Tryd.prog) w 27 _ _ none Tryd.underlying27
    go_enter Tryd.func23, Tryd.ntmps23
    go_wp2
    go_ret
    exact ⟨rfl, rfl⟩
def Two (a b : Value) (w : World) (e : Ending) (w' : World) : Prop := e = .returned (.tuple #[a, b]) ∧ Below w.heap.size w w'
def One (a : Value) (w : World) (e : Ending) (w' : World) : Prop := e = .returned a ∧ Below w.heap.size w w'
section
variable (w : World) (t : Value) (h : Dead w t)
include h
set_option maxRecDepth 100000 in
theorem not_dead (a : Int) : Calls Tryd.prog 22 #[t, .int .i64 a] w (Two (.int .i64 0) (.int .i64 1) w) := by
  have H := Lib.hid h
  clear h
  go_enter Tryd.func22, Tryd.ntmps22
  go_wp2_with (go_at_call 23; refine (alive_dead _ _ H.out).mono ?_; rintro e w' ⟨rfl, rfl⟩)
  go_ret2
  exact ⟨rfl, Below.refl _ _⟩
end
end Go.Dk
end

section
namespace Go.Dk
open Go.RowKit Go.Maps Go.MapKept
open Go.Proofs hiding intOf
theorem Dead.p27 {w : World} {t : Value} (h : Dead w t) : ∃ p, t = .pointer p := by
  rcases h with rfl | ⟨b, rfl, _⟩
  · exact ⟨_, rfl⟩
  · exact ⟨_, rfl⟩
set_option maxRecDepth 100000 in
theorem lookH_dead (w : World) (t v : Value) (h : Dead w t) : Calls Tryd.prog 12 #[t, v] w (One (.int .i64 1) w) := by
  have H := Lib.hid h
  clear h
  go_enter Tryd.func12, Tryd.ntmps12
  go_wp2_with (go_at_call 22; refine (not_dead _ _ H.out _).mono ?_; rintro e w' ⟨rfl, hq⟩; have HQ := Lib.hid hq; clear hq)
  go_ret
  exact ⟨rfl, HQ.out⟩
set_option maxRecDepth 100000 in
theorem is_dead (w : World) (t : Value) (h : Dead w t) (id : Int) : Calls Tryd.prog 6 #[t, .int .i64 id] w (Two (.bool false) (.int .i64 1) w) := by
  obtain ⟨pp, rfl⟩ := h.p27
  have H := Lib.hid h
  have HB : Hid (Below w.heap.size w w) := Below.refl _ _
  clear h
  go_enter Tryd.func6, Tryd.ntmps6
  go_wp2_with (go_at_call 12; refine (lookH_dead _ _ _ (H.out.below (by repeat (with_reducible first | exact Below.refl _ _ | exact HB.out | refine below_trans ?_ (below_alloc _ _) | refine below_trans ?_ (below_drew1 _) | refine below_trans ?_ (below_drewN _ _) | refine below_sc ?_ (by first | exact Nat.le_refl _ | (simp; done) | (simp; omega)))))).mono ?_; rintro e w1 ⟨rfl, hb⟩; have HB := Lib.hid (below_trans (w := w) (by repeat (with_reducible first | exact Below.refl _ _ | exact HB.out | refine below_trans ?_ (below_alloc _ _) | refine below_trans ?_ (below_drew1 _) | refine below_trans ?_ (below_drewN _ _) | refine below_sc ?_ (by first | exact Nat.le_refl _ | (simp; done) | (simp; omega)))) hb); clear hb)
  go_ret2
  exact ⟨rfl, HB.out⟩
set_option maxRecDepth 100000 in
theorem disj_dead (w : World) (t v : Value) (h : Dead w t) (zs : List Int) (hv : Rd w v zs.length 1 (ints zs)) (id : Int) : Calls Tryd.prog 7 #[t, v, .int .i64 id] w (Two (.int .i64 0) (.int .i64 1) w) := by
  obtain ⟨pp, rfl⟩ := h.p27
  obtain ⟨va, vc, rfl⟩ := hv.slice
  have H := Lib.hid h
  have HB : Hid (Below w.heap.size w w) := Below.refl _ _
  clear h hv
  go_enter Tryd.func7, Tryd.ntmps7
  go_wp2_with (go_at_call 12; refine (lookH_dead _ _ _ (H.out.below (by repeat (with_reducible first | exact Below.refl _ _ | exact HB.out | refine below_trans ?_ (below_alloc _ _) | refine below_trans ?_ (below_drew1 _) | refine below_trans ?_ (below_drewN _ _) | refine below_sc ?_ (by first | exact Nat.le_refl _ | (simp; done) | (simp; omega)))))).mono ?_; rintro e w1 ⟨rfl, hb⟩; have HB := Lib.hid (below_trans (w := w) (by repeat (with_reducible first | exact Below.refl _ _ | exact HB.out | refine below_trans ?_ (below_alloc _ _) | refine below_trans ?_ (below_drew1 _) | refine below_trans ?_ (below_drewN _ _) | refine below_sc ?_ (by first | exact Nat.le_refl _ | (simp; done) | (simp; omega)))) hb); clear hb)
  go_ret2
  exact ⟨rfl, HB.out⟩
set_option maxRecDepth 100000 in
theorem visser_dead (w : World) (t u v : Value) (h : Dead w t) (xs ys : List Int) (hu : Rd w u xs.length 1 (ints xs)) (hv : Rd w v ys.length 1 (ints ys)) (c d : Int) :
    Calls Tryd.prog 8 #[t, u, v, .int .i64 c, .int .i64 d] w fun e w' => e = .returned (.tuple #[.int .i64 0, .slice none 0 0, .int .i64 1]) ∧ Below w.heap.size w w' := by
  obtain ⟨pp, rfl⟩ := h.p27
  obtain ⟨ua, uc, rfl⟩ := hu.slice
  obtain ⟨va, vc, rfl⟩ := hv.slice
  have H := Lib.hid h
  have HB : Hid (Below w.heap.size w w) := Below.refl _ _
  clear h hu hv
  go_enter Tryd.func8, Tryd.ntmps8
  go_wp2_with (go_at_call 12; refine (lookH_dead _ _ _ (H.out.below (by repeat (with_reducible first | exact Below.refl _ _ | exact HB.out | refine below_trans ?_ (below_alloc _ _) | refine below_trans ?_ (below_drew1 _) | refine below_trans ?_ (below_drewN _ _) | refine below_sc ?_ (by first | exact Nat.le_refl _ | (simp; done) | (simp; omega)))))).mono ?_; rintro e w1 ⟨rfl, hb⟩; have HB := Lib.hid (below_trans (w := w) (by repeat (with_reducible first | exact Below.refl _ _ | exact HB.out | refine below_trans ?_ (below_alloc _ _) | refine below_trans ?_ (below_drew1 _) | refine below_trans ?_ (below_drewN _ _) | refine below_sc ?_ (by first | exact Nat.le_refl _ | (simp; done) | (simp; omega)))) hb); clear hb)
  go_ret3
  exact ⟨rfl, HB.out⟩
set_option maxRecDepth 100000 in
theorem admits_dead (w : World) (t u v : Value) (h : Dead w t) (c d : Int) :
    Calls Tryd.prog 9 #[t, u, v, .int .i64 c, .int .i64 d] w (Two (.int .i64 0) (.int .i64 1) w) := by
  obtain ⟨pp, rfl⟩ := h.p27
  have H := Lib.hid h
  have HB : Hid (Below w.heap.size w w) := Below.refl _ _
  clear h
  go_enter Tryd.func9, Tryd.ntmps9
  go_wp2_with (go_at_call 12; refine (lookH_dead _ _ _ (H.out.below (by repeat (with_reducible first | exact Below.refl _ _ | exact HB.out | refine below_trans ?_ (below_alloc _ _) | refine below_trans ?_ (below_drew1 _) | refine below_trans ?_ (below_drewN _ _) | refine below_sc ?_ (by first | exact Nat.le_refl _ | (simp; done) | (simp; omega)))))).mono ?_; rintro e w1 ⟨rfl, hb⟩; have HB := Lib.hid (below_trans (w := w) (by repeat (with_reducible first | exact Below.refl _ _ | exact HB.out | refine below_trans ?_ (below_alloc _ _) | refine below_trans ?_ (below_drew1 _) | refine below_trans ?_ (below_drewN _ _) | refine below_sc ?_ (by first | exact Nat.le_refl _ | (simp; done) | (simp; omega)))) hb); clear hb)
  go_ret2
  exact ⟨rfl, HB.out⟩
set_option maxRecDepth 100000 in
theorem kills_dead (w : World) (t v : Value) (h : Dead w t) (a b : Int) :
    Calls Tryd.prog 10 #[t, .int .i64 a, .int .i64 b, v] w (Two (.bool false) (.int .i64 1) w) := by
  obtain ⟨pp, rfl⟩ := h.p27
  have H := Lib.hid h
  have HB : Hid (Below w.heap.size w w) := Below.refl _ _
  clear h
  go_enter Tryd.func10, Tryd.ntmps10
  go_wp2_with (go_at_call 12; refine (lookH_dead _ _ _ (H.out.below (by repeat (with_reducible first | exact Below.refl _ _ | exact HB.out | refine below_trans ?_ (below_alloc _ _) | refine below_trans ?_ (below_drew1 _) | refine below_trans ?_ (below_drewN _ _) | refine below_sc ?_ (by first | exact Nat.le_refl _ | (simp; done) | (simp; omega)))))).mono ?_; rintro e w1 ⟨rfl, hb⟩; have HB := Lib.hid (below_trans (w := w) (by repeat (with_reducible first | exact Below.refl _ _ | exact HB.out | refine below_trans ?_ (below_alloc _ _) | refine below_trans ?_ (below_drew1 _) | refine below_trans ?_ (below_drewN _ _) | refine below_sc ?_ (by first | exact Nat.le_refl _ | (simp; done) | (simp; omega)))) hb); clear hb)
  go_ret2
  exact ⟨rfl, HB.out⟩
set_option maxRecDepth 100000 in
set_option maxHeartbeats 4000000 in
theorem nobody27_any (w : World) (t : Value) (h : Dead w t) (id : Int) (v : Value) (zs : List Int) (hv : Rd w v zs.length 1 (ints zs)) (u : Value) :
    Calls Tryd.prog 4 #[t, .int .i64 id, v, u] w (One (.bool true) w) := by
  have HD := Lib.hid h
  have HV := Lib.hid hv
  have HB : Hid (Below w.heap.size w w) := Below.refl _ _
  clear h hv
  go_enter Tryd.func4, Tryd.ntmps4
  go_wp2_with (first
    | (go_at_call 6; refine (is_dead _ _ (HD.out.below (by repeat (with_reducible first | exact Below.refl _ _ | exact HB.out | refine below_trans ?_ (below_alloc _ _) | refine below_trans ?_ (below_drew1 _) | refine below_trans ?_ (below_drewN _ _) | refine below_sc ?_ (by first | exact Nat.le_refl _ | (simp; done) | (simp; omega))))) _).mono ?_; rintro e w1 ⟨rfl, hb⟩; have HB := Lib.hid (below_trans (w := w) (by repeat (with_reducible first | exact Below.refl _ _ | exact HB.out | refine below_trans ?_ (below_alloc _ _) | refine below_trans ?_ (below_drew1 _) | refine below_trans ?_ (below_drewN _ _) | refine below_sc ?_ (by first | exact Nat.le_refl _ | (simp; done) | (simp; omega)))) hb); clear hb)
    | (go_at_call 7; refine (disj_dead _ _ _ (HD.out.below (by repeat (with_reducible first | exact Below.refl _ _ | exact HB.out | refine below_trans ?_ (below_alloc _ _) | refine below_trans ?_ (below_drew1 _) | refine below_trans ?_ (below_drewN _ _) | refine below_sc ?_ (by first | exact Nat.le_refl _ | (simp; done) | (simp; omega))))) zs (HV.out.below (by repeat (with_reducible first | exact Below.refl _ _ | exact HB.out | refine below_trans ?_ (below_alloc _ _) | refine below_trans ?_ (below_drew1 _) | refine below_trans ?_ (below_drewN _ _) | refine below_sc ?_ (by first | exact Nat.le_refl _ | (simp; done) | (simp; omega))))) _).mono ?_; rintro e w2 ⟨rfl, hb⟩; have HB := Lib.hid (below_trans (w := w) (by repeat (with_reducible first | exact Below.refl _ _ | exact HB.out | refine below_trans ?_ (below_alloc _ _) | refine below_trans ?_ (below_drew1 _) | refine below_trans ?_ (below_drewN _ _) | refine below_sc ?_ (by first | exact Nat.le_refl _ | (simp; done) | (simp; omega)))) hb); clear hb)
    | (go_at_call 8; refine (visser_dead _ _ _ _ (HD.out.below (by repeat (with_reducible first | exact Below.refl _ _ | exact HB.out | refine below_trans ?_ (below_alloc _ _) | refine below_trans ?_ (below_drew1 _) | refine below_trans ?_ (below_drewN _ _) | refine below_sc ?_ (by first | exact Nat.le_refl _ | (simp; done) | (simp; omega))))) zs zs (HV.out.below (by repeat (with_reducible first | exact Below.refl _ _ | exact HB.out | refine below_trans ?_ (below_alloc _ _) | refine below_trans ?_ (below_drew1 _) | refine below_trans ?_ (below_drewN _ _) | refine below_sc ?_ (by first | exact Nat.le_refl _ | (simp; done) | (simp; omega))))) (HV.out.below (by repeat (with_reducible first | exact Below.refl _ _ | exact HB.out | refine below_trans ?_ (below_alloc _ _) | refine below_trans ?_ (below_drew1 _) | refine below_trans ?_ (below_drewN _ _) | refine below_sc ?_ (by first | exact Nat.le_refl _ | (simp; done) | (simp; omega))))) _ _).mono ?_; rintro e w3 ⟨rfl, hb⟩; have HB := Lib.hid (below_trans (w := w) (by repeat (with_reducible first | exact Below.refl _ _ | exact HB.out | refine below_trans ?_ (below_alloc _ _) | refine below_trans ?_ (below_drew1 _) | refine below_trans ?_ (below_drewN _ _) | refine below_sc ?_ (by first | exact Nat.le_refl _ | (simp; done) | (simp; omega)))) hb); clear hb)
    | (go_at_call 9; refine (admits_dead _ _ _ _ (HD.out.below (by repeat (with_reducible first | exact Below.refl _ _ | exact HB.out | refine below_trans ?_ (below_alloc _ _) | refine below_trans ?_ (below_drew1 _) | refine below_trans ?_ (below_drewN _ _) | refine below_sc ?_ (by first | exact Nat.le_refl _ | (simp; done) | (simp; omega))))) _ _).mono ?_; rintro e w4 ⟨rfl, hb⟩; have HB := Lib.hid (below_trans (w := w) (by repeat (with_reducible first | exact Below.refl _ _ | exact HB.out | refine below_trans ?_ (below_alloc _ _) | refine below_trans ?_ (below_drew1 _) | refine below_trans ?_ (below_drewN _ _) | refine below_sc ?_ (by first | exact Nat.le_refl _ | (simp; done) | (simp; omega)))) hb); clear hb)
    | (go_at_call 10; refine (kills_dead _ _ _ (HD.out.below (by repeat (with_reducible first | exact Below.refl _ _ | exact HB.out | refine below_trans ?_ (below_alloc _ _) | refine below_trans ?_ (below_drew1 _) | refine below_trans ?_ (below_drewN _ _) | refine below_sc ?_ (by first | exact Nat.le_refl _ | (simp; done) | (simp; omega))))) _ _).mono ?_; rintro e w5 ⟨rfl, hb⟩; have HB := Lib.hid (below_trans (w := w) (by repeat (with_reducible first | exact Below.refl _ _ | exact HB.out | refine below_trans ?_ (below_alloc _ _) | refine below_trans ?_ (below_drew1 _) | refine below_trans ?_ (below_drewN _ _) | refine below_sc ?_ (by first | exact Nat.le_refl _ | (simp; done) | (simp; omega)))) hb); clear hb))
  go_ret
  exact ⟨rfl, HB.out⟩
set_option maxRecDepth 100000 in
set_option maxHeartbeats 4000000 in
theorem harropNobody_any (w : World) (hT : TabG w) (id : Int) (v : Value) (zs : List Int) (hv : Rd w v zs.length 1 (ints zs)) (u : Value) :
    Calls Tryd.prog 3 #[.int .i64 id, v, u] w fun e w' => e = .returned (.bool true) ∧ Below w.heap.size w w' := by
  have HT := Lib.hid hT
  have HV := Lib.hid hv
  clear hT hv
  go_enter Tryd.func3, Tryd.ntmps3
  go_wp2_with fail
  refine (nobody27_any _ (.pointer none) (.inl rfl) id _ zs HV.out _).mono ?_
  rintro e w1 ⟨rfl, hb1⟩
  have HB := Lib.hid hb1
  clear hb1
  go_wp2_with fail
  refine (nobody27_any _ (.pointer (some ⟨w1.heap.size, 0, none⟩)) (.inr ⟨_, rfl, World.cell?_alloc_at _ _ _ _ rfl⟩) id _ zs (HV.out.below (by repeat (with_reducible first | exact Below.refl _ _ | exact HB.out | refine below_trans ?_ (below_alloc _ _) | refine below_trans ?_ (below_drew1 _) | refine below_trans ?_ (below_drewN _ _) | refine below_sc ?_ (by first | exact Nat.le_refl _ | (simp; done) | (simp; omega))))) _).mono ?_
  rintro e w2 ⟨rfl, hb2⟩
  have HB := Lib.hid (below_trans (w := w) (by repeat (with_reducible first | exact Below.refl _ _ | exact HB.out | refine below_trans ?_ (below_alloc _ _) | refine below_trans ?_ (below_drew1 _) | refine below_trans ?_ (below_drewN _ _) | refine below_sc ?_ (by first | exact Nat.le_refl _ | (simp; done) | (simp; omega)))) hb2)
  clear hb2
  go_wp2_with (go_at_call 5; refine (heads27_any _ (HT.out.below HB.out)).mono ?_; rintro e w10 ⟨rfl, hb10⟩; have HB := Lib.hid (below_trans (w := w) (by repeat (with_reducible first | exact Below.refl _ _ | exact HB.out | refine below_trans ?_ (below_alloc _ _) | refine below_trans ?_ (below_drew1 _) | refine below_trans ?_ (below_drewN _ _) | refine below_sc ?_ (by first | exact Nat.le_refl _ | (simp; done) | (simp; omega)))) hb10); clear hb10)
  go_ret
  exact ⟨rfl, HB.out⟩
end Go.Dk
end

section
namespace Go.Dk
open Go.RowKit Go.Maps Go.MapKept Go.ChangeShapes Go.WideShapes Go.Deep
open Go.Proofs hiding intOf
instance : Inhabited HY := ⟨⟨ByteArray.empty, 0⟩⟩
structure HYin (h : HY) : Prop where
  nm : h.name.size ≤ maxLen
  f : (Lit.int .i64 h.form).wf = true
section
variable {H : Type} {enc : TypeId × Value → H} {w : World} {base : Nat} {spare : Nat → Bool} {held : Bool}
set_option maxRecDepth 100000 in
theorem trod_hyp {fuel : Nat} {cs : List Value} {x : DataW H × List MemPlace} (h : DataW.trod enc Tryd.prog w base spare held fuel 47 cs = some x) : ∃ n : HY, cs = n.cells ∧ HYin n := by
  obtain ⟨y0, y1, m, rfl, hl, h0, h1⟩ := Go.ChangeShapes.trod_struct2 Tryd.underlying47 h
  have hc : Tryd.prog.cellsOf 47 = 2 := by kernel_rfl
  rw [hc] at hl
  match cs, hl with
  | [c0, c1], _ =>
    obtain ⟨s, e0, rfl, w0⟩ := DataW.trod_string (Tryd.underlying9) h0
    obtain ⟨k, e1, rfl, w1⟩ := DataW.trod_int (Tryd.underlying3) h1
    have k1 : Tryd.prog.cellsOf 3 = 1 := by kernel_rfl
    have k2 : Tryd.prog.cellsOf 9 = 1 := by kernel_rfl
    simp only [k1, k2] at e0 e1
    refine ⟨⟨s, k⟩, ?_, ⟨w0, w1⟩⟩
    simp at e0 e1
    subst e0 e1
    rfl
set_option maxRecDepth 100000 in
theorem open_hyps {v : Value} {r : Go.Reach} {b0 : Nat} {d : DataW H} {p : List MemPlace} (hv : Value.okWide Tryd.prog w r b0 23 v) (h : DataW.Trod enc Tryd.prog w base spare held 23 v d p) :
    ∃ l : List HY, Rd w v l.length 2 (hyCells l) ∧ l.length ≤ maxLen ∧ (∀ n ∈ l, HYin n) ∧ ∀ B, (∀ m ∈ d.weights Tryd.prog 23, m ≤ B) → l.length * 24 ≤ B := by
  have hby : Tryd.prog.bytesOf 47 = 24 := by kernel_rfl
  have := open_rows (te := 47) HY.cells HYin 2 (by decide) (fun _ => rfl) (by kernel_rfl) Tryd.underlying23 (fun _ _ _ h => trod_hyp h) hv h
  rw [hby] at this
  exact this
end
end Go.Dk
end

section
namespace Go.Dk
open Go.RowKit
theorem tab_of {P : Program} {W : World} {name : String} (t : Lib.TabIs P W name .u8 (Lib.deBruijn64tab.map fun n : Nat => (n : Int))) (g : P.globalNamed name = some 0) : TabG W := fun j hj => by
  have hl : Lib.deBruijn64tab.length = 64 := by decide
  have h := t.cell g j (by rw [List.length_map, hl]; exact hj)
  rw [h]
  congr 2
  rw [List.getD_eq_getElem?_getD, List.getD_eq_getElem?_getD, List.getElem?_map, List.getElem?_eq_getElem (by rw [hl]; exact hj)]
  rfl
end Go.Dk
end
