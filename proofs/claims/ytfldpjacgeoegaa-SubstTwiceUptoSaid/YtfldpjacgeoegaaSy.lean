/- Layer 7: Match, walked. -/
import Derived.Test.YtfldpjacgeoegaaSx
namespace Go.Dk
open Go.RowKit Go.Maps Go.MapKept
open Go.Proofs hiding intOf

theorem infoHyp : (Try.prog.info? 60).map (fun i => (i.zero, i.size, i.bytes)) = some (some (.agg #[.string ByteArray.empty, .int .i64 0]), 2, 24) := by kernel_rfl
theorem tab_col {ow ow' : Own} {w : World} {t : Value} {rows : List ND} (h : Tab 1 ow w t rows) (hc : ∀ b, b < w.heap.size → ow b = 1 → ow' b = 1) : Tab 1 ow' w t rows := by
  obtain ⟨pb, mb, v, rfl, h⟩ := h
  exact ⟨pb, mb, v, rfl, h.hp, h.hr, h.hm, h.ok, hc _ (lt_of_block h.hp) h.cp, hc _ h.hm.lt h.cm, fun g hg => hc _ (h.hr.lt g hg).2 (h.cr g hg)⟩

def owM (ow : Own) (B M : Nat) : Own := fun b => if b = M + 1 + 1 ∨ b = M then 3 else if b < B ∧ ow b = 1 then 1 else 2
def matW (w1 : World) (tb : Nat) : World := ((((w1.alloc (.map #[] 0)).alloc (.cells #[.map (some w1.heap.size)] 112)).alloc (.map #[] 0)).alloc (.cells #[.map (some (w1.heap.size + 1 + 1))] 117)).alloc (.cells #[.func (.func 66) #[] #[.pointer (some ⟨w1.heap.size + 1 + 1 + 1, 0, none⟩), .pointer (some ⟨tb, 0, none⟩), .pointer (some ⟨w1.heap.size + 1, 0, none⟩), .pointer (some ⟨w1.heap.size + 1 + 1 + 1 + 1, 0, none⟩)]] 118)
theorem matW_below (w1 : World) (tb : Nat) : Below w1.heap.size w1 (matW w1 tb) := by
  unfold matW
  exact below_trans (below_trans (below_trans (below_trans (below_alloc _ _) (below_alloc _ _)) (below_alloc _ _)) (below_alloc _ _)) (below_alloc _ _)
theorem matW_size (w1 : World) (tb : Nat) : (matW w1 tb).heap.size = w1.heap.size + 5 := by
  unfold matW; simp
theorem mt_start {ow : Own} {w w1 : World} {t : Value} {rows : List ND} {tb : Nat} (h : Tab 1 ow w t rows) (hb : Below w.heap.size w w1) (htb : w.heap.size ≤ tb) (hct : w1.cell? ⟨tb, 0, none⟩ = some t) :
    FI (owM ow w.heap.size w1.heap.size) (matW w1 tb) (matW w1 tb) (w1.heap.size + 1 + 1 + 1) tb (w1.heap.size + 1) (w1.heap.size + 1 + 1 + 1 + 1) (w1.heap.size + 1 + 1) w1.heap.size t rows (fun _ => none) (fun _ => none) := by
  have hlt : tb < w1.heap.size := World.block_lt_of_cell? w1 _ hct
  have hsz := hb.size
  refine ⟨⟨?_, ?_, ?_, ?_, ?_, ?_, ?_, ?_, ?_, ?_, ?_, ?_, ?_⟩, ?_, ?_, Kept.refl _ _ _⟩
  · unfold matW
    rw [World.cell?_alloc_lt _ _ _ (by simp)]
    exact World.cell?_alloc_at _ _ _ _ (by simp)
  · exact ((matW_below w1 tb).cell (p := ⟨tb, 0, none⟩) hlt).trans hct
  · unfold matW
    rw [World.cell?_alloc_lt _ _ _ (by simp), World.cell?_alloc_lt _ _ _ (by simp), World.cell?_alloc_lt _ _ _ (by simp)]
    exact World.cell?_alloc_at _ _ _ _ (by simp)
  · unfold matW
    exact World.cell?_alloc_at _ _ _ _ (by simp)
  · exact ((tab_col h (fun b hb1 h1 => by unfold owM; rw [if_neg (by omega), if_pos ⟨hb1, h1⟩])).below hb).below (matW_below w1 tb)
  · unfold owM; rw [if_neg (by omega), if_neg (by omega)]
  · unfold owM; rw [if_neg (by omega), if_neg (by omega)]
  · unfold owM; rw [if_neg (by omega), if_neg (by omega)]
  · unfold owM; rw [if_neg (by omega), if_neg (by omega)]
  · unfold owM; rw [if_pos (by omega)]
  · unfold owM; rw [if_pos (by omega)]
  · omega
  · intro b hb3
    unfold owM at hb3
    split at hb3
    · assumption
    · split at hb3 <;> cases hb3
  · have := TM.made Try.prog 120 pairKV oneV ((w1.alloc (.map #[] 0)).alloc (.cells #[.map (some w1.heap.size)] 112))
    rw [World.size_alloc, World.size_alloc] at this
    exact (this.below (below_alloc _ _)).below (below_alloc _ _)
  · exact (TM.made Try.prog 9 strV intV w1).below (below_trans (below_trans (below_trans (below_alloc _ _) (below_alloc _ _)) (below_alloc _ _)) (below_alloc _ _))

structure MtI (w W : World) (mb r : Nat) (N : NameS) (done : List ByteArray) (v : Value) : Prop where
  rg : Rng Try.prog 9 strV intV W mb r N done
  own : W.ownsRow w.heap.size 60 2 v done.length (hyCells (pairsL N done.reverse))
  bl : Below w.heap.size w W
  lm : w.heap.size ≤ mb
  lr : w.heap.size ≤ r
theorem MtI.next {w W w4 w5 : World} {mb r : Nat} {N : NameS} {done : List ByteArray} {v v5 : Value} {x : ByteArray} {y : Int} {o : Obj} (hx : N x = some y) (h : MtI w W mb r N done v) (hrg : Rng Try.prog 9 strV intV w4 mb r N (x :: done)) (hg : W.grownBy w4 (some r))
    (hown : w5.ownsRow w.heap.size 60 2 v5 (done.length + 1) (hyCells (pairsL N done.reverse) ++ [.string x, .int .i64 y])) (hgr : (w4.alloc o).grownBy w5 v.ownBlock) : MtI w w5 mb r N (x :: done) v5 ∧ w5.rangeLeft mb r = w4.rangeLeft mb r := by
  have nb : v.ownBlock ≠ some mb := by
    obtain ⟨_, ⟨es, clock, hes, _⟩, _⟩ := h.rg.tm
    exact own_ne h.own hes (by intro cur fr e; cases e)
  have nr : v.ownBlock ≠ some r := by
    obtain ⟨_, _, _, _, _, _, _, _, _, _, _, _, hr, _⟩ := h.rg
    exact own_ne h.own hr (by intro cur fr e; cases e)
  have g2 : w4.grownBy w5 v.ownBlock := World.grownBy.trans (World.grownBy_alloc w4 o _) hgr
  have e1 : w5.heap[mb]? = w4.heap[mb]? := g2.block mb hrg.tm.lt (Ne.symm nb)
  have e2 : w5.heap[r]? = w4.heap[r]? := g2.block r hrg.ltr (Ne.symm nr)
  obtain ⟨s1, s2⟩ := hrg.same e1 e2
  refine ⟨⟨s1, ?_, (h.bl.grown hg h.bl.size (by intro k hk; cases hk; exact h.lr)).grown g2 (Nat.le_trans h.bl.size hg.size) (fun k hk => (h.own.lt k hk).1), h.lm, h.lr⟩, s2⟩
  have : hyCells (pairsL N (x :: done).reverse) = hyCells (pairsL N done.reverse) ++ [.string x, .int .i64 y] := by
    rw [List.reverse_cons, pairsL_snoc _ _ _ _ hx]
    simp [hyCells, HY.cells]
  rw [this]
  exact hown
theorem MtI.own4 {w W w4 : World} {mb r : Nat} {N : NameS} {done : List ByteArray} {v : Value} (h : MtI w W mb r N done v) (hg : W.grownBy w4 (some r)) : w4.ownsRow w.heap.size 60 2 v done.length (hyCells (pairsL N done.reverse)) := by
  refine h.own.kept hg (.inr ?_)
  obtain ⟨_, _, _, _, _, _, _, _, _, _, _, _, hr, _⟩ := h.rg
  exact own_ne h.own hr (by intro cur fr e; cases e)

def MatchPost (w : World) (rows : List ND) (p f : Int) (e : Ending) (w' : World) : Prop :=
  ∃ v l b, e = .returned (.tuple #[v, .bool b, .int .i64 (lookE rows [p, f])]) ∧ (lookE rows [p, f] ≠ 0 → l = [] ∧ b = false) ∧ (lookE rows [p, f] = 0 → MatchS rows p.toNat f.toNat l b) ∧ w'.ownsRow w.heap.size 60 2 v l.length (hyCells l) ∧ Below w.heap.size w w'

set_option maxRecDepth 100000 in
theorem match_bad (ow : Own) (w : World) (t : Value) (rows : List ND) (h : Tab 1 ow w t rows) (p f : Int) (hl : lookE rows [p, f] = 31) :
    Calls Try.prog 28 #[t, .int .i64 p, .int .i64 f] w (MatchPost w rows p f) := by
  obtain ⟨pb, rfl⟩ := h.ptr
  have H := Lib.hid h
  have HV := Lib.hid hl
  clear h hl
  go_enter Try.func28, Try.ntmps28
  go_wp2_with fail
  refine (looked_any 1 ow _ _ _ rows [p, f] (H.out.below (below_trans (below_alloc _ _) (below_alloc _ _))) (rd_lit' _ (by simp) _ _ rfl rfl) (by simp)).mono ?_
  rintro e w1 ⟨rfl, hb1⟩
  rw [HV.out]
  have HB := Lib.hid (below_trans (below_trans (below_alloc _ _) (below_alloc _ _)) hb1)
  clear hb1
  go_wp2_with fail
  go_ret3
  exact ⟨_, [], false, by rw [HV.out]; rfl, fun _ => ⟨rfl, rfl⟩, fun h => absurd h (by rw [HV.out]; decide), World.ownsRow_nil _ _ _ _, HB.out⟩

set_option maxRecDepth 100000 in
set_option maxHeartbeats 2000000 in
theorem match_good (ow : Own) (w : World) (t : Value) (rows : List ND) (h : Tab 1 ow w t rows) (p f : Nat) (hp : p < rows.length) (hf : f < rows.length) :
    Calls Try.prog 28 #[t, .int .i64 (p : Int), .int .i64 (f : Int)] w (MatchPost w rows p f) := by
  obtain ⟨pb, rfl⟩ := h.ptr
  have H := Lib.hid h
  have HPF : Hid (p < rows.length ∧ f < rows.length) := ⟨hp, hf⟩
  have HV : Hid (lookE rows [(p : Int), (f : Int)] = 0) := lookE_yes (by simp [hasB, hp, hf])
  have hmm := @run_makeMap Try.prog
  have hmf : ∀ (fn : Fn) (first cap : Array Value) (w : World), (Instr.makeFunc fn first cap).run Try.prog w = .ok (.func fn first cap) w := fun _ _ _ _ => rfl
  clear h hp hf
  go_enter Try.func28, Try.ntmps28
  go_wp2_with fail
  refine (looked_any 1 ow _ _ _ rows [(p : Int), (f : Int)] (H.out.below (below_trans (below_alloc _ _) (below_alloc _ _))) (rd_lit' _ (by simp) _ _ rfl rfl) (by simp)).mono ?_
  rintro e w1 ⟨rfl, hb1⟩
  rw [HV.out]
  have hct : w1.cell? ⟨w.heap.size, 0, none⟩ = some (.pointer (some ⟨pb, 0, none⟩)) := (hb1.cell (p := ⟨w.heap.size, 0, none⟩) (by simp; omega)).trans ((World.cell?_alloc_lt _ _ _ (by simp)).trans (World.cell?_alloc_at _ _ _ _ rfl))
  have HB := Lib.hid (below_trans (below_trans (below_alloc _ _) (below_alloc _ _)) hb1)
  have hst := mt_start H.out HB.out (Nat.le_refl _) hct
  have HST := Lib.hid hst
  clear hb1 hst hct
  go_wp2_with fail
  refine (fit_any _ _ _ _ _ _ _ _ _ p (matW w1 w.heap.size) f _ _ HPF.out.1 HPF.out.2 HST.out).mono ?_
  rintro e w5 ⟨b, S', N', rfl, hI, hf⟩
  have hkb : Below w.heap.size w w5 := HB.out.trans (((matW_below w1 w.heap.size).trans (hI.kp.below (B := w1.heap.size) (by rw [matW_size]; omega) (fun b hb => by unfold owM; rw [if_neg (by omega)]; split <;> decide))).mono HB.out.size)
  have HK := Lib.hid hkb
  have HF := Lib.hid hf
  have HM := Lib.hid hI.mN
  have cn := hI.env.cn
  clear hkb hf hI HST hmm hmf
  cases b with
  | false =>
    go_wp2_with fail
    go_ret3
    exact ⟨_, [], false, by rw [HV.out]; rfl, fun _ => ⟨rfl, rfl⟩, fun _ => by rw [Int.toNat_natCast, Int.toNat_natCast]; exact matchS_no HF.out, World.ownsRow_nil _ _ _ _, HK.out⟩
  | true =>
    go_wp2_with (at_range; refine wp_range HM.out rfl (.tmp 32) 112 3 rfl Try.underlying112 rfl ?_; intro w6 hrg6 hb6; have HI0 : Hid (MtI w w6 w1.heap.size w5.heap.size N' [] (.slice none 0 0)) := ⟨hrg6, World.ownsRow_nil _ _ _ _, HK.out.trans (hb6.mono HK.out.size), HB.out.size, HK.out.size⟩; clear hrg6 hb6)
    go_frame
    clear cn HM
    have hnn : (fun x : ByteArray × Int => True) = fun _ => True := rfl
    have HLE : Hid (rows.length ≤ 1024) := H.out.ok.le
    clear hnn
    go_loopw [13] (fun u W => ∃ done, MtI w W w1.heap.size w5.heap.size N' done u) (fun _ W => W.rangeLeft w1.heap.size w5.heap.size)
    case atStart => exact ⟨[], HI0.out⟩
    case round =>
      obtain ⟨done, hI⟩ := hrel
      have HI := Lib.hid hI
      go_wp2_with (at_next; refine wp_next HI.out.rg strV_inj rfl (.tmp 33) rfl rfl ?_ ?_)
      · intro hall
        have hp := hI.rg.props
        have HND := Lib.hid hp.1
        have HIN := Lib.hid hp.2
        have HALL := Lib.hid hall
        have HLN : Hid (done.length ≤ 1024) := Nat.le_trans (done_le (HF.out.yes rfl) hp.1 hp.2) HLE.out
        have hown := hI.own
        have hpl : (pairsL N' done.reverse).length = done.length := by simp [pairsL]
        rw [← hpl] at hown
        have HO := Lib.hid hown
        have HL2 : Hid ((pairsL N' done.reverse).length < 4611686018427387904) := by rw [Hid, hpl]; have := HLN.out; omega
        obtain ⟨a, c, rfl⟩ := own_slice hI.own
        clear hI hp hown hall hpl
        go_wp2_with (go_at_call 67; refine (sortHY_own _ w.heap.size _ (pairsL N' done.reverse) HO.out HL2.out).mono ?_; rintro e w7 ⟨rfl, ⟨l', hp7, hs7, hown7⟩, hg7⟩; have HP7 := Lib.hid hp7; have HS7 := Lib.hid hs7; have HO7 := Lib.hid hown7; have HG7 := Lib.hid hg7; clear hp7 hs7 hown7 hg7)
        go_ret3
        refine ⟨_, l', true, by rw [HV.out]; rfl, fun h => absurd HV.out h, fun _ => ⟨fun _ => ?_, fun h => (by cases h)⟩, HO7.out, HI.out.bl.grown HG7.out HI.out.bl.size (fun k hk => (HO.out.lt k hk).1)⟩
        rw [Int.toNat_natCast, Int.toNat_natCast]
        exact matchY_of H.out.ok HPF.out.1 (HF.out.yes rfl) HND.out HALL.out HIN.out HP7.out HS7.out
      · intro x u w4 hfx hxd hrg4 hg4 hlt hen
        have hen' : (Instr.entry (.pointer (some ⟨w5.heap.size, 0, none⟩))).run Try.prog w4 = .ok (.tuple #[.string x, .int .i64 u]) w4 := hen
        have hp := hI.rg.props
        have HLN : Hid (done.length ≤ 1024) := Nat.le_trans (done_le (HF.out.yes rfl) hp.1 hp.2) HLE.out
        have hown := hI.own4 hg4
        have HO := Lib.hid hown; have HR4 := Lib.hid hrg4; have HG4 := Lib.hid hg4; have HLT := Lib.hid hlt; have HX := Lib.hid hfx
        have hsz : w.heap.size ≤ w4.heap.size := Nat.le_trans hI.bl.size hg4.size
        clear hen hp hI hown hrg4 hg4 hlt hfx hxd
        go_wp2_with (at_builtin; refine wp_append rfl (.tmp 39) (.tmp 43) 44 rfl w.heap.size 60 _ 2 24 Try.underlying44 infoHyp rfl (by decide) (by decide) _ done.length (hyCells (pairsL N' done.reverse)) rfl (HO.out.alloc _) _ 1 [.string x, .int .i64 u] rfl (rd_lit _ _ _ rfl rfl) (by simp [Value.oneCell']) (by have := HLN.out; omega) (by simp; omega) ?_; intro v5 w6' hown5 hgr5 hat5 hnil5)
        have hfin := HI.out.next HX.out HR4.out HG4.out hown5 hgr5
        exact ⟨⟨x :: done, hfin.1⟩, by rw [hfin.2]; exact HLT.out⟩

theorem match07_any (ow : Own) (w : World) (t : Value) (rows : List ND) (h : Tab 1 ow w t rows) (p f : Int) :
    Calls Try.prog 28 #[t, .int .i64 p, .int .i64 f] w (MatchPost w rows p f) := by
  cases hl : (([p, f] : List Int).all fun z => hasB rows.length z) with
  | false => exact match_bad ow w t rows h p f (by unfold lookE; rw [if_neg (by simp [hl])])
  | true =>
    simp only [List.all_cons, List.all_nil, Bool.and_true, Bool.and_eq_true] at hl
    obtain ⟨x, rfl, hx⟩ := nat_of_has hl.1
    obtain ⟨y, rfl, hy⟩ := nat_of_has hl.2
    exact match_good ow w t rows h x y hx hy

end Go.Dk

