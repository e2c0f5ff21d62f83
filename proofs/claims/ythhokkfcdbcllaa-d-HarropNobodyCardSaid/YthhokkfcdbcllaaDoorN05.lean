/- Parts of the proof: Hc, Kg, Kh, Kj, Kl, Km, Kn. -/
import Derived.Deep.DeepCutAuto
import Derived.Deep.CutBlock
import Derived.Deep.RegionLaw
import Derived.Deep.RegionHeld3
import Derived.ArgAppend
import Derived.Outline
import Derived.IntWalk
import Derived.BigQuiet
import Derived.Deep.QuietTactic
import Derived.RangeFuncNested
import Derived.RangeFuncBound
import Derived.RangeFuncCalls
import Derived.RangeFuncLeaves
import Derived.RangeFuncWrites
import Derived.Shelf.Abstract
import Derived.Shelf.RegionOpen
import Derived.WalkKit
import Derived.OwnWalkIn
import Derived.TacticsInMore
import Derived.LoopNIn
import Derived.LoopIn
import Derived.Deep.MidRow
import Derived.Sort.QuietIn
import Derived.Test.YthhokkfcdbcllaaDoorN01
import Derived.Test.YthhokkfcdbcllaaDoorN02
import Derived.Test.YthhokkfcdbcllaaDoorN03
import Derived.Test.YthhokkfcdbcllaaDoorN04
section
namespace Go.Dk
open Go.RowKit Go.Maps Go.MapKept Go.Shelf
open Go.Proofs hiding intOf
def verV (b : Bool) : Value := .agg #[.bool b]
theorem zeroVer (w : World) : (zeroValue 52).run Tryd.prog w = .ok (verV false) w := by kernel_rfl
/-- What Is's function has captured: the map, the table, itself. -/
structure HEnv (F : FP) (w : World) (kb tb fb mb : Nat) (t : Value) (rows : List ND) : Prop where
  ck : w.cell? ⟨kb, 0, none⟩ = some (.map (some mb))
  ct : w.cell? ⟨tb, 0, none⟩ = some t
  cf : w.cell? ⟨fb, 0, none⟩ = some (.func (.func 13) #[] #[.pointer (some ⟨kb, 0, none⟩), .pointer (some ⟨tb, 0, none⟩), .pointer (some ⟨fb, 0, none⟩)])
  tab : TabF F w t rows
  nF : ¬ F mb
  nk : kb ≠ mb
  nt : tb ≠ mb
  nf : fb ≠ mb
def Known (rows : List ND) (f : Nat → Option Bool) : Prop := ∀ x b, f x = some b → b = harB rows x
structure HI (F : FP) (w : World) (kb tb fb mb : Nat) (t : Value) (rows : List ND) (f : Nat → Option Bool) : Prop where
  env : HEnv F w kb tb fb mb t rows
  map : TM Tryd.prog 3 natV verV w mb f
  ok : Known rows f
section
variable {F : FP} {w w' : World} {kb tb fb mb : Nat} {t : Value} {rows : List ND} {f f' : Nat → Option Bool}
theorem HEnv.keep (h : HEnv F w kb tb fb mb t rows) {M M' : FP} (hk : KeptF M w M' w') (hM : ∀ b, M b → b = mb) : HEnv F w' kb tb fb mb t rows :=
  ⟨hk.cell h.ck (fun e => h.nk (hM _ e)), hk.cell h.ct (fun e => h.nt (hM _ e)), hk.cell h.cf (fun e => h.nf (hM _ e)), h.tab.kept hk (fun b hf hm => h.nF (hM b hm ▸ hf)), h.nF, h.nk, h.nt, h.nf⟩
theorem HI.below (h : HI F w kb tb fb mb t rows f) (hb : Below w.heap.size w w') : HI F w' kb tb fb mb t rows f :=
  ⟨h.env.keep (M := FP.none) (KeptF.of_below (fun _ h => h.elim) hb) (fun _ h => h.elim), h.map.below hb, h.ok⟩
theorem HI.put (h : HI F w kb tb fb mb t rows f) {x : Nat} (hm : TM Tryd.prog 3 natV verV w' mb (upd f x (some (harB rows x)))) (ho : Only mb w w') : HI F w' kb tb fb mb t rows (upd f x (some (harB rows x))) := by
  refine ⟨h.env.keep (M := fun b => b = mb) (M' := fun b => b = mb) ⟨ho.os, ho.tape, ho.output, by rw [ho.size]; exact Nat.le_refl _, fun _ _ h => h, fun b e => by rw [e, ho.size]; exact h.map.lt, fun b _ hn => ho.block b hn⟩ (fun _ h => h), hm, fun y b hy => ?_⟩
  by_cases e : y = x
  · subst e; rw [upd_same] at hy; cases hy; rfl
  · rw [upd_other _ _ e] at hy; exact h.ok y b hy
end
/-- From w to w' only block mb was written. -/
structure Wrote (mb : Nat) (w w' : World) : Prop where
  os : w'.os = w.os
  tape : w'.tape = w.tape
  output : w'.output = w.output
  size : w.heap.size ≤ w'.heap.size
  block : ∀ b, b < w.heap.size → b ≠ mb → w'.heap[b]? = w.heap[b]?
theorem Wrote.of_below {mb : Nat} {w w' : World} (h : Below w.heap.size w w') : Wrote mb w w' := ⟨h.os, h.tape, h.output, h.size, fun b hb _ => h.block b hb⟩
theorem Wrote.of_only {mb : Nat} {w w' : World} (h : Only mb w w') : Wrote mb w w' := ⟨h.os, h.tape, h.output, by rw [h.size]; exact Nat.le_refl _, fun b _ hn => h.block b hn⟩
theorem Wrote.trans {mb : Nat} {w w1 w2 : World} (h : Wrote mb w w1) (g : Wrote mb w1 w2) : Wrote mb w w2 :=
  ⟨g.os.trans h.os, g.tape.trans h.tape, g.output.trans h.output, Nat.le_trans h.size g.size, fun b hb hn => (g.block b (Nat.lt_of_lt_of_le hb h.size) hn).trans (h.block b hb hn)⟩
theorem Wrote.below {mb : Nat} {w w' : World} (h : Wrote mb w w') {B : Nat} (hB : B ≤ w.heap.size) (hm : B ≤ mb) : Below B w w' :=
  ⟨h.os, h.tape, h.output, h.size, fun b hb => h.block b (by omega) (by omega)⟩
theorem Wrote.boxed {mb : Nat} {w w' : World} (h : Wrote mb w w') {b : Nat} {n : ND} (hx : Boxed w b n) (hn : b ≠ mb) : Boxed w' b n := by
  have hb := h.block b (World.block_lt_of_cell? _ _ hx.c0) hn
  exact ⟨(World.cell?_of_block hb).trans hx.c0, (World.cell?_of_block hb).trans hx.c1, (World.cell?_of_block hb).trans hx.c2, (World.cell?_of_block hb).trans hx.c3⟩
def IsPost (F : FP) (w : World) (kb tb fb mb : Nat) (t : Value) (rows : List ND) (id : Nat) (e : Ending) (w' : World) : Prop :=
  ∃ f', e = .returned (.bool (harB rows id)) ∧ HI F w' kb tb fb mb t rows f' ∧ Wrote mb w w'
theorem isPost_mk {F : FP} {w w' : World} {kb tb fb mb : Nat} {t : Value} {rows : List ND} {id : Nat} {b : Bool} {f' : Nat → Option Bool} (hb : b = harB rows id) (h : HI F w' kb tb fb mb t rows f') (hw : Wrote mb w w') :
    IsPost F w kb tb fb mb t rows id (.returned (.bool b)) w' := ⟨f', by rw [hb], h, hw⟩
set_option maxRecDepth 100000 in
set_option maxHeartbeats 4000000 in
theorem is1_any (F : FP) (kb tb fb mb : Nat) (t : Value) (rows : List ND) (id : Nat) : ∀ (w : World) (f : Nat → Option Bool), id < rows.length → HI F w kb tb fb mb t rows f →
    Calls Tryd.prog 13 #[.int .i64 (id : Int), .pointer (some ⟨kb, 0, none⟩), .pointer (some ⟨tb, 0, none⟩), .pointer (some ⟨fb, 0, none⟩)] w (IsPost F w kb tb fb mb t rows id) := by
  induction id using Nat.strongRecOn with
  | _ id ih =>
    intro w f hid h
    have hok := h.env.tab.ok
    have hle := hok.le
    have hkey := keyNat id (by omega)
    have ck := h.env.ck
    cases h0 : f id with
    | some b =>
      have hl : (Instr.lookup 49 (.map (some mb)) (.int .i64 (id : Int)) true).run Tryd.prog w = .ok (.tuple #[.agg #[.bool b], .bool true]) w := h.map.look_some lawInt natV_inj Tryd.underlying49 hkey true h0
      have HI0 := Lib.hid h
      have HB : Hid (b = harB rows id) := h.ok _ _ h0
      have HL : Hid (mb < w.heap.size) := h.map.lt
      clear h hkey ih h0 hok
      go_enter Tryd.func13, Tryd.ntmps13
      go_wp2_with fail
      go_ret
      exact isPost_mk HB.out (HI0.out.below (below_alloc _ _)) (Wrote.of_below (below_alloc _ _))
    | none =>
      have hl : (Instr.lookup 49 (.map (some mb)) (.int .i64 (id : Int)) true).run Tryd.prog w = .ok (.tuple #[.agg #[.bool false], .bool false]) w := h.map.look_none lawInt natV_inj Tryd.underlying49 (zeroVer _) hkey true h0
      have HI0 := Lib.hid (h.below (below_alloc w (.cells #[.bool false] 52)))
      have HK := Lib.hid hkey
      have IH := Lib.hid ih
      have OK := Lib.hid hok
      have HR := Lib.hid (rowAt_get hid)
      have HID := Lib.hid hid
      have HL : Hid (mb < w.heap.size) := h.map.lt
      have ct := HI0.out.env.ct
      clear h hkey ih h0 hok
      go_enter Tryd.func13, Tryd.ntmps13
      go_wp2_with fail
      refine (node_yes 0 (colF F 0) _ _ _ (HI0.out.env.tab.col 0) _ _ HR.out).mono ?_
      rintro e w2 ⟨rfl, hb2⟩
      generalize hx : rowAt rows id = x at *
      have HX := Lib.hid hx
      have HI2 := Lib.hid (HI0.out.below (below_trans hb2 (below_alloc w2 (.cells #[.int .i64 x.kind, .string x.name, .int .i64 x.l, .int .i64 x.r] 45))))
      have HBX : Hid (Boxed (w2.alloc (.cells #[.int .i64 x.kind, .string x.name, .int .i64 x.l, .int .i64 x.r] 45)) w2.heap.size x) := boxed_new w2 x _
      have HW2 : Hid (Wrote mb w (w2.alloc (.cells #[.int .i64 x.kind, .string x.name, .int .i64 x.l, .int .i64 x.r] 45))) := Wrote.of_below (below_trans (below_alloc _ _) (below_trans hb2 (below_alloc _ _)))
      have HNE : Hid (w2.heap.size ≠ mb) := by have := HL.out; have := hb2.size; simp at this; unfold Hid; omega
      have cf := HI2.out.env.cf
      have ck2 := HI2.out.env.ck
      obtain ⟨x0, x1, x2, x3⟩ := HBX.out
      clear hb2 ck ct hx hl
      by_cases h3 : x.kind = 3
      · as_aux_lemma =>
        have g3 : (x.kind == 3) = true := by simpa using h3
        have pp := OK.out.parts HR.out (by omega)
        have HV := Lib.hid (harB_and OK.out HR.out h3)
        clear h3
        obtain ⟨xk, xn, xl, xr⟩ := x
        simp only at *
        obtain ⟨l, rfl⟩ := Int.eq_ofNat_of_zero_le pp.1.1
        obtain ⟨r, rfl⟩ := Int.eq_ofNat_of_zero_le pp.2.1
        simp only [Int.toNat_natCast] at HV
        have HLR : Hid (l < id ∧ r < id ∧ l < rows.length ∧ r < rows.length) := by have := HID.out; unfold Hid; omega
        clear pp
        go_wp2_with fail
        refine (IH.out l HLR.out.1 _ _ HLR.out.2.2.1 HI2.out).mono ?_
        rintro e w5 ⟨f5, rfl, hI5, hw5⟩
        have HI5 := Lib.hid hI5
        have HW5 := Lib.hid (HW2.out.trans hw5)
        have cf5 := hI5.env.cf
        have ck5 := hI5.env.ck
        obtain ⟨y0, y1, y2, y3⟩ := hw5.boxed HBX.out HNE.out
        simp only at y0 y1 y2 y3
        clear hI5 hw5 cf ck2
        cases hl : harB rows l with
        | false =>
          have HBB : Hid (false = harB rows id) := by unfold Hid; rw [HV.out, hl]; rfl
          clear hl
          go_wp2_with (at_mapUpdate; refine wp_put HI5.out.map lawInt natV_inj rfl (.tmp 50) (.tmp 51) (.tmp 53) 49 52 rfl Tryd.underlying49 rfl id rfl (harB rows id) (by rw [← HBB.out]; rfl) HK.out ?_; intro w7 hm7 ho7; have HI7 := Lib.hid (HI5.out.put hm7 ho7); have HW7 := Lib.hid (HW5.out.trans (Wrote.of_only ho7)); clear hm7 ho7)
          go_ret
          exact isPost_mk HBB.out HI7.out HW7.out
        | true =>
          go_wp2_with fail
          refine (IH.out r HLR.out.2.1 _ _ HLR.out.2.2.2 HI5.out).mono ?_
          rintro e w6 ⟨f6, rfl, hI6, hw6⟩
          have HI6 := Lib.hid hI6
          have HW6 := Lib.hid (HW5.out.trans hw6)
          have ck6 := hI6.env.ck
          have HBB : Hid (harB rows r = harB rows id) := by unfold Hid; rw [HV.out, hl]; rfl
          clear hI6 hw6 hl cf5 ck5 y0 y1 y2 y3
          go_wp2_with (at_mapUpdate; refine wp_put HI6.out.map lawInt natV_inj rfl (.tmp 50) (.tmp 51) (.tmp 53) 49 52 rfl Tryd.underlying49 rfl id rfl (harB rows id) (by rw [← HBB.out]; rfl) HK.out ?_; intro w7 hm7 ho7; have HI7 := Lib.hid (HI6.out.put hm7 ho7); have HW7 := Lib.hid (HW6.out.trans (Wrote.of_only ho7)); clear hm7 ho7)
          go_ret
          exact isPost_mk HBB.out HI7.out HW7.out
      · by_cases h5 : x.kind = 5
        · as_aux_lemma =>
          have g3 : (x.kind == 3) = false := by simpa using h3
          have g5 : (x.kind == 5) = true := by simpa using h5
          have pp := OK.out.parts HR.out (by omega)
          have HV := Lib.hid (harB_imp OK.out HR.out h5)
          clear h3 h5
          obtain ⟨xk, xn, xl, xr⟩ := x
          simp only at *
          obtain ⟨r, rfl⟩ := Int.eq_ofNat_of_zero_le pp.2.1
          simp only [Int.toNat_natCast] at HV
          have HLR : Hid (r < id ∧ r < rows.length) := by have := HID.out; unfold Hid; omega
          clear pp
          go_wp2_with fail
          refine (IH.out r HLR.out.1 _ _ HLR.out.2 HI2.out).mono ?_
          rintro e w6 ⟨f6, rfl, hI6, hw6⟩
          have HI6 := Lib.hid hI6
          have HW6 := Lib.hid (HW2.out.trans hw6)
          have ck6 := hI6.env.ck
          have HBB : Hid (harB rows r = harB rows id) := HV.out.symm
          clear hI6 hw6 cf ck2 x0 x1 x2 x3
          go_wp2_with (at_mapUpdate; refine wp_put HI6.out.map lawInt natV_inj rfl (.tmp 50) (.tmp 51) (.tmp 53) 49 52 rfl Tryd.underlying49 rfl id rfl (harB rows id) (by rw [← HBB.out]; rfl) HK.out ?_; intro w7 hm7 ho7; have HI7 := Lib.hid (HI6.out.put hm7 ho7); have HW7 := Lib.hid (HW6.out.trans (Wrote.of_only ho7)); clear hm7 ho7)
          go_ret
          exact isPost_mk HBB.out HI7.out HW7.out
        · as_aux_lemma =>
          have g3 : (x.kind == 3) = false := by simpa using h3
          have g5 : (x.kind == 5) = false := by simpa using h5
          have HB4 := Lib.hid (harB_leaf OK.out HR.out h3 h5)
          clear h3 h5
          obtain ⟨xk, xn, xl, xr⟩ := x
          simp only at *
          by_cases h4 : xk = 4
          · have HBB : Hid (false = harB rows id) := by unfold Hid; rw [HB4.out, h4]; rfl
            have g4 : (xk != 4) = false := by simpa using h4
            clear h4
            go_wp2_with (at_mapUpdate; refine wp_put HI2.out.map lawInt natV_inj rfl (.tmp 50) (.tmp 51) (.tmp 53) 49 52 rfl Tryd.underlying49 rfl id rfl (harB rows id) (by rw [← HBB.out]; rfl) HK.out ?_; intro w7 hm7 ho7; have HI7 := Lib.hid (HI2.out.put hm7 ho7); have HW7 := Lib.hid (HW2.out.trans (Wrote.of_only ho7)); clear hm7 ho7)
            go_ret
            exact isPost_mk HBB.out HI7.out HW7.out
          · have HBB : Hid (true = harB rows id) := by unfold Hid; rw [HB4.out]; simp [h4]
            have g4 : (xk != 4) = true := by simpa using h4
            clear h4
            go_wp2_with (at_mapUpdate; refine wp_put HI2.out.map lawInt natV_inj rfl (.tmp 50) (.tmp 51) (.tmp 53) 49 52 rfl Tryd.underlying49 rfl id rfl (harB rows id) (by rw [← HBB.out]; rfl) HK.out ?_; intro w7 hm7 ho7; have HI7 := Lib.hid (HI2.out.put hm7 ho7); have HW7 := Lib.hid (HW2.out.trans (Wrote.of_only ho7)); clear hm7 ho7)
            go_ret
            exact isPost_mk HBB.out HI7.out HW7.out
theorem rdH (w : World) {b : Nat} (hb : b = w.heap.size) (cs : Array Value) (e : TypeId) {n size : Nat} {xs : List Value} (h : cs.toList = xs) (hl : xs.length = n * size) : Rd (w.alloc (.cells cs e)) (.slice (some ⟨b, 0, none⟩) n n) n size xs := hb ▸ rd_lit w cs e h hl
/-- One list. -/
theorem lists1 {w : World} {v a : Value} {zs : List Int} (h : Rd w v 1 1 [a]) (ha : Rd w a zs.length 1 (ints zs)) (hl : zs.length ≤ 9223372036854775807) : ListsR w v [zs] := by
  refine ⟨[a], h, fun i zs' x h1 h2 => ?_⟩
  match i, h1, h2 with
  | 0, h1, h2 =>
    simp only [List.getElem?_cons_zero, Option.some.injEq] at h1 h2
    subst h1; subst h2
    exact ⟨ha, hl⟩
  | i + 1, h1, h2 => simp at h1
theorem lists2 {w : World} {v a b : Value} {zs ys : List Int} (h : Rd w v 2 1 [a, b]) (ha : Rd w a zs.length 1 (ints zs)) (hl : zs.length ≤ 9223372036854775807) (hb : Rd w b ys.length 1 (ints ys)) (hm : ys.length ≤ 9223372036854775807) : ListsR w v [zs, ys] := by
  refine ⟨[a, b], h, fun i zs' x h1 h2 => ?_⟩
  match i, h1, h2 with
  | 0, h1, h2 =>
    simp only [List.getElem?_cons_zero, Option.some.injEq] at h1 h2
    subst h1; subst h2
    exact ⟨ha, hl⟩
  | 1, h1, h2 =>
    simp only [List.getElem?_cons_succ, List.getElem?_cons_zero, Option.some.injEq] at h1 h2
    subst h1; subst h2
    exact ⟨hb, hm⟩
  | i + 2, h1, h2 => simp at h1
theorem lists3 {w : World} {v a b c : Value} {zs ys xs : List Int} (h : Rd w v 3 1 [a, b, c]) (ha : Rd w a zs.length 1 (ints zs)) (hl : zs.length ≤ 9223372036854775807) (hb : Rd w b ys.length 1 (ints ys)) (hm : ys.length ≤ 9223372036854775807) (hc : Rd w c xs.length 1 (ints xs)) (hn : xs.length ≤ 9223372036854775807) : ListsR w v [zs, ys, xs] := by
  refine ⟨[a, b, c], h, fun i zs' x h1 h2 => ?_⟩
  match i, h1, h2 with
  | 0, h1, h2 =>
    simp only [List.getElem?_cons_zero, Option.some.injEq] at h1 h2
    subst h1; subst h2
    exact ⟨ha, hl⟩
  | 1, h1, h2 =>
    simp only [List.getElem?_cons_succ, List.getElem?_cons_zero, Option.some.injEq] at h1 h2
    subst h1; subst h2
    exact ⟨hb, hm⟩
  | 2, h1, h2 =>
    simp only [List.getElem?_cons_succ, List.getElem?_cons_zero, Option.some.injEq] at h1 h2
    subst h1; subst h2
    exact ⟨hc, hn⟩
  | i + 3, h1, h2 => simp at h1
def isP (rows : List ND) (id : Int) : Bool × Int := if hasB rows.length id = true then (harB rows id.toNat, 0) else (false, 31)
theorem lookE_1 (rows : List ND) (id : Int) : lookE rows [[id]].flatten = if hasB rows.length id = true then 0 else 31 := by simp [lookE]
/-- Is's frame: the three blocks ahead of look. -/
structure IsF (w w3 : World) (pb : Nat) (id : Int) : Prop where
  bel : Below w.heap.size w w3
  c0 : w3.cell? ⟨w.heap.size, 0, none⟩ = some (.pointer (some ⟨pb, 0, none⟩))
  ls : ListsR w3 (.slice (some ⟨w.heap.size + 1 + 1, 0, none⟩) 1 1) [[id]]
  sz : w.heap.size < w3.heap.size
theorem is_frame (w : World) (pb : Nat) (id : Int) : IsF w (((w.alloc (.cells #[.pointer (some ⟨pb, 0, none⟩)] 24)).alloc (.cells #[.int .i64 id] 3)).alloc (.cells #[.slice (some ⟨w.heap.size + 1, 0, none⟩) 1 1] 22)) pb id :=
  ⟨below_trans (below_trans (below_alloc _ _) (below_alloc _ _)) (below_alloc _ _),
   ((World.cell?_alloc_lt _ _ _ (by simp; omega)).trans (World.cell?_alloc_lt _ _ _ (by simp))).trans (World.cell?_alloc_at _ _ _ _ rfl),
   lists1 (rdH _ (by simp) _ _ rfl rfl) ((rdH (n := 1) (size := 1) (w.alloc (.cells #[.pointer (some ⟨pb, 0, none⟩)] 24)) (b := w.heap.size + 1) (by simp) #[.int .i64 id] 3 rfl rfl).below (below_alloc _ _)) (by simp),
   by simp; omega⟩
/-- The map, its box and the function's box, new. -/
theorem hi_start {F : FP} {w4 : World} {tb : Nat} {t : Value} {rows : List ND} (h : TabF F w4 t rows) (ht : w4.cell? ⟨tb, 0, none⟩ = some t) :
    HI F (((w4.alloc (.map #[] 0)).alloc (.cells #[.map (some w4.heap.size)] 49)).alloc (.cells #[.func (.func 13) #[] #[.pointer (some ⟨w4.heap.size + 1, 0, none⟩), .pointer (some ⟨tb, 0, none⟩), .pointer (some ⟨w4.heap.size + 1 + 1, 0, none⟩)]] 50))
      (w4.heap.size + 1) tb (w4.heap.size + 1 + 1) w4.heap.size t rows (fun _ => none) := by
  have hb := below_trans (below_trans (below_alloc w4 (.map #[] 0)) (below_alloc _ (.cells #[.map (some w4.heap.size)] 49))) (below_alloc _ (.cells #[.func (.func 13) #[] #[.pointer (some ⟨w4.heap.size + 1, 0, none⟩), .pointer (some ⟨tb, 0, none⟩), .pointer (some ⟨w4.heap.size + 1 + 1, 0, none⟩)]] 50))
  have hl := World.block_lt_of_cell? _ _ ht
  simp only at hl
  refine ⟨⟨(World.cell?_alloc_lt _ _ _ (by simp)).trans (World.cell?_alloc_at _ _ _ _ (by simp)), (hb.cell hl).trans ht, World.cell?_alloc_at _ _ _ _ (by simp), h.below hb, fun hf => by have := h.in_ _ hf; omega, by omega, by omega, by omega⟩, ?_, fun _ _ h => by cases h⟩
  exact ((TM.made Tryd.prog 3 natV verV w4).below (below_alloc _ _)).below (below_alloc _ _)
set_option maxRecDepth 100000 in
set_option maxHeartbeats 2000000 in
theorem is_any (F : FP) (w : World) (t : Value) (rows : List ND) (h : TabF F w t rows) (id : Int) :
    Calls Tryd.prog 6 #[t, .int .i64 id] w fun e w' => e = .returned (.tuple #[.bool (isP rows id).1, .int .i64 (isP rows id).2]) ∧ Below w.heap.size w w' := by
  obtain ⟨pb, rfl⟩ : ∃ pb, t = .pointer (some ⟨pb, 0, none⟩) := by obtain ⟨pb, _, _, e, _⟩ := h.col 0; exact ⟨pb, e⟩
  have H := Lib.hid h
  have HLE := Lib.hid (lookE_1 rows id)
  have HFR := Lib.hid (is_frame w pb id)
  clear h
  cases hb : hasB rows.length id with
  | true =>
    have HP : Hid (isP rows id = (harB rows id.toNat, 0)) := by unfold Hid isP; rw [hb]; rfl
    rw [hb, if_pos rfl] at HLE
    obtain ⟨n, rfl, hn⟩ := nat_of_has hb
    have HN := Lib.hid hn
    clear hb hn
    rw [HP.out]
    go_enter Tryd.func6, Tryd.ntmps6
    go_wp2_with fail
    generalize (((w.alloc (.cells #[.pointer (some ⟨pb, 0, none⟩)] 24)).alloc (.cells #[.int .i64 (n : Int)] 3)).alloc (.cells #[.slice (some ⟨w.heap.size + 1, 0, none⟩) 1 1] 22)) = w3 at *
    refine (lookH_any 0 _ _ _ _ rows [[(n : Int)]] ((H.out.col 0).below HFR.out.bel) HFR.out.ls (by simp)).mono ?_
    rintro e w4 ⟨rfl, hb4⟩
    rw [HLE.out]
    have HB4 := Lib.hid (below_trans HFR.out.bel hb4)
    have HC0 : Hid (w4.cell? ⟨w.heap.size, 0, none⟩ = some (.pointer (some ⟨pb, 0, none⟩))) := (hb4.cell HFR.out.sz).trans HFR.out.c0
    have HS4 : Hid (w.heap.size < w4.heap.size) := by have := hb4.size; have := HFR.out.sz; unfold Hid; omega
    clear hb4
    have hmm := @run_makeMap Tryd.prog
    go_wp2_with fail
    refine (is1_any F _ _ _ _ _ rows n _ _ HN.out (hi_start (H.out.below HB4.out) HC0.out)).mono ?_
    rintro e w8 ⟨f8, rfl, hI8, hw8⟩
    have HB8 : Hid (Below w.heap.size w w8) := by
      have h1 := hw8.below (B := w.heap.size) (by have := HS4.out; simp; omega) (by have := HS4.out; omega)
      exact HB4.out.trans ((below_trans (below_trans (below_alloc _ _) (below_alloc _ _)) (below_alloc _ _)).mono (Nat.le_of_lt HS4.out) |>.trans h1)
    clear hI8 hw8 hmm
    go_wp2_with fail
    go_ret2
    exact ⟨rfl, HB8.out⟩
  | false =>
    have HP : Hid (isP rows id = (false, 31)) := by unfold Hid isP; rw [hb]; rfl
    rw [hb, if_neg (by simp)] at HLE
    clear hb
    rw [HP.out]
    go_enter Tryd.func6, Tryd.ntmps6
    go_wp2_with fail
    generalize (((w.alloc (.cells #[.pointer (some ⟨pb, 0, none⟩)] 24)).alloc (.cells #[.int .i64 id] 3)).alloc (.cells #[.slice (some ⟨w.heap.size + 1, 0, none⟩) 1 1] 22)) = w3 at *
    refine (lookH_any 0 _ _ _ _ rows [[id]] ((H.out.col 0).below HFR.out.bel) HFR.out.ls (by simp)).mono ?_
    rintro e w4 ⟨rfl, hb4⟩
    rw [HLE.out]
    have HB4 := Lib.hid (below_trans HFR.out.bel hb4)
    clear hb4
    go_wp2_with fail
    go_ret2
    exact ⟨rfl, HB4.out⟩
end Go.Dk
end

section
namespace Go.Dk
open Go.RowKit Go.Maps Go.MapKept
open Go.Proofs hiding intOf
theorem TabG.below {w W : World} (h : TabG w) (hb : Below w.heap.size w W) : TabG W := fun j hj => (hb.cell (World.block_lt_of_cell? _ _ (h j hj))).trans (h j hj)
/-- The words, the first numbers struck. -/
def swd (m fr i : Nat) : Nat := if i = fr / 64 then above (wd m i) (fr % 64) else wd m i
def struckV (m fr : Nat) : List Value := (List.range 16).map fun i => .int .u64 (swd m fr i : Int)
theorem struckV_at (m fr : Nat) {i : Nat} (h : i < 16) : (struckV m fr)[i]? = some (.int .u64 (swd m fr i : Int)) := by simp [struckV, h]
theorem above_lt {x k : Nat} (hx : x < 2 ^ 64) : above x k < 2 ^ 64 := Nat.lt_of_le_of_lt Nat.and_le_left hx
theorem swd_lt (m fr i : Nat) : swd m fr i < 2 ^ 64 := by
  unfold swd
  split
  · exact above_lt (wd_lt _ _)
  · exact wd_lt _ _
theorem struckV_set (m : Nat) {fr : Nat} (_h : fr < 1024) : (bitsV m).set (fr / 64) (.int .u64 ((above (wd m (fr / 64)) (fr % 64) : Nat) : Int)) = struckV m fr := by
  apply List.ext_getElem?
  intro i
  rw [List.getElem?_set]
  by_cases hi : i < 16
  · rw [bitsV_at _ hi, struckV_at _ _ hi]
    by_cases e : fr / 64 = i
    · subst e
      rw [if_pos rfl, if_pos (by rw [bitsV_len]; exact hi)]
      simp [swd]
    · rw [if_neg e]
      simp [swd, Ne.symm e]
  · have h1 : (struckV m fr).length = 16 := by simp [struckV]
    rw [List.getElem?_eq_none (l := bitsV m) (by rw [bitsV_len]; omega), List.getElem?_eq_none (l := struckV m fr) (by omega)]
    split
    · rw [if_neg (by rw [bitsV_len]; omega)]
    · rfl
theorem swd_bit (m : Nat) {fr j k : Nat} (hj : fr / 64 ≤ j) (hk : k < 64) : (swd m fr j).testBit k = (m.testBit (64 * j + k) && decide (fr ≤ 64 * j + k)) := by
  unfold swd
  have hd := Nat.div_add_mod fr 64
  have hm := Nat.mod_lt fr (show 0 < 64 by decide)
  split
  · rename_i e
    subst e
    rw [above_bit _ hm (wd_lt _ _), wd_bit]
    simp only [hk, decide_true, Bool.true_and]
    congr 1
    apply decide_eq_decide.2
    omega
  · rename_i e
    rw [wd_bit]
    simp only [hk, decide_true, Bool.true_and]
    rw [decide_eq_true (show fr ≤ 64 * j + k by omega), Bool.and_true]
theorem shl_all (n : Nat) : IntKind.u64.wrap (18446744073709551615 * 2 ^ (n % 64)) = ((2 ^ 64 - 2 ^ (n % 64) : Nat) : Int) := by
  have hm := Nat.mod_lt n (show 0 < 64 by decide)
  generalize n % 64 = k at *
  have h : 2 ^ k < 2 ^ 64 := Nat.pow_lt_pow_right (by decide) hm
  have h0 : 0 < 2 ^ k := Nat.pos_of_ne_zero (by simp)
  have h2 : ((2 : Int) ^ k) = ((2 ^ k : Nat) : Int) := by push_cast; rfl
  rw [IntKind.wrap_u64, h2]
  generalize 2 ^ k = x at *
  omega
theorem word_above (m n : Nat) : bits .and .u64 (wd m (n / 64) : Int) (IntKind.u64.wrap (18446744073709551615 * 2 ^ (n % 64))) = ((above (wd m (n / 64)) (n % 64) : Nat) : Int) := by
  have hp : 0 < 2 ^ (n % 64) := Nat.pos_of_ne_zero (by simp)
  rw [shl_all]
  exact word_and _ _ (wd_lt _ _) (by omega)
/-- What Next answers. -/
def nextV : Option Nat → Value
  | some x => .tuple #[.int .i64 (x : Int), .bool true]
  | none => .tuple #[.int .i64 0, .bool false]
/-- None at the words from the beginning to j. -/
def clearTo (m fr j : Nat) : Prop := ∀ x, fr ≤ x → x < 64 * j → m.testBit x = false
theorem clearTo_next {m fr j : Nat} (h : clearTo m fr j) (hj : fr / 64 ≤ j) (h0 : swd m fr j = 0) : clearTo m fr (j + 1) := by
  intro x hf hx
  by_cases h1 : x < 64 * j
  · exact h x hf h1
  · have := swd_bit m hj (k := x - 64 * j) (by omega)
    rw [h0, Nat.zero_testBit, show 64 * j + (x - 64 * j) = x by omega] at this
    simpa [hf] using this.symm
theorem next_at {m fr j : Nat} (h : clearTo m fr j) (hj : fr / 64 ≤ j) (hj16 : j < 16) (h0 : swd m fr j ≠ 0) : nextN m fr = some (64 * j + Lib.ctz 64 (swd m fr j)) := by
  obtain ⟨h1, h2, h3⟩ := ctz_bit h0 (swd_lt m fr j)
  generalize Lib.ctz 64 (swd m fr j) = k at *
  rw [swd_bit m hj h1] at h2
  simp only [Bool.and_eq_true, decide_eq_true_eq] at h2
  refine nextN_some (by omega) h2.2 h2.1 fun x hf hx => ?_
  by_cases hx1 : x < 64 * j
  · exact h x hf hx1
  · have := h3 (x - 64 * j) (by omega)
    rw [swd_bit m hj (by omega), show 64 * j + (x - 64 * j) = x by omega] at this
    simpa [hf] using this
set_option maxRecDepth 100000 in
set_option maxHeartbeats 2000000 in
theorem next_out (w : World) (m fr : Nat) (hf : 1024 ≤ fr) (hfr : fr < 2 ^ 62) : Calls Tryd.prog 43 #[.agg (bitsV m).toArray, .int .i64 (fr : Int)] w fun e w' => e = .returned (nextV none) ∧ Below w.heap.size w w' := by
  have hI : insideB (fr : Int) = false := by simp [insideB]; omega
  have HI := Lib.hid (fun W => inside_any W (fr : Int))
  rw [hI] at HI
  clear hI
  have hmx : max (fr : Int) 0 = fr := by omega
  go_enter Tryd.func43, Tryd.ntmps43
  go_wp2_with (go_at_call 37; refine (HI.out _).mono ?_; rintro e w' ⟨rfl, hw⟩; rw [hw]; clear hw)
  go_ret2
  exact ⟨rfl, below_alloc _ _⟩
set_option maxRecDepth 100000 in
set_option maxHeartbeats 2000000 in
theorem next_in (w : World) (hT : TabG w) (m fr : Nat) (hf : fr < 1024) : Calls Tryd.prog 43 #[.agg (bitsV m).toArray, .int .i64 (fr : Int)] w fun e w' => e = .returned (nextV (nextN m fr)) ∧ Below w.heap.size w w' := by
  have HT := Lib.hid hT
  have hI : insideB (fr : Int) = true := by simp [insideB]; omega
  have HI := Lib.hid (fun W => inside_any W (fr : Int))
  rw [hI] at HI
  clear hI hT
  have hmx : max (fr : Int) 0 = fr := by omega
  have HB : Hid (BoxB (w.alloc (.cells (bitsV m).toArray 72)) w.heap.size (bitsV m) 72 ∧ Below w.heap.size w (w.alloc (.cells (bitsV m).toArray 72))) := ⟨BoxB.new w (bitsV m) _, below_alloc _ _⟩
  go_enter Tryd.func43, Tryd.ntmps43
  go_wp2_with (go_at_call 37; refine (HI.out _).mono ?_; rintro e w' ⟨rfl, hw⟩; rw [hw]; clear hw)
  generalize (w.alloc (.cells (bitsV m).toArray 72)) = W0 at *
  have d2 := HB.out.1.cell (bitsV_at m (i := fr / 64) (by omega))
  obtain ⟨I, _, F, L⟩ := later W0
  have a2 := L.cell d2
  have HF := Lib.hid L
  clear L d2
  refine wp_tailW (W := F) 9 (by kernel_rfl) (by kernel_rfl) HF.out.drew ?_
  simp only [List.take_succ_cons, List.take_zero, List.drop_succ_cons, List.drop_zero]
  repeat (go_big_quiet_step (fail))
  refine wpQuiet_nil ?_
  rintro w6 ⟨i6, rfl⟩
  have HB6 := Lib.hid (HF.out.bel i6)
  have d2 := a2 i6
  have f2 := (HB.out.1.below HB6.out).fr (fr / 64)
  clear a2 HF
  generalize F i6 = W6 at *
  rw [word_above]
  have K1 := (HB.out.1.below HB6.out).set (fr / 64) (.int .u64 ((above (wd m (fr / 64)) (fr % 64) : Nat) : Int))
  rw [struckV_set m hf] at K1
  have HK1 := Lib.hid K1
  have HK2 := Lib.hid ((below_trans HB.out.2 HB6.out).trans ((only_setCell W6 w.heap.size (fr / 64) (.int .u64 ((above (wd m (fr / 64)) (fr % 64) : Nat) : Int))).below (Nat.le_refl _)))
  clear HI K1 HB HB6
  go_wp2_with fail
  generalize (W6.setCell ⟨w.heap.size, fr / 64, none⟩ (.int .u64 ((above (wd m (fr / 64)) (fr % 64) : Nat) : Int))) = W7 at *
  go_loopw [6] (fun i W => ∃ j : Nat, fr / 64 ≤ j ∧ j ≤ 16 ∧ i = .int .i64 (j : Int) ∧ clearTo m fr j ∧ BoxB W w.heap.size (struckV m fr) 72 ∧ Below w.heap.size w W) (fun i _ => 16 - (intOf i).toNat)
  case atStart => exact ⟨fr / 64, Nat.le_refl _, by omega, by simp, fun x h1 h2 => by omega, HK1.out, HK2.out⟩
  case round =>
    obtain ⟨j, hj, hj16, rfl, hcl, h1, h2⟩ := hrel
    have HC := Lib.hid hcl; have H1 := Lib.hid h1; have H2 := Lib.hid h2
    clear hcl h1 h2
    by_cases hlt : j < 16
    · have hji : (j : Int) < 16 := by omega
      have d1 := H1.out.cell (struckV_at m fr hlt)
      by_cases h0 : swd m fr j = 0
      · as_aux_lemma =>
        rw [h0] at d1
        go_wp2_with fail
        exact ⟨⟨j + 1, by omega, by omega, by go_num, clearTo_next HC.out hj h0, H1.out, H2.out⟩, by simp [intOf]; omega⟩
      · as_aux_lemma =>
        have hz : ¬ ((swd m fr j : Int) = 0) := by omega
        have HZ := Lib.hid h0
        go_wp2_with (go_at_call 50; refine (tz_any _ (HT.out.below H2.out) _ HZ.out (swd_lt _ _ _)).mono ?_; rintro e w' ⟨rfl, hw⟩; rw [hw]; clear hw)
        have hw : wrap64 (64 * (j : Int) + (Lib.ctz 64 (swd m fr j) : Int)) = ((64 * j + Lib.ctz 64 (swd m fr j) : Nat) : Int) := by
          have := (ctz_bit HZ.out (swd_lt m fr j)).1
          generalize Lib.ctz 64 (swd m fr j) = k at *
          clear d1 d2
          unfold wrap64
          omega
        rw [hw]
        go_ret2
        rw [next_at HC.out hj hlt HZ.out]
        exact ⟨rfl, H2.out⟩
    · as_aux_lemma =>
      obtain rfl : j = 16 := by omega
      go_wp2_with fail
      go_ret2
      rw [nextN_none (fun x h1 h2 => HC.out x h1 (by omega))]
      exact ⟨rfl, H2.out⟩
end Go.Dk
end

section
namespace Go.Dk
open Go.RowKit Go.Maps Go.MapKept Go.Shelf
open Go.Proofs hiding intOf
attribute [local go_sem] Oper.semAt_some
/-- The blocks of S stand as they stood. -/
def HoldS (S : Nat → Prop) (W W' : World) : Prop := ∀ g, S g → W'.heap[g]? = W.heap[g]?
theorem holdS_t {S : Nat → Prop} {A B C : World} (h : HoldS S A B) (k : HoldS S B C) : HoldS S A C := fun g hg => (k g hg).trans (h g hg)
theorem holdS_b {S : Nat → Prop} {B : Nat} (hS : ∀ g, S g → g < B) (W : World) (l : Nat) (o o' : Obj) (hl : B ≤ l) (_ : W.heap[l]? = some o) (_ : o.isCells = false) (_ : o.isWalk = false) : HoldS S W (W.putObj l o') := fun g hg => by
  have : g ≠ l := by have := hS g hg; omega
  simp [World.putObj, Ne.symm this]
theorem holdS_refl (S : Nat → Prop) (W : World) : HoldS S W W := fun _ _ => rfl
theorem holdS_below {S : Nat → Prop} {B : Nat} {W W' : World} (hS : ∀ g, S g → g < B) (h : Below B W W') : HoldS S W W' := fun g hg => h.block g (hS g hg)
def upto (m k : Nat) : List Nat := (List.range k).filter m.testBit
theorem upto_skip (m : Nat) {k x : Nat} (h : k ≤ x) (hc : ∀ j, k ≤ j → j < x → m.testBit j = false) : upto m x = upto m k := by
  induction x with
  | zero => rw [show k = 0 by omega]
  | succ x ih =>
    by_cases e : k = x + 1
    · rw [e]
    · have h1 := ih (by omega) (fun j h1 h2 => hc j h1 (by omega))
      rw [← h1]
      unfold upto
      rw [List.range_succ, List.filter_append]
      simp [hc x (by omega) (by omega)]
theorem upto_some {m k x : Nat} (h : nextN m k = some x) : upto m (x + 1) = upto m k ++ [x] := by
  obtain ⟨_, h2, h3, h4⟩ := nextN_spec h
  rw [← upto_skip m h2 h4]
  unfold upto
  rw [List.range_succ, List.filter_append]
  simp [h3]
theorem nextN_none' {m k : Nat} (h : nextN m k = none) : ∀ j, k ≤ j → j < 1024 → m.testBit j = false := by
  unfold nextN at h
  rw [List.find?_eq_none] at h
  intro j h1 h2
  have := h j (List.mem_range.2 h2)
  simpa [h1] using this
theorem upto_none {m k : Nat} (h : nextN m k = none) (hk : k ≤ 1024) : upto m 1024 = upto m k := upto_skip m hk (nextN_none' h)
theorem upto_len (m k : Nat) : (upto m k).length ≤ k := by
  unfold upto
  exact Nat.le_trans (List.length_filter_le _ _) (by simp)
theorem upto_prefix (m : Nat) {k l : Nat} (h : k ≤ l) : upto m k <+: upto m l := by
  unfold upto
  have : (List.range l) = List.range k ++ (List.range (l - k)).map (k + ·) := by
    rw [← List.range_add]; congr 1; omega
  rw [this, List.filter_append]
  exact List.prefix_append _ _
/-- A number of the set. -/
abbrev Mem (m : Nat) := { x : Nat // x < 1024 ∧ m.testBit x = true }
def memV {m : Nat} (x : Mem m) : Array Value := #[.int .i64 (x.1 : Int)]
section
variable {F : Fence} {nF : Nat} {ops : Array Oper} {rest : List Oper} {o : Oper} {a : Act} {Q : Exit → Act → World → Prop} {W : World} {b m : Nat}
theorem exec_loadBits (x : Operand) (hop : o.op = .load 72 x) (hx : a.eval x = .pointer (some ⟨b, 0, none⟩)) {T : TypeId} (h : BoxB W b (bitsV m) T) : (execOp a.eval o).run Tryd.prog W = .ok (.value (.agg (bitsV m).toArray)) W := by
  have h1 := run_loadBits h
  unfold execOp
  rw [hop]
  simp only [hx]
  have : (do let y ← Instr.loadAt 72 (.pointer (some ⟨b, 0, none⟩)); pure (Next.value y)).run Tryd.prog W = ((Instr.loadAt 72 (.pointer (some ⟨b, 0, none⟩))).run Tryd.prog W).andThen fun y w => .ok (.value y) w := by simp
  rw [this, h1]
  rfl
theorem wpIn_loadBits (x : Operand) (hop : o.op = .load 72 x) (hg : o.guard = none) (hx : a.eval x = .pointer (some ⟨b, 0, none⟩)) {T : TypeId} (h : BoxB W b (bitsV m) T) (hk : wpListIn F nF Tryd.prog ops Q rest (a.put o.dst (.agg (bitsV m).toArray)) W) : wpListIn F nF Tryd.prog ops Q (o :: rest) a W := by
  refine wpListIn_plain hg fun K' hK' => ?_
  unfold Oper.wpIn
  refine ⟨by simp [Oper.about, hop], ?_⟩
  rw [Oper.semAt_plain F _ _ (by rw [hop]; intro c hc'; cases hc'), exec_loadBits x hop hx h]
  exact hK' _ _ hk
end
def nv : Option Nat → Value
  | some x => .int .i64 (x : Int)
  | none => .int .i64 0
def nb : Option Nat → Value
  | some _ => .bool true
  | none => .bool false
def leftV (v u : Value) : Nat := match u with
  | .bool true => 1025 - (intOf v).toNat
  | _ => 0
theorem grown_of_below {w w' : World} (h : Below w.heap.size w w') {r : Option Nat} : w.grownBy w' r := ⟨h.os, h.tape, h.output, h.size, fun k hk _ => h.block k hk⟩
theorem left_lt {m x : Nat} (hx : x < 1024) : leftV (nv (nextN m (x + 1))) (nb (nextN m (x + 1))) < leftV (.int .i64 (x : Int)) (.bool true) := by
  cases h : nextN m (x + 1) with
  | none => simp [nb, leftV, intOf]; omega
  | some y =>
    obtain ⟨h1, h2, _⟩ := nextN_spec h
    simp [nv, nb, leftV, intOf]; omega
theorem hold_lt {S : Nat → Prop} {A B : World} (h : HoldS S A B) (hS : ∀ g, S g → g < A.heap.size) : ∀ g, S g → g < B.heap.size := fun g hg => by
  have h1 := h g hg
  rw [Array.getElem?_eq_getElem (hS g hg)] at h1
  exact (Array.getElem?_eq_some_iff.1 h1).1
theorem next_all (w : World) (hT : TabG w) (m fr : Nat) (hf : fr ≤ 1024) : Calls Tryd.prog 43 #[.agg (bitsV m).toArray, .int .i64 (fr : Int)] w fun e w' => e = .returned (nextV (nextN m fr)) ∧ Below w.heap.size w w' := by
  by_cases h : fr < 1024
  · exact next_in w hT m fr h
  · rw [nextN_none (fun x h1 h2 => by omega)]
    exact next_out w m fr (by omega) (by omega)
theorem tabG_hold {S : Nat → Prop} {W W' : World} (hS : S 0) (h : HoldS S W W') (hT : TabG W) : TabG W' := fun j hj => (World.cell?_of_block (h 0 hS)).trans (hT j hj)
set_option maxRecDepth 100000 in
set_option maxHeartbeats 2000000 in
theorem all1_in (n : Nat) (hn : 1 ≤ n) (l Bs m : Nat) (S : Nat → Prop) (hS0 : S 0) (hSb : S Bs) (J Jx : List (Mem m) → World → Prop) (W : World) (hSs : ∀ g, S g → g < W.heap.size) (hJ : AbidesFrom W.heap.size J) (_hJx : AbidesFrom W.heap.size Jx)
    (hY : ∀ pre x W1, J pre W1 → pre.length < 1024 → YieldAt Fence.wide (n - 1) Tryd.prog l (memV x) W1 fun e W' =>
      (e = .returned (.bool true) ∧ J (pre ++ [x]) W' ∧ HoldS S W1 W') ∨ (e = .returned (.bool false) ∧ Jx (pre ++ [x]) W'))
    (hT : TabG W) (hB : BoxB W Bs (bitsV m) 72) (h0 : J [] W) :
    CallsIn Fence.wide n Tryd.prog 42 #[.func (.yield l) #[] #[], .pointer (some ⟨Bs, 0, none⟩)] W fun e W' => (∃ v, e = .returned v) ∧
      ((∃ ys, ys.map (·.1) = upto m 1024 ∧ J ys W') ∨ (∃ pre, pre.map (·.1) <+: upto m 1024 ∧ Jx pre W')) := by
  have HT := Lib.hid hT
  have HB := Lib.hid hB
  obtain ⟨o0, ho0⟩ : ∃ o, o = nextN m 0 := ⟨_, rfl⟩
  have HN : Hid (Calls Tryd.prog 43 #[.agg (bitsV m).toArray, .int .i64 0] W fun e w' => e = .returned (nextV (nextN m 0)) ∧ Below W.heap.size W w') := next_all W hT m 0 (by omega)
  have HO := Lib.hid ho0
  rw [← ho0] at HN
  clear hT hB ho0
  refine callsIn_of_wp Tryd.func42 rfl trivial ?_ rfl
  simp only [Tryd.ntmps42, List.size_toArray, List.length_cons, List.length_nil, Nat.reduceAdd, Nat.reduceSub, Array.replicate_succ, Array.replicate_zero, List.push_toArray, List.append_toArray, List.nil_append, List.cons_append]
  obtain ⟨v0, u0, hv0, hu0, HE⟩ : ∃ v0 u0, v0 = nv o0 ∧ u0 = nb o0 ∧ Hid (nextV o0 = .tuple #[v0, u0]) := ⟨_, _, rfl, rfl, by cases o0 <;> rfl⟩
  have HV := Lib.hid hv0
  have HU := Lib.hid hu0
  unfold Hid at HN
  rw [HE.out] at HN
  have HN' := Lib.hid HN
  clear HN hv0 hu0
  gi_wp2_with (first
    | (refine wpIn_loadBits (.tmp 1) rfl rfl rfl HB.out ?_)
    | (refine ⟨trivial, ?_⟩; gi_at_call 43; refine (callsIn_wide.2 HN'.out).mono ?_; rintro e W2 ⟨rfl, hb2⟩; have HB2 := Lib.hid hb2; clear hb2))
  gi_loopw [3, 4] (fun v u wr => ∃ k pre, k ≤ 1024 ∧ v = nv (nextN m k) ∧ u = nb (nextN m k) ∧ pre.map (·.1) = upto m k ∧ J pre wr ∧ HoldS S W wr)
    (fun v u _ => leftV v u)
  case atStart => exact ⟨0, [], by omega, by rw [← HO.out]; exact HV.out, by rw [← HO.out]; exact HU.out, rfl, hJ _ _ _ none h0 (grown_of_below HB2.out) (fun r e => by cases e), holdS_below hSs HB2.out⟩
  case round =>
    obtain ⟨k, pre, hk, hv, hu, hpre, hJs, hho⟩ := hrel
    have H1 := Lib.hid hho; have H3 := Lib.hid hpre
    clear hho hpre
    cases hnx : nextN m k with
    | none =>
      rw [hnx, nv] at hv
      rw [hnx, nb] at hu
      subst hv
      subst hu
      gi_wp2
      go_end0
      exact ⟨⟨_, rfl⟩, .inl ⟨_, by rw [upto_none hnx hk]; exact H3.out, hJs⟩⟩
    | some x =>
      obtain ⟨g1, g2, g3, g4⟩ := nextN_spec hnx
      obtain ⟨fn, tmps, assign, body, hy, hR⟩ := hY pre ⟨x, g1, g3⟩ wr hJs (by have := upto_len m k; have := congrArg List.length H3.out; simp at this; omega)
      unfold memV at hy
      rw [hnx, nv] at hv
      rw [hnx, nb] at hu
      subst hv
      subst hu
      have HX := Lib.hid hnx
      have HG := Lib.hid (And.intro g1 g2)
      clear hnx g2 g4
      gi_wp2
      refine hR.mono ?_
      rintro e W3 (⟨rfl, hJ3, hk3⟩ | ⟨rfl, hJx3⟩)
      · have HK3 := Lib.hid (holdS_t H1.out hk3)
        have HB3 := Lib.hid ((HK3.out Bs hSb).trans HB.out)
        have HJ3 := Lib.hid hJ3
        have HN3 : Calls Tryd.prog 43 #[.agg (bitsV m).toArray, .int .i64 ((x : Int) + 1)] W3 fun e w' => e = .returned (nextV (nextN m (x + 1))) ∧ Below W3.heap.size W3 w' := next_all W3 (tabG_hold hS0 HK3.out HT.out) m (x + 1) (by omega)
        obtain ⟨v1, u1, hv1, hu1, HE1⟩ : ∃ v1 u1, v1 = nv (nextN m (x + 1)) ∧ u1 = nb (nextN m (x + 1)) ∧ Hid (nextV (nextN m (x + 1)) = .tuple #[v1, u1]) := ⟨_, _, rfl, rfl, by cases nextN m (x + 1) <;> rfl⟩
        rw [HE1.out] at HN3
        have HN4 := Lib.hid HN3
        have HV1 := Lib.hid hv1
        have HU1 := Lib.hid hu1
        clear hk3 hJ3 HN3 hv1 hu1
        gi_wp2_with (first
          | (refine wpIn_loadBits (.tmp 1) rfl rfl rfl HB3.out ?_)
          | (refine ⟨trivial, ?_⟩; gi_at_call 43; refine (callsIn_wide.2 HN4.out).mono ?_; rintro e W4 ⟨rfl, hb4⟩; have HB4 := Lib.hid hb4; clear hb4))
        go_roundw
        case rel => exact ⟨x + 1, pre ++ [⟨x, g1, g3⟩], by omega, HV1.out, HU1.out, by rw [upto_some HX.out, List.map_append, H3.out]; rfl, hJ _ _ _ none HJ3.out (grown_of_below HB4.out) (fun r e => by cases e), holdS_t HK3.out (holdS_below (hold_lt HK3.out hSs) HB4.out)⟩
        case measure => rw [HV1.out, HU1.out]; exact left_lt g1
      · gi_wp2
        refine bodyPost_ret (results_none rfl _ _ _) rfl ?_
        exact ⟨⟨_, rfl⟩, .inr ⟨_, by rw [List.map_append, H3.out]; show upto m k ++ [x] <+: _; rw [← upto_some HX.out]; exact upto_prefix m (by omega), hJx3⟩⟩
theorem all_stops (n : Nat) (hn : 1 ≤ n) (Bs m : Nat) (S : Nat → Prop) (hS0 : S 0) (hSb : S Bs) (w : World) (hSs : ∀ g, S g → g < w.heap.size) (hT : TabG w) (hB : BoxB w Bs (bitsV m) 72) :
    SeqStopsK Fence.wide n Tryd.prog 42 #[.pointer (some ⟨Bs, 0, none⟩)] (memV (m := m)) (HoldS S) (fun ys => ys.map (·.1) = upto m 1024) (fun pre => pre.map (·.1) <+: upto m 1024) 1024 w := fun l J Jx W hW hJ hJx hY h0 => by
  exact all1_in n hn l Bs m S hS0 hSb J Jx W (fun g hg => Nat.lt_of_lt_of_le (hSs g hg) hW.size) hJ hJx hY (hT.below hW) (hB.below hW) h0
set_option maxHeartbeats 1000000 in
theorem all_in (w : World) (m : Nat) : Calls Tryd.prog 38 #[.agg (bitsV m).toArray] w fun e w' => e = .returned (.func (.func 42) #[] #[.pointer (some ⟨w.heap.size, 0, none⟩)]) ∧ w' = w.alloc (.cells (bitsV m).toArray 72) := by
  go_enter Tryd.func38, Tryd.ntmps38
  go_wp2
  go_ret
  exact ⟨rfl, rfl⟩
end Go.Dk
end

section
namespace Go.Dk
open Go.RowKit Go.Maps Go.MapKept
open Go.Proofs hiding intOf
/-- A sequent's cells. -/
def seqL (m : Nat) (g : Int) : List Value := bitsV m ++ [.int .i64 g]
theorem seqL_len (m : Nat) (g : Int) : (seqL m g).length = 17 := by simp [seqL, bitsV]
theorem row_of {o : Option TypeDesc} (h : o.map (fun d => d.isRow) = some true) : ∃ d, o = some d ∧ d.isRow = true := by
  cases o with
  | none => cases h
  | some d => exact ⟨d, rfl, by simpa using h⟩
theorem uBits : ∃ d, Tryd.prog.underlying 72 = some d ∧ d.isRow = true := row_of (by kernel_rfl)
theorem uSeq : ∃ d, Tryd.prog.underlying 81 = some d ∧ d.isRow = true := row_of (by kernel_rfl)
theorem iBits : (Tryd.prog.info? 72).map (·.size) = some 16 := by kernel_rfl
theorem iSeq : (Tryd.prog.info? 81).map (·.size) = some 17 := by kernel_rfl
/-- Cells written over, from a place on. -/
def writeL : List Value → Nat → List Value → List Value
  | xs, _, [] => xs
  | xs, o, v :: vs => writeL (xs.set o v) (o + 1) vs
theorem writeL_get (vs : List Value) : ∀ (xs : List Value) (o i : Nat), (writeL xs o vs)[i]? = if o ≤ i ∧ i < o + vs.length ∧ i < xs.length then vs[i - o]? else xs[i]? := by
  induction vs with
  | nil => intro xs o i; rw [if_neg (by simp; omega)]; rfl
  | cons v vs ih =>
    intro xs o i
    unfold writeL
    rw [ih, List.getElem?_set]
    simp only [List.length_cons, List.length_set]
    by_cases h1 : o + 1 ≤ i ∧ i < o + 1 + vs.length ∧ i < xs.length
    · rw [if_pos h1, if_pos (by omega), show i - o = (i - (o + 1)) + 1 by omega, List.getElem?_cons_succ]
    · rw [if_neg h1]
      by_cases h2 : o = i
      · subst h2
        rw [if_pos rfl]
        by_cases h3 : o < xs.length
        · rw [if_pos h3, if_pos (by omega)]; simp
        · rw [if_neg h3, if_neg (by omega)]; exact (List.getElem?_eq_none (by omega)).symm
      · rw [if_neg h2, if_neg (by omega)]
theorem writeL_all {xs vs : List Value} (h : xs.length = vs.length) : writeL xs 0 vs = vs := by
  apply List.ext_getElem?
  intro i
  rw [writeL_get]
  by_cases hi : i < vs.length
  · rw [if_pos (by omega)]; rfl
  · rw [if_neg (by omega), List.getElem?_eq_none (by omega), List.getElem?_eq_none (by omega)]
theorem writeL_left (m m' : Nat) (g : Int) : writeL (seqL m g) 0 (bitsV m') = seqL m' g := by
  apply List.ext_getElem?
  intro i
  rw [writeL_get, seqL_len, bitsV_len]
  unfold seqL
  by_cases hi : i < 16
  · rw [if_pos (by omega), List.getElem?_append_left (by rw [bitsV_len]; exact hi)]; rfl
  · rw [if_neg (by omega), List.getElem?_append_right (by rw [bitsV_len]; omega), List.getElem?_append_right (by rw [bitsV_len]; omega), bitsV_len, bitsV_len]
theorem only_setCells (b : Nat) (vs : List Value) : ∀ (o : Nat) (W : World), Only b W (W.setCells b o vs) := by
  induction vs with
  | nil => intro o W; exact ⟨rfl, rfl, rfl, rfl, fun _ _ => rfl⟩
  | cons v vs ih => intro o W; exact (only_setCell W b o v).trans (ih (o + 1) _)
theorem BoxB.write {b : Nat} {T : TypeId} (vs : List Value) : ∀ {xs : List Value} {W : World} (o : Nat), BoxB W b xs T → BoxB (W.setCells b o vs) b (writeL xs o vs) T := by
  induction vs with
  | nil => intro xs W o h; exact h
  | cons v vs ih => intro xs W o h; exact ih (o + 1) (h.set o v)
theorem BoxB.range {W : World} {b : Nat} {xs : List Value} {T : TypeId} (h : BoxB W b xs T) {o : Nat} {cs : List Value} (hc : (xs.drop o).take cs.length = cs) : W.rangeAt b o cs := fun j v hj => by
  refine h.cell ?_
  have hl := (List.getElem?_eq_some_iff.1 hj).1
  rw [← hc, List.getElem?_take_of_lt hl, List.getElem?_drop] at hj
  exact hj
theorem BoxB.there {W : World} {b : Nat} {xs : List Value} {T : TypeId} (h : BoxB W b xs T) {o n : Nat} (hn : o + n ≤ xs.length) : W.there b o n := fun j hj => ⟨by rw [h.cell (List.getElem?_eq_getElem (show o + j < xs.length by omega))]; rfl, h.fr _⟩
theorem seqL_left (m : Nat) (g : Int) : ((seqL m g).drop 0).take (bitsV m).length = bitsV m := by
  rw [bitsV_len]; simp [seqL, bitsV]
theorem seqL_goal (m : Nat) (g : Int) : (seqL m g)[16]? = some (.int .i64 g) := by
  unfold seqL
  rw [List.getElem?_append_right (by rw [bitsV_len]; exact Nat.le_refl _), bitsV_len]; rfl
theorem bits_one (m : Nat) : (bitsV m).toArray.all (·.oneCell') = true := all_oneCell_toArray fun v hv => by
  obtain ⟨i, _, rfl⟩ := List.mem_map.1 hv
  rfl
theorem seq_one (m : Nat) (g : Int) : (seqL m g).toArray.all (·.oneCell') = true := all_oneCell_toArray fun v hv => by
  rcases List.mem_append.1 hv with h | h
  · obtain ⟨i, _, rfl⟩ := List.mem_map.1 h
    rfl
  · rw [List.mem_singleton.1 h]; rfl
section
variable {ops : Array Oper} {rest : List Oper} {o : Oper} {a : Act} {Q : Exit → Act → World → Prop} {W : World} {b m : Nat} {g : Int}
/-- A sequent's left is loaded out of its box. -/
theorem wp_loadLeft (x : Operand) (hop : o.op = .load 72 x) (hg : o.guard = none) (hx : a.eval x = .pointer (some ⟨b, 0, none⟩)) {T : TypeId} (h : BoxB W b (seqL m g) T) (hk : wpList Tryd.prog ops Q rest (a.put o.dst (.agg (bitsV m).toArray)) W) : wpList Tryd.prog ops Q (o :: rest) a W := by
  obtain ⟨d, hu, hd⟩ := uBits
  exact wpList_load_mid hg _ x hop b 0 hx (bitsV m) d (h.range (seqL_left m g)) hu hd (by rw [bitsV_len]; exact iBits) hk
theorem wp_loadSeq (x : Operand) (hop : o.op = .load 81 x) (hg : o.guard = none) (hx : a.eval x = .pointer (some ⟨b, 0, none⟩)) {T : TypeId} (h : BoxB W b (seqL m g) T) (hk : wpList Tryd.prog ops Q rest (a.put o.dst (.agg (seqL m g).toArray)) W) : wpList Tryd.prog ops Q (o :: rest) a W := by
  obtain ⟨d, hu, hd⟩ := uSeq
  exact wpList_load_mid hg _ x hop b 0 hx (seqL m g) d (h.range (by simp)) hu hd (by rw [seqL_len]; exact iSeq) hk
theorem wp_storeLeft (x y : Operand) (hop : o.op = .store 72 x y) (hg : o.guard = none) (hx : a.eval x = .pointer (some ⟨b, 0, none⟩)) (hy : a.eval y = .agg (bitsV m).toArray) {T : TypeId} {m0 : Nat} (h : BoxB W b (seqL m0 g) T)
    (hk : ∀ W', BoxB W' b (seqL m g) T → Only b W W' → wpList Tryd.prog ops Q rest (a.put o.dst undef) W') : wpList Tryd.prog ops Q (o :: rest) a W := by
  have hw := h.write (bitsV m) 0
  rw [writeL_left] at hw
  exact wpList_store_mid hg _ x y hop b 0 _ hx hy (h.there (by simp [seqL_len, bitsV_len])) (by simpa [bitsV_len] using iBits) (bits_one m) (hk _ hw (only_setCells _ _ _ _))
theorem wp_storeSeq (x y : Operand) (hop : o.op = .store 81 x y) (hg : o.guard = none) (hx : a.eval x = .pointer (some ⟨b, 0, none⟩)) (hy : a.eval y = .agg (seqL m g).toArray) {T : TypeId} {xs : List Value} (h : BoxB W b xs T) (hl : xs.length = 17)
    (hk : ∀ W', BoxB W' b (seqL m g) T → Only b W W' → wpList Tryd.prog ops Q rest (a.put o.dst undef) W') : wpList Tryd.prog ops Q (o :: rest) a W := by
  have hw := h.write (seqL m g) 0
  rw [writeL_all (by rw [hl, seqL_len])] at hw
  exact wpList_store_mid hg _ x y hop b 0 _ hx hy (h.there (by simp [seqL_len, hl])) (by simpa [seqL_len] using iSeq) (seq_one m g) (hk _ hw (only_setCells _ _ _ _))
theorem results_seq {T : TypeId} {fn : Func} {tmps : Array Value} {p : Tmp} (hf : fn.results = #[.cell p 81]) (hp : tmps.getD p undef = .pointer (some ⟨b, 0, none⟩)) (h : BoxB W b (seqL m g) T) :
    (results fn tmps).run Tryd.prog W = .ok (.agg (seqL m g).toArray) W := by
  obtain ⟨d, hu, hd⟩ := uSeq
  have h1 := run_loadVar_mid (P := Tryd.prog) W b 0 81 (seqL m g) d (h.range (by simp)) hu hd (by rw [seqL_len]; exact iSeq)
  unfold results
  rw [hf]
  simp only [List.mapM_toArray, List.mapM_cons, List.mapM_nil, hp, asAddr, Sem.run_bind, Sem.run_map, Sem.run_pure, Result.andThen_ok, h1]
  simp
end
theorem BoxB.goal {W : World} {b m : Nat} {g : Int} {T : TypeId} (h : BoxB W b (seqL m g) T) (g' : Int) : BoxB (W.setCell ⟨b, 16, none⟩ (.int .i64 g')) b (seqL m g') T := by
  have := h.set 16 (.int .i64 g')
  have e : (seqL m g).set 16 (.int .i64 g') = seqL m g' := by simp [seqL, bitsV]
  rw [e] at this
  exact this
theorem BoxB.only {W W' : World} {b c : Nat} {xs : List Value} {T : TypeId} (h : BoxB W b xs T) (ho : Only c W W') (hne : b ≠ c) : BoxB W' b xs T := (ho.block b hne).trans h
theorem two_seq (w : World) (m : Nat) (g : Int) : BoxB ((w.alloc (.cells (seqL m g).toArray 81)).alloc (.cells (seqL 0 0).toArray 81)) w.heap.size (seqL m g) 81 ∧ BoxB ((w.alloc (.cells (seqL m g).toArray 81)).alloc (.cells (seqL 0 0).toArray 81)) (w.heap.size + 1) (seqL 0 0) 81 ∧ Below w.heap.size w ((w.alloc (.cells (seqL m g).toArray 81)).alloc (.cells (seqL 0 0).toArray 81)) := by
  refine ⟨(BoxB.new w (seqL m g) _).below (below_alloc _ _), ?_, below_trans (below_alloc _ _) (below_alloc _ _)⟩
  have := BoxB.new (w.alloc (.cells (seqL m g).toArray 81)) (seqL 0 0) 81
  simpa using this
set_option maxRecDepth 100000 in
set_option maxHeartbeats 1000000 in
/-- A sequent with another goal. -/
theorem to_any (w : World) (m : Nat) (g g' : Int) : Calls Tryd.prog 76 #[.agg (seqL m g).toArray, .int .i64 g'] w fun e w' => e = .returned (.agg (seqL m g').toArray) ∧ Below w.heap.size w w' := by
  have HS := Lib.hid (two_seq w m g)
  go_enter Tryd.func76, Tryd.ntmps76
  go_wp2_with (first
    | (rw [show (#[.int .u64 0, .int .u64 0, .int .u64 0, .int .u64 0, .int .u64 0, .int .u64 0, .int .u64 0, .int .u64 0, .int .u64 0, .int .u64 0, .int .u64 0, .int .u64 0, .int .u64 0, .int .u64 0, .int .u64 0, .int .u64 0, .int .i64 0] : Array Value) = (seqL 0 0).toArray from rfl]; generalize ((w.alloc (.cells (seqL m g).toArray 81)).alloc (.cells (seqL 0 0).toArray 81)) = W0 at *; have c16 := HS.out.1.cell (seqL_goal m g); have f16 := HS.out.1.fr 16; have K1 := Lib.hid (HS.out.1.goal g'); have K2 := Lib.hid (HS.out.2.1.other (c := w.heap.size) (by omega) 16 (.int .i64 g')); have K3 := Lib.hid (HS.out.2.2.trans ((only_setCell W0 w.heap.size 16 (.int .i64 g')).below (Nat.le_refl _))))
    | (refine wp_loadSeq (.tmp 2) rfl rfl rfl K1.out ?_)
    | (refine wp_storeSeq (.tmp 4) (.tmp 7) rfl rfl rfl rfl K2.out (seqL_len _ _) ?_; intro W7 hb7 ho7; have K7 := Lib.hid hb7; have K8 := Lib.hid (K3.out.trans (ho7.below (by omega))); clear hb7 ho7))
  exact bodyPost_ret (results_seq rfl rfl K7.out) rfl ⟨rfl, K8.out⟩
set_option maxRecDepth 100000 in
set_option maxHeartbeats 1000000 in
/-- A sequent with some formulas more on the left. -/
theorem with_any (w : World) (m : Nat) (g : Int) (gb o c : Nat) (ns : List Nat) (hl : ns.length < 2 ^ 62) (hn : ∀ n ∈ ns, n < 1024) (hs : ∀ j (h : j < ns.length), w.cell? ⟨gb, o + j, none⟩ = some (.int .i64 (ns[j] : Int))) :
    Calls Tryd.prog 72 #[.agg (seqL m g).toArray, .slice (some ⟨gb, o, none⟩) ns.length c] w fun e w' => e = .returned (.agg (seqL (m ||| maskOf ns) g).toArray) ∧ Below w.heap.size w w' := by
  have HS := Lib.hid (two_seq w m g)
  have HN := Lib.hid hn; have HL := Lib.hid hl; have HC := Lib.hid hs
  clear hn hl hs
  go_enter Tryd.func72, Tryd.ntmps72
  go_wp2_with (first
    | (rw [show (#[.int .u64 0, .int .u64 0, .int .u64 0, .int .u64 0, .int .u64 0, .int .u64 0, .int .u64 0, .int .u64 0, .int .u64 0, .int .u64 0, .int .u64 0, .int .u64 0, .int .u64 0, .int .u64 0, .int .u64 0, .int .u64 0, .int .i64 0] : Array Value) = (seqL 0 0).toArray from rfl]; generalize ((w.alloc (.cells (seqL m g).toArray 81)).alloc (.cells (seqL 0 0).toArray 81)) = W0 at *)
    | (go_at_call 27; refine (of_any W0 gb o c ns HL.out HN.out (fun j h => (HS.out.2.2.cell (World.block_lt_of_cell? _ _ (HC.out j h))).trans (HC.out j h))).mono ?_; rintro e W1 ⟨rfl, hb1⟩; have HB1 := Lib.hid hb1; clear hb1)
    | (refine wp_storeBits (.tmp 5) (.tmp 10) rfl rfl rfl rfl (BoxB.new W1 zeroV 72) (by simp [zeroV, bitsV]) ?_; intro W2 hb2 ho2; have HK2 := Lib.hid hb2; have HB2 := Lib.hid (HB1.out.trans (((below_alloc W1 _).trans (ho2.below (Nat.le_refl _))).mono HB1.out.size)); clear hb2 ho2)
    | (refine wp_loadLeft (.tmp 12) rfl rfl rfl (HS.out.1.below HB2.out) ?_)
    | (refine wp_loadBits (.tmp 5) rfl rfl rfl HK2.out ?_)
    | (go_at_call 89; refine (union_any _ m (maskOf ns)).mono ?_; rintro e W3 ⟨rfl, hb3⟩; have HR := Lib.hid ((HS.out.1.below HB2.out).below hb3); have HR4 := Lib.hid ((HS.out.2.1.below HB2.out).below hb3); have HB := Lib.hid (below_trans (below_trans HS.out.2.2 HB2.out) hb3); clear hb3)
    | (refine wp_storeLeft (.tmp 16) (.tmp 15) rfl rfl rfl rfl HR.out ?_; intro W6 hb6 ho6; have K6 := Lib.hid hb6; have K5 := Lib.hid (HR4.out.only ho6 (by omega)); have K4 := Lib.hid (HB.out.trans (ho6.below (by omega))); clear hb6 ho6)
    | (refine wp_loadSeq (.tmp 2) rfl rfl rfl K6.out ?_)
    | (refine wp_storeSeq (.tmp 4) (.tmp 17) rfl rfl rfl rfl K5.out (seqL_len _ _) ?_; intro W7 hb7 ho7; have K7 := Lib.hid hb7; have K8 := Lib.hid (K4.out.trans (ho7.below (by omega))); clear hb7 ho7))
  exact bodyPost_ret (results_seq rfl rfl K7.out) rfl ⟨rfl, K8.out⟩
end Go.Dk
end

section
namespace Go.Dk
open Go.RowKit Go.Maps Go.MapKept
open Go.Proofs hiding intOf
structure RowTy (P : Program) (ty : TypeId) (n : Nat) : Prop where
  u : ∃ d, P.underlying ty = some d ∧ d.isRow = true
  i : (P.info? ty).map (·.size) = some n
theorem rNode : RowTy Tryd.prog 45 4 := ⟨row_of (by kernel_rfl), by kernel_rfl⟩
section
variable {P : Program} {ops : Array Oper} {rest : List Oper} {o : Oper} {a : Act} {Q : Exit → Act → World → Prop} {W : World} {b n : Nat} {ty : TypeId}
theorem wp_loadRow (R : RowTy P ty n) (x : Operand) (hop : o.op = .load ty x) (hg : o.guard = none) (hx : a.eval x = .pointer (some ⟨b, 0, none⟩)) {T : TypeId} {xs : List Value} (h : BoxB W b xs T) (hl : xs.length = n) (hk : wpList P ops Q rest (a.put o.dst (.agg xs.toArray)) W) : wpList P ops Q (o :: rest) a W := by
  obtain ⟨d, hu, hd⟩ := R.u
  exact wpList_load_mid hg _ x hop b 0 hx xs d (h.range (by simp)) hu hd (by rw [hl]; exact R.i) hk
theorem wp_storeRow (R : RowTy P ty n) (x y : Operand) (hop : o.op = .store ty x y) (hg : o.guard = none) (hx : a.eval x = .pointer (some ⟨b, 0, none⟩)) {ys : List Value} (hy : a.eval y = .agg ys.toArray) {T : TypeId} {xs : List Value} (h : BoxB W b xs T) (hl : xs.length = n) (hly : ys.length = n) (h1 : ys.toArray.all (·.oneCell') = true)
    (hk : ∀ W', BoxB W' b ys T → Only b W W' → wpList P ops Q rest (a.put o.dst undef) W') : wpList P ops Q (o :: rest) a W := by
  have hw := h.write ys 0
  rw [writeL_all (by omega)] at hw
  exact wpList_store_mid hg _ x y hop b 0 _ hx hy (h.there (by simp; omega)) (by simpa [hly] using R.i) h1 (hk _ hw (only_setCells _ _ _ _))
theorem results_row (R : RowTy P ty n) {T : TypeId} {fn : Func} {tmps : Array Value} {p : Tmp} (hf : fn.results = #[.cell p ty]) (hp : tmps.getD p undef = .pointer (some ⟨b, 0, none⟩)) {xs : List Value} (h : BoxB W b xs T) (hl : xs.length = n) :
    (results fn tmps).run P W = .ok (.agg xs.toArray) W := by
  obtain ⟨d, hu, hd⟩ := R.u
  have h1 := run_loadVar_mid (P := P) W b 0 ty xs d (h.range (by simp)) hu hd (by rw [hl]; exact R.i)
  unfold results
  rw [hf]
  simp only [List.mapM_toArray, List.mapM_cons, List.mapM_nil, hp, asAddr, Sem.run_bind, Sem.run_map, Sem.run_pure, Result.andThen_ok, h1]
  simp
end
theorem fieldKind (a b c d : Value) (W : World) : (Instr.field 45 (.agg #[a, b, c, d]) 0).run Tryd.prog W = .ok a W := by kernel_rfl
def zeroN : ND := ⟨0, ⟨#[]⟩, 0, 0⟩
/-- What a number stands for; nothing, outside. -/
def nodeAt (rows : List ND) (i : Int) : ND := if hasB rows.length i then rowAt rows i.toNat else zeroN
theorem nodeAt_in (rows : List ND) {i : Nat} (h : i < rows.length) : nodeAt rows (i : Int) = rowAt rows i := by simp [nodeAt, hasB, h]
theorem cells_one (n : ND) : n.cells.toArray.all (·.oneCell') = true := by simp [ND.cells, Value.oneCell']
theorem tnode_any (k : Nat) (ow : Own) (w : World) (t : Value) (rows : List ND) (h : Tab k ow w t rows) (i : Int) :
    Calls Tryd.prog 14 #[t, .int .i64 i] w fun e w' => e = .returned (.tuple #[.agg (nodeAt rows i).cells.toArray, .bool (hasB rows.length i)]) ∧ Below w.heap.size w w' := by
  cases hb : hasB rows.length i with
  | false =>
    have e : nodeAt rows i = zeroN := by simp [nodeAt, hb]
    rw [e]
    exact node_no k ow w t rows h i hb
  | true =>
    have hb' := hb
    simp only [hasB, Bool.and_eq_true, decide_eq_true_eq] at hb'
    obtain ⟨j, rfl⟩ := Int.eq_ofNat_of_zero_le hb'.1
    have hj : j < rows.length := by omega
    rw [nodeAt_in rows hj]
    exact node_yes k ow w t rows h j (rowAt rows j) (rowAt_get hj)
set_option maxRecDepth 100000 in
set_option maxHeartbeats 1000000 in
theorem rnode_any (k : Nat) (ow : Own) (w : World) (t : Value) (rows : List ND) (h : Tab k ow w t rows) (i : Int) :
    Calls Tryd.prog 66 #[t, .int .i64 i] w fun e w' => e = .returned (.agg (nodeAt rows i).cells.toArray) ∧ Below w.heap.size w w' := by
  have HS : Hid (BoxB (w.alloc (.cells zeroN.cells.toArray 45)) w.heap.size zeroN.cells 45 ∧ Below w.heap.size w (w.alloc (.cells zeroN.cells.toArray 45))) := ⟨BoxB.new _ _ _, below_alloc _ _⟩
  have H := Lib.hid h
  clear h
  go_enter Tryd.func66, Tryd.ntmps66
  go_wp2_with (first
    | (rw [show (#[.int .i64 0, .string ⟨#[]⟩, .int .i64 0, .int .i64 0] : Array Value) = zeroN.cells.toArray from rfl]; generalize (w.alloc (.cells zeroN.cells.toArray 45)) = W0 at *)
    | (go_at_call 14; refine (tnode_any k ow W0 t rows (H.out.below HS.out.2) i).mono ?_; rintro e W1 ⟨rfl, hb1⟩; have HB1 := Lib.hid hb1; clear hb1)
    | (refine wp_storeRow rNode (.tmp 5) (.tmp 11) rfl rfl rfl (ys := (nodeAt rows i).cells) rfl (BoxB.new W1 zeroN.cells 45) rfl rfl (cells_one _) ?_; intro W2 hb2 ho2; have HK2 := Lib.hid hb2; have HB2 := Lib.hid (HB1.out.trans (((below_alloc W1 _).trans (ho2.below (Nat.le_refl _))).mono HB1.out.size)); clear hb2 ho2)
    | (refine wp_loadRow rNode (.tmp 5) rfl rfl rfl HK2.out rfl ?_)
    | (refine wp_storeRow rNode (.tmp 4) (.tmp 13) rfl rfl rfl (ys := (nodeAt rows i).cells) rfl (HS.out.1.below HB2.out) rfl rfl (cells_one _) ?_; intro W7 hb7 ho7; have K7 := Lib.hid hb7; have K8 := Lib.hid ((below_trans HS.out.2 HB2.out).trans (ho7.below (by omega))); clear hb7 ho7))
  exact bodyPost_ret (results_row rNode rfl rfl K7.out rfl) rfl ⟨rfl, K8.out⟩
end Go.Dk
end

section
namespace Go.Dk
open Go.RowKit Go.Maps Go.MapKept
open Go.Proofs hiding intOf
theorem rnode_is (k : Nat) (ow : Own) (w : World) (t : Value) (rows : List ND) (h : Tab k ow w t rows) (i : Nat) (hi : i < rows.length) (n : ND) (hn : rowAt rows i = n) :
    ∀ W, Below w.heap.size w W → Calls Tryd.prog 66 #[t, .int .i64 (i : Int)] W fun e w' => e = .returned (.agg #[.int .i64 n.kind, .string n.name, .int .i64 n.l, .int .i64 n.r]) ∧ Below W.heap.size W w' := fun W hb => by
  have := rnode_any k ow W t rows (h.below hb) (i : Int)
  rw [nodeAt_in rows hi, hn] at this
  exact this
set_option maxRecDepth 100000 in
set_option maxHeartbeats 1000000 in
theorem on_leaf (w : World) (t : Value) (m : Nat) (g : Int) (main : Nat) (kd : Int) (nm : ByteArray) (l r : Int) (v : Int) (hv : (kd = 1 ∧ v = 0) ∨ (kd = 2 ∧ v = 1) ∨ (kd = 3 ∧ v = 3) ∨ (kd = 4 ∧ v = 10))
    (hC : ∀ W, Below w.heap.size w W → Calls Tryd.prog 66 #[t, .int .i64 (main : Int)] W fun e w' => e = .returned (.agg #[.int .i64 kd, .string nm, .int .i64 l, .int .i64 r]) ∧ Below W.heap.size W w') :
    Calls Tryd.prog 70 #[t, .agg (seqL m g).toArray, .int .i64 (main : Int)] w fun e w' => e = .returned (.int .i64 v) ∧ Below w.heap.size w w' := by
  have HC := Lib.hid hC
  clear hC
  rcases hv with ⟨rfl, rfl⟩ | ⟨rfl, rfl⟩ | ⟨rfl, rfl⟩ | ⟨rfl, rfl⟩
  all_goals
    as_aux_lemma =>
    go_enter Tryd.func70, Tryd.ntmps70
    go_wp2_with (first
      | (go_at_call 66; refine (HC.out _ (below_alloc _ _)).mono ?_; rintro e W1 ⟨rfl, hb1⟩; have HB1 := Lib.hid (below_trans (below_alloc w _) hb1); clear hb1 HC)
      | (refine wp_storeRow rNode (.tmp 7) (.tmp 10) rfl rfl rfl (ys := (ND.mk _ nm l r).cells) rfl (BoxB.new W1 zeroN.cells 45) rfl rfl (cells_one _) ?_; intro W2 hb2 ho2; have c0 := hb2.cell (i := 0) rfl; have HB2 := Lib.hid (HB1.out.trans (((below_alloc W1 _).trans (ho2.below (Nat.le_refl _))).mono HB1.out.size)); clear hb2 ho2; simp only at c0))
    go_ret
    exact ⟨rfl, HB2.out⟩
set_option maxRecDepth 100000 in
set_option maxHeartbeats 1000000 in
theorem on_imp (w : World) (t : Value) (m : Nat) (g : Int) (main : Nat) (nm : ByteArray) (l : Nat) (r : Int) (kd : Int) (nm2 : ByteArray) (l2 r2 : Int) (v : Int) (hl : l < 1024)
    (hv : (kd = 1 ∧ m.testBit l = true ∧ v = 4) ∨ (kd = 1 ∧ m.testBit l = false ∧ v = 0) ∨ (kd = 2 ∧ v = 5) ∨ (kd = 3 ∧ v = 6) ∨ (kd = 4 ∧ v = 7) ∨ (kd = 5 ∧ v = 13))
    (hC : ∀ W, Below w.heap.size w W → Calls Tryd.prog 66 #[t, .int .i64 (main : Int)] W fun e w' => e = .returned (.agg #[.int .i64 5, .string nm, .int .i64 (l : Int), .int .i64 r]) ∧ Below W.heap.size W w')
    (hD : ∀ W, Below w.heap.size w W → Calls Tryd.prog 66 #[t, .int .i64 (l : Int)] W fun e w' => e = .returned (.agg #[.int .i64 kd, .string nm2, .int .i64 l2, .int .i64 r2]) ∧ Below W.heap.size W w') :
    Calls Tryd.prog 70 #[t, .agg (seqL m g).toArray, .int .i64 (main : Int)] w fun e w' => e = .returned (.int .i64 v) ∧ Below w.heap.size w w' := by
  have HC := Lib.hid hC
  have HD := Lib.hid hD
  have HH := Lib.hid (fun W => has_in W m l hl)
  clear hC hD
  rcases hv with ⟨rfl, hbit, rfl⟩ | ⟨rfl, hbit, rfl⟩ | ⟨rfl, rfl⟩ | ⟨rfl, rfl⟩ | ⟨rfl, rfl⟩ | ⟨rfl, rfl⟩
  · as_aux_lemma =>
    rw [hbit] at HH
    clear hbit
    have hfk := fun W => fieldKind (.int .i64 1) (.string nm2) (.int .i64 l2) (.int .i64 r2) W
    go_enter Tryd.func70, Tryd.ntmps70
    go_wp2_with (first
      | (go_at_call 66; refine (HC.out _ (below_alloc _ _)).mono ?_; rintro e W1 ⟨rfl, hb1⟩; have HQ1 := Lib.hid ((BoxB.new w (seqL m g) 81).below hb1); have HB1 := Lib.hid (below_trans (below_alloc w _) hb1); clear hb1 HC)
      | (refine wp_storeRow rNode (.tmp 7) (.tmp 10) rfl rfl rfl (ys := (ND.mk _ nm (l : Int) r).cells) rfl (BoxB.new W1 zeroN.cells 45) rfl rfl (cells_one _) ?_; intro W2 hb2 ho2; have c0 := hb2.cell (i := 0) rfl; have c2 := hb2.cell (i := 2) rfl; have HB12 := Lib.hid ((below_alloc W1 _).trans (ho2.below (Nat.le_refl _))); have HB2 := Lib.hid (HB1.out.trans (HB12.out.mono HB1.out.size)); have HQ2 := Lib.hid (HQ1.out.below HB12.out); clear hb2 ho2; simp only at c0 c2)
      | (go_at_call 66; refine (HD.out _ HB2.out).mono ?_; rintro e W3 ⟨rfl, hb3⟩; have d2 := (hb3.cell (World.block_lt_of_cell? _ _ c2)).trans c2; have HB3 := Lib.hid (below_trans HB2.out hb3); have HQ3 := Lib.hid (HQ2.out.below hb3); clear hb3)
      | (refine wp_loadLeft (.tmp 28) rfl rfl rfl HQ3.out ?_)
      | (go_at_call 62; refine (HH.out _).mono ?_; rintro e W4 ⟨rfl, hb4⟩; have HB4 := Lib.hid (below_trans HB3.out hb4); clear hb4))
    go_ret
    exact ⟨rfl, HB4.out⟩
  · as_aux_lemma =>
    rw [hbit] at HH
    clear hbit
    have hfk := fun W => fieldKind (.int .i64 1) (.string nm2) (.int .i64 l2) (.int .i64 r2) W
    go_enter Tryd.func70, Tryd.ntmps70
    go_wp2_with (first
      | (go_at_call 66; refine (HC.out _ (below_alloc _ _)).mono ?_; rintro e W1 ⟨rfl, hb1⟩; have HQ1 := Lib.hid ((BoxB.new w (seqL m g) 81).below hb1); have HB1 := Lib.hid (below_trans (below_alloc w _) hb1); clear hb1 HC)
      | (refine wp_storeRow rNode (.tmp 7) (.tmp 10) rfl rfl rfl (ys := (ND.mk _ nm (l : Int) r).cells) rfl (BoxB.new W1 zeroN.cells 45) rfl rfl (cells_one _) ?_; intro W2 hb2 ho2; have c0 := hb2.cell (i := 0) rfl; have c2 := hb2.cell (i := 2) rfl; have HB12 := Lib.hid ((below_alloc W1 _).trans (ho2.below (Nat.le_refl _))); have HB2 := Lib.hid (HB1.out.trans (HB12.out.mono HB1.out.size)); have HQ2 := Lib.hid (HQ1.out.below HB12.out); clear hb2 ho2; simp only at c0 c2)
      | (go_at_call 66; refine (HD.out _ HB2.out).mono ?_; rintro e W3 ⟨rfl, hb3⟩; have d2 := (hb3.cell (World.block_lt_of_cell? _ _ c2)).trans c2; have HB3 := Lib.hid (below_trans HB2.out hb3); have HQ3 := Lib.hid (HQ2.out.below hb3); clear hb3)
      | (refine wp_loadLeft (.tmp 28) rfl rfl rfl HQ3.out ?_)
      | (go_at_call 62; refine (HH.out _).mono ?_; rintro e W4 ⟨rfl, hb4⟩; have HB4 := Lib.hid (below_trans HB3.out hb4); clear hb4))
    go_ret
    exact ⟨rfl, HB4.out⟩
  all_goals
    as_aux_lemma =>
    have hfk := fun (x : Int) W => fieldKind (.int .i64 x) (.string nm2) (.int .i64 l2) (.int .i64 r2) W
    go_enter Tryd.func70, Tryd.ntmps70
    go_wp2_with (first
      | (go_at_call 66; refine (HC.out _ (below_alloc _ _)).mono ?_; rintro e W1 ⟨rfl, hb1⟩; have HB1 := Lib.hid (below_trans (below_alloc w _) hb1); clear hb1 HC)
      | (refine wp_storeRow rNode (.tmp 7) (.tmp 10) rfl rfl rfl (ys := (ND.mk _ nm (l : Int) r).cells) rfl (BoxB.new W1 zeroN.cells 45) rfl rfl (cells_one _) ?_; intro W2 hb2 ho2; have c0 := hb2.cell (i := 0) rfl; have c2 := hb2.cell (i := 2) rfl; have HB2 := Lib.hid (HB1.out.trans (((below_alloc W1 _).trans (ho2.below (Nat.le_refl _))).mono HB1.out.size)); clear hb2 ho2; simp only at c0 c2)
      | (go_at_call 66; refine (HD.out _ HB2.out).mono ?_; rintro e W3 ⟨rfl, hb3⟩; have HB3 := Lib.hid (below_trans HB2.out hb3); clear hb3))
    go_ret
    exact ⟨rfl, HB3.out⟩
theorem onP_imp {rows : List ND} (s : SQ) {main l kd : Nat} {nm nm2 : ByteArray} {r l2 r2 : Int} (hx : rowAt rows main = ⟨5, nm, (l : Int), r⟩) (hy : rowAt rows l = ⟨(kd : Int), nm2, l2, r2⟩) :
    onP rows s main = if (kd : Int) = 1 then (if s.left.testBit l then 4 else 0) else if (kd : Int) = 2 then 5 else if (kd : Int) = 3 then 6 else if (kd : Int) = 4 then 7 else if (kd : Int) = 5 then 13 else 0 := by
  simp [onP, hx, hy]
theorem onP_leaf {rows : List ND} (s : SQ) {main : Nat} {kd : Int} {nm : ByteArray} {l r : Int} (hx : rowAt rows main = ⟨kd, nm, l, r⟩) (h5 : kd ≠ 5) :
    onP rows s main = if kd = 2 then 1 else if kd = 3 then 3 else if kd = 4 then 10 else 0 := by
  unfold onP
  rw [hx]
  simp only [if_neg h5]
theorem on_any (k : Nat) (ow : Own) (w : World) (t : Value) (rows : List ND) (h : Tab k ow w t rows) (s : SQ) (g : Int) (main : Nat) (hm : main < rows.length) :
    Calls Tryd.prog 70 #[t, .agg (seqL s.left g).toArray, .int .i64 (main : Int)] w fun e w' => e = .returned (.int .i64 (onP rows s main)) ∧ Below w.heap.size w w' := by
  have hok := h.ok
  have hp := hok.parts (rowAt_get hm)
  have hf := (fits_le (hok.fit _ _ (rowAt_get hm))).2.1
  obtain ⟨x, hx⟩ : ∃ x, rowAt rows main = x := ⟨_, rfl⟩
  rw [hx] at hp hf
  have hC := rnode_is k ow w t rows h main hm _ hx
  obtain ⟨kd, nm, l, r⟩ := x
  simp only at hC hp hf
  by_cases h5 : kd = 5
  · subst h5
    obtain ⟨⟨h0, h1⟩, _⟩ := hp (by omega)
    obtain ⟨l0, rfl⟩ := Int.eq_ofNat_of_zero_le h0
    have hl : l0 < rows.length := by omega
    have hf2 := (fits_le (hok.fit _ _ (rowAt_get hl))).2.1
    obtain ⟨y, hy⟩ : ∃ y, rowAt rows l0 = y := ⟨_, rfl⟩
    rw [hy] at hf2
    have hD := rnode_is k ow w t rows h l0 hl _ hy
    obtain ⟨kd2, nm2, l2, r2⟩ := y
    simp only at hD hf2
    obtain ⟨k2, rfl⟩ := Int.eq_ofNat_of_zero_le (show 0 ≤ kd2 by omega)
    refine on_imp w t s.left g main nm l0 r k2 nm2 l2 r2 _ (by have := hok.le; omega) ?_ hC hD
    rw [onP_imp s hx hy]
    cases hb : s.left.testBit l0
    all_goals
      obtain h | h | h | h | h : k2 = 1 ∨ k2 = 2 ∨ k2 = 3 ∨ k2 = 4 ∨ k2 = 5 := by omega
      all_goals subst h; simp
  · refine on_leaf w t s.left g main kd nm l r _ ?_ hC
    rw [onP_leaf s hx h5]
    obtain h | h | h | h : kd = 1 ∨ kd = 2 ∨ kd = 3 ∨ kd = 4 := by omega
    all_goals subst h; simp
end Go.Dk
end

section
namespace Go.Dk
open Go.RowKit Go.Maps Go.MapKept Go.Shelf
open Go.Proofs hiding intOf
attribute [local go_sem] Oper.semAt_some
section
variable {F : Fence} {nF : Nat} {ops : Array Oper} {rest : List Oper} {o : Oper} {a : Act} {Q : Exit → Act → World → Prop} {W : World} {b m n : Nat} {g : Int} {ty : TypeId}
theorem exec_loadR (R : RowTy Tryd.prog ty n) (x : Operand) (hop : o.op = .load ty x) (hx : a.eval x = .pointer (some ⟨b, 0, none⟩)) {cs : List Value} (hc : W.rangeAt b 0 cs) (hl : cs.length = n) : (execOp a.eval o).run Tryd.prog W = .ok (.value (.agg cs.toArray)) W := by
  obtain ⟨d, hu, hd⟩ := R.u
  unfold execOp
  simp only [hop, hx, Instr.loadAt, Instr.sureAddr, Sem.run_bind, Sem.run_pure, Result.andThen_ok, run_loadVar_mid W b 0 ty cs d hc hu hd (by rw [hl]; exact R.i)]
theorem wpIn_loadR (R : RowTy Tryd.prog ty n) (x : Operand) (hop : o.op = .load ty x) (hg : o.guard = none) (hx : a.eval x = .pointer (some ⟨b, 0, none⟩)) {cs : List Value} (hc : W.rangeAt b 0 cs) (hl : cs.length = n) (hk : wpListIn F nF Tryd.prog ops Q rest (a.put o.dst (.agg cs.toArray)) W) : wpListIn F nF Tryd.prog ops Q (o :: rest) a W := by
  refine wpListIn_plain hg fun K' hK' => ?_
  unfold Oper.wpIn
  refine ⟨by simp [Oper.about, hop], ?_⟩
  rw [Oper.semAt_plain F _ _ (by rw [hop]; intro c hc'; cases hc'), exec_loadR R x hop hx hc hl]
  exact hK' _ _ hk
theorem rBits : RowTy Tryd.prog 72 16 := ⟨uBits, iBits⟩
theorem rSeq : RowTy Tryd.prog 81 17 := ⟨uSeq, iSeq⟩
theorem wpIn_loadLeft (x : Operand) (hop : o.op = .load 72 x) (hg : o.guard = none) (hx : a.eval x = .pointer (some ⟨b, 0, none⟩)) {T : TypeId} (h : BoxB W b (seqL m g) T) (hk : wpListIn F nF Tryd.prog ops Q rest (a.put o.dst (.agg (bitsV m).toArray)) W) : wpListIn F nF Tryd.prog ops Q (o :: rest) a W :=
  wpIn_loadR rBits x hop hg hx (h.range (seqL_left m g)) (bitsV_len m) hk
theorem wpIn_loadSeq (x : Operand) (hop : o.op = .load 81 x) (hg : o.guard = none) (hx : a.eval x = .pointer (some ⟨b, 0, none⟩)) {T : TypeId} (h : BoxB W b (seqL m g) T) (hk : wpListIn F nF Tryd.prog ops Q rest (a.put o.dst (.agg (seqL m g).toArray)) W) : wpListIn F nF Tryd.prog ops Q (o :: rest) a W :=
  wpIn_loadR rSeq x hop hg hx (h.range (by simp)) (seqL_len m g) hk
end
set_option maxRecDepth 100000 in
theorem not_out (k : Nat) (ow : Own) (w : World) (t : Value) (rows : List ND) (h : Tab k ow w t rows) (a : Int) (ha : hasB rows.length a = false) : Calls Tryd.prog 22 #[t, .int .i64 a] w fun e w' => e = .returned (.tuple #[.int .i64 0, .int .i64 31]) ∧ w = w' := by
  have H := Lib.hid h
  clear h
  go_enter Tryd.func22, Tryd.ntmps22
  go_wp2_with (first | (go_at_call 23; refine (alive_yes k ow _ _ rows H.out).mono ?_; rintro e w' ⟨rfl, rfl⟩) | (go_at_call 24; refine (has_any k ow _ _ rows H.out _).mono ?_; rintro e w' ⟨rfl, rfl⟩))
  go_ret2
  exact ⟨rfl, rfl⟩
theorem all_wide (w : World) (m : Nat) : CallsIn Fence.wide 7 Tryd.prog 38 #[.agg (bitsV m).toArray] w fun e w' => e = .returned (.func (.func 42) #[] #[.pointer (some ⟨w.heap.size, 0, none⟩)]) ∧ w' = w.alloc (.cells (bitsV m).toArray 72) := callsIn_wide.2 (all_in w m)
structure LookF (w W5 : World) (pb m : Nat) (g : Int) : Prop where
  bel : Below w.heap.size w W5
  tb : ∀ {W}, Below W5.heap.size W5 W → W.cell? ⟨w.heap.size, 0, none⟩ = some (.pointer (some ⟨pb, 0, none⟩))
  sq : ∀ {W}, Below W5.heap.size W5 W → BoxB W (w.heap.size + 1) (seqL m g) 81
  er : ∀ {W}, Below W5.heap.size W5 W → BoxB W (w.heap.size + 1 + 1) [.int .i64 0] 32
  bits : BoxB W5 (w.heap.size + 1 + 1 + 1) (bitsV m) 72
  sz : W5.heap.size = w.heap.size + 4
theorem look_frame (w : World) (pb m : Nat) (g : Int) : LookF w ((((w.alloc (.cells #[.pointer (some ⟨pb, 0, none⟩)] 24)).alloc (.cells (seqL m g).toArray 81)).alloc (.cells #[.int .i64 0] 32)).alloc (.cells (bitsV m).toArray 72)) pb m g := by
  refine ⟨below_trans (below_trans (below_trans (below_alloc _ _) (below_alloc _ _)) (below_alloc _ _)) (below_alloc _ _), fun hb => ?_, fun hb => ?_, fun hb => ?_, ?_, by simp⟩
  · have h1 := ((((BoxB.new w [.pointer (some ⟨pb, 0, none⟩)] 24).below (below_alloc _ (.cells (seqL m g).toArray 81))).below (below_alloc _ (.cells #[.int .i64 0] 32))).below (below_alloc _ (.cells (bitsV m).toArray 72))).below hb
    exact h1.cell (i := 0) rfl
  · have h1 := (((BoxB.new (w.alloc (.cells #[.pointer (some ⟨pb, 0, none⟩)] 24)) (seqL m g) 81).below (below_alloc _ (.cells #[.int .i64 0] 32))).below (below_alloc _ (.cells (bitsV m).toArray 72))).below hb
    simpa using h1
  · have h1 := ((BoxB.new ((w.alloc (.cells #[.pointer (some ⟨pb, 0, none⟩)] 24)).alloc (.cells (seqL m g).toArray 81)) [.int .i64 0] 32).below (below_alloc _ (.cells (bitsV m).toArray 72))).below hb
    simpa using h1
  · have h1 := BoxB.new (((w.alloc (.cells #[.pointer (some ⟨pb, 0, none⟩)] 24)).alloc (.cells (seqL m g).toArray 81)).alloc (.cells #[.int .i64 0] 32)) (bitsV m) 72
    simpa using h1
set_option maxRecDepth 100000 in
set_option maxHeartbeats 2000000 in
theorem look_ok (k : Nat) (ow : Own) (w : World) (t : Value) (rows : List ND) (h : Tab k ow w t rows) (hT : TabG w) (s : SQ) (hs : Wf rows s) :
    Calls Tryd.prog 51 #[t, .agg (seqL s.left s.goal).toArray] w fun e w' => e = .returned (.int .i64 0) ∧ Below w.heap.size w w' := by
  obtain ⟨pb, rfl⟩ : ∃ pb, t = .pointer (some ⟨pb, 0, none⟩) := by obtain ⟨pb, _, _, e, _⟩ := h; exact ⟨pb, e⟩
  have H := Lib.hid h; have HT := Lib.hid hT; have HW := Lib.hid hs
  clear h hT hs
  refine (callsIn_wide (n := 8)).1 ?_
  refine callsIn_of_wp_marks Tryd.func51 rfl trivial ?_ rfl
  simp only [Tryd.ntmps51, List.size_toArray, List.length_cons, List.length_nil, Nat.reduceAdd, Nat.reduceSub, Array.replicate_succ, Array.replicate_zero, List.push_toArray, List.append_toArray, List.nil_append, List.cons_append]
  have HQ : Hid (∀ o, BoxB (((w.alloc (.cells #[.pointer (some ⟨pb, 0, none⟩)] 24)).alloc (.cells (seqL s.left s.goal).toArray 81)).alloc o) (w.heap.size + 1) (seqL s.left s.goal) 81) := fun o => by
    have := (BoxB.new (w.alloc (.cells #[.pointer (some ⟨pb, 0, none⟩)] 24)) (seqL s.left s.goal) 81).below (below_alloc _ o)
    simpa using this
  gi_wp2_with (first
    | (refine ⟨trivial, ?_⟩; gi_at_call 22; go_loud (refine (callsIn_wide.2 (not_out k ow _ _ rows (H.out.below (below_trans (below_trans (below_alloc _ _) (below_alloc _ _)) (below_alloc _ _))) (-1) (by simp [hasB]))).mono ?_; rintro e w2 ⟨rfl, rfl⟩))
    | (refine wpIn_loadLeft (.tmp 16) rfl rfl rfl (HQ.out _) ?_)
    | (refine ⟨trivial, ?_⟩; gi_at_call 38; refine (all_wide _ _).mono ?_; rintro e w5 ⟨rfl, rfl⟩))
  have HF := Lib.hid (look_frame w pb s.left s.goal)
  generalize ((((w.alloc (.cells #[.pointer (some ⟨pb, 0, none⟩)] 24)).alloc (.cells (seqL s.left s.goal).toArray 81)).alloc (.cells #[.int .i64 0] 32)).alloc (.cells (bitsV s.left).toArray 72)) = W5 at *
  have HS : Hid (∀ g, (g = 0 ∨ g = w.heap.size + 1 + 1 + 1) → g < W5.heap.size) := fun g hg => by
    have h1 := HF.out.sz
    rcases hg with rfl | rfl <;> omega
  refine wpIn_rangeFunc_ownG (I := fun _ W => Below W5.heap.size W5 W) (Ix := fun _ _ _ => False) (Kp := HoldS fun g => g = 0 ∨ g = w.heap.size + 1 + 1 + 1)
    rfl (by omega) (gf := 42) (lb := #[.pointer (some ⟨w.heap.size + 1 + 1 + 1, 0, none⟩)]) rfl trivial (enters_of Tryd.func42 (by kernel_rfl) rfl)
    (all_stops _ (by omega) (w.heap.size + 1 + 1 + 1) s.left _ (.inl rfl) (.inr rfl) W5 HS.out (HT.out.below HF.out.bel) HF.out.bits) holdS_t (holdS_b HS.out) (Below.refl _ _) (fun _ => rfl) (ownFrom_below (Nat.le_refl _) (Nat.le_refl _)) (fun _ _ _ _ _ hs _ _ => hs) (Below.refl _ _)
    (fun x => { tmps := #[.pointer (some ⟨pb, 0, none⟩), .agg (seqL s.left s.goal).toArray, .pointer (some ⟨w.heap.size, 0, none⟩), .pointer (some ⟨w.heap.size + 1, 0, none⟩), .pointer (some ⟨w.heap.size + 1 + 1, 0, none⟩), .int .i64 0, .int .i64 31, .int .i64 (x.1 : Int), .tuple #[.int .i64 0, .int .i64 31], .pointer (some ⟨pb, 0, none⟩), .tuple #[.int .i64 0, .int .i64 31], .int .i64 0, .int .i64 31, .int .i64 31, .bool false, undef, .pointer (some ⟨w.heap.size + 1, 0, none⟩), .agg (bitsV s.left).toArray, .func (.func 42) #[] #[.pointer (some ⟨w.heap.size + 1 + 1 + 1, 0, none⟩)], .int .i64 (x.1 : Int), undef, undef, undef, undef, undef, undef, undef, undef, undef, undef, undef, undef, undef, undef], defers := [] }) ?assign ?body ?done ?stop
  case assign =>
    intro l x W K hK
    unfold memV
    gi_wp2
    exact hK
  case body =>
    rintro l pre x W hI hlt
    have HI := Lib.hid hI
    have hlt : x.1 < rows.length := HW.out.left _ x.2.2
    have hc : ((x.1 : Int) < (rows.length : Int)) := by omega
    have c1 : W.cell? ⟨w.heap.size, 0, none⟩ = some (.pointer (some ⟨pb, 0, none⟩)) := HF.out.tb hI
    clear hI
    gi_wp2_with (refine ⟨trivial, ?_⟩; gi_at_call 16; refine (CallsIn.inRound l (callsIn_wide.2 (len_any k ow _ _ rows (H.out.below (below_trans HF.out.bel HI.out))))).mono ?_; rintro e w6 ⟨rfl, rfl⟩)
    exact ⟨KeepsFrom.refl _ _, holdS_refl _ _, HI.out⟩
  case done =>
    rintro D ys W hD hys hI hK
    have HI := Lib.hid hI
    have c1 : W.cell? ⟨w.heap.size, 0, none⟩ = some (.pointer (some ⟨pb, 0, none⟩)) := HF.out.tb hI
    have c16 := (HF.out.sq hI).cell (seqL_goal s.left s.goal)
    have r0 := (HF.out.er hI).cell (i := 0) rfl
    have f0 := (HF.out.er hI).fr 0
    have HTL : Hid (∀ n, Tab k ow (W.drewN n) (.pointer (some ⟨pb, 0, none⟩)) rows) := fun n => H.out.below (below_trans (below_trans HF.out.bel hI) (below_drewN W n))
    have hg : (s.goal : Int) < (rows.length : Int) := by have := HW.out.goal; omega
    have hg0 : ¬ ((s.goal : Int) < 0) := by omega
    have hgd : decide ((s.goal : Int) < 0) = false := decide_eq_false hg0
    have hge : decide ((rows.length : Int) ≤ (s.goal : Int)) = false := decide_eq_false (by omega)
    have HLW : Hid (∀ a, CallsIn Fence.wide 7 Tryd.prog 16 #[.pointer (some ⟨pb, 0, none⟩)] (W.drewN a) fun e w'' => e = .returned (.int .i64 (rows.length : Int)) ∧ ∃ n, w'' = W.drewN n) := fun a =>
      CallsIn.quiet_of_same ((callsIn_wide.2 (len_any k ow _ _ rows (HTL.out a))).mono fun e w' ⟨h1, h2⟩ => ⟨h1, h2.symm⟩)
    clear hI
    gi_wp2
    refine wpIn_region_quiet_lit rfl (by kernel_rfl) (by kernel_rfl) ?_
    repeat (
      refine wpQuietIn_step (by unfold Oper.askedIn; intros; trivial) (fun K hK => ?_)
      go_simp
      first
        | (refine hK _ ?_; clear hK K)
        | (apply Exists.intro
           refine ⟨fun _ => ?_, hK _ ?_⟩
           (exact HLW.out _)
           clear hK K))
    refine wpQuietIn_nil ?_
    intro _ hw'
    obtain ⟨nq, hw''⟩ := hw'
    subst hw''
    gi_wp2
    have hK8 : ((W.drewN nq).setCell ⟨w.heap.size + 1 + 1, 0, none⟩ (.int .i64 0)).heap[D]? = some (.deferred (some [])) := (KeepsOthers.setCell (W.drewN nq) _ _).same D _ (by simpa using hK) rfl
    have c8 : ((W.drewN nq).setCell ⟨w.heap.size + 1 + 1, 0, none⟩ (.int .i64 0)).cell? ⟨w.heap.size + 1 + 1, 0, none⟩ = some (.int .i64 0) := World.cell?_setCell_same' _ _ _ (by simp [r0])
    have c9 := cell_kept c8 (grownBy_putObj' _ D (.deferred none)) (fun r e => by cases e; exact ⟨_, hK8, rfl⟩)
    have HB : Hid (Below w.heap.size w ((W.drewN nq).setCell ⟨w.heap.size + 1 + 1, 0, none⟩ (.int .i64 0))) := (below_trans (below_trans HF.out.bel HI.out) (below_drewN W nq)).setCell (p := ⟨w.heap.size + 1 + 1, 0, none⟩) (by show w.heap.size ≤ w.heap.size + 1 + 1; omega) _
    have HDD : Hid (w.heap.size ≤ D) := by have := HF.out.sz; unfold Hid; omega
    generalize ((W.drewN nq).setCell ⟨w.heap.size + 1 + 1, 0, none⟩ (.int .i64 0)) = W8 at *
    refine ⟨by simp, .inl ⟨_, _, rfl, run_takeDeferred hK8, ?_⟩⟩
    refine ⟨.int .i64 0, by simp [results, Tryd.results51, go_sem, c9], rfl, ?_⟩
    exact HB.out.trans (belowK_b (w := w) (Nat.le_refl _) W8 D _ _ HDD.out hK8 rfl rfl)
  case stop =>
    rintro D c pre W _ _ h _
    exact h.elim
end Go.Dk
end
