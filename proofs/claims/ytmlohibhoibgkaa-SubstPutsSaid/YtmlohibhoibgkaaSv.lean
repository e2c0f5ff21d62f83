/- Layer 7: the search of a matching. -/
import Derived.Test.YtmlohibhoibgkaaSm
import Derived.Test.YtmlohibhoibgkaaSu
import Derived.Shelf.SlSortCmp.WholeK
import Derived.Shelf.SlSortCmp.NoneTotal
namespace Go.Dk
open Go.RowKit Go.Maps Go.MapKept
open Go.Proofs hiding intOf

def pairKV (x : Nat × Nat) : Value := .agg #[.int .i64 (x.1 : Int), .int .i64 (x.2 : Int)]
theorem pairKV_inj : ∀ x y, pairKV x = pairKV y → x = y := by
  intro x y h
  cases x; cases y
  simp only [pairKV, Value.agg.injEq, Array.mk.injEq, List.cons.injEq, Value.int.injEq, true_and, and_true] at h
  obtain ⟨h1, h2⟩ := h
  simp only [Prod.mk.injEq]
  omega
theorem lawPair : Keyed Try.prog 85 :=
  Keyed.of_law (deep_law_laid (by kernel_rfl) (m := 3) (by omega) (of_decide_eq_true (by kernel_rfl)) (by kernel_rfl) (by rw [Try.underlying85]))

/-- What fit has captured. -/
structure FEnv (ow : Own) (w : World) (sb tb nb fb sB nB : Nat) (t : Value) (rows : List ND) : Prop where
  cs : w.cell? ⟨sb, 0, none⟩ = some (.map (some sB))
  ct : w.cell? ⟨tb, 0, none⟩ = some t
  cn : w.cell? ⟨nb, 0, none⟩ = some (.map (some nB))
  cf : w.cell? ⟨fb, 0, none⟩ = some (.func (.func 38) #[] #[.pointer (some ⟨sb, 0, none⟩), .pointer (some ⟨tb, 0, none⟩), .pointer (some ⟨nb, 0, none⟩), .pointer (some ⟨fb, 0, none⟩)])
  tab : Tab 1 ow w t rows
  os : ow sb = 2
  ot : ow tb = 2
  on : ow nb = 2
  of : ow fb = 2
  oS : ow sB = 3
  oN : ow nB = 3
  ne : sB ≠ nB
  o3 : ∀ b, ow b = 3 → b = sB ∨ b = nB
theorem FEnv.kept {ow : Own} {w w' : World} {sb tb nb fb sB nB : Nat} {t : Value} {rows : List ND} (h : FEnv ow w sb tb nb fb sB nB t rows) (hk : Kept 3 ow w ow w') : FEnv ow w' sb tb nb fb sB nB t rows := by
  exact ⟨cell_kept h.cs hk (by rw [show (⟨sb, 0, none⟩ : Addr).block = sb from rfl, h.os]; decide), cell_kept h.ct hk (by rw [show (⟨tb, 0, none⟩ : Addr).block = tb from rfl, h.ot]; decide), cell_kept h.cn hk (by rw [show (⟨nb, 0, none⟩ : Addr).block = nb from rfl, h.on]; decide), cell_kept h.cf hk (by rw [show (⟨fb, 0, none⟩ : Addr).block = fb from rfl, h.of]; decide),
    h.tab.kept hk (by decide), h.os, h.ot, h.on, h.of, h.oS, h.oN, h.ne, h.o3⟩

/-- fit's state: the captured, the pairs, the names. -/
structure FI (ow : Own) (w0 w : World) (sb tb nb fb sB nB : Nat) (t : Value) (rows : List ND) (S : PairS) (N : NameS) : Prop where
  env : FEnv ow w sb tb nb fb sB nB t rows
  mS : TM Try.prog 85 pairKV oneV w sB S
  mN : TM Try.prog 9 strV intV w nB N
  kp : Kept 3 ow w0 ow w
section
variable {ow : Own} {w0 w w' : World} {sb tb nb fb sB nB : Nat} {t : Value} {rows : List ND} {S S' : PairS} {N N' : NameS}
theorem FI.below (h : FI ow w0 w sb tb nb fb sB nB t rows S N) (hb : Below w.heap.size w w') : FI ow w0 w' sb tb nb fb sB nB t rows S N :=
  ⟨h.env.kept hb.kept_ow, h.mS.below hb, h.mN.below hb, h.kp.trans hb.kept_ow⟩
theorem FI.putS (h : FI ow w0 w sb tb nb fb sB nB t rows S N) (hm : TM Try.prog 85 pairKV oneV w' sB S') (ho : Only sB w w') : FI ow w0 w' sb tb nb fb sB nB t rows S' N := by
  have hk : Kept 3 ow w ow w' := ho.kept h.env.oS
  exact ⟨h.env.kept hk, hm, h.mN.same (ho.block _ (Ne.symm h.env.ne)), h.kp.trans hk⟩
theorem FI.putN (h : FI ow w0 w sb tb nb fb sB nB t rows S N) (hm : TM Try.prog 9 strV intV w' nB N') (ho : Only nB w w') : FI ow w0 w' sb tb nb fb sB nB t rows S N' := by
  have hk : Kept 3 ow w ow w' := ho.kept h.env.oN
  exact ⟨h.env.kept hk, h.mS.same (ho.block _ h.env.ne), hm, h.kp.trans hk⟩
theorem FI.rebase (h : FI ow w w' sb tb nb fb sB nB t rows S N) (hk : Kept 3 ow w0 ow w) : FI ow w0 w' sb tb nb fb sB nB t rows S N := ⟨h.env, h.mS, h.mN, hk.trans h.kp⟩
theorem FI.start (h : FI ow w0 w sb tb nb fb sB nB t rows S N) : FI ow w w sb tb nb fb sB nB t rows S N := ⟨h.env, h.mS, h.mN, Kept.refl _ _ _⟩

end


def FitPost (ow : Own) (w : World) (sb tb nb fb sB nB : Nat) (t : Value) (rows : List ND) (p f : Nat) (S : PairS) (N : NameS) (e : Ending) (w' : World) : Prop :=
  ∃ b S' N', e = .returned (.bool b) ∧ FI ow w w' sb tb nb fb sB nB t rows S' N' ∧ Fit rows p f S N S' N' b

theorem pairKey (p f : Nat) (hp : p ≤ 9223372036854775807) (hf : f ≤ 9223372036854775807) : ∃ kl, keyOf Try.prog 85 (pairKV (p, f)) = some kl := by
  apply Option.isSome_iff_exists.1
  unfold keyOf
  rw [Try.underlying85]
  simp only
  have e1 : (Program.keyType Try.prog 85) = true := by kernel_rfl
  have e2 : (pairKV (p, f)).formed Try.prog 85 = true := by
    have : Try.prog.cellsOf 85 = 2 := by kernel_rfl
    simp [Value.formed, pairKV, Try.underlying85, this]
  rw [e1, e2]
  simp only [Bool.and_self, if_true]
  have e0 : 0 < Try.prog.types.size := of_decide_eq_true (by kernel_rfl)
  have e3 : ∃ d, Try.prog.types.size = d + 1 := ⟨Try.prog.types.size - 1, by omega⟩
  obtain ⟨d, hd⟩ := e3
  rw [hd]
  have u3 := Try.underlying3
  have k0 : Try.prog.cellsOf 85 = 2 := by kernel_rfl
  have k3 : Try.prog.cellsOf 3 = 1 := by kernel_rfl
  have h1 : (Lit.int .i64 (p : Int)).wf = true := wf64 (by omega)
  have h2 : (Lit.int .i64 (f : Int)).wf = true := wf64 (by omega)
  simp [Program.keyLits, Try.underlying85, pairKV, Value.cells, u3, k0, k3, h1, h2]

theorem Boxed.kept {c : Nat} {ow ow' : Own} {w w' : World} {b : Nat} {n : ND} (h : Boxed w b n) (hk : Kept c ow w ow' w') (hc : ow b ≠ c) : Boxed w' b n :=
  ⟨cell_kept h.c0 hk hc, cell_kept h.c1 hk hc, cell_kept h.c2 hk hc, cell_kept h.c3 hk hc⟩

set_option maxRecDepth 100000 in
set_option maxHeartbeats 4000000 in
theorem fit_any (ow : Own) (sb tb nb fb sB nB : Nat) (t : Value) (rows : List ND) (p : Nat) : ∀ (w : World) (f : Nat) (S : PairS) (N : NameS), p < rows.length → f < rows.length → FI ow w w sb tb nb fb sB nB t rows S N →
    Calls Try.prog 38 #[.int .i64 (p : Int), .int .i64 (f : Int), .pointer (some ⟨sb, 0, none⟩), .pointer (some ⟨tb, 0, none⟩), .pointer (some ⟨nb, 0, none⟩), .pointer (some ⟨fb, 0, none⟩)] w (FitPost ow w sb tb nb fb sB nB t rows p f S N) := by
  induction p using Nat.strongRecOn with
  | _ p ih =>
    intro w f S N hp hf h
    have hok := h.env.tab.ok
    have hle := hok.le
    obtain ⟨kl, hkey⟩ := pairKey p f (by omega) (by omega)
    have cs := h.env.cs
    rcases unit_cases (S (p, f)) with h0 | h0
    · have hl : (Instr.lookup 82 (.map (some sB)) (.agg #[.int .i64 (p : Int), .int .i64 (f : Int)]) false).run Try.prog w = .ok (.int .i64 0) w := h.mS.look_none lawPair pairKV_inj Try.underlying82 (zeroInt _) hkey false h0
      have HI := Lib.hid h
      have HK := Lib.hid hkey
      have IH := Lib.hid ih
      have OK := Lib.hid hok
      have HRP := Lib.hid (rowAt_get hp)
      have HRF := Lib.hid (rowAt_get hf)
      have HPF : Hid (p < rows.length ∧ f < rows.length) := ⟨hp, hf⟩
      clear h hkey ih h0 hok
      go_enter Try.func38, Try.ntmps38
      go_wp2_with (at_mapUpdate; refine wp_put HI.out.mS lawPair pairKV_inj rfl (.tmp 21) (.tmp 24) (.const (.int .i64 1)) 82 3 rfl Try.underlying82 rfl (p, f) rfl () rfl HK.out ?_; intro w1 hm1 ho1; have HI1 := Lib.hid (HI.out.putS hm1 ho1); have ct := HI1.out.env.ct; clear hm1 ho1 hl)
      refine (node_yes 1 ow _ _ _ HI1.out.env.tab _ _ HRP.out).mono ?_
      rintro e w2 ⟨rfl, hb2⟩
      generalize hx : rowAt rows p = x at *
      have HX := Lib.hid hx
      have HI2 := Lib.hid (HI1.out.below (below_trans hb2 (below_alloc w2 (.cells #[.int .i64 x.kind, .string x.name, .int .i64 x.l, .int .i64 x.r] 36))))
      have HB2 : Hid (Boxed (w2.alloc (.cells #[.int .i64 x.kind, .string x.name, .int .i64 x.l, .int .i64 x.r] 36)) w2.heap.size x) := boxed_new w2 x _
      have ct2 := HI2.out.env.ct
      have l2 : sB < w2.heap.size ∧ nB < w2.heap.size := ⟨(HI1.out.below hb2).mS.lt, (HI1.out.below hb2).mN.lt⟩
      clear hb2 cs ct hx
      go_wp2_with fail
      refine (node_yes 1 ow _ _ _ HI2.out.env.tab _ _ HRF.out).mono ?_
      rintro e w3 ⟨rfl, hb3⟩
      generalize hy : rowAt rows f = y at *
      have HY := Lib.hid hy
      have hb34 := below_trans hb3 (below_alloc w3 (.cells #[.int .i64 y.kind, .string y.name, .int .i64 y.l, .int .i64 y.r] 36))
      have HI4 := Lib.hid (HI2.out.below hb34)
      have HBX := Lib.hid (HB2.out.below hb34)
      have HBY : Hid (Boxed (w3.alloc (.cells #[.int .i64 y.kind, .string y.name, .int .i64 y.l, .int .i64 y.r] 36)) w3.heap.size y) := boxed_new w3 y _
      have l3 : w2.heap.size < w3.heap.size := by have := hb3.size; simp at this; omega
      have HNB : Hid (ow w2.heap.size ≠ 3 ∧ ow w3.heap.size ≠ 3) := ⟨fun e => by rcases HI2.out.env.o3 _ e with h | h <;> omega, fun e => by rcases HI2.out.env.o3 _ e with h | h <;> omega⟩
      obtain ⟨x0, x1, x2, x3⟩ := HBX.out
      obtain ⟨y0, y1, y2, y3⟩ := HBY.out
      have cn := HI4.out.env.cn
      have cf := HI4.out.env.cf
      clear hb3 hb34 HB2 HI2 HI1 ct2 l2 l3 hy
      by_cases h1 : x.kind = 1
      · as_aux_lemma =>
        have g1 : (x.kind == 1) = true := by simpa using h1
        have hxl := fits_le (OK.out.fit _ _ HRP.out)
        have hnm : x.name.size ≤ maxLen := by unfold maxLen; omega
        have HNM := Lib.hid hnm
        have hlk := look_str HI4.out.mN x.name hnm
        have HF : Hid (Fit rows p f S N (upd S (p, f) (some ())) (upd N x.name (some (f : Int))) (atomB N x.name f)) := by
          have := Fit.atom OK.out (S := S) (N := N) HPF.out.1 HPF.out.2 (by rw [HX.out]; exact h1)
          rw [HX.out] at this; exact this
        clear h1 hxl hnm
        cases hN : N x.name with
        | none =>
          have HAB : Hid (atomB N x.name f = true) := by unfold Hid atomB; rw [hN]
          rw [hN] at hlk
          simp only [Option.getD_none, Option.isSome_none] at hlk
          clear hN
          obtain ⟨xk, xn, xl, xr⟩ := x
          obtain ⟨yk, yn, yl, yr⟩ := y
          simp only at *
          go_wp2_with (at_mapUpdate; refine wp_put HI4.out.mN lawStr strV_inj rfl (.tmp 47) (.tmp 49) (.tmp 50) 77 3 rfl Try.underlying77 rfl xn rfl (f : Int) rfl (keyStr xn HNM.out) ?_; intro w5 hm5 ho5; have HI5 := Lib.hid (HI4.out.putN hm5 ho5); clear hm5 ho5)
          go_ret
          exact ⟨_, _, _, ret_bool HAB.out.symm, HI5.out, HF.out⟩
        | some v =>
          have HAB : Hid (atomB N x.name f = (v == (f : Int))) := by unfold Hid atomB; rw [hN]
          rw [hN] at hlk
          simp only [Option.getD_some, Option.isSome_some] at hlk
          clear hN
          obtain ⟨xk, xn, xl, xr⟩ := x
          obtain ⟨yk, yn, yl, yr⟩ := y
          simp only at *
          go_wp2_with (at_mapUpdate; refine wp_put HI4.out.mN lawStr strV_inj rfl (.tmp 47) (.tmp 49) (.tmp 50) 77 3 rfl Try.underlying77 rfl xn rfl (f : Int) rfl (keyStr xn HNM.out) ?_; intro w5 hm5 ho5; have HI5 := Lib.hid (HI4.out.putN hm5 ho5); clear hm5 ho5)
          go_ret
          exact ⟨_, _, _, ret_bool HAB.out.symm, HI5.out, HF.out⟩
      · as_aux_lemma =>
        have g1 : (x.kind == 1) = false := by simpa using h1
        by_cases he : x.kind = y.kind
        · have ge : (x.kind == y.kind) = true := by simpa using he
          by_cases h2 : x.kind = 2
          · as_aux_lemma =>
            have g2 : (x.kind == 2) = true := by simpa using h2
            have HF : Hid (Fit rows p f S N (upd S (p, f) (some ())) N true) := Fit.bot HPF.out.1 HPF.out.2 (by rw [HX.out]; exact h2) (by rw [HY.out, ← he]; exact h2)
            clear h1 h2 he
            obtain ⟨xk, xn, xl, xr⟩ := x
            obtain ⟨yk, yn, yl, yr⟩ := y
            simp only at *
            go_wp2_with fail
            go_ret
            exact ⟨_, _, _, rfl, HI4.out, HF.out⟩
          · as_aux_lemma =>
            have g2 : (x.kind == 2) = false := by simpa using h2
            have hk5 := OK.out.kindsP HRP.out
            have HK3 : Hid (3 ≤ x.kind ∧ x.kind = y.kind) := by unfold Hid; omega
            have pp := OK.out.parts HRP.out HK3.out.1
            have pf := OK.out.parts HRF.out (by have := HK3.out; omega)
            have F1 : ∀ (S2 : PairS) (N2 : NameS), Fit rows x.l.toNat y.l.toNat (upd S (p, f) (some ())) N S2 N2 false → Fit rows p f S N S2 N2 false := fun _ _ h => Fit.first OK.out HPF.out.1 HPF.out.2 (by rw [HX.out]; exact HK3.out.1) (by rw [HX.out, HY.out]; exact HK3.out.2) (by rw [HX.out, HY.out]; exact h)
            have F2 : ∀ (S2 S3 : PairS) (N2 N3 : NameS) (b : Bool), Fit rows x.l.toNat y.l.toNat (upd S (p, f) (some ())) N S2 N2 true → Fit rows x.r.toNat y.r.toNat S2 N2 S3 N3 b → Fit rows p f S N S3 N3 b := fun _ _ _ _ _ h h' => Fit.both OK.out HPF.out.1 HPF.out.2 (by rw [HX.out]; exact HK3.out.1) (by rw [HX.out, HY.out]; exact HK3.out.2) (by rw [HX.out, HY.out]; exact h) (by rw [HX.out, HY.out]; exact h')
            have HF1 := Lib.hid F1
            have HF2 := Lib.hid F2
            clear F1 F2 h1 h2 he hk5
            obtain ⟨xk, xn, xl, xr⟩ := x
            obtain ⟨yk, yn, yl, yr⟩ := y
            simp only at *
            obtain ⟨l, rfl⟩ := Int.eq_ofNat_of_zero_le pp.1.1
            obtain ⟨r, rfl⟩ := Int.eq_ofNat_of_zero_le pp.2.1
            obtain ⟨l', rfl⟩ := Int.eq_ofNat_of_zero_le pf.1.1
            obtain ⟨r', rfl⟩ := Int.eq_ofNat_of_zero_le pf.2.1
            simp only [Int.toNat_natCast] at HF1 HF2
            have HL : Hid ((l < p ∧ r < p) ∧ l < rows.length ∧ r < rows.length ∧ l' < rows.length ∧ r' < rows.length) := by unfold Hid; omega
            clear pp pf
            go_wp2_with fail
            refine (IH.out l HL.out.1.1 _ l' _ _ HL.out.2.1 HL.out.2.2.2.1 HI4.out.start).mono ?_
            rintro e w5 ⟨b1, S2, N2, rfl, hI5, hf5⟩
            have HI5 := Lib.hid hI5
            have HF5 := Lib.hid hf5
            have cf5 := hI5.env.cf
            obtain ⟨x0, x1, x2, x3⟩ := HBX.out.kept hI5.kp HNB.out.1
            obtain ⟨y0, y1, y2, y3⟩ := HBY.out.kept hI5.kp HNB.out.2
            simp only at x0 x1 x2 x3 y0 y1 y2 y3
            clear hI5 hf5
            cases b1 with
            | false =>
              go_wp2_with fail
              go_ret
              exact ⟨_, _, _, rfl, HI5.out.rebase HI4.out.kp, HF1.out _ _ HF5.out⟩
            | true =>
              go_wp2_with fail
              refine (IH.out r HL.out.1.2 _ r' _ _ HL.out.2.2.1 HL.out.2.2.2.2 HI5.out.start).mono ?_
              rintro e w6 ⟨b2, S3, N3, rfl, hI6, hf6⟩
              have HI6 := Lib.hid hI6
              have HF6 := Lib.hid hf6
              clear hI6 hf6
              go_wp2_with fail
              go_ret
              exact ⟨_, _, _, rfl, HI6.out.rebase (HI4.out.kp.trans HI5.out.kp), HF2.out _ _ _ _ _ HF5.out HF6.out⟩
        · as_aux_lemma =>
          have ge : (x.kind == y.kind) = false := by simpa using he
          have HF : Hid (Fit rows p f S N (upd S (p, f) (some ())) N false) := Fit.other OK.out HPF.out.1 HPF.out.2 (by rw [HX.out]; exact h1) (by rw [HX.out, HY.out]; exact he)
          clear h1 he
          obtain ⟨xk, xn, xl, xr⟩ := x
          obtain ⟨yk, yn, yl, yr⟩ := y
          simp only at *
          go_wp2_with fail
          go_ret
          exact ⟨_, _, _, rfl, HI4.out, HF.out⟩
    · have hl : (Instr.lookup 82 (.map (some sB)) (.agg #[.int .i64 (p : Int), .int .i64 (f : Int)]) false).run Try.prog w = .ok (.int .i64 1) w := h.mS.look_some lawPair pairKV_inj Try.underlying82 hkey false h0
      have HI := Lib.hid h
      have H0 := Lib.hid h0
      clear h hkey ih h0 hok
      go_enter Try.func38, Try.ntmps38
      go_wp2_with fail
      go_ret
      exact ⟨true, S, N, rfl, HI.out, Fit.seen H0.out⟩

end Go.Dk


/- Layer 7: matchings sorted by their names. -/
namespace Go.Dk
open Go.RowKit Go.Maps Go.MapKept Go.Sort Go.Lib Go.Shelf
open Go.Proofs hiding intOf

def cmpS (a b : ByteArray) : Int := if a.data.toList < b.data.toList then -1 else if b.data.toList < a.data.toList then 1 else 0
theorem isNaNS_any (a : ByteArray) (w : World) : Calls Try.prog 62 #[.string a] w fun e w' => e = .returned (.bool false) ∧ w' = w := by
  go_enter Try.func62, Try.ntmps62
  go_wp2_with fail
  go_ret
  exact ⟨by simp, rfl⟩
theorem cmpS_any (a b : ByteArray) (w : World) : Calls Try.prog 41 #[.string a, .string b] w fun e w' => e = .returned (.int .i64 (cmpS a b)) ∧ w' = w := by
  go_enter Try.func41, Try.ntmps41
  go_wp2_with (go_at_call 62; refine (isNaNS_any _ _).mono ?_; rintro e w' ⟨rfl, hw⟩; rw [hw])
  · go_ret
    have h : a.data.toList < b.data.toList := by
      have : Op.bytesLess a.toList b.toList = true := by assumption
      rw [bytesLess_eq, ByteArray.toList_eq, ByteArray.toList_eq] at this; simpa using this
    exact ⟨by simp [cmpS, h], rfl⟩
  · go_ret
    have h : ¬ a.data.toList < b.data.toList := by
      have : Op.bytesLess a.toList b.toList = false := by assumption
      rw [bytesLess_eq, ByteArray.toList_eq, ByteArray.toList_eq] at this; simpa using this
    have h2 : a.data.toList ≠ b.data.toList := by
      have : (!a.toList == b.toList) = true := by assumption
      rw [ByteArray.toList_eq, ByteArray.toList_eq] at this; simpa using this
    have h3 : b.data.toList < a.data.toList := by
      apply Classical.byContradiction
      intro h3
      exact h2 (List.le_antisymm (List.not_lt.1 h3) (List.not_lt.1 h))
    exact ⟨by simp [cmpS, h, h3], rfl⟩
  · go_ret
    have h : ¬ a.data.toList < b.data.toList := by
      have : Op.bytesLess a.toList b.toList = false := by assumption
      rw [bytesLess_eq, ByteArray.toList_eq, ByteArray.toList_eq] at this; simpa using this
    have h2 : a.data.toList = b.data.toList := by
      have : (!a.toList == b.toList) = false := by assumption
      rw [ByteArray.toList_eq, ByteArray.toList_eq] at this; simpa using this
    have h3 : ¬ b.data.toList < a.data.toList := by rw [h2]; exact List.lt_irrefl _
    exact ⟨by simp [cmpS, h, h3], rfl⟩
theorem closure_any (x y : HY) (W : World) : Calls Try.prog 40 #[.agg x.cells.toArray, .agg y.cells.toArray] W fun e w' => e = .returned (.int .i64 (cmpS x.name y.name)) ∧ ∃ q os', w' = grow (W.drewN q) os' := by
  obtain ⟨xn, xf⟩ := x
  obtain ⟨yn, yf⟩ := y
  have hcon := fun W' => cmpS_any xn yn W'
  generalize cmpS xn yn = r at hcon ⊢
  unfold HY.cells
  go_enter Try.func40, Try.ntmps40
  go_wp2_with (go_at_call 41; refine (hcon _).mono ?_; rintro e w' ⟨rfl, rfl⟩)
  go_ret
  exact ⟨rfl, 0, _, by rw [alloc_eq_grow, alloc_eq_grow, grow_grow]; rfl⟩

instance : Inhabited HY := ⟨⟨ByteArray.empty, 0⟩⟩
theorem swoHY : SWO (ltOf fun x y : HY => cmpS x.name y.name) := by
  have e : ∀ x y : HY, ltOf (fun x y : HY => cmpS x.name y.name) x y = decide (x.name.data.toList < y.name.data.toList) := by
    intro x y
    unfold ltOf cmpS
    by_cases h1 : x.name.data.toList < y.name.data.toList
    · simp [h1]
    · by_cases h2 : y.name.data.toList < x.name.data.toList <;> simp [h1, h2]
  refine ⟨fun x => ?_, fun x y z h1 h2 => ?_, fun x y z h1 h2 => ?_⟩
  · rw [e]; simp [List.lt_irrefl]
  · rw [e] at *; simp only [decide_eq_true_eq] at *; exact List.lt_trans h1 h2
  · rw [e] at *; simp only [decide_eq_false_iff_not] at *; exact List.not_lt.2 (List.le_trans (List.not_lt.1 h2) (List.not_lt.1 h1))

theorem flat_hy (l : List HY) : (flatK HY.cells 2 l.toArray).toList = hyCells l := by
  apply List.ext_getElem?
  intro j
  by_cases hj : j < l.length * 2
  · have h1 : (flatK HY.cells 2 l.toArray)[j]! = (HY.cells l.toArray[j / 2]!)[j % 2]! := get_flatK _ _ _ _ (by simpa using hj)
    have hq : j / 2 < l.length := by omega
    have h2 := hyCells_at l (j / 2) _ (List.getElem?_eq_getElem hq) (j % 2) (by omega)
    rw [show j / 2 * 2 + j % 2 = j by omega] at h2
    rw [h2, Array.getElem?_toList, getElem?_pos _ j (by simpa using hj)]
    rw [getElem!_pos _ j (by simpa using hj)] at h1
    rw [h1]
    have hm : j % 2 = 0 ∨ j % 2 = 1 := by omega
    rcases hm with hm | hm <;> rw [hm] <;> simp [HY.cells, hq]
  · rw [List.getElem?_eq_none (by simpa using hj), List.getElem?_eq_none (by rw [hyCells_len]; omega)]

theorem holds_hy {w : World} {g : Nat} {cur : Array Value} {e : TypeId} {l : List HY} (hb : w.heap[g]? = some (.cells cur e (0, 0))) (ht : cur.toList.take (l.length * 2) = hyCells l) : HoldsK HY.cells 2 w g 0 l.toArray := by
  intro j hj
  have hj' : j < l.length * 2 := by simpa using hj
  refine ⟨?_, by simp [World.frozen?, hb]⟩
  have h1 : (cur.toList.take (l.length * 2))[j]? = (flatK HY.cells 2 l.toArray).toList[j]? := by rw [ht, flat_hy]
  rw [List.getElem?_take_of_lt hj', Array.getElem?_toList, Array.getElem?_toList, getElem?_pos (flatK HY.cells 2 l.toArray) j hj] at h1
  simp only [World.cell?, hb, Nat.zero_add]
  simp only [Option.isSome_none, Bool.false_eq_true, if_false]
  rw [h1, getElem!_pos _ j hj]
  rfl

theorem heap_sortedK {w : World} {g n : Nat} {os : Array Obj} {cur : Array Value} {e : TypeId} {fr : Nat × Nat} (d : Array HY) (hb : w.heap[g]? = some (.cells cur e fr)) :
    (sortWorldK HY.cells 2 w g 0 n d os).heap[g]? = some (.cells (putCells id 0 (flatK HY.cells 2 d) cur) e fr) := by
  have hg : g < w.heap.size := (Array.getElem?_eq_some_iff.1 hb).1
  unfold sortWorldK putRowK
  rw [heap_grow_old _ _ (by simpa using hg)]
  simp [putRow, mapBlock, Sort.ahead, Array.getElem?_modify, hb, onCells]
theorem grownBy_sortedK {w : World} {g n : Nat} {os : Array Obj} (d : Array HY) : w.grownBy (sortWorldK HY.cells 2 w g 0 n d os) (some g) := by
  unfold sortWorldK putRowK
  refine ⟨rfl, rfl, rfl, by simp, fun k hk hne => ?_⟩
  rw [heap_grow_old _ _ (by simpa using hk)]
  have : g ≠ k := fun e => hne (by rw [e])
  simp [putRow, mapBlock, Sort.ahead, Array.getElem?_modify, this]
theorem take_putCellsK (cur : Array Value) (F : Array Value) (h : F.size ≤ cur.size) : (putCells id 0 F cur).toList.take F.size = F.toList := by
  apply List.ext_getElem?
  intro j
  by_cases hj : j < F.size
  · rw [List.getElem?_take_of_lt hj, Array.getElem?_toList]
    simp [putCells, hj, show j < cur.size by omega]
  · rw [List.getElem?_take_eq_none (by omega), List.getElem?_eq_none (by simp; omega)]

theorem sortHY_own (w : World) (base : Nat) (v : Value) (l : List HY) (h : w.ownsRow base 38 2 v l.length (hyCells l)) (hl : l.length < 4611686018427387904) :
    Calls Try.prog 39 #[v, .func (.func 40) #[] #[]] w fun e w' => e = .returned (.tuple #[]) ∧ (∃ l', l'.Perm l ∧ (l'.Pairwise fun x y => ¬ y.name.data.toList < x.name.data.toList) ∧ w'.ownsRow base 38 2 v l'.length (hyCells l')) ∧ w.grownBy w' v.ownBlock := by
  rcases h.2 with ⟨rfl, h0⟩ | ⟨g, cap, cur, rfl, hbg, hg, h1, h2, h3, h4⟩
  · have : l = [] := List.eq_nil_of_length_eq_zero h0
    subst this
    refine (AnyF.slices_SortFunc_none Try.sortHypL none 0 _ w).mono ?_
    rintro e w' ⟨rfl, rfl⟩
    exact ⟨rfl, ⟨[], .refl _, .nil, h⟩, ⟨rfl, rfl, rfl, Nat.le_refl _, fun _ _ _ => rfl⟩⟩
  · have eg : ∀ args w, (callFunc 40 args).run Try.prog w = .ok (.enter 40 args) w := enters_of Try.func40 (by kernel_rfl) rfl
    refine (AnyQ.slices_SortFunc Try.sortHypL 2 Try.isAgg38 Try.sizeOf38 HY.cells (fun _ => rfl) (fun x v hv => by simp [HY.cells] at hv; rcases hv with rfl | rfl <;> rfl) (fun x y => cmpS x.name y.name) swoHY 40 #[] g 0 cap l.toArray w eg (fun _ _ _ _ x y => closure_any x y _) (holds_hy hg h4) (lt_of_block hg) (by simpa using hl)).mono ?_
    rintro e w' ⟨rfl, d', n, os, hp, hs, rfl⟩
    have hsz : d'.toList.length = l.length := by have := hp.1; simpa using this
    have hperm : d'.toList.Perm l := by
      have := hp.2.2
      have e1 : d'.size = l.length := by simpa using hsz
      simpa [e1, List.take_of_length_le] using this
    refine ⟨rfl, ⟨d'.toList, hperm, ?_, ?_⟩, grownBy_sortedK _⟩
    · rw [List.pairwise_iff_getElem]
      intro i j hi hj hij
      have e1 : d'.size = l.length := by simpa using hsz
      have hj' : j < d'.size := by simpa using hj
      have hi' : i < d'.size := by simpa using hi
      have := hs i j (Nat.zero_le _) hij (by rw [List.size_toArray]; omega)
      rw [getElem!_pos d' i hi', getElem!_pos d' j hj'] at this
      intro hc
      simp only [Array.getElem_toList] at hc
      simp [ltOf, cmpS, hc] at this
    · rw [hsz]
      refine ⟨by rw [hyCells_len, hsz], .inr ⟨g, cap, _, rfl, hbg, heap_sortedK _ hg, h1, h2, by simp [putCells, h3], ?_⟩⟩
      have := take_putCellsK cur (flatK HY.cells 2 d') (by simp; rw [h3]; have : d'.size = l.length := by simpa using hsz
                                                           omega)
      have e2 := flat_hy d'.toList
      simp only [size_flatK, Array.toArray_toList] at this e2
      rw [← e2, ← this]
      congr 2
      simpa using hsz.symm

end Go.Dk


/- Layer 7: Match. -/
namespace Go.Dk
open Go.RowKit Go.Maps Go.MapKept
open Go.Proofs hiding intOf

theorem fit_good {rows : List ND} {p f : Nat} {S' : PairS} {N' : NameS} (h : FitY rows p f (fun _ => none) (fun _ => none) S' N') {q g : Nat} (hq : S' (q, g) = some ()) : Good rows S' N' q g := by
  rcases h.shut q g hq with h0 | h0
  · cases h0
  · exact h0.1
theorem fit_reach {rows : List ND} {p f : Nat} {S' : PairS} {N' : NameS} (h : FitY rows p f (fun _ => none) (fun _ => none) S' N') {i q : Nat} (hr : Reach rows i q) : ∀ g, S' (i, g) = some () → ∃ g', S' (q, g') = some () := by
  induction hr with
  | refl => exact fun g h => ⟨g, h⟩
  | @left i j n hi hk _ ih =>
    intro g hg
    have hG := fit_good h hg
    have e : rowAt rows i = n := rowAt_of hi
    have := ((hG.2.2.2 (by rw [e]; omega)).2 (by rw [e]; exact hk)).1
    rw [e] at this
    exact ih _ this
  | @right i j n hi hk _ ih =>
    intro g hg
    have hG := fit_good h hg
    have e : rowAt rows i = n := rowAt_of hi
    have := ((hG.2.2.2 (by rw [e]; omega)).2 (by rw [e]; exact hk)).2
    rw [e] at this
    exact ih _ this
theorem fit_val {rows : List ND} {p f : Nat} {S' : PairS} {N' : NameS} (h : FitY rows p f (fun _ => none) (fun _ => none) S' N') {s : ByteArray} {v : Int} (hs : N' s = some v) : ∃ q g : Nat, v = (g : Int) ∧ g < rows.length ∧ q < rows.length ∧ (rowAt rows q).name = s ∧ (rowAt rows q).kind = 1 ∧ Reach rows p q := by
  rcases h.only s v hs with h0 | ⟨q, hr, hk, hn, hq⟩
  · cases h0
  · obtain ⟨g, hg⟩ := fit_reach h hr f h.self
    have hG := fit_good h hg
    have := hG.2.2.1 hk
    rw [hn, hs] at this
    cases this
    exact ⟨q, g, rfl, hG.2.1, hq, hn, hk, hr⟩

def pairsL (N : NameS) (l : List ByteArray) : List HY := l.map fun s => ⟨s, (N s).getD 0⟩
theorem pairsL_snoc (N : NameS) (l : List ByteArray) (s : ByteArray) (v : Int) (h : N s = some v) : pairsL N (l ++ [s]) = pairsL N l ++ [⟨s, v⟩] := by simp [pairsL, h]

theorem done_le {rows : List ND} {p f : Nat} {S' : PairS} {N' : NameS} (h : FitY rows p f (fun _ => none) (fun _ => none) S' N') {done : List ByteArray} (hnd : done.Nodup) (hin : ∀ s ∈ done, (N' s).isSome = true) : done.length ≤ rows.length := by
  have hex : ∀ s ∈ done, ∃ q, q < rows.length ∧ (rowAt rows q).name = s := fun s hs => by
    obtain ⟨v, hv⟩ := Option.isSome_iff_exists.1 (hin s hs)
    obtain ⟨q, g, _, _, hq, hn, _⟩ := fit_val h hv
    exact ⟨q, hq, hn⟩
  have hf : ∃ F : ByteArray → Nat, ∀ s ∈ done, F s < rows.length ∧ (rowAt rows (F s)).name = s := by
    classical
    refine ⟨fun s => if h : ∃ q, q < rows.length ∧ (rowAt rows q).name = s then Classical.choose h else 0, fun s hs => ?_⟩
    simp only [dif_pos (hex s hs)]
    exact Classical.choose_spec (hex s hs)
  obtain ⟨F, hF⟩ := hf
  have hn2 : (done.map F).Nodup := by
    unfold List.Nodup
    rw [List.pairwise_map]
    exact hnd.imp_of_mem fun {a b} ha hb hne e => hne (by rw [← (hF a ha).2, ← (hF b hb).2, e])
  have := nodup_le hn2 (m := rows.length) (fun x hx => by
    obtain ⟨s, hs, rfl⟩ := List.mem_map.1 hx
    exact (hF s hs).1)
  simpa using this

theorem matchY_of {rows : List ND} (ok : Ok rows) {p f : Nat} (hp : p < rows.length) {S' : PairS} {N' : NameS} (h : FitY rows p f (fun _ => none) (fun _ => none) S' N') {done : List ByteArray} (hnd : done.Nodup) (hall : ∀ s, (N' s).isSome = true → s ∈ done) (hin : ∀ s ∈ done, (N' s).isSome = true)
    {l : List HY} (hperm : l.Perm (pairsL N' done.reverse)) (hs : l.Pairwise fun x y => ¬ y.name.data.toList < x.name.data.toList) : MatchY rows p f l := by
  have hmem : ∀ x, x ∈ l ↔ N' x.name = some x.form := by
    intro x
    rw [hperm.mem_iff]
    unfold pairsL
    simp only [List.mem_map, List.mem_reverse]
    constructor
    · rintro ⟨s, hs, rfl⟩
      obtain ⟨v, hv⟩ := Option.isSome_iff_exists.1 (hin s hs)
      simp [hv]
    · intro hx
      exact ⟨x.name, hall _ (by rw [hx]; rfl), by rw [hx]; rfl⟩
  have hnames : (l.map (·.name)).Nodup := by
    have h1 : (l.map (·.name)).Perm ((pairsL N' done.reverse).map (·.name)) := hperm.map _
    have h2 : (pairsL N' done.reverse).map (·.name) = done.reverse := by
      unfold pairsL
      rw [List.map_map]
      exact List.map_id' _
    rw [h2] at h1
    exact h1.nodup_iff.2 ((List.reverse_perm done).nodup_iff.2 hnd)
  have hnm : ∀ s, namedF l s = N' s := by
    intro s
    cases hN : N' s with
    | some v => exact namedF_mem hnames ((hmem ⟨s, v⟩).2 hN)
    | none =>
      unfold namedF
      cases hfnd : l.find? fun h => decide (h.name = s) with
      | none => rfl
      | some x =>
        have h1 := List.mem_of_find?_eq_some hfnd
        have h2 := List.find?_some hfnd
        simp only [decide_eq_true_eq] at h2
        have := (hmem x).1 h1
        rw [h2, hN] at this
        cases this
  refine ⟨fun s => ⟨fun hs => ?_, fun hs => ?_⟩, ?_, fun x hx => ?_, ?_⟩
  · obtain ⟨v, hv⟩ := Option.isSome_iff_exists.1 (fit_names ok h p f h.self s hs)
    exact ⟨⟨s, v⟩, (hmem _).2 hv, rfl⟩
  · obtain ⟨x, hx, rfl⟩ := hs
    obtain ⟨q, g, _, _, hq, hn, hk, hr⟩ := fit_val h ((hmem x).1 hx)
    refine reach_atoms ok hr hp _ ?_
    rw [tree_atom (rowAt_get hq) hk, hn]
    simp [atoms]
  · have hn2 : l.Pairwise fun x y => x.name ≠ y.name := by
      unfold List.Nodup at hnames
      rw [List.pairwise_map] at hnames
      exact hnames
    refine (hs.and hn2).imp fun {x y} hxy => ?_
    apply Classical.byContradiction
    intro hc
    refine hxy.2 ?_
    have := List.le_antisymm (List.not_lt.1 hxy.1) (List.not_lt.1 hc)
    exact ByteArray.ext (Array.ext' this)
  · obtain ⟨q, g, e, hg, _⟩ := fit_val h ((hmem x).1 hx)
    rw [e]; simp [hasB, hg]
  · have e : (fun s => (namedF l s).map fun v => tree rows v.toNat) = sigma rows N' := by
      funext s
      rw [hnm]
      rfl
    rw [e]
    exact (fit_sound ok h p f h.self).2
theorem matchS_no {rows : List ND} {p f : Nat} {S' : PairS} {N' : NameS} (h : Fit rows p f (fun _ => none) (fun _ => none) S' N' false) : MatchS rows p f [] false :=
  ⟨fun h => (by cases h), fun _ => ⟨rfl, fun σ hs => by have := (h.all σ (fun _ _ h => by cases h) hs).1; cases this⟩⟩

end Go.Dk


/- Layer 7: Match, walked. -/
namespace Go.Dk
open Go.RowKit Go.Maps Go.MapKept
open Go.Proofs hiding intOf

theorem infoHyp : (Try.prog.info? 38).map (fun i => (i.zero, i.size, i.bytes)) = some (some (.agg #[.string ByteArray.empty, .int .i64 0]), 2, 24) := by kernel_rfl
theorem tab_col {ow ow' : Own} {w : World} {t : Value} {rows : List ND} (h : Tab 1 ow w t rows) (hc : ∀ b, b < w.heap.size → ow b = 1 → ow' b = 1) : Tab 1 ow' w t rows := by
  obtain ⟨pb, mb, v, rfl, h⟩ := h
  exact ⟨pb, mb, v, rfl, h.hp, h.hr, h.hm, h.ok, hc _ (lt_of_block h.hp) h.cp, hc _ h.hm.lt h.cm, fun g hg => hc _ (h.hr.lt g hg).2 (h.cr g hg)⟩

def owM (ow : Own) (B M : Nat) : Own := fun b => if b = M + 1 + 1 ∨ b = M then 3 else if b < B ∧ ow b = 1 then 1 else 2
def matW (w1 : World) (tb : Nat) : World := ((((w1.alloc (.map #[] 0)).alloc (.cells #[.map (some w1.heap.size)] 77)).alloc (.map #[] 0)).alloc (.cells #[.map (some (w1.heap.size + 1 + 1))] 82)).alloc (.cells #[.func (.func 38) #[] #[.pointer (some ⟨w1.heap.size + 1 + 1 + 1, 0, none⟩), .pointer (some ⟨tb, 0, none⟩), .pointer (some ⟨w1.heap.size + 1, 0, none⟩), .pointer (some ⟨w1.heap.size + 1 + 1 + 1 + 1, 0, none⟩)]] 83)
theorem matW_below (w1 : World) (tb : Nat) : Below w1.heap.size w1 (matW w1 tb) := by
  unfold matW
  exact below_trans (below_trans (below_trans (below_trans (below_alloc _ _) (below_alloc _ _)) (below_alloc _ _)) (below_alloc _ _)) (below_alloc _ _)
theorem matW_size (w1 : World) (tb : Nat) : (matW w1 tb).heap.size = w1.heap.size + 5 := by
  unfold matW; simp
theorem mt_start {ow : Own} {w w1 : World} {t : Value} {rows : List ND} {tb : Nat} (h : Tab 1 ow w t rows) (hb : Below w.heap.size w w1) (htb : w.heap.size ≤ tb) (hct : w1.cell? ⟨tb, 0, none⟩ = some t) :
    FI (owM ow w.heap.size w1.heap.size) (matW w1 tb) (matW w1 tb) (w1.heap.size + 1 + 1 + 1) tb (w1.heap.size + 1) (w1.heap.size + 1 + 1 + 1 + 1) (w1.heap.size + 1 + 1) w1.heap.size t rows (fun _ => none) (fun _ => none) := by
  have hlt : tb < w1.heap.size := World.block_lt_of_cell? w1 _ hct
  have hsz := hb.size
  refine ⟨⟨?_, ?_, ?_, ?_, ?_, ?_, ?_, ?_, ?_, ?_, ?_, ?_, ?_⟩, ?_, ?_, Kept.refl _ _ _⟩
  · unfold matW
    rw [World.cell?_alloc_lt _ _ _ (by simp)]
    exact World.cell?_alloc_at _ _ _ _ (by simp)
  · exact ((matW_below w1 tb).cell (p := ⟨tb, 0, none⟩) hlt).trans hct
  · unfold matW
    rw [World.cell?_alloc_lt _ _ _ (by simp), World.cell?_alloc_lt _ _ _ (by simp), World.cell?_alloc_lt _ _ _ (by simp)]
    exact World.cell?_alloc_at _ _ _ _ (by simp)
  · unfold matW
    exact World.cell?_alloc_at _ _ _ _ (by simp)
  · exact ((tab_col h (fun b hb1 h1 => by unfold owM; rw [if_neg (by omega), if_pos ⟨hb1, h1⟩])).below hb).below (matW_below w1 tb)
  · unfold owM; rw [if_neg (by omega), if_neg (by omega)]
  · unfold owM; rw [if_neg (by omega), if_neg (by omega)]
  · unfold owM; rw [if_neg (by omega), if_neg (by omega)]
  · unfold owM; rw [if_neg (by omega), if_neg (by omega)]
  · unfold owM; rw [if_pos (by omega)]
  · unfold owM; rw [if_pos (by omega)]
  · omega
  · intro b hb3
    unfold owM at hb3
    split at hb3
    · assumption
    · split at hb3 <;> cases hb3
  · have := TM.made Try.prog 85 pairKV oneV ((w1.alloc (.map #[] 0)).alloc (.cells #[.map (some w1.heap.size)] 77))
    rw [World.size_alloc, World.size_alloc] at this
    exact (this.below (below_alloc _ _)).below (below_alloc _ _)
  · exact (TM.made Try.prog 9 strV intV w1).below (below_trans (below_trans (below_trans (below_alloc _ _) (below_alloc _ _)) (below_alloc _ _)) (below_alloc _ _))

structure MtI (w W : World) (mb r : Nat) (N : NameS) (done : List ByteArray) (v : Value) : Prop where
  rg : Rng Try.prog 9 strV intV W mb r N done
  own : W.ownsRow w.heap.size 38 2 v done.length (hyCells (pairsL N done.reverse))
  bl : Below w.heap.size w W
  lm : w.heap.size ≤ mb
  lr : w.heap.size ≤ r
theorem MtI.next {w W w4 w5 : World} {mb r : Nat} {N : NameS} {done : List ByteArray} {v v5 : Value} {x : ByteArray} {y : Int} {o : Obj} (hx : N x = some y) (h : MtI w W mb r N done v) (hrg : Rng Try.prog 9 strV intV w4 mb r N (x :: done)) (hg : W.grownBy w4 (some r))
    (hown : w5.ownsRow w.heap.size 38 2 v5 (done.length + 1) (hyCells (pairsL N done.reverse) ++ [.string x, .int .i64 y])) (hgr : (w4.alloc o).grownBy w5 v.ownBlock) : MtI w w5 mb r N (x :: done) v5 ∧ w5.rangeLeft mb r = w4.rangeLeft mb r := by
  have nb : v.ownBlock ≠ some mb := by
    obtain ⟨_, ⟨es, clock, hes, _⟩, _⟩ := h.rg.tm
    exact own_ne h.own hes (by intro cur fr e; cases e)
  have nr : v.ownBlock ≠ some r := by
    obtain ⟨_, _, _, _, _, _, _, _, _, _, _, _, hr, _⟩ := h.rg
    exact own_ne h.own hr (by intro cur fr e; cases e)
  have g2 : w4.grownBy w5 v.ownBlock := World.grownBy.trans (World.grownBy_alloc w4 o _) hgr
  have e1 : w5.heap[mb]? = w4.heap[mb]? := g2.block mb hrg.tm.lt (Ne.symm nb)
  have e2 : w5.heap[r]? = w4.heap[r]? := g2.block r hrg.ltr (Ne.symm nr)
  obtain ⟨s1, s2⟩ := hrg.same e1 e2
  refine ⟨⟨s1, ?_, (h.bl.grown hg h.bl.size (by intro k hk; cases hk; exact h.lr)).grown g2 (Nat.le_trans h.bl.size hg.size) (fun k hk => (h.own.lt k hk).1), h.lm, h.lr⟩, s2⟩
  have : hyCells (pairsL N (x :: done).reverse) = hyCells (pairsL N done.reverse) ++ [.string x, .int .i64 y] := by
    rw [List.reverse_cons, pairsL_snoc _ _ _ _ hx]
    simp [hyCells, HY.cells]
  rw [this]
  exact hown
theorem MtI.own4 {w W w4 : World} {mb r : Nat} {N : NameS} {done : List ByteArray} {v : Value} (h : MtI w W mb r N done v) (hg : W.grownBy w4 (some r)) : w4.ownsRow w.heap.size 38 2 v done.length (hyCells (pairsL N done.reverse)) := by
  refine h.own.kept hg (.inr ?_)
  obtain ⟨_, _, _, _, _, _, _, _, _, _, _, _, hr, _⟩ := h.rg
  exact own_ne h.own hr (by intro cur fr e; cases e)

def MatchPost (w : World) (rows : List ND) (p f : Int) (e : Ending) (w' : World) : Prop :=
  ∃ v l b, e = .returned (.tuple #[v, .bool b, .int .i64 (lookE rows [p, f])]) ∧ (lookE rows [p, f] ≠ 0 → l = [] ∧ b = false) ∧ (lookE rows [p, f] = 0 → MatchS rows p.toNat f.toNat l b) ∧ w'.ownsRow w.heap.size 38 2 v l.length (hyCells l) ∧ Below w.heap.size w w'

set_option maxRecDepth 100000 in
theorem match_bad (ow : Own) (w : World) (t : Value) (rows : List ND) (h : Tab 1 ow w t rows) (p f : Int) (hl : lookE rows [p, f] = 31) :
    Calls Try.prog 14 #[t, .int .i64 p, .int .i64 f] w (MatchPost w rows p f) := by
  obtain ⟨pb, rfl⟩ := h.ptr
  have H := Lib.hid h
  have HV := Lib.hid hl
  clear h hl
  go_enter Try.func14, Try.ntmps14
  go_wp2_with fail
  refine (looked_any 1 ow _ _ _ rows [p, f] (H.out.below (below_trans (below_alloc _ _) (below_alloc _ _))) (rd_lit' _ (by simp) _ _ rfl rfl) (by simp)).mono ?_
  rintro e w1 ⟨rfl, hb1⟩
  rw [HV.out]
  have HB := Lib.hid (below_trans (below_trans (below_alloc _ _) (below_alloc _ _)) hb1)
  clear hb1
  go_wp2_with fail
  go_ret3
  exact ⟨_, [], false, by rw [HV.out]; rfl, fun _ => ⟨rfl, rfl⟩, fun h => absurd h (by rw [HV.out]; decide), World.ownsRow_nil _ _ _ _, HB.out⟩

set_option maxRecDepth 100000 in
set_option maxHeartbeats 2000000 in
theorem match_good (ow : Own) (w : World) (t : Value) (rows : List ND) (h : Tab 1 ow w t rows) (p f : Nat) (hp : p < rows.length) (hf : f < rows.length) :
    Calls Try.prog 14 #[t, .int .i64 (p : Int), .int .i64 (f : Int)] w (MatchPost w rows p f) := by
  obtain ⟨pb, rfl⟩ := h.ptr
  have H := Lib.hid h
  have HPF : Hid (p < rows.length ∧ f < rows.length) := ⟨hp, hf⟩
  have HV : Hid (lookE rows [(p : Int), (f : Int)] = 0) := lookE_yes (by simp [hasB, hp, hf])
  have hmm := @run_makeMap Try.prog
  have hmf : ∀ (fn : Fn) (first cap : Array Value) (w : World), (Instr.makeFunc fn first cap).run Try.prog w = .ok (.func fn first cap) w := fun _ _ _ _ => rfl
  clear h hp hf
  go_enter Try.func14, Try.ntmps14
  go_wp2_with fail
  refine (looked_any 1 ow _ _ _ rows [(p : Int), (f : Int)] (H.out.below (below_trans (below_alloc _ _) (below_alloc _ _))) (rd_lit' _ (by simp) _ _ rfl rfl) (by simp)).mono ?_
  rintro e w1 ⟨rfl, hb1⟩
  rw [HV.out]
  have hct : w1.cell? ⟨w.heap.size, 0, none⟩ = some (.pointer (some ⟨pb, 0, none⟩)) := (hb1.cell (p := ⟨w.heap.size, 0, none⟩) (by simp; omega)).trans ((World.cell?_alloc_lt _ _ _ (by simp)).trans (World.cell?_alloc_at _ _ _ _ rfl))
  have HB := Lib.hid (below_trans (below_trans (below_alloc _ _) (below_alloc _ _)) hb1)
  have hst := mt_start H.out HB.out (Nat.le_refl _) hct
  have HST := Lib.hid hst
  clear hb1 hst hct
  go_wp2_with fail
  refine (fit_any _ _ _ _ _ _ _ _ _ p (matW w1 w.heap.size) f _ _ HPF.out.1 HPF.out.2 HST.out).mono ?_
  rintro e w5 ⟨b, S', N', rfl, hI, hf⟩
  have hkb : Below w.heap.size w w5 := HB.out.trans (((matW_below w1 w.heap.size).trans (hI.kp.below (B := w1.heap.size) (by rw [matW_size]; omega) (fun b hb => by unfold owM; rw [if_neg (by omega)]; split <;> decide))).mono HB.out.size)
  have HK := Lib.hid hkb
  have HF := Lib.hid hf
  have HM := Lib.hid hI.mN
  have cn := hI.env.cn
  clear hkb hf hI HST hmm hmf
  cases b with
  | false =>
    go_wp2_with fail
    go_ret3
    exact ⟨_, [], false, by rw [HV.out]; rfl, fun _ => ⟨rfl, rfl⟩, fun _ => by rw [Int.toNat_natCast, Int.toNat_natCast]; exact matchS_no HF.out, World.ownsRow_nil _ _ _ _, HK.out⟩
  | true =>
    go_wp2_with (at_range; refine wp_range HM.out rfl (.tmp 32) 77 3 rfl Try.underlying77 rfl ?_; intro w6 hrg6 hb6; have HI0 : Hid (MtI w w6 w1.heap.size w5.heap.size N' [] (.slice none 0 0)) := ⟨hrg6, World.ownsRow_nil _ _ _ _, HK.out.trans (hb6.mono HK.out.size), HB.out.size, HK.out.size⟩; clear hrg6 hb6)
    go_frame
    clear cn HM
    have hnn : (fun x : ByteArray × Int => True) = fun _ => True := rfl
    have HLE : Hid (rows.length ≤ 1024) := H.out.ok.le
    clear hnn
    go_loopw [13] (fun u W => ∃ done, MtI w W w1.heap.size w5.heap.size N' done u) (fun _ W => W.rangeLeft w1.heap.size w5.heap.size)
    case atStart => exact ⟨[], HI0.out⟩
    case round =>
      obtain ⟨done, hI⟩ := hrel
      have HI := Lib.hid hI
      go_wp2_with (at_next; refine wp_next HI.out.rg strV_inj rfl (.tmp 33) rfl rfl ?_ ?_)
      · intro hall
        have hp := hI.rg.props
        have HND := Lib.hid hp.1
        have HIN := Lib.hid hp.2
        have HALL := Lib.hid hall
        have HLN : Hid (done.length ≤ 1024) := Nat.le_trans (done_le (HF.out.yes rfl) hp.1 hp.2) HLE.out
        have hown := hI.own
        have hpl : (pairsL N' done.reverse).length = done.length := by simp [pairsL]
        rw [← hpl] at hown
        have HO := Lib.hid hown
        have HL2 : Hid ((pairsL N' done.reverse).length < 4611686018427387904) := by rw [Hid, hpl]; have := HLN.out; omega
        obtain ⟨a, c, rfl⟩ := own_slice hI.own
        clear hI hp hown hall hpl
        go_wp2_with (go_at_call 39; refine (sortHY_own _ w.heap.size _ (pairsL N' done.reverse) HO.out HL2.out).mono ?_; rintro e w7 ⟨rfl, ⟨l', hp7, hs7, hown7⟩, hg7⟩; have HP7 := Lib.hid hp7; have HS7 := Lib.hid hs7; have HO7 := Lib.hid hown7; have HG7 := Lib.hid hg7; clear hp7 hs7 hown7 hg7)
        go_ret3
        refine ⟨_, l', true, by rw [HV.out]; rfl, fun h => absurd HV.out h, fun _ => ⟨fun _ => ?_, fun h => (by cases h)⟩, HO7.out, HI.out.bl.grown HG7.out HI.out.bl.size (fun k hk => (HO.out.lt k hk).1)⟩
        rw [Int.toNat_natCast, Int.toNat_natCast]
        exact matchY_of H.out.ok HPF.out.1 (HF.out.yes rfl) HND.out HALL.out HIN.out HP7.out HS7.out
      · intro x u w4 hfx hxd hrg4 hg4 hlt hen
        have hen' : (Instr.entry (.pointer (some ⟨w5.heap.size, 0, none⟩))).run Try.prog w4 = .ok (.tuple #[.string x, .int .i64 u]) w4 := hen
        have hp := hI.rg.props
        have HLN : Hid (done.length ≤ 1024) := Nat.le_trans (done_le (HF.out.yes rfl) hp.1 hp.2) HLE.out
        have hown := hI.own4 hg4
        have HO := Lib.hid hown; have HR4 := Lib.hid hrg4; have HG4 := Lib.hid hg4; have HLT := Lib.hid hlt; have HX := Lib.hid hfx
        have hsz : w.heap.size ≤ w4.heap.size := Nat.le_trans hI.bl.size hg4.size
        clear hen hp hI hown hrg4 hg4 hlt hfx hxd
        go_wp2_with (at_builtin; refine wp_append rfl (.tmp 39) (.tmp 43) 23 rfl w.heap.size 38 _ 2 24 Try.underlying23 infoHyp rfl (by decide) (by decide) _ done.length (hyCells (pairsL N' done.reverse)) rfl (HO.out.alloc _) _ 1 [.string x, .int .i64 u] rfl (rd_lit _ _ _ rfl rfl) (by simp [Value.oneCell']) (by have := HLN.out; omega) (by simp; omega) ?_; intro v5 w6' hown5 hgr5 hat5 hnil5)
        have hfin := HI.out.next HX.out HR4.out HG4.out hown5 hgr5
        exact ⟨⟨x :: done, hfin.1⟩, by rw [hfin.2]; exact HLT.out⟩

theorem match07_any (ow : Own) (w : World) (t : Value) (rows : List ND) (h : Tab 1 ow w t rows) (p f : Int) :
    Calls Try.prog 14 #[t, .int .i64 p, .int .i64 f] w (MatchPost w rows p f) := by
  cases hl : (([p, f] : List Int).all fun z => hasB rows.length z) with
  | false => exact match_bad ow w t rows h p f (by unfold lookE; rw [if_neg (by simp [hl])])
  | true =>
    simp only [List.all_cons, List.all_nil, Bool.and_true, Bool.and_eq_true] at hl
    obtain ⟨x, rfl, hx⟩ := nat_of_has hl.1
    obtain ⟨y, rfl, hy⟩ := nat_of_has hl.2
    exact match_good ow w t rows h x y hx hy

end Go.Dk

