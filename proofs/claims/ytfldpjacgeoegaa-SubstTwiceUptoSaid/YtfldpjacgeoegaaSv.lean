/- Layer 7: the search of a matching. -/
import Derived.Test.YtfldpjacgeoegaaSm
import Derived.Test.YtfldpjacgeoegaaSu
namespace Go.Dk
open Go.RowKit Go.Maps Go.MapKept
open Go.Proofs hiding intOf

def pairKV (x : Nat × Nat) : Value := .agg #[.int .i64 (x.1 : Int), .int .i64 (x.2 : Int)]
theorem pairKV_inj : ∀ x y, pairKV x = pairKV y → x = y := by
  intro x y h
  cases x; cases y
  simp only [pairKV, Value.agg.injEq, Array.mk.injEq, List.cons.injEq, Value.int.injEq, true_and, and_true] at h
  obtain ⟨h1, h2⟩ := h
  simp only [Prod.mk.injEq]
  omega
theorem lawPair : Keyed Try.prog 120 :=
  Keyed.of_law (deep_law_laid (by kernel_rfl) (m := 3) (by omega) (of_decide_eq_true (by kernel_rfl)) (by kernel_rfl) (by rw [Try.underlying120]))

/-- What fit has captured. -/
structure FEnv (ow : Own) (w : World) (sb tb nb fb sB nB : Nat) (t : Value) (rows : List ND) : Prop where
  cs : w.cell? ⟨sb, 0, none⟩ = some (.map (some sB))
  ct : w.cell? ⟨tb, 0, none⟩ = some t
  cn : w.cell? ⟨nb, 0, none⟩ = some (.map (some nB))
  cf : w.cell? ⟨fb, 0, none⟩ = some (.func (.func 66) #[] #[.pointer (some ⟨sb, 0, none⟩), .pointer (some ⟨tb, 0, none⟩), .pointer (some ⟨nb, 0, none⟩), .pointer (some ⟨fb, 0, none⟩)])
  tab : Tab 1 ow w t rows
  os : ow sb = 2
  ot : ow tb = 2
  on : ow nb = 2
  of : ow fb = 2
  oS : ow sB = 3
  oN : ow nB = 3
  ne : sB ≠ nB
  o3 : ∀ b, ow b = 3 → b = sB ∨ b = nB
theorem FEnv.kept {ow : Own} {w w' : World} {sb tb nb fb sB nB : Nat} {t : Value} {rows : List ND} (h : FEnv ow w sb tb nb fb sB nB t rows) (hk : Kept 3 ow w ow w') : FEnv ow w' sb tb nb fb sB nB t rows := by
  exact ⟨cell_kept h.cs hk (by rw [show (⟨sb, 0, none⟩ : Addr).block = sb from rfl, h.os]; decide), cell_kept h.ct hk (by rw [show (⟨tb, 0, none⟩ : Addr).block = tb from rfl, h.ot]; decide), cell_kept h.cn hk (by rw [show (⟨nb, 0, none⟩ : Addr).block = nb from rfl, h.on]; decide), cell_kept h.cf hk (by rw [show (⟨fb, 0, none⟩ : Addr).block = fb from rfl, h.of]; decide),
    h.tab.kept hk (by decide), h.os, h.ot, h.on, h.of, h.oS, h.oN, h.ne, h.o3⟩

/-- fit's state: the captured, the pairs, the names. -/
structure FI (ow : Own) (w0 w : World) (sb tb nb fb sB nB : Nat) (t : Value) (rows : List ND) (S : PairS) (N : NameS) : Prop where
  env : FEnv ow w sb tb nb fb sB nB t rows
  mS : TM Try.prog 120 pairKV oneV w sB S
  mN : TM Try.prog 9 strV intV w nB N
  kp : Kept 3 ow w0 ow w
section
variable {ow : Own} {w0 w w' : World} {sb tb nb fb sB nB : Nat} {t : Value} {rows : List ND} {S S' : PairS} {N N' : NameS}
theorem FI.below (h : FI ow w0 w sb tb nb fb sB nB t rows S N) (hb : Below w.heap.size w w') : FI ow w0 w' sb tb nb fb sB nB t rows S N :=
  ⟨h.env.kept hb.kept_ow, h.mS.below hb, h.mN.below hb, h.kp.trans hb.kept_ow⟩
theorem FI.putS (h : FI ow w0 w sb tb nb fb sB nB t rows S N) (hm : TM Try.prog 120 pairKV oneV w' sB S') (ho : Only sB w w') : FI ow w0 w' sb tb nb fb sB nB t rows S' N := by
  have hk : Kept 3 ow w ow w' := ho.kept h.env.oS
  exact ⟨h.env.kept hk, hm, h.mN.same (ho.block _ (Ne.symm h.env.ne)), h.kp.trans hk⟩
theorem FI.putN (h : FI ow w0 w sb tb nb fb sB nB t rows S N) (hm : TM Try.prog 9 strV intV w' nB N') (ho : Only nB w w') : FI ow w0 w' sb tb nb fb sB nB t rows S N' := by
  have hk : Kept 3 ow w ow w' := ho.kept h.env.oN
  exact ⟨h.env.kept hk, h.mS.same (ho.block _ h.env.ne), hm, h.kp.trans hk⟩
theorem FI.rebase (h : FI ow w w' sb tb nb fb sB nB t rows S N) (hk : Kept 3 ow w0 ow w) : FI ow w0 w' sb tb nb fb sB nB t rows S N := ⟨h.env, h.mS, h.mN, hk.trans h.kp⟩
theorem FI.start (h : FI ow w0 w sb tb nb fb sB nB t rows S N) : FI ow w w sb tb nb fb sB nB t rows S N := ⟨h.env, h.mS, h.mN, Kept.refl _ _ _⟩

end


def FitPost (ow : Own) (w : World) (sb tb nb fb sB nB : Nat) (t : Value) (rows : List ND) (p f : Nat) (S : PairS) (N : NameS) (e : Ending) (w' : World) : Prop :=
  ∃ b S' N', e = .returned (.bool b) ∧ FI ow w w' sb tb nb fb sB nB t rows S' N' ∧ Fit rows p f S N S' N' b

theorem pairKey (p f : Nat) (hp : p ≤ 9223372036854775807) (hf : f ≤ 9223372036854775807) : ∃ kl, keyOf Try.prog 120 (pairKV (p, f)) = some kl := by
  apply Option.isSome_iff_exists.1
  unfold keyOf
  rw [Try.underlying120]
  simp only
  have e1 : (Program.keyType Try.prog 120) = true := by kernel_rfl
  have e2 : (pairKV (p, f)).formed Try.prog 120 = true := by
    have : Try.prog.cellsOf 120 = 2 := by kernel_rfl
    simp [Value.formed, pairKV, Try.underlying120, this]
  rw [e1, e2]
  simp only [Bool.and_self, if_true]
  have e0 : 0 < Try.prog.types.size := of_decide_eq_true (by kernel_rfl)
  have e3 : ∃ d, Try.prog.types.size = d + 1 := ⟨Try.prog.types.size - 1, by omega⟩
  obtain ⟨d, hd⟩ := e3
  rw [hd]
  have u3 := Try.underlying3
  have k0 : Try.prog.cellsOf 120 = 2 := by kernel_rfl
  have k3 : Try.prog.cellsOf 3 = 1 := by kernel_rfl
  have h1 : (Lit.int .i64 (p : Int)).wf = true := wf64 (by omega)
  have h2 : (Lit.int .i64 (f : Int)).wf = true := wf64 (by omega)
  simp [Program.keyLits, Try.underlying120, pairKV, Value.cells, u3, k0, k3, h1, h2]

theorem Boxed.kept {c : Nat} {ow ow' : Own} {w w' : World} {b : Nat} {n : ND} (h : Boxed w b n) (hk : Kept c ow w ow' w') (hc : ow b ≠ c) : Boxed w' b n :=
  ⟨cell_kept h.c0 hk hc, cell_kept h.c1 hk hc, cell_kept h.c2 hk hc, cell_kept h.c3 hk hc⟩

set_option maxRecDepth 100000 in
set_option maxHeartbeats 4000000 in
theorem fit_any (ow : Own) (sb tb nb fb sB nB : Nat) (t : Value) (rows : List ND) (p : Nat) : ∀ (w : World) (f : Nat) (S : PairS) (N : NameS), p < rows.length → f < rows.length → FI ow w w sb tb nb fb sB nB t rows S N →
    Calls Try.prog 66 #[.int .i64 (p : Int), .int .i64 (f : Int), .pointer (some ⟨sb, 0, none⟩), .pointer (some ⟨tb, 0, none⟩), .pointer (some ⟨nb, 0, none⟩), .pointer (some ⟨fb, 0, none⟩)] w (FitPost ow w sb tb nb fb sB nB t rows p f S N) := by
  induction p using Nat.strongRecOn with
  | _ p ih =>
    intro w f S N hp hf h
    have hok := h.env.tab.ok
    have hle := hok.le
    obtain ⟨kl, hkey⟩ := pairKey p f (by omega) (by omega)
    have cs := h.env.cs
    rcases unit_cases (S (p, f)) with h0 | h0
    · have hl : (Instr.lookup 117 (.map (some sB)) (.agg #[.int .i64 (p : Int), .int .i64 (f : Int)]) false).run Try.prog w = .ok (.int .i64 0) w := h.mS.look_none lawPair pairKV_inj Try.underlying117 (zeroInt _) hkey false h0
      have HI := Lib.hid h
      have HK := Lib.hid hkey
      have IH := Lib.hid ih
      have OK := Lib.hid hok
      have HRP := Lib.hid (rowAt_get hp)
      have HRF := Lib.hid (rowAt_get hf)
      have HPF : Hid (p < rows.length ∧ f < rows.length) := ⟨hp, hf⟩
      clear h hkey ih h0 hok
      go_enter Try.func66, Try.ntmps66
      go_wp2_with (at_mapUpdate; refine wp_put HI.out.mS lawPair pairKV_inj rfl (.tmp 21) (.tmp 24) (.const (.int .i64 1)) 117 3 rfl Try.underlying117 rfl (p, f) rfl () rfl HK.out ?_; intro w1 hm1 ho1; have HI1 := Lib.hid (HI.out.putS hm1 ho1); have ct := HI1.out.env.ct; clear hm1 ho1 hl)
      refine (node_yes 1 ow _ _ _ HI1.out.env.tab _ _ HRP.out).mono ?_
      rintro e w2 ⟨rfl, hb2⟩
      generalize hx : rowAt rows p = x at *
      have HX := Lib.hid hx
      have HI2 := Lib.hid (HI1.out.below (below_trans hb2 (below_alloc w2 (.cells #[.int .i64 x.kind, .string x.name, .int .i64 x.l, .int .i64 x.r] 58))))
      have HB2 : Hid (Boxed (w2.alloc (.cells #[.int .i64 x.kind, .string x.name, .int .i64 x.l, .int .i64 x.r] 58)) w2.heap.size x) := boxed_new w2 x _
      have ct2 := HI2.out.env.ct
      have l2 : sB < w2.heap.size ∧ nB < w2.heap.size := ⟨(HI1.out.below hb2).mS.lt, (HI1.out.below hb2).mN.lt⟩
      clear hb2 cs ct hx
      go_wp2_with fail
      refine (node_yes 1 ow _ _ _ HI2.out.env.tab _ _ HRF.out).mono ?_
      rintro e w3 ⟨rfl, hb3⟩
      generalize hy : rowAt rows f = y at *
      have HY := Lib.hid hy
      have hb34 := below_trans hb3 (below_alloc w3 (.cells #[.int .i64 y.kind, .string y.name, .int .i64 y.l, .int .i64 y.r] 58))
      have HI4 := Lib.hid (HI2.out.below hb34)
      have HBX := Lib.hid (HB2.out.below hb34)
      have HBY : Hid (Boxed (w3.alloc (.cells #[.int .i64 y.kind, .string y.name, .int .i64 y.l, .int .i64 y.r] 58)) w3.heap.size y) := boxed_new w3 y _
      have l3 : w2.heap.size < w3.heap.size := by have := hb3.size; simp at this; omega
      have HNB : Hid (ow w2.heap.size ≠ 3 ∧ ow w3.heap.size ≠ 3) := ⟨fun e => by rcases HI2.out.env.o3 _ e with h | h <;> omega, fun e => by rcases HI2.out.env.o3 _ e with h | h <;> omega⟩
      obtain ⟨x0, x1, x2, x3⟩ := HBX.out
      obtain ⟨y0, y1, y2, y3⟩ := HBY.out
      have cn := HI4.out.env.cn
      have cf := HI4.out.env.cf
      clear hb3 hb34 HB2 HI2 HI1 ct2 l2 l3 hy
      by_cases h1 : x.kind = 1
      · as_aux_lemma =>
        have g1 : (x.kind == 1) = true := by simpa using h1
        have hxl := fits_le (OK.out.fit _ _ HRP.out)
        have hnm : x.name.size ≤ maxLen := by unfold maxLen; omega
        have HNM := Lib.hid hnm
        have hlk := look_str HI4.out.mN x.name hnm
        have HF : Hid (Fit rows p f S N (upd S (p, f) (some ())) (upd N x.name (some (f : Int))) (atomB N x.name f)) := by
          have := Fit.atom OK.out (S := S) (N := N) HPF.out.1 HPF.out.2 (by rw [HX.out]; exact h1)
          rw [HX.out] at this; exact this
        clear h1 hxl hnm
        cases hN : N x.name with
        | none =>
          have HAB : Hid (atomB N x.name f = true) := by unfold Hid atomB; rw [hN]
          rw [hN] at hlk
          simp only [Option.getD_none, Option.isSome_none] at hlk
          clear hN
          obtain ⟨xk, xn, xl, xr⟩ := x
          obtain ⟨yk, yn, yl, yr⟩ := y
          simp only at *
          go_wp2_with (at_mapUpdate; refine wp_put HI4.out.mN lawStr strV_inj rfl (.tmp 47) (.tmp 49) (.tmp 50) 112 3 rfl Try.underlying112 rfl xn rfl (f : Int) rfl (keyStr xn HNM.out) ?_; intro w5 hm5 ho5; have HI5 := Lib.hid (HI4.out.putN hm5 ho5); clear hm5 ho5)
          go_ret
          exact ⟨_, _, _, ret_bool HAB.out.symm, HI5.out, HF.out⟩
        | some v =>
          have HAB : Hid (atomB N x.name f = (v == (f : Int))) := by unfold Hid atomB; rw [hN]
          rw [hN] at hlk
          simp only [Option.getD_some, Option.isSome_some] at hlk
          clear hN
          obtain ⟨xk, xn, xl, xr⟩ := x
          obtain ⟨yk, yn, yl, yr⟩ := y
          simp only at *
          go_wp2_with (at_mapUpdate; refine wp_put HI4.out.mN lawStr strV_inj rfl (.tmp 47) (.tmp 49) (.tmp 50) 112 3 rfl Try.underlying112 rfl xn rfl (f : Int) rfl (keyStr xn HNM.out) ?_; intro w5 hm5 ho5; have HI5 := Lib.hid (HI4.out.putN hm5 ho5); clear hm5 ho5)
          go_ret
          exact ⟨_, _, _, ret_bool HAB.out.symm, HI5.out, HF.out⟩
      · as_aux_lemma =>
        have g1 : (x.kind == 1) = false := by simpa using h1
        by_cases he : x.kind = y.kind
        · have ge : (x.kind == y.kind) = true := by simpa using he
          by_cases h2 : x.kind = 2
          · as_aux_lemma =>
            have g2 : (x.kind == 2) = true := by simpa using h2
            have HF : Hid (Fit rows p f S N (upd S (p, f) (some ())) N true) := Fit.bot HPF.out.1 HPF.out.2 (by rw [HX.out]; exact h2) (by rw [HY.out, ← he]; exact h2)
            clear h1 h2 he
            obtain ⟨xk, xn, xl, xr⟩ := x
            obtain ⟨yk, yn, yl, yr⟩ := y
            simp only at *
            go_wp2_with fail
            go_ret
            exact ⟨_, _, _, rfl, HI4.out, HF.out⟩
          · as_aux_lemma =>
            have g2 : (x.kind == 2) = false := by simpa using h2
            have hk5 := OK.out.kindsP HRP.out
            have HK3 : Hid (3 ≤ x.kind ∧ x.kind = y.kind) := by unfold Hid; omega
            have pp := OK.out.parts HRP.out HK3.out.1
            have pf := OK.out.parts HRF.out (by have := HK3.out; omega)
            have F1 : ∀ (S2 : PairS) (N2 : NameS), Fit rows x.l.toNat y.l.toNat (upd S (p, f) (some ())) N S2 N2 false → Fit rows p f S N S2 N2 false := fun _ _ h => Fit.first OK.out HPF.out.1 HPF.out.2 (by rw [HX.out]; exact HK3.out.1) (by rw [HX.out, HY.out]; exact HK3.out.2) (by rw [HX.out, HY.out]; exact h)
            have F2 : ∀ (S2 S3 : PairS) (N2 N3 : NameS) (b : Bool), Fit rows x.l.toNat y.l.toNat (upd S (p, f) (some ())) N S2 N2 true → Fit rows x.r.toNat y.r.toNat S2 N2 S3 N3 b → Fit rows p f S N S3 N3 b := fun _ _ _ _ _ h h' => Fit.both OK.out HPF.out.1 HPF.out.2 (by rw [HX.out]; exact HK3.out.1) (by rw [HX.out, HY.out]; exact HK3.out.2) (by rw [HX.out, HY.out]; exact h) (by rw [HX.out, HY.out]; exact h')
            have HF1 := Lib.hid F1
            have HF2 := Lib.hid F2
            clear F1 F2 h1 h2 he hk5
            obtain ⟨xk, xn, xl, xr⟩ := x
            obtain ⟨yk, yn, yl, yr⟩ := y
            simp only at *
            obtain ⟨l, rfl⟩ := Int.eq_ofNat_of_zero_le pp.1.1
            obtain ⟨r, rfl⟩ := Int.eq_ofNat_of_zero_le pp.2.1
            obtain ⟨l', rfl⟩ := Int.eq_ofNat_of_zero_le pf.1.1
            obtain ⟨r', rfl⟩ := Int.eq_ofNat_of_zero_le pf.2.1
            simp only [Int.toNat_natCast] at HF1 HF2
            have HL : Hid ((l < p ∧ r < p) ∧ l < rows.length ∧ r < rows.length ∧ l' < rows.length ∧ r' < rows.length) := by unfold Hid; omega
            clear pp pf
            go_wp2_with fail
            refine (IH.out l HL.out.1.1 _ l' _ _ HL.out.2.1 HL.out.2.2.2.1 HI4.out.start).mono ?_
            rintro e w5 ⟨b1, S2, N2, rfl, hI5, hf5⟩
            have HI5 := Lib.hid hI5
            have HF5 := Lib.hid hf5
            have cf5 := hI5.env.cf
            obtain ⟨x0, x1, x2, x3⟩ := HBX.out.kept hI5.kp HNB.out.1
            obtain ⟨y0, y1, y2, y3⟩ := HBY.out.kept hI5.kp HNB.out.2
            simp only at x0 x1 x2 x3 y0 y1 y2 y3
            clear hI5 hf5
            cases b1 with
            | false =>
              go_wp2_with fail
              go_ret
              exact ⟨_, _, _, rfl, HI5.out.rebase HI4.out.kp, HF1.out _ _ HF5.out⟩
            | true =>
              go_wp2_with fail
              refine (IH.out r HL.out.1.2 _ r' _ _ HL.out.2.2.1 HL.out.2.2.2.2 HI5.out.start).mono ?_
              rintro e w6 ⟨b2, S3, N3, rfl, hI6, hf6⟩
              have HI6 := Lib.hid hI6
              have HF6 := Lib.hid hf6
              clear hI6 hf6
              go_wp2_with fail
              go_ret
              exact ⟨_, _, _, rfl, HI6.out.rebase (HI4.out.kp.trans HI5.out.kp), HF2.out _ _ _ _ _ HF5.out HF6.out⟩
        · as_aux_lemma =>
          have ge : (x.kind == y.kind) = false := by simpa using he
          have HF : Hid (Fit rows p f S N (upd S (p, f) (some ())) N false) := Fit.other OK.out HPF.out.1 HPF.out.2 (by rw [HX.out]; exact h1) (by rw [HX.out, HY.out]; exact he)
          clear h1 he
          obtain ⟨xk, xn, xl, xr⟩ := x
          obtain ⟨yk, yn, yl, yr⟩ := y
          simp only at *
          go_wp2_with fail
          go_ret
          exact ⟨_, _, _, rfl, HI4.out, HF.out⟩
    · have hl : (Instr.lookup 117 (.map (some sB)) (.agg #[.int .i64 (p : Int), .int .i64 (f : Int)]) false).run Try.prog w = .ok (.int .i64 1) w := h.mS.look_some lawPair pairKV_inj Try.underlying117 hkey false h0
      have HI := Lib.hid h
      have H0 := Lib.hid h0
      clear h hkey ih h0 hok
      go_enter Try.func66, Try.ntmps66
      go_wp2_with fail
      go_ret
      exact ⟨true, S, N, rfl, HI.out, Fit.seen H0.out⟩

end Go.Dk

