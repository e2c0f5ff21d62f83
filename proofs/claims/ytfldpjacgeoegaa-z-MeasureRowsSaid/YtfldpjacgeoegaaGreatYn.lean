/- Signs of a living table. -/
import Derived.Test.YtfldpjacgeoegaaGreatYm
import Derived.Outline
namespace Go.Dk
open Go.RowKit Go.Maps Go.MapKept Go.Sort
open Go.Proofs hiding intOf

theorem nameL_snoc (rows : List ND) (p : Nat → Bool) (l : List Nat) (x : Nat) : nameL rows p (l ++ [x]) = if (rowAt rows x).kind = 1 ∧ p x = true then nameL rows p l ++ [(rowAt rows x).name.data.toList] else nameL rows p l := by
  unfold nameL
  by_cases h1 : (rowAt rows x).kind = 1
  · by_cases h2 : p x = true
    · simp [h1, h2]
    · simp [h1, h2]
  · simp [h1]

/-- In the loop of Signs. -/
structure SgW (w W : World) (mb r : Nat) (g : Nat → Option (Int × Int)) (done : List Nat) (v u : Value) (P M : List Nm) : Prop where
  rg : Rng Tryz.prog 3 natV pairV W mb r g done
  p : W.ownsRow w.heap.size 9 1 v P.length (strs P)
  m : W.ownsRow w.heap.size 9 1 u M.length (strs M)
  ne : ∀ b, v.ownBlock = some b → u.ownBlock ≠ some b
  bl : Below w.heap.size w W
  lm : w.heap.size ≤ mb
  lr : w.heap.size ≤ r

section
variable {w W : World} {mb r : Nat} {g : Nat → Option (Int × Int)} {done : List Nat} {v u : Value} {P M : List Nm}

theorem SgW.nb (h : SgW w W mb r g done v u P M) : (v.ownBlock ≠ some mb ∧ v.ownBlock ≠ some r) ∧ u.ownBlock ≠ some mb ∧ u.ownBlock ≠ some r := by
  obtain ⟨_, ⟨es, clock, hes, _⟩, _⟩ := h.rg.tm
  obtain ⟨_, _, _, _, _, _, _, _, _, _, _, _, hr, _⟩ := h.rg
  exact ⟨⟨own_ne h.p hes (by intro cur fr e; cases e), own_ne h.p hr (by intro cur fr e; cases e)⟩, own_ne h.m hes (by intro cur fr e; cases e), own_ne h.m hr (by intro cur fr e; cases e)⟩
theorem SgW.next {w4 : World} {x : Nat} (h : SgW w W mb r g done v u P M) (hrg : Rng Tryz.prog 3 natV pairV w4 mb r g (x :: done)) (hg : W.grownBy w4 (some r)) : SgW w w4 mb r g (x :: done) v u P M :=
  ⟨hrg, h.p.kept hg (.inr h.nb.1.2), h.m.kept hg (.inr h.nb.2.2), h.ne, h.bl.grown hg h.bl.size (by intro k hk; cases hk; exact h.lr), h.lm, h.lr⟩
theorem SgW.below {W' : World} (h : SgW w W mb r g done v u P M) (hb : Below W.heap.size W W') : SgW w W' mb r g done v u P M ∧ W'.rangeLeft mb r = W.rangeLeft mb r := by
  obtain ⟨s1, s2⟩ := h.rg.same (hb.block _ h.rg.tm.lt) (hb.block _ h.rg.ltr)
  exact ⟨⟨s1, own_below h.p hb, own_below h.m hb, h.ne, below_trans h.bl hb, h.lm, h.lr⟩, s2⟩
theorem SgW.addP {W' : World} {v' : Value} {nm : ByteArray} (h : SgW w W mb r g done v u P M) (hown : W'.ownsRow w.heap.size 9 1 v' (P.length + 1) (strs P ++ [.string nm])) (hg : W.grownBy W' v.ownBlock) (hat : v'.ownBlock = v.ownBlock ∨ v'.ownBlock = some W.heap.size) :
    SgW w W' mb r g done v' u (P ++ [nm.data.toList]) M ∧ W'.rangeLeft mb r = W.rangeLeft mb r := by
  obtain ⟨⟨n1, n2⟩, n3, n4⟩ := h.nb
  obtain ⟨s1, s2⟩ := h.rg.same (hg.block _ h.rg.tm.lt (Ne.symm n1)) (hg.block _ h.rg.ltr (Ne.symm n2))
  refine ⟨⟨s1, by rw [strs_snoc, List.length_append]; exact hown, h.m.kept hg ?_, fun b hb => ?_, h.bl.grown hg h.bl.size (fun q hq => (h.p.lt q hq).1), h.lm, h.lr⟩, s2⟩
  · cases hu : u.ownBlock with
    | none => exact .inl rfl
    | some q => exact .inr (fun e => h.ne q e.symm hu)
  · rcases hat with e | e
    · exact h.ne b (e ▸ hb)
    · intro hu
      have := (h.m.lt b hu).2
      rw [e] at hb; cases hb; omega
theorem SgW.addM {W' : World} {u' : Value} {nm : ByteArray} (h : SgW w W mb r g done v u P M) (hown : W'.ownsRow w.heap.size 9 1 u' (M.length + 1) (strs M ++ [.string nm])) (hg : W.grownBy W' u.ownBlock) (hat : u'.ownBlock = u.ownBlock ∨ u'.ownBlock = some W.heap.size) :
    SgW w W' mb r g done v u' P (M ++ [nm.data.toList]) ∧ W'.rangeLeft mb r = W.rangeLeft mb r := by
  obtain ⟨⟨n1, n2⟩, n3, n4⟩ := h.nb
  obtain ⟨s1, s2⟩ := h.rg.same (hg.block _ h.rg.tm.lt (Ne.symm n3)) (hg.block _ h.rg.ltr (Ne.symm n4))
  refine ⟨⟨s1, h.p.kept hg ?_, by rw [strs_snoc, List.length_append]; exact hown, fun b hb hu => ?_, h.bl.grown hg h.bl.size (fun q hq => (h.m.lt q hq).1), h.lm, h.lr⟩, s2⟩
  · cases hv : v.ownBlock with
    | none => exact .inl rfl
    | some q => exact .inr (fun e => h.ne q hv e.symm)
  · rcases hat with e | e
    · exact h.ne b hb (e ▸ hu)
    · have := (h.p.lt b hb).2
      rw [e] at hu; cases hu; omega

end


/-- What Signs tells. -/
noncomputable def posOf (rows : List ND) (i : Nat) : List Nm := sortNm (nameL rows (fun x => decide (0 < (occs rows i x).1)) (below rows i))
noncomputable def negOf (rows : List ND) (i : Nat) : List Nm := sortNm (nameL rows (fun x => decide (0 < (occs rows i x).2)) (below rows i))

def SignsPost (w : World) (ps ns : List Nm) (e : Ending) (w' : World) : Prop :=
  ∃ v u, e = .returned (.tuple #[v, u, .int .i64 0]) ∧ w'.ownsRow w.heap.size 9 1 v ps.length (strs ps) ∧ w'.ownsRow w.heap.size 9 1 u ns.length (strs ns) ∧ (∀ b, v.ownBlock = some b → u.ownBlock ≠ some b) ∧ Below w.heap.size w w'

/-- The keys that came: what is named of them is what is named of all. -/
theorem keys_sorted {rows : List ND} (ok : Ok rows) {i : Nat} (hi : i < rows.length) {g : Nat → Option (Int × Int)} (hg : ∀ x, (g x).getD (0, 0) = occs rows i x) {done : List Nat} (hd : done.Nodup) (hall : ∀ x, (g x).isSome = true → x ∈ done) (p : Int × Int → Bool) (hp : p (0, 0) = false) :
    sortNm (nameL rows (fun x => p (occs rows i x)) done.reverse) = sortNm (nameL rows (fun x => p (occs rows i x)) (below rows i)) := by
  refine nameL_perm ?_
  have hnd : (below rows i).Nodup := (below_pairwise rows i).imp (fun h => Nat.ne_of_lt h)
  refine (List.perm_ext_iff_of_nodup (((List.reverse_perm done).nodup_iff.2 hd).sublist List.filter_sublist) (hnd.sublist List.filter_sublist)).2 fun x => ?_
  simp only [List.mem_filter, List.mem_reverse, Bool.and_eq_true, decide_eq_true_eq]
  constructor
  · rintro ⟨_, h1, h2⟩
    refine ⟨(mem_below ok).2 ?_, h1, h2⟩
    apply Classical.byContradiction
    intro hn
    rw [occs_zero ok hi hn, hp] at h2
    cases h2
  · rintro ⟨_, h1, h2⟩
    refine ⟨hall x ?_, h1, h2⟩
    cases hx : g x with
    | some c => rfl
    | none =>
      have := hg x
      rw [hx] at this
      simp only [Option.getD_none] at this
      rw [← this, hp] at h2
      cases h2

set_option maxRecDepth 100000 in
theorem signs_no (k : Nat) (ow : Own) (w : World) (t : Value) (rows : List ND) (h : Tab k ow w t rows) (i : Int) (hb : hasB rows.length i = false) :
    Calls Tryz.prog 34 #[t, .int .i64 i] w fun e w' => e = .returned (.tuple #[.slice none 0 0, .slice none 0 0, .int .i64 31]) ∧ Below w.heap.size w w' := by
  have H := Lib.hid h
  clear h
  go_enter Tryz.func34, Tryz.ntmps34
  go_wp2_with (go_at_call 50; refine (row_no k ow _ _ _ (H.out.below (by repeat (with_reducible first | exact Below.refl _ _ | exact HB.out | refine below_trans ?_ (below_alloc _ _) | refine below_trans ?_ (below_drew1 _) | refine below_trans ?_ (below_drewN _ _) | refine below_sc ?_ (by first | exact Nat.le_refl _ | (simp; done) | (simp; omega))))) _ hb).mono ?_; rintro e w1 ⟨rfl, hb1⟩; have HB := Lib.hid (below_trans (w := w) (by repeat (with_reducible first | exact Below.refl _ _ | exact HB.out | refine below_trans ?_ (below_alloc _ _) | refine below_trans ?_ (below_drew1 _) | refine below_trans ?_ (below_drewN _ _) | refine below_sc ?_ (by first | exact Nat.le_refl _ | (simp; done) | (simp; omega)))) hb1); clear hb1)
  go_ret3
  exact ⟨rfl, (by repeat (with_reducible first | exact Below.refl _ _ | exact HB.out | refine below_trans ?_ (below_alloc _ _) | refine below_trans ?_ (below_drew1 _) | refine below_trans ?_ (below_drewN _ _) | refine below_sc ?_ (by first | exact Nat.le_refl _ | (simp; done) | (simp; omega))))⟩

set_option maxRecDepth 100000 in
set_option maxHeartbeats 2000000 in
theorem signs_yes (k : Nat) (ow : Own) (w : World) (t : Value) (rows : List ND) (h : Tab k ow w t rows) (i : Nat) (hi : i < rows.length) :
    Calls Tryz.prog 34 #[t, .int .i64 (i : Int)] w (SignsPost w (posOf rows i) (negOf rows i)) := by
  have hok := h.ok
  have hle := hok.le
  have H := Lib.hid h
  have HR := Lib.hid (rowAt_get hi)
  clear h
  go_enter Tryz.func34, Tryz.ntmps34
  go_wp2_with (first
    | (go_at_call 50; refine (row_yes k ow _ _ _ (H.out.below (by repeat (with_reducible first | exact Below.refl _ _ | exact HB.out | refine below_trans ?_ (below_alloc _ _) | refine below_trans ?_ (below_drew1 _) | refine below_trans ?_ (below_drewN _ _) | refine below_sc ?_ (by first | exact Nat.le_refl _ | (simp; done) | (simp; omega))))) i _ HR.out).mono ?_; rintro e w1 ⟨rfl, hb1⟩; have HB := Lib.hid (below_trans (w := w) (by repeat (with_reducible first | exact Below.refl _ _ | exact HB.out | refine below_trans ?_ (below_alloc _ _) | refine below_trans ?_ (below_drew1 _) | refine below_trans ?_ (below_drewN _ _) | refine below_sc ?_ (by first | exact Nat.le_refl _ | (simp; done) | (simp; omega)))) hb1); clear hb1)
    | (go_at_call 54; refine (counts_any k ow _ _ _ (H.out.below (by repeat (with_reducible first | exact Below.refl _ _ | exact HB.out | refine below_trans ?_ (below_alloc _ _) | refine below_trans ?_ (below_drew1 _) | refine below_trans ?_ (below_drewN _ _) | refine below_sc ?_ (by first | exact Nat.le_refl _ | (simp; done) | (simp; omega))))) i hi).mono ?_; rintro e w2 ⟨mb, rfl, ⟨g, hm2, hg, hk⟩, hmb, hb2⟩; have HS1 := Lib.hid (HB.out.size); have HM2 := Lib.hid hm2; have HG := Lib.hid hg; have HK := Lib.hid hk; have HMB := Lib.hid hmb; have HB := Lib.hid (below_trans (w := w) (by repeat (with_reducible first | exact Below.refl _ _ | exact HB.out | refine below_trans ?_ (below_alloc _ _) | refine below_trans ?_ (below_drew1 _) | refine below_trans ?_ (below_drewN _ _) | refine below_sc ?_ (by first | exact Nat.le_refl _ | (simp; done) | (simp; omega)))) hb2); clear hm2 hg hk hb2 hmb)
    | (at_range; refine wp_range HM2.out rfl (.tmp 26) 82 84 rfl Tryz.underlying82 rfl ?_; intro w3 hrg3 hb3; have HI : Hid (SgW w w3 mb w2.heap.size g [] (.slice none 0 0) (.slice none 0 0) [] []) := ⟨hrg3, World.ownsRow_nil _ _ _ _, World.ownsRow_nil _ _ _ _, (fun b hb => by simp [Value.ownBlock] at hb), HB.out.trans (hb3.mono HB.out.size), (by have h1 := HMB.out; have h2 := HS1.out; simp at h1; omega), HB.out.size⟩; clear hrg3 hb3))
  go_frame
  go_loopw [9, 10] (fun v u W => ∃ done, SgW w W mb w2.heap.size g done v u (nameL rows (fun x => decide (0 < (occs rows i x).1)) done.reverse) (nameL rows (fun x => decide (0 < (occs rows i x).2)) done.reverse)) (fun _ _ W => W.rangeLeft mb w2.heap.size)
  case atStart => exact ⟨[], HI.out⟩
  case round =>
    obtain ⟨done, hI⟩ := hrel
    have HJ := Lib.hid hI
    obtain ⟨va, vc, hv⟩ := own_slice hI.p
    obtain ⟨ua, uc, hu⟩ := own_slice hI.m
    subst hv hu
    clear hI
    go_wp2_with (at_next; refine wp_next HJ.out.rg natV_inj rfl (.tmp 27) rfl rfl ?_ ?_)
    · intro hall
      have hnd := HJ.out.rg.props.1
      have hdn : done.length ≤ rows.length := nodup_le hnd (fun y hy => HK.out y (HJ.out.rg.props.2 y hy))
      have hlp := nameL_le rows (fun x => decide (0 < (occs rows i x).1)) done.reverse
      have hlm := nameL_le rows (fun x => decide (0 < (occs rows i x).2)) done.reverse
      have EP : Hid (sortNm (nameL rows (fun x => decide (0 < (occs rows i x).1)) done.reverse) = posOf rows i) := keys_sorted hok hi HG.out hnd hall (fun c => decide (0 < c.1)) rfl
      have EM : Hid (sortNm (nameL rows (fun x => decide (0 < (occs rows i x).2)) done.reverse) = negOf rows i) := keys_sorted hok hi HG.out hnd hall (fun c => decide (0 < c.2)) rfl
      rw [List.length_reverse] at hlp hlm
      have lp : (nameL rows (fun x => decide (0 < (occs rows i x).1)) done.reverse).length ≤ 4096 := by omega
      have lm : (nameL rows (fun x => decide (0 < (occs rows i x).2)) done.reverse).length ≤ 4096 := by omega
      clear hall hnd hdn hlp hlm
      generalize nameL rows (fun x => decide (0 < (occs rows i x).1)) done.reverse = P at HJ lp EP ⊢
      generalize nameL rows (fun x => decide (0 < (occs rows i x).2)) done.reverse = M at HJ lm EM ⊢
      have HQ1 : Hid ((Value.slice ua M.length uc).ownBlock = none ∨ (Value.slice ua M.length uc).ownBlock ≠ (Value.slice va P.length vc).ownBlock) := by
        cases hv : (Value.slice va P.length vc).ownBlock with
        | none => cases (Value.slice ua M.length uc).ownBlock with
          | none => exact .inl rfl
          | some q => exact .inr (by simp)
        | some q => exact .inr (HJ.out.ne q hv)
      have HQ2 : Hid ((Value.slice va P.length vc).ownBlock = none ∨ (Value.slice va P.length vc).ownBlock ≠ (Value.slice ua M.length uc).ownBlock) := by
        cases hv : (Value.slice va P.length vc).ownBlock with
        | none => exact .inl rfl
        | some q => exact .inr (Ne.symm (HJ.out.ne q hv))
      go_wp2_with (first
        | (go_at_call 55; refine (sortStrs_own _ w.heap.size _ _ _ HM5.out (by omega)).mono ?_; rintro e w6 ⟨rfl, hown6, hg6⟩; have HO6 := Lib.hid hown6; have HP6 := Lib.hid (HO5.out.kept hg6 HQ2.out); have HB6 := Lib.hid (HB5.out.grown hg6 HB5.out.size (fun q hq => (HM5.out.lt q hq).1)); clear hown6 hg6)
        | (go_at_call 55; refine (sortStrs_own _ w.heap.size _ _ _ HJ.out.p (by omega)).mono ?_; rintro e w5 ⟨rfl, hown5, hg5⟩; have HO5 := Lib.hid hown5; have HM5 := Lib.hid (HJ.out.m.kept hg5 HQ1.out); have HB5 := Lib.hid (HJ.out.bl.grown hg5 HJ.out.bl.size (fun q hq => (HJ.out.p.lt q hq).1)); clear hown5 hg5))
      go_ret3
      have h1 : (posOf rows i).length = P.length := by rw [← EP.out]; exact List.length_mergeSort _
      have h2 : (negOf rows i).length = M.length := by rw [← EM.out]; exact List.length_mergeSort _
      refine ⟨_, _, rfl, ?_, ?_, HJ.out.ne, HB6.out⟩
      · rw [h1, ← EP.out]; exact HP6.out
      · rw [h2, ← EM.out]; exact HO6.out
    · intro x va' vb' w4 hgx hxd hrg4 hg4 hlt hen
      have hxr : x < rows.length := HK.out x (by rw [hgx]; rfl)
      have hcx : (va', vb') = occs rows i x := by have := HG.out x; rw [hgx] at this; exact this
      have hrow := rowAt_get hxr
      have HSP := Lib.hid (nameL_snoc rows (fun x => decide (0 < (occs rows i x).1)) done.reverse x)
      have HSM := Lib.hid (nameL_snoc rows (fun x => decide (0 < (occs rows i x).2)) done.reverse x)
      have HLP := Lib.hid (nameL_le rows (fun x => decide (0 < (occs rows i x).1)) done.reverse)
      have HLM := Lib.hid (nameL_le rows (fun x => decide (0 < (occs rows i x).2)) done.reverse)
      have HW4 := Lib.hid (HJ.out.next hrg4 hg4)
      have HLT := Lib.hid hlt
      have HTW : Hid (Tab k ow w4 t rows) := H.out.below HW4.out.bl
      have HDN : Hid (done.length ≤ 1024) := by
        have hp := HJ.out.rg.props
        have := nodup_le hp.1 (m := rows.length) (fun y hy => HK.out y (hp.2 y hy))
        unfold Hid; omega
      rw [← hcx] at HSP HSM
      generalize rowAt rows x = n at hrow HSP HSM
      obtain ⟨kd, nm, l, r⟩ := n
      have HRX := Lib.hid hrow
      have hen' : (Instr.entry (.pointer (some ⟨w2.heap.size, 0, none⟩))).run Tryz.prog w4 = .ok (.tuple #[.int .i64 (x : Int), .agg #[.int .i64 va', .int .i64 vb']]) w4 := hen
      clear hen hgx hcx hrow hrg4 hg4 hlt hxd
      by_cases hk1 : kd = 1
      · subst hk1
        have HNB := Lib.hid (fun q hq => (HW4.out.p.lt q hq).2)
        by_cases hp : 0 < va'
        · by_cases hm : 0 < vb'
          · have HP : Hid ((nameL rows (fun x => decide (0 < (occs rows i x).1)) (done.reverse ++ [x])) = (nameL rows (fun x => decide (0 < (occs rows i x).1)) done.reverse) ++ [nm.data.toList]) := by rw [Hid, HSP.out, if_pos (by simp [hp])]
            have HM : Hid ((nameL rows (fun x => decide (0 < (occs rows i x).2)) (done.reverse ++ [x])) = (nameL rows (fun x => decide (0 < (occs rows i x).2)) done.reverse) ++ [nm.data.toList]) := by rw [Hid, HSM.out, if_pos (by simp [hm])]
            have bp : (decide (0 < va')) = true := by simpa using hp
            have bm : (decide (0 < vb')) = true := by simpa using hm
            clear hp hm
            go_wp2_with (first | (go_at_call 52; refine (node_yes k ow _ _ _ (HTW.out.below (below_alloc _ _)) _ _ HRX.out).mono ?_; rintro e w5 ⟨rfl, hb5⟩; obtain ⟨hw5, hr5⟩ := HW4.out.below (below_trans (below_trans (below_alloc _ _) hb5) (below_alloc _ (.cells #[.int .i64 1, .string nm, .int .i64 l, .int .i64 r] 51))); have HW5 := Lib.hid hw5; have HR5 := Lib.hid hr5; have q0 : w5.cell? ⟨w4.heap.size, 0, none⟩ = some (.int .i64 va') := (hb5.cell (p := ⟨w4.heap.size, 0, none⟩) (by simp)).trans (World.cell?_alloc_at _ _ _ _ rfl); have q1 : w5.cell? ⟨w4.heap.size, 1, none⟩ = some (.int .i64 vb') := (hb5.cell (p := ⟨w4.heap.size, 1, none⟩) (by simp)).trans (World.cell?_alloc_at _ _ _ _ rfl); have z5 : w4.heap.size < w5.heap.size := World.block_lt_of_cell? w5 _ q0; clear hb5 hw5 hr5) | (at_builtin; refine wp_append rfl (.tmp 45) (.tmp 48) 58 rfl w.heap.size 9 _ 1 16 Tryz.underlying58 infoStr rfl (by decide) (by decide) _ (nameL rows (fun x => decide (0 < (occs rows i x).1)) done.reverse).length (strs (nameL rows (fun x => decide (0 < (occs rows i x).1)) done.reverse)) rfl (HW5.out.below (below_alloc _ _)).1.p _ 1 [.string nm] rfl (rd_one' _ _ _ (by simp)) (by simp [Value.oneCell']) (by have := HLP.out; have := HDN.out; simp at *; omega) (HW5.out.below (below_alloc _ _)).1.bl.size ?_; intro v6 w6 hown6 hgr6 hat6 hnil6; obtain ⟨hw6, hr6⟩ := (HW5.out.below (below_alloc _ _)).1.addP hown6 hgr6 hat6; have q6 : w6.cell? ⟨w4.heap.size, 1, none⟩ = some (.int .i64 vb') := hgr6.cell ?_ ?_; have n6 : w6.cell? ⟨w5.heap.size, 1, none⟩ = some (.string nm) := hgr6.cell ?_ ?_; have HR6 := Lib.hid (hr6.trans ((HW5.out.below (below_alloc _ _)).2.trans HR5.out)); have HW6 := Lib.hid hw6; obtain ⟨a6, c6, hv6⟩ := own_slice hown6; subst hv6; clear hown6 hgr6 hat6 hnil6 hw6 hr6) | (at_builtin; refine wp_append rfl (.tmp 53) (.tmp 56) 58 rfl w.heap.size 9 _ 1 16 Tryz.underlying58 infoStr rfl (by decide) (by decide) _ (nameL rows (fun x => decide (0 < (occs rows i x).2)) done.reverse).length (strs (nameL rows (fun x => decide (0 < (occs rows i x).2)) done.reverse)) rfl (HW6.out.below (below_alloc _ _)).1.m _ 1 [.string nm] rfl (rd_one' _ _ _ (by simp)) (by simp [Value.oneCell']) (by have := HLM.out; have := HDN.out; simp at *; omega) (HW6.out.below (below_alloc _ _)).1.bl.size ?_; intro v7 w7 hown7 hgr7 hat7 hnil7; obtain ⟨hw7, hr7⟩ := (HW6.out.below (below_alloc _ _)).1.addM hown7 hgr7 hat7; have HR7 := Lib.hid (hr7.trans ((HW6.out.below (below_alloc _ _)).2.trans HR6.out)); have HW7 := Lib.hid hw7; clear hown7 hgr7 hat7 hnil7 hw7 hr7) | fail)
            all_goals first
              | (exact ⟨⟨x :: done, by rw [List.reverse_cons, HP.out, HM.out]; exact HW7.out⟩, by rw [HR7.out]; exact HLT.out⟩)
              | (intro e; have h1 := HNB.out _ e.symm; have h2 := z5; clear e; omega)
              | (rw [World.cell?_alloc_lt _ _ _ (by simp; omega), World.cell?_alloc_lt _ _ _ (by first | exact z5 | (simp; omega))]; exact q1)
              | (rw [World.cell?_alloc_lt _ _ _ (by simp)]; exact World.cell?_alloc_at _ _ _ _ rfl)
          · have HP : Hid ((nameL rows (fun x => decide (0 < (occs rows i x).1)) (done.reverse ++ [x])) = (nameL rows (fun x => decide (0 < (occs rows i x).1)) done.reverse) ++ [nm.data.toList]) := by rw [Hid, HSP.out, if_pos (by simp [hp])]
            have HM : Hid ((nameL rows (fun x => decide (0 < (occs rows i x).2)) (done.reverse ++ [x])) = (nameL rows (fun x => decide (0 < (occs rows i x).2)) done.reverse)) := by rw [Hid, HSM.out, if_neg (by simp [hm])]
            have bp : (decide (0 < va')) = true := by simpa using hp
            have bm : (decide (0 < vb')) = false := by simpa using hm
            clear hp hm
            go_wp2_with (first | (go_at_call 52; refine (node_yes k ow _ _ _ (HTW.out.below (below_alloc _ _)) _ _ HRX.out).mono ?_; rintro e w5 ⟨rfl, hb5⟩; obtain ⟨hw5, hr5⟩ := HW4.out.below (below_trans (below_trans (below_alloc _ _) hb5) (below_alloc _ (.cells #[.int .i64 1, .string nm, .int .i64 l, .int .i64 r] 51))); have HW5 := Lib.hid hw5; have HR5 := Lib.hid hr5; have q0 : w5.cell? ⟨w4.heap.size, 0, none⟩ = some (.int .i64 va') := (hb5.cell (p := ⟨w4.heap.size, 0, none⟩) (by simp)).trans (World.cell?_alloc_at _ _ _ _ rfl); have q1 : w5.cell? ⟨w4.heap.size, 1, none⟩ = some (.int .i64 vb') := (hb5.cell (p := ⟨w4.heap.size, 1, none⟩) (by simp)).trans (World.cell?_alloc_at _ _ _ _ rfl); have z5 : w4.heap.size < w5.heap.size := World.block_lt_of_cell? w5 _ q0; clear hb5 hw5 hr5) | (at_builtin; refine wp_append rfl (.tmp 45) (.tmp 48) 58 rfl w.heap.size 9 _ 1 16 Tryz.underlying58 infoStr rfl (by decide) (by decide) _ (nameL rows (fun x => decide (0 < (occs rows i x).1)) done.reverse).length (strs (nameL rows (fun x => decide (0 < (occs rows i x).1)) done.reverse)) rfl (HW5.out.below (below_alloc _ _)).1.p _ 1 [.string nm] rfl (rd_one' _ _ _ (by simp)) (by simp [Value.oneCell']) (by have := HLP.out; have := HDN.out; simp at *; omega) (HW5.out.below (below_alloc _ _)).1.bl.size ?_; intro v6 w6 hown6 hgr6 hat6 hnil6; obtain ⟨hw6, hr6⟩ := (HW5.out.below (below_alloc _ _)).1.addP hown6 hgr6 hat6; have q6 : w6.cell? ⟨w4.heap.size, 1, none⟩ = some (.int .i64 vb') := hgr6.cell ?_ ?_; have n6 : w6.cell? ⟨w5.heap.size, 1, none⟩ = some (.string nm) := hgr6.cell ?_ ?_; have HR6 := Lib.hid (hr6.trans ((HW5.out.below (below_alloc _ _)).2.trans HR5.out)); have HW6 := Lib.hid hw6; obtain ⟨a6, c6, hv6⟩ := own_slice hown6; subst hv6; clear hown6 hgr6 hat6 hnil6 hw6 hr6) | fail)
            all_goals first
              | (exact ⟨⟨x :: done, by rw [List.reverse_cons, HP.out, HM.out]; exact HW6.out⟩, by rw [HR6.out]; exact HLT.out⟩)
              | (intro e; have h1 := HNB.out _ e.symm; have h2 := z5; clear e; omega)
              | (rw [World.cell?_alloc_lt _ _ _ (by simp; omega), World.cell?_alloc_lt _ _ _ (by first | exact z5 | (simp; omega))]; exact q1)
              | (rw [World.cell?_alloc_lt _ _ _ (by simp)]; exact World.cell?_alloc_at _ _ _ _ rfl)
        · by_cases hm : 0 < vb'
          · have HP : Hid ((nameL rows (fun x => decide (0 < (occs rows i x).1)) (done.reverse ++ [x])) = (nameL rows (fun x => decide (0 < (occs rows i x).1)) done.reverse)) := by rw [Hid, HSP.out, if_neg (by simp [hp])]
            have HM : Hid ((nameL rows (fun x => decide (0 < (occs rows i x).2)) (done.reverse ++ [x])) = (nameL rows (fun x => decide (0 < (occs rows i x).2)) done.reverse) ++ [nm.data.toList]) := by rw [Hid, HSM.out, if_pos (by simp [hm])]
            have bp : (decide (0 < va')) = false := by simpa using hp
            have bm : (decide (0 < vb')) = true := by simpa using hm
            clear hp hm
            go_wp2_with (first | (go_at_call 52; refine (node_yes k ow _ _ _ (HTW.out.below (below_alloc _ _)) _ _ HRX.out).mono ?_; rintro e w5 ⟨rfl, hb5⟩; obtain ⟨hw5, hr5⟩ := HW4.out.below (below_trans (below_trans (below_alloc _ _) hb5) (below_alloc _ (.cells #[.int .i64 1, .string nm, .int .i64 l, .int .i64 r] 51))); have HW5 := Lib.hid hw5; have HR5 := Lib.hid hr5; have q0 : w5.cell? ⟨w4.heap.size, 0, none⟩ = some (.int .i64 va') := (hb5.cell (p := ⟨w4.heap.size, 0, none⟩) (by simp)).trans (World.cell?_alloc_at _ _ _ _ rfl); have q1 : w5.cell? ⟨w4.heap.size, 1, none⟩ = some (.int .i64 vb') := (hb5.cell (p := ⟨w4.heap.size, 1, none⟩) (by simp)).trans (World.cell?_alloc_at _ _ _ _ rfl); have z5 : w4.heap.size < w5.heap.size := World.block_lt_of_cell? w5 _ q0; clear hb5 hw5 hr5) | (at_builtin; refine wp_append rfl (.tmp 53) (.tmp 56) 58 rfl w.heap.size 9 _ 1 16 Tryz.underlying58 infoStr rfl (by decide) (by decide) _ (nameL rows (fun x => decide (0 < (occs rows i x).2)) done.reverse).length (strs (nameL rows (fun x => decide (0 < (occs rows i x).2)) done.reverse)) rfl (HW5.out.below (below_alloc _ _)).1.m _ 1 [.string nm] rfl (rd_one' _ _ _ (by simp)) (by simp [Value.oneCell']) (by have := HLM.out; have := HDN.out; simp at *; omega) (HW5.out.below (below_alloc _ _)).1.bl.size ?_; intro v7 w7 hown7 hgr7 hat7 hnil7; obtain ⟨hw7, hr7⟩ := (HW5.out.below (below_alloc _ _)).1.addM hown7 hgr7 hat7; have HR7 := Lib.hid (hr7.trans ((HW5.out.below (below_alloc _ _)).2.trans HR5.out)); have HW7 := Lib.hid hw7; clear hown7 hgr7 hat7 hnil7 hw7 hr7) | fail)
            exact ⟨⟨x :: done, by rw [List.reverse_cons, HP.out, HM.out]; exact HW7.out⟩, by rw [HR7.out]; exact HLT.out⟩
          · have HP : Hid ((nameL rows (fun x => decide (0 < (occs rows i x).1)) (done.reverse ++ [x])) = (nameL rows (fun x => decide (0 < (occs rows i x).1)) done.reverse)) := by rw [Hid, HSP.out, if_neg (by simp [hp])]
            have HM : Hid ((nameL rows (fun x => decide (0 < (occs rows i x).2)) (done.reverse ++ [x])) = (nameL rows (fun x => decide (0 < (occs rows i x).2)) done.reverse)) := by rw [Hid, HSM.out, if_neg (by simp [hm])]
            have bp : (decide (0 < va')) = false := by simpa using hp
            have bm : (decide (0 < vb')) = false := by simpa using hm
            clear hp hm
            go_wp2_with (first | (go_at_call 52; refine (node_yes k ow _ _ _ (HTW.out.below (below_alloc _ _)) _ _ HRX.out).mono ?_; rintro e w5 ⟨rfl, hb5⟩; obtain ⟨hw5, hr5⟩ := HW4.out.below (below_trans (below_trans (below_alloc _ _) hb5) (below_alloc _ (.cells #[.int .i64 1, .string nm, .int .i64 l, .int .i64 r] 51))); have HW5 := Lib.hid hw5; have HR5 := Lib.hid hr5; have q0 : w5.cell? ⟨w4.heap.size, 0, none⟩ = some (.int .i64 va') := (hb5.cell (p := ⟨w4.heap.size, 0, none⟩) (by simp)).trans (World.cell?_alloc_at _ _ _ _ rfl); have q1 : w5.cell? ⟨w4.heap.size, 1, none⟩ = some (.int .i64 vb') := (hb5.cell (p := ⟨w4.heap.size, 1, none⟩) (by simp)).trans (World.cell?_alloc_at _ _ _ _ rfl); have z5 : w4.heap.size < w5.heap.size := World.block_lt_of_cell? w5 _ q0; clear hb5 hw5 hr5) | fail)
            exact ⟨⟨x :: done, by rw [List.reverse_cons, HP.out, HM.out]; exact HW5.out⟩, by rw [HR5.out]; exact HLT.out⟩
      · have hkb : (kd != 1) = true := by simpa using hk1
        have HP : Hid ((nameL rows (fun x => decide (0 < (occs rows i x).1)) (done.reverse ++ [x])) = (nameL rows (fun x => decide (0 < (occs rows i x).1)) done.reverse)) := by rw [Hid, HSP.out, if_neg (by simp [hk1])]
        have HM : Hid ((nameL rows (fun x => decide (0 < (occs rows i x).2)) (done.reverse ++ [x])) = (nameL rows (fun x => decide (0 < (occs rows i x).2)) done.reverse)) := by rw [Hid, HSM.out, if_neg (by simp [hk1])]
        clear hk1
        go_wp2_with (first | (go_at_call 52; refine (node_yes k ow _ _ _ (HTW.out.below (below_alloc _ _)) _ _ HRX.out).mono ?_; rintro e w5 ⟨rfl, hb5⟩; obtain ⟨hw5, hr5⟩ := HW4.out.below (below_trans (below_trans (below_alloc _ _) hb5) (below_alloc _ (.cells #[.int .i64 kd, .string nm, .int .i64 l, .int .i64 r] 51))); have HW5 := Lib.hid hw5; have HR5 := Lib.hid hr5; have q0 : w5.cell? ⟨w4.heap.size, 0, none⟩ = some (.int .i64 va') := (hb5.cell (p := ⟨w4.heap.size, 0, none⟩) (by simp)).trans (World.cell?_alloc_at _ _ _ _ rfl); have q1 : w5.cell? ⟨w4.heap.size, 1, none⟩ = some (.int .i64 vb') := (hb5.cell (p := ⟨w4.heap.size, 1, none⟩) (by simp)).trans (World.cell?_alloc_at _ _ _ _ rfl); have z5 : w4.heap.size < w5.heap.size := World.block_lt_of_cell? w5 _ q0; clear hb5 hw5 hr5) | fail)
        exact ⟨⟨x :: done, by rw [List.reverse_cons, HP.out, HM.out]; exact HW5.out⟩, by rw [HR5.out]; exact HLT.out⟩

end Go.Dk

