/- fold, at each of its function values. Written by wip/genfold.py. -/
import Derived.Test.YtfldpjacgeoegaaGreatYf
namespace Go.Dk
open Go.RowKit Go.Maps Go.MapKept
open Go.Proofs hiding intOf

set_option maxRecDepth 100000 in
set_option maxHeartbeats 800000 in
theorem fold_Size (k : Nat) (ow : Own) (w : World) (t : Value) (rows : List ND) (h : Tab k ow w t rows) (of : ND → Int → Int → Int) (hof : Reckons 26 of) (ho : ∀ n l r l' r', n.kind < 3 → of n l r = of n l' r') (hbd : ∀ i, i < rows.length → 0 ≤ val of rows i ∧ val of rows i ≤ MC) (i : Nat) (hi : i < rows.length) :
    Calls Tryz.prog 25 #[t, .int .i64 (i : Int), .func (.func 26) #[] #[]] w fun e w' => e = .returned (.tuple #[.int .i64 (val of rows i), .int .i64 0]) ∧ Below w.heap.size w w' := by
  have hok := h.ok
  have hle := hok.le
  have H := Lib.hid h
  have HK := Lib.hid hok
  have HF := Lib.hid hof
  have HO := Lib.hid ho
  have HD := Lib.hid hbd
  have HR := Lib.hid (rowAt_get hi)
  clear h hof ho hbd hok
  have hmm := @run_makeMap Tryz.prog
  go_enter Tryz.func25, Tryz.ntmps25
  go_wp2_with (first
    | (go_at_call 50; refine (row_yes k ow _ _ _ (H.out.below (by repeat (with_reducible first | exact Below.refl _ _ | exact HB.out | refine below_trans ?_ (below_alloc _ _) | refine below_trans ?_ (below_drew1 _) | refine below_trans ?_ (below_drewN _ _) | refine below_sc ?_ (by first | exact Nat.le_refl _ | (simp; done) | (simp; omega))))) i _ HR.out).mono ?_; rintro e w1 ⟨rfl, hb1⟩; have HS1 := Lib.hid hb1.size; have HB := Lib.hid (below_trans (w := w) (by repeat (with_reducible first | exact Below.refl _ _ | exact HB.out | refine below_trans ?_ (below_alloc _ _) | refine below_trans ?_ (below_drew1 _) | refine below_trans ?_ (below_drewN _ _) | refine below_sc ?_ (by first | exact Nat.le_refl _ | (simp; done) | (simp; omega)))) hb1); clear hb1)
    | (go_at_call 51; refine (below_yes k ow _ _ _ (H.out.below (by repeat (with_reducible first | exact Below.refl _ _ | exact HB.out | refine below_trans ?_ (below_alloc _ _) | refine below_trans ?_ (below_drew1 _) | refine below_trans ?_ (below_drewN _ _) | refine below_sc ?_ (by first | exact Nat.le_refl _ | (simp; done) | (simp; omega))))) i hi).mono ?_; rintro e w2 ⟨v2, rfl, hown2, hb2⟩; obtain ⟨a2, c2, hv2⟩ := own_slice hown2; subst hv2; have HO2 := Lib.hid hown2; have HM2 := Lib.hid ((TM.made Tryz.prog 3 natV intV _).below hb2); have HL2 := Lib.hid hb2.size; have HB := Lib.hid (below_trans (w := w) (by repeat (with_reducible first | exact Below.refl _ _ | exact HB.out | refine below_trans ?_ (below_alloc _ _) | refine below_trans ?_ (below_drew1 _) | refine below_trans ?_ (below_drewN _ _) | refine below_sc ?_ (by first | exact Nat.le_refl _ | (simp; done) | (simp; omega)))) hb2); clear hown2 hb2))
  have HI : Hid (FoldI of rows i (w1.heap.size + 1) w2 w2 0) := ⟨⟨rfl, rfl, rfl, Nat.le_refl _, fun _ _ _ => rfl⟩, by have := HM2.out; rw [World.size_alloc] at this; exact this⟩
  have hlb := below_le rows i
  have HMB : Hid (w1.heap.size + 1 < w2.heap.size ∧ w.heap.size ≤ w1.heap.size + 1 ∧ (Value.slice a2 (below rows i).length c2).ownBlock ≠ some (w1.heap.size + 1)) := by
    refine ⟨?_, ?_, fun e => ?_⟩
    · have := HI.out.m.lt; exact this
    · have := HS1.out; omega
    · have := (HO2.out.lt _ e).1; simp at this; omega
  clear hmm HM2 HL2
  go_loopw [35] (fun j W => ∃ k : Nat, k ≤ (below rows i).length ∧ j = .int .i64 k ∧ FoldI of rows i (w1.heap.size + 1) w2 W k) (fun j _ => (below rows i).length - (intOf j).toNat)
  case atStart => exact ⟨0, Nat.zero_le _, rfl, HI.out⟩
  case round =>
    obtain ⟨j, hj, rfl, hI⟩ := hrel
    have HJ := Lib.hid hI
    by_cases hlt : j < (below rows i).length
    · have hown := HO2.out.kept hI.g (.inr HMB.out.2.2)
      obtain ⟨b, o, c1, x', he, hc1, hxk'⟩ := ints_at (rd_own hown) hlt
      cases he
      obtain ⟨x, hx⟩ : ∃ x, (below rows i)[j]? = some x := ⟨_, List.getElem?_eq_getElem hlt⟩
      obtain rfl : x' = (x : Int) := by
        have : (natInts (below rows i))[j]? = some (x : Int) := by simp [natInts, hx]
        rw [this] at hxk'; exact (Option.some.inj hxk').symm
      have hxi : x ≤ i := ((mem_below HK.out).1 (List.mem_of_getElem? hx)).le HK.out
      have hrow := rowAt_get (rows := rows) (i := x) (by omega)
      generalize rowAt rows x = n at hrow
      have hfn := fits_le (HK.out.fit _ _ hrow)
      obtain ⟨kd, nm, l', r'⟩ := n
      simp only at hfn
      obtain ⟨l, rfl⟩ := Int.eq_ofNat_of_zero_le hfn.2.2.1.1
      obtain ⟨r, rfl⟩ := Int.eq_ofNat_of_zero_le hfn.2.2.2.1
      have HKD : Hid (1 ≤ kd ∧ kd ≤ 5) := hfn.2.1
      have HV := Lib.hid (known_val HK.out HO.out hi hx hrow)
      have HST := Lib.hid (knownF_step (of := of) (rows := rows) hx)
      have HRX := Lib.hid hrow
      have HTW : Hid (Tab k ow wr t rows) := H.out.below (HB.out.trans ((Below.refl _ _).grown hI.g HB.out.size (by intro k hk; cases hk; exact HMB.out.2.1)))
      have HG1 := Lib.hid (knownF_get HD.out ((below rows i).take j) (fun x hx => by have := ((mem_below HK.out).1 (List.mem_of_mem_take hx)).le HK.out; omega) l)
      have HG2 := Lib.hid (knownF_get HD.out ((below rows i).take j) (fun x hx => by have := ((mem_below HK.out).1 (List.mem_of_mem_take hx)).le HK.out; omega) r)
      have HLR : Hid (l ≤ 9223372036854775807 ∧ r ≤ 9223372036854775807 ∧ x ≤ 9223372036854775807) := by unfold Hid; omega
      clear hI hown hxk' hx hrow hfn
      go_wp2_with (first | (go_at_call 52; refine (node_yes k ow _ _ _ HTW.out _ _ HRX.out).mono ?_; rintro e w4 ⟨rfl, hb4⟩; have HJ4 := Lib.hid (HJ.out.below (below_trans hb4 (below_alloc w4 (.cells #[.int .i64 kd, .string nm, .int .i64 (l : Int), .int .i64 (r : Int)] 51)))); have hl1 := HJ4.out.m.look_int l HLR.out.1; have hl2 := HJ4.out.m.look_int r HLR.out.2.1; clear hb4) | (go_at_call 26; refine (HF.out _ ⟨kd, nm, l, r⟩ _ _ HKD.out HG1.out HG2.out).mono ?_; rintro e w5 ⟨rfl, hb5⟩; rw [HV.out]; have HJ5 := Lib.hid (HJ4.out.below hb5); clear hb5) | (at_mapUpdate; refine wp_put HJ5.out.m lawInt natV_inj rfl (.tmp 45) (.tmp 46) _ 77 3 rfl Tryz.underlying77 rfl x rfl (val of rows x) rfl (keyNat x HLR.out.2.2) ?_; intro w6 hm6 ho6; rw [HST.out] at hm6; have HJ6 : Hid (FoldI of rows i (w1.heap.size + 1) w2 w6 (j + 1)) := ⟨HJ5.out.g.trans ho6.grown, hm6⟩; clear hm6 ho6))
      exact ⟨⟨j + 1, by omega, by go_num, HJ6.out⟩, by simp [intOf]; omega⟩
    · obtain rfl : j = (below rows i).length := by omega
      have hv : (knownF of rows ((below rows i).take (below rows i).length) i).getD 0 = val of rows i := by
        rw [List.take_length]; unfold knownF; rw [if_pos ((mem_below HK.out).2 (.refl _))]; rfl
      have hl1 := hI.m.look_int i (by omega)
      rw [hv] at hl1
      have HBW : Hid (Below w.heap.size w wr) := HB.out.trans ((Below.refl _ _).grown hI.g HB.out.size (by intro k hk; cases hk; exact HMB.out.2.1))
      clear hI hv
      go_wp2
      go_ret2
      exact ⟨rfl, HBW.out⟩
set_option maxRecDepth 100000 in
set_option maxHeartbeats 800000 in
theorem fold_Depth (k : Nat) (ow : Own) (w : World) (t : Value) (rows : List ND) (h : Tab k ow w t rows) (of : ND → Int → Int → Int) (hof : Reckons 29 of) (ho : ∀ n l r l' r', n.kind < 3 → of n l r = of n l' r') (hbd : ∀ i, i < rows.length → 0 ≤ val of rows i ∧ val of rows i ≤ MC) (i : Nat) (hi : i < rows.length) :
    Calls Tryz.prog 25 #[t, .int .i64 (i : Int), .func (.func 29) #[] #[]] w fun e w' => e = .returned (.tuple #[.int .i64 (val of rows i), .int .i64 0]) ∧ Below w.heap.size w w' := by
  have hok := h.ok
  have hle := hok.le
  have H := Lib.hid h
  have HK := Lib.hid hok
  have HF := Lib.hid hof
  have HO := Lib.hid ho
  have HD := Lib.hid hbd
  have HR := Lib.hid (rowAt_get hi)
  clear h hof ho hbd hok
  have hmm := @run_makeMap Tryz.prog
  go_enter Tryz.func25, Tryz.ntmps25
  go_wp2_with (first
    | (go_at_call 50; refine (row_yes k ow _ _ _ (H.out.below (by repeat (with_reducible first | exact Below.refl _ _ | exact HB.out | refine below_trans ?_ (below_alloc _ _) | refine below_trans ?_ (below_drew1 _) | refine below_trans ?_ (below_drewN _ _) | refine below_sc ?_ (by first | exact Nat.le_refl _ | (simp; done) | (simp; omega))))) i _ HR.out).mono ?_; rintro e w1 ⟨rfl, hb1⟩; have HS1 := Lib.hid hb1.size; have HB := Lib.hid (below_trans (w := w) (by repeat (with_reducible first | exact Below.refl _ _ | exact HB.out | refine below_trans ?_ (below_alloc _ _) | refine below_trans ?_ (below_drew1 _) | refine below_trans ?_ (below_drewN _ _) | refine below_sc ?_ (by first | exact Nat.le_refl _ | (simp; done) | (simp; omega)))) hb1); clear hb1)
    | (go_at_call 51; refine (below_yes k ow _ _ _ (H.out.below (by repeat (with_reducible first | exact Below.refl _ _ | exact HB.out | refine below_trans ?_ (below_alloc _ _) | refine below_trans ?_ (below_drew1 _) | refine below_trans ?_ (below_drewN _ _) | refine below_sc ?_ (by first | exact Nat.le_refl _ | (simp; done) | (simp; omega))))) i hi).mono ?_; rintro e w2 ⟨v2, rfl, hown2, hb2⟩; obtain ⟨a2, c2, hv2⟩ := own_slice hown2; subst hv2; have HO2 := Lib.hid hown2; have HM2 := Lib.hid ((TM.made Tryz.prog 3 natV intV _).below hb2); have HL2 := Lib.hid hb2.size; have HB := Lib.hid (below_trans (w := w) (by repeat (with_reducible first | exact Below.refl _ _ | exact HB.out | refine below_trans ?_ (below_alloc _ _) | refine below_trans ?_ (below_drew1 _) | refine below_trans ?_ (below_drewN _ _) | refine below_sc ?_ (by first | exact Nat.le_refl _ | (simp; done) | (simp; omega)))) hb2); clear hown2 hb2))
  have HI : Hid (FoldI of rows i (w1.heap.size + 1) w2 w2 0) := ⟨⟨rfl, rfl, rfl, Nat.le_refl _, fun _ _ _ => rfl⟩, by have := HM2.out; rw [World.size_alloc] at this; exact this⟩
  have hlb := below_le rows i
  have HMB : Hid (w1.heap.size + 1 < w2.heap.size ∧ w.heap.size ≤ w1.heap.size + 1 ∧ (Value.slice a2 (below rows i).length c2).ownBlock ≠ some (w1.heap.size + 1)) := by
    refine ⟨?_, ?_, fun e => ?_⟩
    · have := HI.out.m.lt; exact this
    · have := HS1.out; omega
    · have := (HO2.out.lt _ e).1; simp at this; omega
  clear hmm HM2 HL2
  go_loopw [35] (fun j W => ∃ k : Nat, k ≤ (below rows i).length ∧ j = .int .i64 k ∧ FoldI of rows i (w1.heap.size + 1) w2 W k) (fun j _ => (below rows i).length - (intOf j).toNat)
  case atStart => exact ⟨0, Nat.zero_le _, rfl, HI.out⟩
  case round =>
    obtain ⟨j, hj, rfl, hI⟩ := hrel
    have HJ := Lib.hid hI
    by_cases hlt : j < (below rows i).length
    · have hown := HO2.out.kept hI.g (.inr HMB.out.2.2)
      obtain ⟨b, o, c1, x', he, hc1, hxk'⟩ := ints_at (rd_own hown) hlt
      cases he
      obtain ⟨x, hx⟩ : ∃ x, (below rows i)[j]? = some x := ⟨_, List.getElem?_eq_getElem hlt⟩
      obtain rfl : x' = (x : Int) := by
        have : (natInts (below rows i))[j]? = some (x : Int) := by simp [natInts, hx]
        rw [this] at hxk'; exact (Option.some.inj hxk').symm
      have hxi : x ≤ i := ((mem_below HK.out).1 (List.mem_of_getElem? hx)).le HK.out
      have hrow := rowAt_get (rows := rows) (i := x) (by omega)
      generalize rowAt rows x = n at hrow
      have hfn := fits_le (HK.out.fit _ _ hrow)
      obtain ⟨kd, nm, l', r'⟩ := n
      simp only at hfn
      obtain ⟨l, rfl⟩ := Int.eq_ofNat_of_zero_le hfn.2.2.1.1
      obtain ⟨r, rfl⟩ := Int.eq_ofNat_of_zero_le hfn.2.2.2.1
      have HKD : Hid (1 ≤ kd ∧ kd ≤ 5) := hfn.2.1
      have HV := Lib.hid (known_val HK.out HO.out hi hx hrow)
      have HST := Lib.hid (knownF_step (of := of) (rows := rows) hx)
      have HRX := Lib.hid hrow
      have HTW : Hid (Tab k ow wr t rows) := H.out.below (HB.out.trans ((Below.refl _ _).grown hI.g HB.out.size (by intro k hk; cases hk; exact HMB.out.2.1)))
      have HG1 := Lib.hid (knownF_get HD.out ((below rows i).take j) (fun x hx => by have := ((mem_below HK.out).1 (List.mem_of_mem_take hx)).le HK.out; omega) l)
      have HG2 := Lib.hid (knownF_get HD.out ((below rows i).take j) (fun x hx => by have := ((mem_below HK.out).1 (List.mem_of_mem_take hx)).le HK.out; omega) r)
      have HLR : Hid (l ≤ 9223372036854775807 ∧ r ≤ 9223372036854775807 ∧ x ≤ 9223372036854775807) := by unfold Hid; omega
      clear hI hown hxk' hx hrow hfn
      go_wp2_with (first | (go_at_call 52; refine (node_yes k ow _ _ _ HTW.out _ _ HRX.out).mono ?_; rintro e w4 ⟨rfl, hb4⟩; have HJ4 := Lib.hid (HJ.out.below (below_trans hb4 (below_alloc w4 (.cells #[.int .i64 kd, .string nm, .int .i64 (l : Int), .int .i64 (r : Int)] 51)))); have hl1 := HJ4.out.m.look_int l HLR.out.1; have hl2 := HJ4.out.m.look_int r HLR.out.2.1; clear hb4) | (go_at_call 29; refine (HF.out _ ⟨kd, nm, l, r⟩ _ _ HKD.out HG1.out HG2.out).mono ?_; rintro e w5 ⟨rfl, hb5⟩; rw [HV.out]; have HJ5 := Lib.hid (HJ4.out.below hb5); clear hb5) | (at_mapUpdate; refine wp_put HJ5.out.m lawInt natV_inj rfl (.tmp 45) (.tmp 46) _ 77 3 rfl Tryz.underlying77 rfl x rfl (val of rows x) rfl (keyNat x HLR.out.2.2) ?_; intro w6 hm6 ho6; rw [HST.out] at hm6; have HJ6 : Hid (FoldI of rows i (w1.heap.size + 1) w2 w6 (j + 1)) := ⟨HJ5.out.g.trans ho6.grown, hm6⟩; clear hm6 ho6))
      exact ⟨⟨j + 1, by omega, by go_num, HJ6.out⟩, by simp [intOf]; omega⟩
    · obtain rfl : j = (below rows i).length := by omega
      have hv : (knownF of rows ((below rows i).take (below rows i).length) i).getD 0 = val of rows i := by
        rw [List.take_length]; unfold knownF; rw [if_pos ((mem_below HK.out).2 (.refl _))]; rfl
      have hl1 := hI.m.look_int i (by omega)
      rw [hv] at hl1
      have HBW : Hid (Below w.heap.size w wr) := HB.out.trans ((Below.refl _ _).grown hI.g HB.out.size (by intro k hk; cases hk; exact HMB.out.2.1))
      clear hI hv
      go_wp2
      go_ret2
      exact ⟨rfl, HBW.out⟩
set_option maxRecDepth 100000 in
set_option maxHeartbeats 800000 in
theorem fold_Weight (k : Nat) (ow : Own) (w : World) (t : Value) (rows : List ND) (h : Tab k ow w t rows) (of : ND → Int → Int → Int) (hof : Reckons 30 of) (ho : ∀ n l r l' r', n.kind < 3 → of n l r = of n l' r') (hbd : ∀ i, i < rows.length → 0 ≤ val of rows i ∧ val of rows i ≤ MC) (i : Nat) (hi : i < rows.length) :
    Calls Tryz.prog 25 #[t, .int .i64 (i : Int), .func (.func 30) #[] #[]] w fun e w' => e = .returned (.tuple #[.int .i64 (val of rows i), .int .i64 0]) ∧ Below w.heap.size w w' := by
  have hok := h.ok
  have hle := hok.le
  have H := Lib.hid h
  have HK := Lib.hid hok
  have HF := Lib.hid hof
  have HO := Lib.hid ho
  have HD := Lib.hid hbd
  have HR := Lib.hid (rowAt_get hi)
  clear h hof ho hbd hok
  have hmm := @run_makeMap Tryz.prog
  go_enter Tryz.func25, Tryz.ntmps25
  go_wp2_with (first
    | (go_at_call 50; refine (row_yes k ow _ _ _ (H.out.below (by repeat (with_reducible first | exact Below.refl _ _ | exact HB.out | refine below_trans ?_ (below_alloc _ _) | refine below_trans ?_ (below_drew1 _) | refine below_trans ?_ (below_drewN _ _) | refine below_sc ?_ (by first | exact Nat.le_refl _ | (simp; done) | (simp; omega))))) i _ HR.out).mono ?_; rintro e w1 ⟨rfl, hb1⟩; have HS1 := Lib.hid hb1.size; have HB := Lib.hid (below_trans (w := w) (by repeat (with_reducible first | exact Below.refl _ _ | exact HB.out | refine below_trans ?_ (below_alloc _ _) | refine below_trans ?_ (below_drew1 _) | refine below_trans ?_ (below_drewN _ _) | refine below_sc ?_ (by first | exact Nat.le_refl _ | (simp; done) | (simp; omega)))) hb1); clear hb1)
    | (go_at_call 51; refine (below_yes k ow _ _ _ (H.out.below (by repeat (with_reducible first | exact Below.refl _ _ | exact HB.out | refine below_trans ?_ (below_alloc _ _) | refine below_trans ?_ (below_drew1 _) | refine below_trans ?_ (below_drewN _ _) | refine below_sc ?_ (by first | exact Nat.le_refl _ | (simp; done) | (simp; omega))))) i hi).mono ?_; rintro e w2 ⟨v2, rfl, hown2, hb2⟩; obtain ⟨a2, c2, hv2⟩ := own_slice hown2; subst hv2; have HO2 := Lib.hid hown2; have HM2 := Lib.hid ((TM.made Tryz.prog 3 natV intV _).below hb2); have HL2 := Lib.hid hb2.size; have HB := Lib.hid (below_trans (w := w) (by repeat (with_reducible first | exact Below.refl _ _ | exact HB.out | refine below_trans ?_ (below_alloc _ _) | refine below_trans ?_ (below_drew1 _) | refine below_trans ?_ (below_drewN _ _) | refine below_sc ?_ (by first | exact Nat.le_refl _ | (simp; done) | (simp; omega)))) hb2); clear hown2 hb2))
  have HI : Hid (FoldI of rows i (w1.heap.size + 1) w2 w2 0) := ⟨⟨rfl, rfl, rfl, Nat.le_refl _, fun _ _ _ => rfl⟩, by have := HM2.out; rw [World.size_alloc] at this; exact this⟩
  have hlb := below_le rows i
  have HMB : Hid (w1.heap.size + 1 < w2.heap.size ∧ w.heap.size ≤ w1.heap.size + 1 ∧ (Value.slice a2 (below rows i).length c2).ownBlock ≠ some (w1.heap.size + 1)) := by
    refine ⟨?_, ?_, fun e => ?_⟩
    · have := HI.out.m.lt; exact this
    · have := HS1.out; omega
    · have := (HO2.out.lt _ e).1; simp at this; omega
  clear hmm HM2 HL2
  go_loopw [35] (fun j W => ∃ k : Nat, k ≤ (below rows i).length ∧ j = .int .i64 k ∧ FoldI of rows i (w1.heap.size + 1) w2 W k) (fun j _ => (below rows i).length - (intOf j).toNat)
  case atStart => exact ⟨0, Nat.zero_le _, rfl, HI.out⟩
  case round =>
    obtain ⟨j, hj, rfl, hI⟩ := hrel
    have HJ := Lib.hid hI
    by_cases hlt : j < (below rows i).length
    · have hown := HO2.out.kept hI.g (.inr HMB.out.2.2)
      obtain ⟨b, o, c1, x', he, hc1, hxk'⟩ := ints_at (rd_own hown) hlt
      cases he
      obtain ⟨x, hx⟩ : ∃ x, (below rows i)[j]? = some x := ⟨_, List.getElem?_eq_getElem hlt⟩
      obtain rfl : x' = (x : Int) := by
        have : (natInts (below rows i))[j]? = some (x : Int) := by simp [natInts, hx]
        rw [this] at hxk'; exact (Option.some.inj hxk').symm
      have hxi : x ≤ i := ((mem_below HK.out).1 (List.mem_of_getElem? hx)).le HK.out
      have hrow := rowAt_get (rows := rows) (i := x) (by omega)
      generalize rowAt rows x = n at hrow
      have hfn := fits_le (HK.out.fit _ _ hrow)
      obtain ⟨kd, nm, l', r'⟩ := n
      simp only at hfn
      obtain ⟨l, rfl⟩ := Int.eq_ofNat_of_zero_le hfn.2.2.1.1
      obtain ⟨r, rfl⟩ := Int.eq_ofNat_of_zero_le hfn.2.2.2.1
      have HKD : Hid (1 ≤ kd ∧ kd ≤ 5) := hfn.2.1
      have HV := Lib.hid (known_val HK.out HO.out hi hx hrow)
      have HST := Lib.hid (knownF_step (of := of) (rows := rows) hx)
      have HRX := Lib.hid hrow
      have HTW : Hid (Tab k ow wr t rows) := H.out.below (HB.out.trans ((Below.refl _ _).grown hI.g HB.out.size (by intro k hk; cases hk; exact HMB.out.2.1)))
      have HG1 := Lib.hid (knownF_get HD.out ((below rows i).take j) (fun x hx => by have := ((mem_below HK.out).1 (List.mem_of_mem_take hx)).le HK.out; omega) l)
      have HG2 := Lib.hid (knownF_get HD.out ((below rows i).take j) (fun x hx => by have := ((mem_below HK.out).1 (List.mem_of_mem_take hx)).le HK.out; omega) r)
      have HLR : Hid (l ≤ 9223372036854775807 ∧ r ≤ 9223372036854775807 ∧ x ≤ 9223372036854775807) := by unfold Hid; omega
      clear hI hown hxk' hx hrow hfn
      go_wp2_with (first | (go_at_call 52; refine (node_yes k ow _ _ _ HTW.out _ _ HRX.out).mono ?_; rintro e w4 ⟨rfl, hb4⟩; have HJ4 := Lib.hid (HJ.out.below (below_trans hb4 (below_alloc w4 (.cells #[.int .i64 kd, .string nm, .int .i64 (l : Int), .int .i64 (r : Int)] 51)))); have hl1 := HJ4.out.m.look_int l HLR.out.1; have hl2 := HJ4.out.m.look_int r HLR.out.2.1; clear hb4) | (go_at_call 30; refine (HF.out _ ⟨kd, nm, l, r⟩ _ _ HKD.out HG1.out HG2.out).mono ?_; rintro e w5 ⟨rfl, hb5⟩; rw [HV.out]; have HJ5 := Lib.hid (HJ4.out.below hb5); clear hb5) | (at_mapUpdate; refine wp_put HJ5.out.m lawInt natV_inj rfl (.tmp 45) (.tmp 46) _ 77 3 rfl Tryz.underlying77 rfl x rfl (val of rows x) rfl (keyNat x HLR.out.2.2) ?_; intro w6 hm6 ho6; rw [HST.out] at hm6; have HJ6 : Hid (FoldI of rows i (w1.heap.size + 1) w2 w6 (j + 1)) := ⟨HJ5.out.g.trans ho6.grown, hm6⟩; clear hm6 ho6))
      exact ⟨⟨j + 1, by omega, by go_num, HJ6.out⟩, by simp [intOf]; omega⟩
    · obtain rfl : j = (below rows i).length := by omega
      have hv : (knownF of rows ((below rows i).take (below rows i).length) i).getD 0 = val of rows i := by
        rw [List.take_length]; unfold knownF; rw [if_pos ((mem_below HK.out).2 (.refl _))]; rfl
      have hl1 := hI.m.look_int i (by omega)
      rw [hv] at hl1
      have HBW : Hid (Below w.heap.size w wr) := HB.out.trans ((Below.refl _ _).grown hI.g HB.out.size (by intro k hk; cases hk; exact HMB.out.2.1))
      clear hI hv
      go_wp2
      go_ret2
      exact ⟨rfl, HBW.out⟩
set_option maxRecDepth 100000 in
set_option maxHeartbeats 800000 in
theorem fold_Grade (k : Nat) (ow : Own) (w : World) (t : Value) (rows : List ND) (h : Tab k ow w t rows) (of : ND → Int → Int → Int) (hof : Reckons 31 of) (ho : ∀ n l r l' r', n.kind < 3 → of n l r = of n l' r') (hbd : ∀ i, i < rows.length → 0 ≤ val of rows i ∧ val of rows i ≤ MC) (i : Nat) (hi : i < rows.length) :
    Calls Tryz.prog 25 #[t, .int .i64 (i : Int), .func (.func 31) #[] #[]] w fun e w' => e = .returned (.tuple #[.int .i64 (val of rows i), .int .i64 0]) ∧ Below w.heap.size w w' := by
  have hok := h.ok
  have hle := hok.le
  have H := Lib.hid h
  have HK := Lib.hid hok
  have HF := Lib.hid hof
  have HO := Lib.hid ho
  have HD := Lib.hid hbd
  have HR := Lib.hid (rowAt_get hi)
  clear h hof ho hbd hok
  have hmm := @run_makeMap Tryz.prog
  go_enter Tryz.func25, Tryz.ntmps25
  go_wp2_with (first
    | (go_at_call 50; refine (row_yes k ow _ _ _ (H.out.below (by repeat (with_reducible first | exact Below.refl _ _ | exact HB.out | refine below_trans ?_ (below_alloc _ _) | refine below_trans ?_ (below_drew1 _) | refine below_trans ?_ (below_drewN _ _) | refine below_sc ?_ (by first | exact Nat.le_refl _ | (simp; done) | (simp; omega))))) i _ HR.out).mono ?_; rintro e w1 ⟨rfl, hb1⟩; have HS1 := Lib.hid hb1.size; have HB := Lib.hid (below_trans (w := w) (by repeat (with_reducible first | exact Below.refl _ _ | exact HB.out | refine below_trans ?_ (below_alloc _ _) | refine below_trans ?_ (below_drew1 _) | refine below_trans ?_ (below_drewN _ _) | refine below_sc ?_ (by first | exact Nat.le_refl _ | (simp; done) | (simp; omega)))) hb1); clear hb1)
    | (go_at_call 51; refine (below_yes k ow _ _ _ (H.out.below (by repeat (with_reducible first | exact Below.refl _ _ | exact HB.out | refine below_trans ?_ (below_alloc _ _) | refine below_trans ?_ (below_drew1 _) | refine below_trans ?_ (below_drewN _ _) | refine below_sc ?_ (by first | exact Nat.le_refl _ | (simp; done) | (simp; omega))))) i hi).mono ?_; rintro e w2 ⟨v2, rfl, hown2, hb2⟩; obtain ⟨a2, c2, hv2⟩ := own_slice hown2; subst hv2; have HO2 := Lib.hid hown2; have HM2 := Lib.hid ((TM.made Tryz.prog 3 natV intV _).below hb2); have HL2 := Lib.hid hb2.size; have HB := Lib.hid (below_trans (w := w) (by repeat (with_reducible first | exact Below.refl _ _ | exact HB.out | refine below_trans ?_ (below_alloc _ _) | refine below_trans ?_ (below_drew1 _) | refine below_trans ?_ (below_drewN _ _) | refine below_sc ?_ (by first | exact Nat.le_refl _ | (simp; done) | (simp; omega)))) hb2); clear hown2 hb2))
  have HI : Hid (FoldI of rows i (w1.heap.size + 1) w2 w2 0) := ⟨⟨rfl, rfl, rfl, Nat.le_refl _, fun _ _ _ => rfl⟩, by have := HM2.out; rw [World.size_alloc] at this; exact this⟩
  have hlb := below_le rows i
  have HMB : Hid (w1.heap.size + 1 < w2.heap.size ∧ w.heap.size ≤ w1.heap.size + 1 ∧ (Value.slice a2 (below rows i).length c2).ownBlock ≠ some (w1.heap.size + 1)) := by
    refine ⟨?_, ?_, fun e => ?_⟩
    · have := HI.out.m.lt; exact this
    · have := HS1.out; omega
    · have := (HO2.out.lt _ e).1; simp at this; omega
  clear hmm HM2 HL2
  go_loopw [35] (fun j W => ∃ k : Nat, k ≤ (below rows i).length ∧ j = .int .i64 k ∧ FoldI of rows i (w1.heap.size + 1) w2 W k) (fun j _ => (below rows i).length - (intOf j).toNat)
  case atStart => exact ⟨0, Nat.zero_le _, rfl, HI.out⟩
  case round =>
    obtain ⟨j, hj, rfl, hI⟩ := hrel
    have HJ := Lib.hid hI
    by_cases hlt : j < (below rows i).length
    · have hown := HO2.out.kept hI.g (.inr HMB.out.2.2)
      obtain ⟨b, o, c1, x', he, hc1, hxk'⟩ := ints_at (rd_own hown) hlt
      cases he
      obtain ⟨x, hx⟩ : ∃ x, (below rows i)[j]? = some x := ⟨_, List.getElem?_eq_getElem hlt⟩
      obtain rfl : x' = (x : Int) := by
        have : (natInts (below rows i))[j]? = some (x : Int) := by simp [natInts, hx]
        rw [this] at hxk'; exact (Option.some.inj hxk').symm
      have hxi : x ≤ i := ((mem_below HK.out).1 (List.mem_of_getElem? hx)).le HK.out
      have hrow := rowAt_get (rows := rows) (i := x) (by omega)
      generalize rowAt rows x = n at hrow
      have hfn := fits_le (HK.out.fit _ _ hrow)
      obtain ⟨kd, nm, l', r'⟩ := n
      simp only at hfn
      obtain ⟨l, rfl⟩ := Int.eq_ofNat_of_zero_le hfn.2.2.1.1
      obtain ⟨r, rfl⟩ := Int.eq_ofNat_of_zero_le hfn.2.2.2.1
      have HKD : Hid (1 ≤ kd ∧ kd ≤ 5) := hfn.2.1
      have HV := Lib.hid (known_val HK.out HO.out hi hx hrow)
      have HST := Lib.hid (knownF_step (of := of) (rows := rows) hx)
      have HRX := Lib.hid hrow
      have HTW : Hid (Tab k ow wr t rows) := H.out.below (HB.out.trans ((Below.refl _ _).grown hI.g HB.out.size (by intro k hk; cases hk; exact HMB.out.2.1)))
      have HG1 := Lib.hid (knownF_get HD.out ((below rows i).take j) (fun x hx => by have := ((mem_below HK.out).1 (List.mem_of_mem_take hx)).le HK.out; omega) l)
      have HG2 := Lib.hid (knownF_get HD.out ((below rows i).take j) (fun x hx => by have := ((mem_below HK.out).1 (List.mem_of_mem_take hx)).le HK.out; omega) r)
      have HLR : Hid (l ≤ 9223372036854775807 ∧ r ≤ 9223372036854775807 ∧ x ≤ 9223372036854775807) := by unfold Hid; omega
      clear hI hown hxk' hx hrow hfn
      go_wp2_with (first | (go_at_call 52; refine (node_yes k ow _ _ _ HTW.out _ _ HRX.out).mono ?_; rintro e w4 ⟨rfl, hb4⟩; have HJ4 := Lib.hid (HJ.out.below (below_trans hb4 (below_alloc w4 (.cells #[.int .i64 kd, .string nm, .int .i64 (l : Int), .int .i64 (r : Int)] 51)))); have hl1 := HJ4.out.m.look_int l HLR.out.1; have hl2 := HJ4.out.m.look_int r HLR.out.2.1; clear hb4) | (go_at_call 31; refine (HF.out _ ⟨kd, nm, l, r⟩ _ _ HKD.out HG1.out HG2.out).mono ?_; rintro e w5 ⟨rfl, hb5⟩; rw [HV.out]; have HJ5 := Lib.hid (HJ4.out.below hb5); clear hb5) | (at_mapUpdate; refine wp_put HJ5.out.m lawInt natV_inj rfl (.tmp 45) (.tmp 46) _ 77 3 rfl Tryz.underlying77 rfl x rfl (val of rows x) rfl (keyNat x HLR.out.2.2) ?_; intro w6 hm6 ho6; rw [HST.out] at hm6; have HJ6 : Hid (FoldI of rows i (w1.heap.size + 1) w2 w6 (j + 1)) := ⟨HJ5.out.g.trans ho6.grown, hm6⟩; clear hm6 ho6))
      exact ⟨⟨j + 1, by omega, by go_num, HJ6.out⟩, by simp [intOf]; omega⟩
    · obtain rfl : j = (below rows i).length := by omega
      have hv : (knownF of rows ((below rows i).take (below rows i).length) i).getD 0 = val of rows i := by
        rw [List.take_length]; unfold knownF; rw [if_pos ((mem_below HK.out).2 (.refl _))]; rfl
      have hl1 := hI.m.look_int i (by omega)
      rw [hv] at hl1
      have HBW : Hid (Below w.heap.size w wr) := HB.out.trans ((Below.refl _ _).grown hI.g HB.out.size (by intro k hk; cases hk; exact HMB.out.2.1))
      clear hI hv
      go_wp2
      go_ret2
      exact ⟨rfl, HBW.out⟩

end Go.Dk

