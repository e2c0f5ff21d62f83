/- Within, Occurs of a living table. -/
import Derived.Test.YtfldpjacgeoegaaGreatYk
namespace Go.Dk
open Go.RowKit Go.Maps Go.MapKept
open Go.Proofs hiding intOf

theorem containsInts_any (w : World) (v : Value) (n : Nat) (zs : List Int) (x : Int) (hn : n ≤ 9223372036854775807) (h : Rd w v n 1 (ints zs)) :
    Calls Tryz.prog 56 #[v, .int .i64 x] w fun e w' => e = .returned (.bool (decide (x ∈ zs))) ∧ w = w' := by
  have hz := ints_len h
  by_cases h0 : n = 0
  · subst h0
    obtain ⟨a, c, rfl⟩ := h.slice
    have : zs = [] := List.eq_nil_of_length_eq_zero hz
    subst this
    refine (Tryz.slices_Contains_int_empty a c x w).mono ?_
    rintro e w' ⟨rfl, hw⟩
    exact ⟨by simp, hw.symm⟩
  · obtain ⟨b, o, c, rfl, hc⟩ := h.some (by omega)
    refine (Tryz.slices_Contains_int b o n c zs x w (by omega) hn (fun j hj => ?_)).mono ?_
    · exact hc j _ (by simp [ints, List.getElem?_eq_getElem hj])
    · rintro e w' ⟨rfl, hw⟩
      rw [List.take_of_length_le (by omega)]
      exact ⟨by simp, hw.symm⟩

/-- What Within tells. -/
noncomputable def withinB (rows : List ND) (part i : Int) : Bool := open Classical in decide (hasB rows.length i = true ∧ 0 ≤ part ∧ part.toNat ∈ below rows i.toNat)
theorem mem_natInts (l : List Nat) (x : Int) : x ∈ natInts l ↔ 0 ≤ x ∧ x.toNat ∈ l := by
  unfold natInts
  simp only [List.mem_map]
  constructor
  · rintro ⟨y, hy, rfl⟩; exact ⟨Int.natCast_nonneg _, by simpa using hy⟩
  · rintro ⟨h0, h⟩; exact ⟨x.toNat, h, by show ((x.toNat : Nat) : Int) = x; omega⟩

set_option maxRecDepth 100000 in
theorem within_any (k : Nat) (ow : Own) (w : World) (t : Value) (rows : List ND) (h : Tab k ow w t rows) (part i : Int) :
    Calls Tryz.prog 36 #[t, .int .i64 part, .int .i64 i] w fun e w' => e = .returned (.bool (withinB rows part i)) ∧ Below w.heap.size w w' := by
  have hok := h.ok
  have hle := hok.le
  have H := Lib.hid h
  clear h
  cases hb : hasB rows.length i with
  | false =>
    have HV : Hid (withinB rows part i = false) := by unfold Hid withinB; simp [hb]
    have HBB := Lib.hid hb
    clear hb
    go_enter Tryz.func36, Tryz.ntmps36
    go_wp2_with (go_at_call 51; refine (below_no k ow _ _ _ (H.out.below (by repeat (with_reducible first | exact Below.refl _ _ | exact HB.out | refine below_trans ?_ (below_alloc _ _) | refine below_trans ?_ (below_drew1 _) | refine below_trans ?_ (below_drewN _ _) | refine below_sc ?_ (by first | exact Nat.le_refl _ | (simp; done) | (simp; omega))))) _ HBB.out).mono ?_; rintro e w1 ⟨rfl, hb1⟩; have HB := Lib.hid (below_trans (w := w) (by repeat (with_reducible first | exact Below.refl _ _ | exact HB.out | refine below_trans ?_ (below_alloc _ _) | refine below_trans ?_ (below_drew1 _) | refine below_trans ?_ (below_drewN _ _) | refine below_sc ?_ (by first | exact Nat.le_refl _ | (simp; done) | (simp; omega)))) hb1); clear hb1)
    go_ret
    exact ⟨ret_bool (by rw [HV.out]), (by repeat (with_reducible first | exact Below.refl _ _ | exact HB.out | refine below_trans ?_ (below_alloc _ _) | refine below_trans ?_ (below_drew1 _) | refine below_trans ?_ (below_drewN _ _) | refine below_sc ?_ (by first | exact Nat.le_refl _ | (simp; done) | (simp; omega))))⟩
  | true =>
    have hb' := hb
    simp only [hasB, Bool.and_eq_true, decide_eq_true_eq] at hb
    obtain ⟨x, rfl⟩ := Int.eq_ofNat_of_zero_le hb.1
    have hx : x < rows.length := by omega
    have HV : Hid (withinB rows part (x : Int) = decide (part ∈ natInts (below rows x))) := by
      unfold Hid withinB
      simp [hb', mem_natInts]
    have hlb := below_le rows x
    clear hb hb'
    go_enter Tryz.func36, Tryz.ntmps36
    go_wp2_with (first
      | (go_at_call 51; refine (below_yes k ow _ _ _ (H.out.below (by repeat (with_reducible first | exact Below.refl _ _ | exact HB.out | refine below_trans ?_ (below_alloc _ _) | refine below_trans ?_ (below_drew1 _) | refine below_trans ?_ (below_drewN _ _) | refine below_sc ?_ (by first | exact Nat.le_refl _ | (simp; done) | (simp; omega))))) _ hx).mono ?_; rintro e w1 ⟨v1, rfl, hown1, hb1⟩; obtain ⟨a1, c1, hv1⟩ := own_slice hown1; subst hv1; have HO := Lib.hid hown1; have HB := Lib.hid (below_trans (w := w) (by repeat (with_reducible first | exact Below.refl _ _ | exact HB.out | refine below_trans ?_ (below_alloc _ _) | refine below_trans ?_ (below_drew1 _) | refine below_trans ?_ (below_drewN _ _) | refine below_sc ?_ (by first | exact Nat.le_refl _ | (simp; done) | (simp; omega)))) hb1); clear hown1 hb1)
      | (go_at_call 56; refine (containsInts_any _ _ _ _ part (by omega) (rd_own HO.out)).mono ?_; rintro e w' ⟨rfl, rfl⟩))
    go_ret
    exact ⟨ret_bool (by rw [HV.out]), (by repeat (with_reducible first | exact Below.refl _ _ | exact HB.out | refine below_trans ?_ (below_alloc _ _) | refine below_trans ?_ (below_drew1 _) | refine below_trans ?_ (below_drewN _ _) | refine below_sc ?_ (by first | exact Nat.le_refl _ | (simp; done) | (simp; omega))))⟩

/-- What Occurs tells. -/
def occT (rows : List ND) (part i : Int) : Int × Int × Int := if hasB rows.length part = true ∧ hasB rows.length i = true then ((occs rows i.toNat part.toNat).1, (occs rows i.toNat part.toNat).2, 0) else (0, 0, 31)

set_option maxRecDepth 100000 in
set_option maxHeartbeats 800000 in
theorem occurs_any (k : Nat) (ow : Own) (w : World) (t : Value) (rows : List ND) (h : Tab k ow w t rows) (part i : Int) :
    Calls Tryz.prog 35 #[t, .int .i64 part, .int .i64 i] w fun e w' => e = .returned (.tuple #[.int .i64 (occT rows part i).1, .int .i64 (occT rows part i).2.1, .int .i64 (occT rows part i).2.2]) ∧ Below w.heap.size w w' := by
  have hok := h.ok
  have hle := hok.le
  have H := Lib.hid h
  clear h
  have i0 : ∀ w, (Instr.index 84 (.agg #[.int .i64 part, .int .i64 i]) (.int .i64 0)).run Tryz.prog w = .ok (.int .i64 part) w := fun _ => by kernel_rfl
  have i1 : ∀ w, (Instr.index 84 (.agg #[.int .i64 part, .int .i64 i]) (.int .i64 1)).run Tryz.prog w = .ok (.int .i64 i) w := fun _ => by kernel_rfl
  cases hp : hasB rows.length part with
  | false =>
    have HV : Hid (occT rows part i = (0, 0, 31)) := by unfold Hid occT; simp [hp]
    rw [HV.out]
    have HBB := Lib.hid hp
    clear hp
    go_enter Tryz.func35, Tryz.ntmps35
    go_wp2
    refine wp_loop_rounds 1 ?_
    rw [rounds_succ]
    go_wp2_with (go_at_call 50; refine (row_no k ow _ _ _ (H.out.below (by repeat (with_reducible first | exact Below.refl _ _ | exact HB.out | refine below_trans ?_ (below_alloc _ _) | refine below_trans ?_ (below_drew1 _) | refine below_trans ?_ (below_drewN _ _) | refine below_sc ?_ (by first | exact Nat.le_refl _ | (simp; done) | (simp; omega))))) _ HBB.out).mono ?_; rintro e w1 ⟨rfl, hb1⟩; have HB := Lib.hid (below_trans (w := w) (by repeat (with_reducible first | exact Below.refl _ _ | exact HB.out | refine below_trans ?_ (below_alloc _ _) | refine below_trans ?_ (below_drew1 _) | refine below_trans ?_ (below_drewN _ _) | refine below_sc ?_ (by first | exact Nat.le_refl _ | (simp; done) | (simp; omega)))) hb1); clear hb1)
    go_ret3
    exact ⟨rfl, (by repeat (with_reducible first | exact Below.refl _ _ | exact HB.out | refine below_trans ?_ (below_alloc _ _) | refine below_trans ?_ (below_drew1 _) | refine below_trans ?_ (below_drewN _ _) | refine below_sc ?_ (by first | exact Nat.le_refl _ | (simp; done) | (simp; omega))))⟩
  | true =>
    have hp' := hp
    simp only [hasB, Bool.and_eq_true, decide_eq_true_eq] at hp
    obtain ⟨y, rfl⟩ := Int.eq_ofNat_of_zero_le hp.1
    have hy : y < rows.length := by omega
    have HRY := Lib.hid (rowAt_get hy)
    clear hp
    cases hb : hasB rows.length i with
    | false =>
      have HV : Hid (occT rows (y : Int) i = (0, 0, 31)) := by unfold Hid occT; simp [hb]
      rw [HV.out]
      have HBB := Lib.hid hb
      clear hb hp'
      go_enter Tryz.func35, Tryz.ntmps35
      go_wp2
      refine wp_loop_rounds 2 ?_
      rw [rounds_succ]
      go_wp2_with (go_at_call 50; refine (row_yes k ow _ _ _ (H.out.below (by repeat (with_reducible first | exact Below.refl _ _ | exact HB.out | refine below_trans ?_ (below_alloc _ _) | refine below_trans ?_ (below_drew1 _) | refine below_trans ?_ (below_drewN _ _) | refine below_sc ?_ (by first | exact Nat.le_refl _ | (simp; done) | (simp; omega))))) y _ HRY.out).mono ?_; rintro e w1 ⟨rfl, hb1⟩; have HB := Lib.hid (below_trans (w := w) (by repeat (with_reducible first | exact Below.refl _ _ | exact HB.out | refine below_trans ?_ (below_alloc _ _) | refine below_trans ?_ (below_drew1 _) | refine below_trans ?_ (below_drewN _ _) | refine below_sc ?_ (by first | exact Nat.le_refl _ | (simp; done) | (simp; omega)))) hb1); clear hb1)
      rw [rounds_succ]
      go_wp2_with (go_at_call 50; refine (row_no k ow _ _ _ (H.out.below (by repeat (with_reducible first | exact Below.refl _ _ | exact HB.out | refine below_trans ?_ (below_alloc _ _) | refine below_trans ?_ (below_drew1 _) | refine below_trans ?_ (below_drewN _ _) | refine below_sc ?_ (by first | exact Nat.le_refl _ | (simp; done) | (simp; omega))))) _ HBB.out).mono ?_; rintro e w1 ⟨rfl, hb1⟩; have HB := Lib.hid (below_trans (w := w) (by repeat (with_reducible first | exact Below.refl _ _ | exact HB.out | refine below_trans ?_ (below_alloc _ _) | refine below_trans ?_ (below_drew1 _) | refine below_trans ?_ (below_drewN _ _) | refine below_sc ?_ (by first | exact Nat.le_refl _ | (simp; done) | (simp; omega)))) hb1); clear hb1)
      go_ret3
      exact ⟨rfl, (by repeat (with_reducible first | exact Below.refl _ _ | exact HB.out | refine below_trans ?_ (below_alloc _ _) | refine below_trans ?_ (below_drew1 _) | refine below_trans ?_ (below_drewN _ _) | refine below_sc ?_ (by first | exact Nat.le_refl _ | (simp; done) | (simp; omega))))⟩
    | true =>
      have HV : Hid (occT rows (y : Int) i = ((occs rows i.toNat y).1, (occs rows i.toNat y).2, 0)) := by unfold Hid occT; simp [hb, hp']
      rw [HV.out]
      simp only [hasB, Bool.and_eq_true, decide_eq_true_eq] at hb
      obtain ⟨x, rfl⟩ := Int.eq_ofNat_of_zero_le hb.1
      have hx : x < rows.length := by omega
      have HRX := Lib.hid (rowAt_get hx)
      clear hb hp'
      go_enter Tryz.func35, Tryz.ntmps35
      go_wp2
      refine wp_loop_rounds 3 ?_
      rw [rounds_succ]
      go_wp2_with (go_at_call 50; refine (row_yes k ow _ _ _ (H.out.below (by repeat (with_reducible first | exact Below.refl _ _ | exact HB.out | refine below_trans ?_ (below_alloc _ _) | refine below_trans ?_ (below_drew1 _) | refine below_trans ?_ (below_drewN _ _) | refine below_sc ?_ (by first | exact Nat.le_refl _ | (simp; done) | (simp; omega))))) y _ HRY.out).mono ?_; rintro e w1 ⟨rfl, hb1⟩; have HB := Lib.hid (below_trans (w := w) (by repeat (with_reducible first | exact Below.refl _ _ | exact HB.out | refine below_trans ?_ (below_alloc _ _) | refine below_trans ?_ (below_drew1 _) | refine below_trans ?_ (below_drewN _ _) | refine below_sc ?_ (by first | exact Nat.le_refl _ | (simp; done) | (simp; omega)))) hb1); clear hb1)
      rw [rounds_succ]
      go_wp2_with (go_at_call 50; refine (row_yes k ow _ _ _ (H.out.below (by repeat (with_reducible first | exact Below.refl _ _ | exact HB.out | refine below_trans ?_ (below_alloc _ _) | refine below_trans ?_ (below_drew1 _) | refine below_trans ?_ (below_drewN _ _) | refine below_sc ?_ (by first | exact Nat.le_refl _ | (simp; done) | (simp; omega))))) x _ HRX.out).mono ?_; rintro e w1 ⟨rfl, hb1⟩; have HB := Lib.hid (below_trans (w := w) (by repeat (with_reducible first | exact Below.refl _ _ | exact HB.out | refine below_trans ?_ (below_alloc _ _) | refine below_trans ?_ (below_drew1 _) | refine below_trans ?_ (below_drewN _ _) | refine below_sc ?_ (by first | exact Nat.le_refl _ | (simp; done) | (simp; omega)))) hb1); clear hb1)
      rw [rounds_succ]
      go_wp2_with (go_at_call 54; refine (counts_any k ow _ _ _ (H.out.below (by repeat (with_reducible first | exact Below.refl _ _ | exact HB.out | refine below_trans ?_ (below_alloc _ _) | refine below_trans ?_ (below_drew1 _) | refine below_trans ?_ (below_drewN _ _) | refine below_sc ?_ (by first | exact Nat.le_refl _ | (simp; done) | (simp; omega))))) x hx).mono ?_; rintro e w2 ⟨mb, rfl, hcm, _, hb2⟩; have HB := Lib.hid (below_trans (w := w) (by repeat (with_reducible first | exact Below.refl _ _ | exact HB.out | refine below_trans ?_ (below_alloc _ _) | refine below_trans ?_ (below_drew1 _) | refine below_trans ?_ (below_drewN _ _) | refine below_sc ?_ (by first | exact Nat.le_refl _ | (simp; done) | (simp; omega)))) hb2); have hlk := hcm.look y (by omega); clear hcm hb2)
      go_quiet (fail)
      go_wp2
      go_ret3
      exact ⟨rfl, (by repeat (with_reducible first | exact Below.refl _ _ | exact HB.out | refine below_trans ?_ (below_alloc _ _) | refine below_trans ?_ (below_drew1 _) | refine below_trans ?_ (below_drewN _ _) | refine below_sc ?_ (by first | exact Nat.le_refl _ | (simp; done) | (simp; omega))))⟩

end Go.Dk

