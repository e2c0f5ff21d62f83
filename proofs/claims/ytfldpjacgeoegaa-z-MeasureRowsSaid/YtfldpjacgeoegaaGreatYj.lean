/- counts: how often each row stands in one. -/
import Derived.Test.YtfldpjacgeoegaaGreatYi
import Derived.Test.YtfldpjacgeoegaaGreatYh
import Derived.Deep.RegionLaw
import Derived.Laws.EntriesVeiled
namespace Go.Dk
open Go.RowKit Go.Maps Go.MapKept Go.Shelf
open Go.Proofs hiding intOf

def pairV (p : Int × Int) : Value := .agg #[.int .i64 p.1, .int .i64 p.2]
theorem zeroPair (w : World) : (zeroValue 84).run Tryz.prog w = .ok (pairV (0, 0)) w := by kernel_rfl
theorem TM.look_pair {w : World} {b : Nat} {f : Nat → Option (Int × Int)} (h : TM Tryz.prog 3 natV pairV w b f) (x : Nat) (hx : x ≤ 9223372036854775807) :
    (Instr.lookup 82 (.map (some b)) (.int .i64 (x : Int)) false).run Tryz.prog w = .ok (pairV ((f x).getD (0, 0))) w := by
  cases hf : f x with
  | none => exact h.look_none lawInt natV_inj Tryz.underlying82 (zeroPair _) (keyNat x hx) false hf
  | some v => exact h.look_some lawInt natV_inj Tryz.underlying82 (keyNat x hx) false hf

/-- Block mb is a map of counts that reads as f; its keys are rows'. -/
def CM (m : Nat) (W : World) (mb : Nat) (f : Cnt) : Prop := ∃ g : Nat → Option (Int × Int), TM Tryz.prog 3 natV pairV W mb g ∧ (∀ x, (g x).getD (0, 0) = f x) ∧ ∀ x, (g x).isSome = true → x < m
theorem CM.below {m : Nat} {W W' : World} {mb : Nat} {f : Cnt} (h : CM m W mb f) (hb : Below W.heap.size W W') : CM m W' mb f := by
  obtain ⟨g, h1, h2⟩ := h; exact ⟨g, h1.below hb, h2⟩
theorem CM.same {m : Nat} {W W' : World} {mb : Nat} {f : Cnt} (h : CM m W mb f) (e : W'.heap[mb]? = W.heap[mb]?) : CM m W' mb f := by
  obtain ⟨g, h1, h2⟩ := h; exact ⟨g, h1.same e, h2⟩
theorem CM.lt {m : Nat} {W : World} {mb : Nat} {f : Cnt} (h : CM m W mb f) : mb < W.heap.size := by obtain ⟨g, h1, _⟩ := h; exact h1.lt
theorem CM.look {m : Nat} {W : World} {mb : Nat} {f : Cnt} (h : CM m W mb f) (x : Nat) (hx : x ≤ 9223372036854775807) :
    (Instr.lookup 82 (.map (some mb)) (.int .i64 (x : Int)) false).run Tryz.prog W = .ok (.agg #[.int .i64 (f x).1, .int .i64 (f x).2]) W := by
  obtain ⟨g, h1, h2, _⟩ := h
  have := h1.look_pair x hx
  rw [h2] at this; exact this
/-- A store. -/
theorem CM.put {m : Nat} {W : World} {mb : Nat} {f : Cnt} (h : CM m W mb f) {x : Nat} (hx : x < m) (hm : x ≤ 9223372036854775807) (a b : Int) :
    ∃ W', (Instr.mapUpdate 82 (.map (some mb)) (.int .i64 (x : Int)) (.agg #[.int .i64 a, .int .i64 b])).run Tryz.prog W = .ok () W' ∧ CM m W' mb (fun y => if y = x then (a, b) else f y) ∧ Only mb W W' := by
  obtain ⟨g, h1, h2, h3⟩ := h
  obtain ⟨W', r, t, o⟩ := TM.put h1 lawInt natV_inj Tryz.underlying82 (keyNat x hm) (a, b)
  refine ⟨W', r, ⟨_, t, fun y => ?_, fun y hy => ?_⟩, o⟩
  · by_cases e : y = x
    · subst e; rw [upd_same]; simp
    · rw [upd_other _ _ e]; simp only [if_neg e]; exact h2 y
  · by_cases e : y = x
    · subst e; exact hx
    · rw [upd_other _ _ e] at hy; exact h3 y hy

theorem rd_two (w : World) {b : Nat} (x y : Int) (e : TypeId) (hb : b = w.heap.size) : Rd (w.alloc (.cells #[.int .i64 x, .int .i64 y] e)) (.slice (some ⟨b, 0, none⟩) 2 2) 2 1 (ints [x, y]) := hb ▸ rd_lit w _ e rfl rfl
theorem bd2 {x l : Int} (hx : 0 ≤ x ∧ x ≤ MC) (hl : 0 ≤ l ∧ l ≤ MC) : ∀ z ∈ [x, l], 0 ≤ z ∧ z ≤ MC := by
  intro z hz
  simp only [List.mem_cons, List.not_mem_nil, or_false] at hz
  rcases hz with rfl | rfl
  · exact hx
  · exact hl

theorem CM.ne {m : Nat} {W : World} {mb bo i : Nat} {f : Cnt} {v : Value} (h : CM m W mb f) (hc : W.cell? ⟨bo, i, none⟩ = some v) : bo ≠ mb := by
  obtain ⟨_, ⟨_, ⟨es, clock, hes, _⟩, _⟩, _⟩ := h
  intro e
  subst e
  simp [World.cell?, hes] at hc
theorem Only.cell {b : Nat} {w w' : World} (h : Only b w w') {c i : Nat} (hc : c ≠ b) : w'.cell? ⟨c, i, none⟩ = w.cell? ⟨c, i, none⟩ := World.cell?_of_block (h.block c hc)

set_option maxRecDepth 100000 in
set_option maxHeartbeats 1000000 in
theorem add_any (W : World) (bo mb m x : Nat) (f : Cnt) (hin : CIn f) (plus minus : Int) (hp : 0 ≤ plus ∧ plus ≤ MC) (hq : 0 ≤ minus ∧ minus ≤ MC) (hc : W.cell? ⟨bo, 0, none⟩ = some (.map (some mb))) (hm : CM m W mb f) (hx : x < m) (hm2 : x ≤ 9223372036854775807) :
    Calls Tryz.prog 70 #[.int .i64 (x : Int), .int .i64 plus, .int .i64 minus, .pointer (some ⟨bo, 0, none⟩)] W fun e W' => e = .returned (.tuple #[]) ∧ W.grownBy W' (some mb) ∧ CM m W' mb (addC f x plus minus) := by
  have hl := hm.look x hm2
  have HM := Lib.hid hm
  have lb : bo < W.heap.size := World.block_lt_of_cell? W _ hc
  have HP := Lib.hid hp
  have HQ := Lib.hid hq
  have H1 : Hid (0 ≤ (f x).1 ∧ (f x).1 ≤ MC) := ⟨hin.lo1 x, hin.hi1 x⟩
  have H2 : Hid (0 ≤ (f x).2 ∧ (f x).2 ≤ MC) := ⟨hin.lo2 x, hin.hi2 x⟩
  clear hm hp hq
  go_enter Tryz.func70, Tryz.ntmps70
  go_wp2
  have HB0 : Hid (Below W.heap.size W (W.alloc (.cells #[.int .i64 (f x).1, .int .i64 (f x).2] 84))) := below_alloc _ _
  have HC : Hid (∀ W', Below (W.alloc (.cells #[.int .i64 (f x).1, .int .i64 (f x).2] 84)).heap.size (W.alloc (.cells #[.int .i64 (f x).1, .int .i64 (f x).2] 84)) W' → W'.cell? ⟨bo, 0, none⟩ = some (.map (some mb)) ∧ W'.cell? ⟨W.heap.size, 0, none⟩ = some (.int .i64 (f x).1) ∧ W'.cell? ⟨W.heap.size, 1, none⟩ = some (.int .i64 (f x).2)) := fun W' hb =>
    ⟨((below_alloc W _).trans (hb.mono (by simp)) |>.cell (p := ⟨bo, 0, none⟩) lb).trans hc, (hb.cell (p := ⟨W.heap.size, 0, none⟩) (by simp)).trans (World.cell?_alloc_at _ _ _ _ rfl), (hb.cell (p := ⟨W.heap.size, 1, none⟩) (by simp)).trans (World.cell?_alloc_at _ _ _ _ rfl)⟩
  have hm12 : CM m ((W.alloc (.cells #[.int .i64 (f x).1, .int .i64 (f x).2] 84)).alloc (.cells #[.int .i64 (f x).1, .int .i64 plus] 3) |>.alloc (.cells #[.int .i64 (f x).2, .int .i64 minus] 3)).drew mb f := HM.out.below (below_trans (below_trans (below_trans (below_alloc _ _) (below_alloc _ _)) (below_alloc _ _)) (below_drew1 _))
  have hm21 : CM m ((W.alloc (.cells #[.int .i64 (f x).1, .int .i64 (f x).2] 84)).alloc (.cells #[.int .i64 (f x).2, .int .i64 minus] 3) |>.alloc (.cells #[.int .i64 (f x).1, .int .i64 plus] 3)).drew mb f := HM.out.below (below_trans (below_trans (below_trans (below_alloc _ _) (below_alloc _ _)) (below_alloc _ _)) (below_drew1 _))
  obtain ⟨wa, ra, ta, oa⟩ := hm12.put hx hm2 (mostL [(f x).1, plus] 0) (mostL [(f x).2, minus] 0)
  obtain ⟨wb, rb, tb, ob⟩ := hm21.put hx hm2 (mostL [(f x).1, plus] 0) (mostL [(f x).2, minus] 0)
  have HTA := Lib.hid ta; have HTB := Lib.hid tb; have HOA := Lib.hid oa; have HOB := Lib.hid ob
  have hne := HM.out.ne hc
  have hnw : W.heap.size ≠ mb := by have := HM.out.lt; omega
  have HCA : Hid (wa.cell? ⟨bo, 0, none⟩ = some (.map (some mb)) ∧ wa.cell? ⟨W.heap.size, 0, none⟩ = some (.int .i64 (f x).1) ∧ wa.cell? ⟨W.heap.size, 1, none⟩ = some (.int .i64 (f x).2)) := by
    have hh := HC.out _ (below_trans (below_trans (below_alloc _ (.cells #[.int .i64 (f x).1, .int .i64 plus] 3)) (below_alloc _ (.cells #[.int .i64 (f x).2, .int .i64 minus] 3))) (below_drew1 _))
    exact ⟨(oa.cell hne).trans hh.1, (oa.cell hnw).trans hh.2.1, (oa.cell hnw).trans hh.2.2⟩
  have HCB : Hid (wb.cell? ⟨bo, 0, none⟩ = some (.map (some mb)) ∧ wb.cell? ⟨W.heap.size, 0, none⟩ = some (.int .i64 (f x).1) ∧ wb.cell? ⟨W.heap.size, 1, none⟩ = some (.int .i64 (f x).2)) := by
    have hh := HC.out _ (below_trans (below_trans (below_alloc _ (.cells #[.int .i64 (f x).2, .int .i64 minus] 3)) (below_alloc _ (.cells #[.int .i64 (f x).1, .int .i64 plus] 3))) (below_drew1 _))
    exact ⟨(ob.cell hne).trans hh.1, (ob.cell hnw).trans hh.2.1, (ob.cell hnw).trans hh.2.2⟩
  have HE : Hid ((fun y => if y = x then (mostL [(f x).1, plus] 0, mostL [(f x).2, minus] 0) else f y) = addC f x plus minus) := by
    unfold Hid addC; rw [most2 _ _ H1.out HP.out, most2 _ _ H2.out HQ.out]
  clear hm12 hm21 ta tb oa ob hne hnw
  go_region_held3 (fun W' => W'.cell? ⟨bo, 0, none⟩ = some (.map (some mb)) ∧ W'.cell? ⟨W.heap.size, 0, none⟩ = some (.int .i64 (f x).1) ∧ W'.cell? ⟨W.heap.size, 1, none⟩ = some (.int .i64 (f x).2)) (first | exact HCA.out | exact HCB.out | exact HC.out _ (by repeat (with_reducible first | exact Below.refl _ _ | exact HB.out | refine below_trans ?_ (below_alloc _ _) | refine below_trans ?_ (below_drew1 _) | refine below_trans ?_ (below_drewN _ _) | refine below_sc ?_ (by first | exact Nat.le_refl _ | (simp; done) | (simp; omega)))))
    (first
      | (go_at_call 28; refine (most_any _ _ 2 [(f x).1, plus] (by unfold maxLen; omega) ?_ (bd2 H1.out HP.out)).mono ?_; (repeat (first | ((with_reducible refine rd_two _ _ _ _ ?_); simp) | (with_reducible refine Rd.below ?_ (below_drew1 _)) | (with_reducible refine Rd.below ?_ (below_alloc _ _)))); rintro e w' ⟨rfl, rfl⟩)
      | (go_at_call 28; refine (most_any _ _ 2 [(f x).2, minus] (by unfold maxLen; omega) ?_ (bd2 H2.out HQ.out)).mono ?_; (repeat (first | ((with_reducible refine rd_two _ _ _ _ ?_); simp) | (with_reducible refine Rd.below ?_ (below_drew1 _)) | (with_reducible refine Rd.below ?_ (below_alloc _ _)))); rintro e w' ⟨rfl, rfl⟩))
  all_goals
    go_wp2
    go_end0
    first
      | exact ⟨rfl, (grown_below (below_trans (below_trans (below_trans (below_alloc _ _) (below_alloc _ _)) (below_alloc _ _)) (below_drew1 _))).trans HOA.out.grown, HE.out ▸ HTA.out⟩
      | exact ⟨rfl, (grown_below (below_trans (below_trans (below_trans (below_alloc _ _) (below_alloc _ _)) (below_alloc _ _)) (below_drew1 _))).trans HOB.out.grown, HE.out ▸ HTB.out⟩

end Go.Dk

