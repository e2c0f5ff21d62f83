/- MeasureOrder. -/
import Derived.Test.YthbjmmnfoeanbaaYq
namespace Go.Dk
open Go.RowKit Go.Maps Go.MapKept
open Go.Proofs hiding intOf

theorem own_lit0 (w : World) (e : TypeId) (size : Nat) : (w.alloc (.cells #[] e)).ownsRow w.heap.size e size (.slice (some ⟨w.heap.size, 0, none⟩) 0 0) 0 [] :=
  ⟨by simp, .inr ⟨w.heap.size, 0, #[], rfl, Nat.le_refl _, heap_alloc_new' w _ rfl, Nat.le_refl _, by decide, by simp, by simp⟩⟩

theorem ints_one (xs : List Int) : ∀ y ∈ ints xs, y.oneCell' = true := by
  intro y hy; obtain ⟨z, _, rfl⟩ := List.mem_map.1 hy; rfl
theorem ints_snoc7 (xs : List Int) (z : Int) : ints xs ++ [.int .i64 z] = ints (xs ++ [z]) := by simp [ints]

def OrdOk (ab ba bc ac like : Bool) : Prop := (ab = true → ba = false) ∧ (ab = true → bc = true → ac = true) ∧ (like = true → ab = false ∧ ba = false) ∧ (like = false → ab = true ∨ ba = true)
theorem ord_ok (a b c : List Int) : OrdOk (lessL a b) (lessL b a) (lessL b c) (lessL a c) (alikeL a b) := by
  refine ⟨lessL_asymm, lessL_trans, fun h => ?_, fun h => ?_⟩
  · have hp := (alikeL_iff a b).1 h
    exact ⟨lessL_perm hp, lessL_perm hp.symm⟩
  · cases h1 : lessL a b with
    | true => exact .inl rfl
    | false =>
      cases h2 : lessL b a with
      | true => exact .inr rfl
      | false => rw [(alikeL_iff a b).2 (lessL_total h1 h2)] at h; cases h

set_option maxRecDepth 100000 in
set_option maxHeartbeats 8000000 in
theorem measureOrder_any (w : World) (v0 v1 v2 : Value) (xs ys zs : List Int) (h0 : Rd w v0 xs.length 1 (ints xs)) (h1 : Rd w v1 ys.length 1 (ints ys)) (h2 : Rd w v2 zs.length 1 (ints zs)) (l0 : xs.length * 8 ≤ reachBytes) (l1 : ys.length * 8 ≤ reachBytes) (l2 : zs.length * 8 ≤ reachBytes) :
    Calls Try.prog 8 #[v0, v1, v2] w fun e w' => e = .returned (.bool true) ∧ Below w.heap.size w w' := by
  unfold reachBytes at l0 l1 l2
  have m0 : xs.length * 8 ≤ 140737488355328 := by omega
  have m1 : ys.length * 8 ≤ 140737488355328 := by omega
  have m2 : zs.length * 8 ≤ 140737488355328 := by omega
  have HO := Lib.hid (ord_ok xs ys zs)
  have HI := Lib.hid (lessL_irrefl xs)
  have HS := Lib.hid (lessL_snoc xs 7)
  have HA := Lib.hid h0; have HBB := Lib.hid h1; have HC := Lib.hid h2
  obtain ⟨p0, c0, rfl⟩ := h0.slice
  obtain ⟨p1, c1, rfl⟩ := h1.slice
  obtain ⟨p2, c2, rfl⟩ := h2.slice
  clear h0 h1 h2
  have HB : Hid (Below w.heap.size w w) := Below.refl _ _
  go_enter Try.func8, Try.ntmps8
  go_wp2_with fail
  refine (less_any w _ _ _ _ xs ys m0 m1 HA.out HBB.out).mono ?_
  rintro e w1 ⟨rfl, hb1⟩
  have HB1 := Lib.hid hb1
  clear hb1
  go_wp2_with fail
  refine (less_any w1 _ _ _ _ ys xs m1 m0 (HBB.out.below HB1.out) (HA.out.below HB1.out)).mono ?_
  rintro e w2 ⟨rfl, hb2⟩
  have HB2 := Lib.hid (below_trans HB1.out hb2)
  clear hb2
  go_wp2_with fail
  refine (less_any w2 _ _ _ _ ys zs m1 m2 (HBB.out.below HB2.out) (HC.out.below HB2.out)).mono ?_
  rintro e w3 ⟨rfl, hb3⟩
  have HB3 := Lib.hid (below_trans HB2.out hb3)
  clear hb3
  go_wp2_with fail
  refine (less_any w3 _ _ _ _ xs zs m0 m2 (HA.out.below HB3.out) (HC.out.below HB3.out)).mono ?_
  rintro e w4 ⟨rfl, hb4⟩
  have HB4 := Lib.hid (below_trans HB3.out hb4)
  clear hb4
  go_wp2_with fail
  refine (alike_any w4 _ _ _ _ xs ys m0 (HA.out.below HB4.out) (HBB.out.below HB4.out)).mono ?_
  rintro e w5 ⟨rfl, hb5⟩
  have HB5 := Lib.hid (below_trans HB4.out hb5)
  clear hb5
  go_wp2_with fail
  refine (less_any w5 _ _ _ _ xs xs m0 m0 (HA.out.below HB5.out) (HA.out.below HB5.out)).mono ?_
  rintro e w6 ⟨rfl, hb6⟩
  have HB := Lib.hid (below_trans HB5.out hb6)
  clear hb6
  rw [HI.out]
  have hO := HO.out
  clear HO HI
  generalize lessL xs ys = ab at hO ⊢
  generalize lessL ys xs = ba at hO ⊢
  generalize lessL ys zs = bc at hO ⊢
  generalize lessL xs zs = ac at hO ⊢
  generalize alikeL xs ys = like at hO ⊢
  obtain ⟨o1, o2, o3, o4⟩ := hO
  cases ab <;> cases ba <;> cases bc <;> cases ac <;> cases like <;> simp at o1 o2 o3 o4
  all_goals clear o1 o2 o3 o4
  all_goals go_wp2_with (first
    | (at_builtin; refine wp_append rfl (.tmp 70) (.tmp 71) 59 rfl w6.heap.size 3 _ 1 8 Try.underlying59 infoInt rfl (by decide) (by decide) _ xs.length (ints xs) rfl ((HO7.out).alloc _) _ 1 [.int .i64 7] rfl (rd_one' _ _ _ (by simp)) (by simp [Value.oneCell']) (by omega) (by have := HB7.out.size; simp; omega) ?_; intro v8 w8 hown8 hgr8 hat8 hnil8; rw [ints_snoc7] at hown8; have HO8 := Lib.hid hown8; have HB8 := Lib.hid ((below_trans HB7.out (below_alloc w7 (.cells #[.int .i64 7] 3))).grown hgr8 (by have := HB7.out.size; simp; omega) (fun q hq => (HO7.out.lt q hq).1)); obtain ⟨a8, c8, hv8⟩ := own_slice hown8; subst hv8; clear hown8 hgr8 hat8 hnil8)
    | (go_at_call 33; refine (less_any _ _ _ xs.length (xs.length + 1) xs (xs ++ [7]) m0 (by omega) (HA.out.below (below_trans (w := w) HB.out HB8.out)) (rd_own HO8.out)).mono ?_; rintro e w9 ⟨rfl, hb9⟩; rw [HS.out]; have HB := Lib.hid (below_trans (below_trans (w := w) HB.out HB8.out) hb9); clear hb9)
    | (go_at_call 35; refine (heads06_any _).mono ?_; rintro e w10 ⟨rfl, hb10⟩; have HB := Lib.hid (below_trans (w := w) HB.out hb10); clear hb10)
    | (at_builtin; refine wp_append rfl (.tmp 68) (.tmp 69) 59 rfl w6.heap.size 3 _ 1 8 Try.underlying59 infoInt rfl (by decide) (by decide) _ 0 [] rfl (own_lit0 _ _ _) _ xs.length (ints xs) rfl (HA.out.below (by repeat (with_reducible first | exact Below.refl _ _ | exact HB.out | refine below_trans ?_ (below_alloc _ _) | refine below_trans ?_ (below_drew1 _) | refine below_trans ?_ (below_drewN _ _) | refine below_sc ?_ (by first | exact Nat.le_refl _ | (simp; done) | (simp; omega))))) (ints_one _) (by omega) (by simp) ?_; intro v7 w7 hown7 hgr7 hat7 hnil7; rw [Nat.zero_add, List.nil_append] at hown7; have HO7 := Lib.hid hown7; have HB7 := Lib.hid ((below_alloc w6 (.cells #[] 3)).grown hgr7 (by simp) (fun k hk => ((own_lit0 w6 3 1).lt k hk).1)); obtain ⟨a7, c7, hv7⟩ := own_slice hown7; subst hv7; clear hown7 hgr7 hat7 hnil7))
  all_goals go_ret
  all_goals exact ⟨rfl, HB.out⟩

theorem sized_reach {H : Type} {P : Program} {ts : List TypeId} {ds : List (DataW H)} {j : Nat} {t : TypeId} {d : DataW H} (h : (DataW.weightsEach P ts ds).all (· ≤ reachBytes) = true) (ht : ts[j]? = some t) (hd : ds[j]? = some d) : ∀ m ∈ d.weights P t, m ≤ reachBytes := fun m hm => by
  have := List.all_eq_true.1 h m (DataW.weights_mem_each ht hd m hm)
  simpa using this
end Go.Dk
