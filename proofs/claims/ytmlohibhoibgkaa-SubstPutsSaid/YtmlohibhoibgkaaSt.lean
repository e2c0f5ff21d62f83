/- Layer 7: Simple, Replace. -/
import Derived.Test.YtmlohibhoibgkaaSr
import Derived.Test.YtmlohibhoibgkaaSk
import Derived.Test.YtmlohibhoibgkaaSl
namespace Go.Dk
open Go.RowKit Go.Maps Go.MapKept
open Go.Proofs hiding intOf

theorem PutPost.re {ow : Own} {w W : World} {t : Value} {p : Put} {e : Ending} {w' : World} (hb : Below w.heap.size w W) (h : PutPost 1 (fun b => if b < w.heap.size then ow b else 2) W t p e w') : PutPost 1 ow w t p e w' := by
  obtain ⟨he, ow', hk, ht⟩ := h
  exact ⟨he, ow', (hb.kept_ow.recolour (fun b hb => by simp [hb]) : Kept 1 ow w _ _).trans hk, ht⟩
theorem rd_lit' (w : World) {b : Nat} (hb : b = w.heap.size) (cs : Array Value) (e : TypeId) {n size : Nat} {xs : List Value} (h : cs.toList = xs) (hl : xs.length = n * size) : Rd (w.alloc (.cells cs e)) (.slice (some ⟨b, 0, none⟩) n n) n size xs := hb ▸ rd_lit w cs e h hl
theorem rd_one' (w : World) {b : Nat} (x : Value) (e : TypeId) (hb : b = w.heap.size) : Rd (w.alloc (.cells #[x] e)) (.slice (some ⟨b, 0, none⟩) 1 1) 1 1 [x] := hb ▸ rd_one w x e
theorem tab_re {ow : Own} {w W : World} {t : Value} {rows : List ND} (h : Tab 1 ow w t rows) (hb : Below w.heap.size w W) : Tab 1 (fun b => if b < w.heap.size then ow b else 2) W t rows :=
  h.kept ((hb.kept_ow).recolour (fun b hb => by simp [hb]) : Kept 2 ow w _ _) (by decide)
theorem lookE_one (rows : List ND) (id : Int) : lookE rows [id] = if hasB rows.length id = true then 0 else 31 := by simp [lookE]
theorem cell_kept {c : Nat} {ow ow' : Own} {w w' : World} {a : Addr} {v : Value} (h : w.cell? a = some v) (hk : Kept c ow w ow' w') (hc : ow a.block ≠ c) : w'.cell? a = some v :=
  (World.cell?_of_block (hk.block _ (World.block_lt_of_cell? w _ h) hc)).trans h

set_option maxRecDepth 100000 in
set_option maxHeartbeats 1000000 in
theorem simple_any (ow : Own) (w : World) (t : Value) (rows : List ND) (h : Tab 1 ow w t rows) (id : Int) :
    Calls Try.prog 19 #[t, .int .i64 id] w (PutPost 1 ow w t (simpP rows id)) := by
  obtain ⟨pb, rfl⟩ := h.ptr
  have H := Lib.hid h
  clear h
  have HL := Lib.hid (lookE_one rows id)
  cases hb : hasB rows.length id with
  | false =>
    have HE : Hid (simpP rows id = ⟨rows, 0, 31⟩) := by unfold Hid simpP; rw [if_pos hb]
    have HV : Hid (lookE rows [id] = 31) := by rw [Hid, HL.out, if_neg (by simp [hb])]
    clear hb HL
    go_enter Try.func19, Try.ntmps19
    go_wp2_with fail
    refine (looked_any 1 ow _ _ _ rows [id] (H.out.below (below_alloc _ _)) (rd_one _ _ _) (by simp)).mono ?_
    rintro e w1 ⟨rfl, hb1⟩
    rw [HV.out]
    have HB := Lib.hid (below_trans (below_alloc _ _) hb1)
    clear hb1
    go_wp2_with fail
    go_ret2
    rw [HE.out]
    exact ⟨rfl, ow, HB.out.kept_ow, H.out.below HB.out⟩
  | true =>
    obtain ⟨x, rfl, hx⟩ := nat_of_has hb
    have HE : Hid (simpP rows (x : Int) = anewP simpOf' rows x) := by unfold Hid simpP; rw [if_neg (by simp [hb])]; rfl
    have HV : Hid (lookE rows [(x : Int)] = 0) := by rw [Hid, HL.out, if_pos hb]
    have hmf : ∀ (fn : Fn) (first cap : Array Value) (w : World), (Instr.makeFunc fn first cap).run Try.prog w = .ok (.func fn first cap) w := fun _ _ _ _ => rfl
    have HN : Hid (∀ rows (k : Nat) (n : ND) (l r : Int), 0 ≤ l → 0 ≤ r → 0 ≤ (simpOf' rows k n l r).id) := simpOf'_nn
    clear hb HL
    go_enter Try.func19, Try.ntmps19
    go_wp2_with fail
    refine (looked_any 1 ow _ _ _ rows [(x : Int)] (H.out.below (below_alloc _ _)) (rd_one _ _ _) (by simp)).mono ?_
    rintro e w1 ⟨rfl, hb1⟩
    rw [HV.out]
    have HB := Lib.hid (below_trans (below_alloc _ _) hb1)
    clear hb1
    go_wp2_with fail
    refine (anewSimp_yes (fun _ _ => True) (fun _ _ _ _ _ _ _ _ => trivial) simpOf' simpOf'_grows HN.out ow w1 _ rows (H.out.below HB.out) (fun ow w rows k n l r ht _ _ hk hl hr => image_any ow w _ rows ht k n hk l r hl hr) trivial x hx).mono ?_
    rintro e w2 hp
    have HP := Lib.hid (PutPost.from HB.out hp)
    obtain ⟨rfl, _⟩ := hp
    clear hmf
    go_wp2_with fail
    go_ret2
    rw [HE.out]
    exact HP.out

/-! ### Replace -/
def hasAll3 (rows : List ND) (a b c : Int) : Bool := hasB rows.length a && hasB rows.length b && hasB rows.length c
theorem lookE_three (rows : List ND) (a b c : Int) : lookE rows [a, b, c] = if hasAll3 rows a b c = true then 0 else 31 := by simp [lookE, hasAll3, and_assoc]

/-- The boxes of Replace. -/
def EnvR (ow : Own) (w : World) (b : Nat) (t : Value) (old by' : Int) : Prop :=
  w.cell? ⟨b, 0, none⟩ = some t ∧ w.cell? ⟨b + 1, 0, none⟩ = some (.int .i64 old) ∧ w.cell? ⟨b + 1 + 1, 0, none⟩ = some (.int .i64 by') ∧ ow b = 2 ∧ ow (b + 1) = 2 ∧ ow (b + 1 + 1) = 2
theorem envR_ok (b : Nat) (t : Value) (old by' : Int) : EnvOk (fun ow w => EnvR ow w b t old by') := by
  rintro c hc ow w ow' w' ⟨h1, h2, h3, o1, o2, o3⟩ hk
  have n2 : (2 : Nat) ≠ c := by omega
  exact ⟨cell_kept h1 hk (by rw [show (⟨b, 0, none⟩ : Addr).block = b from rfl, o1]; exact n2), cell_kept h2 hk (by rw [show (⟨b + 1, 0, none⟩ : Addr).block = b + 1 from rfl, o2]; exact n2), cell_kept h3 hk (by rw [show (⟨b + 1 + 1, 0, none⟩ : Addr).block = b + 1 + 1 from rfl, o3]; exact n2),
    (hk.own _ (World.block_lt_of_cell? w _ h1)).trans o1, (hk.own _ (World.block_lt_of_cell? w _ h2)).trans o2, (hk.own _ (World.block_lt_of_cell? w _ h3)).trans o3⟩
theorem EnvR.below {ow : Own} {w w' : World} {b : Nat} {t : Value} {old by' : Int} (h : EnvR ow w b t old by') (hb : Below w.heap.size w w') : EnvR ow w' b t old by' := envR_ok b t old by' 1 (.inl rfl) ow w ow w' h hb.kept_ow
theorem envR_start (ow : Own) (w : World) (t : Value) (old by' : Int) (T T1 T2 : TypeId) : EnvR (fun b => if b < w.heap.size then ow b else 2) (((w.alloc (.cells #[t] T)).alloc (.cells #[.int .i64 old] T1)).alloc (.cells #[.int .i64 by'] T2)) w.heap.size t old by' := by
  refine ⟨?_, ?_, ?_, by simp, by simp; intro h; omega, by simp; intro h; omega⟩
  · rw [World.cell?_alloc_lt _ _ _ (by simp; omega), World.cell?_alloc_lt _ _ _ (by simp)]
    exact World.cell?_alloc_at _ _ _ _ rfl
  · rw [World.cell?_alloc_lt _ _ _ (by simp)]
    exact World.cell?_alloc_at _ _ _ _ (by simp)
  · exact World.cell?_alloc_at _ _ _ _ (by simp)

set_option maxRecDepth 100000 in
set_option maxHeartbeats 1000000 in
theorem replace_any (ow : Own) (w : World) (t : Value) (rows : List ND) (h : Tab 1 ow w t rows) (id old by' : Int) :
    Calls Try.prog 23 #[t, .int .i64 id, .int .i64 old, .int .i64 by'] w (PutPost 1 ow w t (replP rows id old by')) := by
  obtain ⟨pb, rfl⟩ := h.ptr
  have hb0 : Below w.heap.size w (((w.alloc (.cells #[.pointer (some ⟨pb, 0, none⟩)] 24)).alloc (.cells #[.int .i64 old] 3)).alloc (.cells #[.int .i64 by'] 3)) := below_trans (below_trans (below_alloc _ _) (below_alloc _ _)) (below_alloc _ _)
  have H := Lib.hid (tab_re h hb0)
  have HB0 := Lib.hid hb0
  have HE0 := Lib.hid (envR_start ow w (.pointer (some ⟨pb, 0, none⟩)) old by' 24 3 3)
  clear h hb0
  have HL := Lib.hid (lookE_three rows id old by')
  cases hb : hasAll3 rows id old by' with
  | false =>
    have HE : Hid (replP rows id old by' = ⟨rows, 0, 31⟩) := by
      unfold Hid replP
      rw [if_pos]
      unfold hasAll3 at hb
      revert hb
      cases hasB rows.length id <;> cases hasB rows.length old <;> cases hasB rows.length by' <;> simp
    have HV : Hid (lookE rows [id, old, by'] = 31) := by rw [Hid, HL.out, if_neg (by simp [hb])]
    clear hb HL
    go_enter Try.func23, Try.ntmps23
    go_wp2_with fail
    refine (looked_any 1 _ _ _ _ rows [id, old, by'] (H.out.below (below_alloc _ _)) (rd_lit' _ (by simp) _ _ rfl rfl) (by simp)).mono ?_
    rintro e w1 ⟨rfl, hb1⟩
    rw [HV.out]
    have HB := Lib.hid (below_trans (below_alloc _ _) hb1)
    clear hb1
    go_wp2_with fail
    go_ret2
    rw [HE.out]
    exact PutPost.re HB0.out ⟨rfl, _, HB.out.kept_ow, H.out.below HB.out⟩
  | true =>
    have hb3 := hb
    unfold hasAll3 at hb3
    simp only [Bool.and_eq_true] at hb3
    obtain ⟨x, rfl, hx⟩ := nat_of_has hb3.1.1
    obtain ⟨y, rfl, hy⟩ := nat_of_has hb3.2
    have HE : Hid (replP rows (x : Int) old y = anewP (replOf old y) rows x) := by unfold Hid replP; rw [if_neg (by simp [hb3.1.1, hb3.1.2, hb3.2])]; rfl
    have HV : Hid (lookE rows [(x : Int), old, y] = 0) := by rw [Hid, HL.out, if_pos hb]
    have hmf : ∀ (fn : Fn) (first cap : Array Value) (w : World), (Instr.makeFunc fn first cap).run Try.prog w = .ok (.func fn first cap) w := fun _ _ _ _ => rfl
    have HN : Hid (∀ rows (k : Nat) (n : ND) (l r : Int), 0 ≤ l → 0 ≤ r → 0 ≤ (replOf old y rows k n l r).id) := replOf_nn (by omega)
    clear hb hb3 HL
    go_enter Try.func23, Try.ntmps23
    go_wp2_with fail
    refine (looked_any 1 _ _ _ _ rows [(x : Int), old, y] (H.out.below (below_alloc _ _)) (rd_lit' _ (by simp) _ _ rfl rfl) (by simp)).mono ?_
    rintro e w1 ⟨rfl, hb1⟩
    rw [HV.out]
    have HB := Lib.hid (below_trans (below_alloc _ _) hb1)
    have HE1 := Lib.hid (HE0.out.below HB.out)
    obtain ⟨q1, q2, q3, _⟩ := HE1.out
    clear hb1
    go_wp2_with fail
    refine (anewRepl_yes (fun ow W => EnvR ow W w.heap.size (.pointer (some ⟨pb, 0, none⟩)) old y) (envR_ok _ _ _ _) (replOf old y) (replOf_grows old y) HN.out _ w1 _ rows (H.out.below HB.out) _ _ _ (fun ow w rows k n l r ht he _ hk hl hr => imgRepl_any ow w _ rows ht _ _ _ old y he.2.1 he.2.2.1 he.1 k n.kind n.l n.r l r n.name) HE1.out x hx).mono ?_
    rintro e w2 hp
    have HP := Lib.hid (PutPost.re HB0.out (PutPost.from HB.out hp))
    obtain ⟨rfl, _⟩ := hp
    clear hmf
    go_wp2_with fail
    go_ret2
    rw [HE.out]
    exact HP.out

end Go.Dk

