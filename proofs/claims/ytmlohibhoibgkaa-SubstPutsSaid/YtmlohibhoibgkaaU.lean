/- Both: the program's table and the document's of the same rows. Blocks of several colours. -/
import Derived.Test.YtmlohibhoibgkaaMa
namespace Go.Dk
open Go.RowKit Go.Maps Go.MapKept
open Go.Proofs hiding intOf

/-- From w to w' only blocks whose colours are in S were written, or that are new; old blocks keep their colours. -/
structure KeptIn (S : Nat → Prop) (ow : Own) (w : World) (ow' : Own) (w' : World) : Prop where
  os : w'.os = w.os
  tape : w'.tape = w.tape
  output : w'.output = w.output
  size : w.heap.size ≤ w'.heap.size
  own : ∀ b, b < w.heap.size → ow' b = ow b
  block : ∀ b, b < w.heap.size → ¬ S (ow b) → w'.heap[b]? = w.heap[b]?

theorem Kept.inn {k : Nat} {ow ow' : Own} {w w' : World} (h : Kept k ow w ow' w') {S : Nat → Prop} (hk : S k) : KeptIn S ow w ow' w' :=
  ⟨h.os, h.tape, h.output, h.size, h.own, fun b hb hn => h.block b hb (fun e => hn (e ▸ hk))⟩
theorem KeptIn.refl (S : Nat → Prop) (ow : Own) (w : World) : KeptIn S ow w ow w := ⟨rfl, rfl, rfl, Nat.le_refl _, fun _ _ => rfl, fun _ _ _ => rfl⟩
theorem KeptIn.trans {S : Nat → Prop} {o1 o2 o3 : Own} {w1 w2 w3 : World} (h : KeptIn S o1 w1 o2 w2) (g : KeptIn S o2 w2 o3 w3) : KeptIn S o1 w1 o3 w3 :=
  ⟨g.os.trans h.os, g.tape.trans h.tape, g.output.trans h.output, Nat.le_trans h.size g.size,
   fun b hb => (g.own b (Nat.lt_of_lt_of_le hb h.size)).trans (h.own b hb),
   fun b hb hn => (g.block b (Nat.lt_of_lt_of_le hb h.size) (by rw [h.own b hb]; exact hn)).trans (h.block b hb hn)⟩
theorem KeptIn.of_below {S : Nat → Prop} {ow : Own} {w w' : World} (h : Below w.heap.size w w') : KeptIn S ow w ow w' := ⟨h.os, h.tape, h.output, h.size, fun _ _ => rfl, fun b hb _ => h.block b hb⟩
theorem KeptIn.below {S : Nat → Prop} {ow ow' : Own} {w w' : World} {B : Nat} (h : KeptIn S ow w ow' w') (hB : B ≤ w.heap.size) (hz : ∀ b, b < B → ¬ S (ow b)) : Below B w w' :=
  ⟨h.os, h.tape, h.output, h.size, fun b hb => h.block b (Nat.lt_of_lt_of_le hb hB) (hz b hb)⟩
def S12 (k : Nat) : Prop := k = 1 ∨ k = 2

/-- The two tables side by side, of colours 1 and 2. -/
structure Pair (ow : Own) (w : World) (t r : Value) (xs ys : List ND) : Prop where
  t : Tab 1 ow w t xs
  r : RTab 2 ow w r ys

theorem Pair.below {ow : Own} {w w' : World} {t r : Value} {xs ys : List ND} (h : Pair ow w t r xs ys) (hb : Below w.heap.size w w') : Pair ow w' t r xs ys := ⟨h.t.below hb, h.r.below hb⟩

def BothPost (w : World) (rows : List ND) (e : Ending) (w' : World) : Prop :=
  Below w.heap.size w w' ∧ (fromE [] rows ≠ 0 → e = .returned (.tuple #[.pointer none, .pointer none, .bool false])) ∧
    (fromE [] rows = 0 → ∃ t r ow', e = .returned (.tuple #[t, r, .bool true]) ∧ Pair ow' w' t r rows rows ∧ ∀ b, b < w.heap.size → ow' b = 0)

set_option maxRecDepth 100000 in
set_option maxHeartbeats 800000 in
theorem both_any (w : World) (v : Value) (rows : List ND) (hn : ∀ n ∈ rows, n.name.size ≤ maxLen) (hr : Rd w v rows.length 4 (nodeCells rows)) (hm : rows.length ≤ maxLen) (hl : rows.length * 40 ≤ 140737488355328) :
    Calls Try.prog 7 #[v] w (BothPost w rows) := by
  have HR := Lib.hid hr
  have HN := Lib.hid hn
  obtain ⟨a, c, rfl⟩ := hr.slice
  clear hr hn
  unfold maxLen at hm
  by_cases h0 : fromE [] rows = 0
  · have H0 := Lib.hid h0
    clear h0
    go_enter Try.func7, Try.ntmps7
    go_wp2_with (first
      | (at_builtin; refine wp_append rfl (.tmp 10) (.tmp 11) 22 rfl w.heap.size 36 _ 4 40 Try.underlying22 infoNode rfl (by decide) (by decide) _ 0 [] rfl (World.ownsRow_made w _ 0 (Nat.le_refl _) (by decide) (by simp)) _ rows.length (nodeCells rows) rfl (HR.out.below (below_alloc _ _)) (nodeCells_one rows) (by omega) (by simp) ?_; intro v1 w1 hown hgrow hat hnil; simp only [Nat.zero_add, List.nil_append] at hown; have HB1 : Hid (Below w.heap.size w w1) := ((Below.refl _ _).alloc (Nat.le_refl _) _).grown hgrow (by simp) (by intro k hk; cases hk; exact Nat.le_refl _); have HO1 := Lib.hid hown; clear hown hgrow hat hnil)
      | (go_at_call 27; refine (refFrom_any 2 (fun _ => 0) w1 _ rows HN.out (HR.out.below HB1.out) (by unfold maxLen; omega)).mono ?_; rintro e w2 ⟨r, he, hb2, ht2, _⟩; rw [H0.out] at he; subst he; obtain ⟨ow2, hk2, ht2⟩ := ht2 H0.out; have HT2 := Lib.hid ht2; have HK2 := Lib.hid hk2; have HB12 := Lib.hid hb2; clear ht2 hk2; have HB2 : Hid (Below w.heap.size w w2) := HB1.out.trans (hb2.mono HB1.out.size); clear hb2)
      | (go_at_call 28; refine (from_any 1 ow2 w2 v1 rows HN.out ((rd_own HO1.out).below HB12.out) (by unfold maxLen; omega)).mono ?_; rintro e w3 ⟨t, he, hb3, ht3, _⟩; rw [H0.out] at he; subst he; obtain ⟨ow3, hk3, ht3⟩ := ht3 H0.out; have HT3 := Lib.hid ht3; have HK3 := Lib.hid hk3; clear ht3 hk3; have HB3 : Hid (Below w.heap.size w w3) := HB2.out.trans (hb3.mono HB2.out.size); clear hb3)
      | fail)
    go_ret3
    exact ⟨HB3.out, fun h => absurd H0.out h, fun _ => ⟨_, _, ow3, rfl, ⟨HT3.out, HT2.out.kept HK3.out (by decide)⟩, fun b hb => (HK3.out.own b (Nat.lt_of_lt_of_le hb HB2.out.size)).trans (HK2.out.own b (Nat.lt_of_lt_of_le hb HB1.out.size))⟩⟩
  · have hb0 : (fromE [] rows != 0) = true := by simpa using h0
    have H0 := Lib.hid h0
    clear h0
    go_enter Try.func7, Try.ntmps7
    go_wp2_with (first
      | (at_builtin; refine wp_append rfl (.tmp 10) (.tmp 11) 22 rfl w.heap.size 36 _ 4 40 Try.underlying22 infoNode rfl (by decide) (by decide) _ 0 [] rfl (World.ownsRow_made w _ 0 (Nat.le_refl _) (by decide) (by simp)) _ rows.length (nodeCells rows) rfl (HR.out.below (below_alloc _ _)) (nodeCells_one rows) (by omega) (by simp) ?_; intro v1 w1 hown hgrow hat hnil; have HB1 : Hid (Below w.heap.size w w1) := ((Below.refl _ _).alloc (Nat.le_refl _) _).grown hgrow (by simp) (by intro k hk; cases hk; exact Nat.le_refl _); clear hown hgrow hat hnil)
      | (go_at_call 27; refine (refFrom_any 2 (fun _ => 0) w1 _ rows HN.out (HR.out.below HB1.out) (by unfold maxLen; omega)).mono ?_; rintro e w2 ⟨r, rfl, hb2, _, ht2⟩; have HB2 : Hid (Below w.heap.size w w2) := HB1.out.trans (hb2.mono HB1.out.size); clear hb2)
      | fail)
    go_ret3
    exact ⟨HB2.out, fun _ => rfl, fun h => absurd h H0.out⟩


end Go.Dk

