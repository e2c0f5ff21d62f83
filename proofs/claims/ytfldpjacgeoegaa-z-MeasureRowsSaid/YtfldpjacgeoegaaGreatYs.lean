/- The tables of a statement's rows, from layer 4 on. -/
import Derived.Test.YtfldpjacgeoegaaGreatU
namespace Go.Dk
open Go.RowKit Go.Maps Go.MapKept
open Go.Proofs hiding intOf

/-- The rows that a statement speaks of: none, where what was handed in is no table. -/
def useR (rows : List ND) : List ND := if fromE [] rows = 0 then rows else []

def TabsPost (w : World) (rs : List ND) (e : Ending) (w' : World) : Prop :=
  ∃ t r ow, e = .returned (.tuple #[t, r]) ∧ Pair ow w' t r rs rs ∧ Below w.heap.size w w'

set_option maxRecDepth 100000 in
set_option maxHeartbeats 800000 in
theorem tables_any (w : World) (v : Value) (rows : List ND) (hn : ∀ n ∈ rows, n.name.size ≤ maxLen) (hr : Rd w v rows.length 4 (nodeCells rows)) (hm : rows.length ≤ maxLen) (hl : rows.length * 40 ≤ 140737488355328) :
    Calls Tryz.prog 5 #[v] w (TabsPost w (useR rows)) := by
  have HBo := Lib.hid (both_any w v rows hn hr hm hl)
  obtain ⟨a, c, rfl⟩ := hr.slice
  clear hr hn
  by_cases h0 : fromE [] rows = 0
  · have HE : Hid (useR rows = rows) := by rw [Hid, useR, if_pos h0]
    have H0 := Lib.hid h0
    clear h0
    go_enter Tryz.func5, Tryz.ntmps5
    go_wp2_with (go_at_call 23; refine HBo.out.mono ?_; rintro e w1 ⟨hb1, _, h1⟩; obtain ⟨t, r, ow, rfl, hp, _⟩ := h1 H0.out; have HP := Lib.hid hp; have HB1 := Lib.hid hb1; clear h1 hp hb1)
    go_ret2
    exact ⟨t, r, ow, rfl, by rw [HE.out]; exact HP.out, HB1.out⟩
  · have HE : Hid (useR rows = []) := by rw [Hid, useR, if_neg h0]
    have H0 := Lib.hid h0
    clear h0
    go_enter Tryz.func5, Tryz.ntmps5
    go_wp2_with (first
      | (go_at_call 23; refine HBo.out.mono ?_; rintro e w1 ⟨hb1, h1, _⟩; obtain rfl := h1 H0.out; have HB1 := Lib.hid hb1; clear h1 hb1)
      | (go_at_call 24; refine (new_any 1 (fun _ => 0) _).mono ?_; rintro e w2 ⟨t, ow2, rfl, ht2, hk2, hb2⟩; have HT2 := Lib.hid ht2; have HB2 := Lib.hid (below_trans HB1.out hb2); clear ht2 hk2 hb2))
    go_ret2
    refine ⟨_, _, fun b => if b < w2.heap.size then ow2 b else 2, rfl, ?_, below_trans HB2.out (below_alloc _ _)⟩
    rw [HE.out]
    refine ⟨HT2.out.kept (((below_alloc w2 _).kept_ow).recolour (fun b hb => by simp [hb]) : Kept 2 ow2 w2 _ _) (by decide), ?_⟩
    exact ⟨w2.heap.size, .slice none 0 0, rfl, heap_alloc_new w2 _, .inl (World.ownsRow_nil _ _ _ _), Ok.nil, by simp, fun g h => by simp [Value.ownBlock] at h⟩

end Go.Dk

