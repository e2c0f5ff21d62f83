/- slices.SortFunc with the closure of Weights. -/
import Derived.Test.YtfldpjacgeoegaaGreatYe
import Derived.Test.YtfldpjacgeoegaaGreatYm
import Derived.Shelf.SlSortCmp.NoneTotal
import Derived.Shelf.Lay
import Derived.Ground.SlsfProg
import Derived.Lib.RowBridge
import Derived.Lib.SortBridge
namespace Go.Dk
open Go.RowKit Go.Maps Go.MapKept Go.Sort Go.Shelf
open Go.Proofs hiding intOf

/-- A weight. -/
structure Wt where
  v : Int
  h : 0 ≤ v ∧ v ≤ MC
theorem Wt.ext' {x y : Wt} (e : x.v = y.v) : x = y := by cases x; cases y; cases e; rfl
instance : Inhabited Wt := ⟨⟨0, by unfold MC; omega⟩⟩
def wtV (x : Wt) : Value := .int .i64 x.v
def cfW (x y : Wt) : Int := y.v - x.v
theorem ltW (x y : Wt) : ltOf cfW x y = decide (y.v < x.v) := by
  unfold ltOf cfW
  rw [decide_eq_decide]; omega
theorem swoW : SWO (ltOf cfW) where
  irrefl x := by rw [ltW]; simp
  trans x y z h1 h2 := by rw [ltW] at *; simp at *; omega
  ntrans x y z h1 h2 := by rw [ltW] at *; simp at *; omega
theorem totW (x y : Wt) (h1 : ltOf cfW x y = false) (h2 : ltOf cfW y x = false) : x = y := by
  rw [ltW] at *; simp at *; exact Wt.ext' (by omega)

set_option maxHeartbeats 1000000 in
theorem down_closure (x y : Wt) (W : World) : Calls Tryz.prog 42 #[wtV x, wtV y] W fun e w' => e = .returned (.int .i64 (cfW x y)) ∧ ∃ q, w' = W.drewN q := by
  obtain ⟨x, hx⟩ := x
  obtain ⟨y, hy⟩ := y
  unfold MC at hx hy
  unfold wtV cfW
  simp only
  go_enter Tryz.func42, Tryz.ntmps42
  go_wp2_with fail
  go_ret
  refine ⟨?_, 0, rfl⟩
  go_num

theorem putW (off : Nat) (d : Array Wt) (c : Array Value) : putCells wtV off d c = putCells (Value.int .i64) off (d.map (·.v)) c := by
  apply Array.ext
  · simp [putCells]
  · intro k h1 h2
    simp only [putCells, Array.getElem_mapIdx, Array.size_map]
    by_cases hk : off ≤ k ∧ k < off + d.size
    · rw [if_pos hk, if_pos hk]
      rw [getElem!_pos d (k - off) (by omega), getElem!_pos (d.map (·.v)) (k - off) (by simp; omega)]
      simp [wtV]
    · rw [if_neg hk, if_neg hk]
theorem putRowW (w : World) (b off : Nat) (d : Array Wt) : putRow wtV w b off d = putRow (Value.int .i64) w b off (d.map (·.v)) := by
  unfold putRow
  have : putCells wtV off d = putCells (Value.int .i64) off (d.map (·.v)) := funext (putW off d)
  rw [this]

theorem fallW (ws : List Wt) : (ws.mergeSort fun x y => !(ltOf cfW) y x).map (·.v) = fall (ws.map (·.v)) := by
  have e : (fun x y : Wt => !(ltOf cfW) y x) = fun x y : Wt => decide (y.v ≤ x.v) := by
    funext x y
    rw [ltW]
    by_cases h : y.v ≤ x.v
    · have : ¬ x.v < y.v := by omega
      simp [h, this]
    · have : x.v < y.v := by omega
      simp [h, this]
  rw [e]
  refine fall_unique ((List.mergeSort_perm _ _).map _) ?_
  rw [List.pairwise_map]
  exact (List.pairwise_mergeSort (le := fun x y : Wt => decide (y.v ≤ x.v)) (fun a b c h1 h2 => by simp at *; omega) (fun a b => by simp; omega) _).imp (fun h => by simpa using h)

set_option maxHeartbeats 1000000 in
theorem sortDown_own (w : World) (base n : Nat) (v : Value) (zs : List Int) (hz : ∀ z ∈ zs, 0 ≤ z ∧ z ≤ MC) (h : w.ownsRow base 3 1 v n (ints zs)) (hl : n < 4611686018427387904) :
    Calls Tryz.prog 41 #[v, .func (.func 42) #[] #[]] w fun e w' => e = .returned (.tuple #[]) ∧ w'.ownsRow base 3 1 v n (ints (fall zs)) ∧ w.grownBy w' v.ownBlock := by
  have hn : zs.length = n := by have := h.1; simpa [ints] using this
  obtain ⟨ws, rfl⟩ : ∃ ws : List Wt, zs = ws.map (·.v) := ⟨zs.attach.map fun z => ⟨z.1, hz z.1 z.2⟩, by simp⟩
  have eg : ∀ args w, (callFunc 42 args).run Tryz.prog w = .ok (.enter 42 args) w := enters_of Tryz.func42 (by kernel_rfl) rfl
  rcases h.2 with ⟨rfl, h0⟩ | ⟨g, cap, cur, rfl, hbg, hg, h1, h2, h3, h4⟩
  · subst h0
    have : ws = [] := List.eq_nil_of_length_eq_zero (by simpa using hn)
    subst this
    have hS := Tryz.slices_SortFunc_none (α := Int) none 0 (.func (.func 42) #[] #[]) w
    refine hS.mono ?_
    rintro e w' ⟨rfl, rfl⟩
    exact ⟨rfl, by simpa [fall, ints] using h, ⟨rfl, rfl, rfl, Nat.le_refl _, fun _ _ _ => rfl⟩⟩
  · have hn' : ws.length = n := by simpa using hn
    subst hn'
    have hH : Holds wtV w g 0 ws.toArray := by
      have hI := holds_of_blockI hg (ss := ws.map (·.v)) (by simpa [ints] using h4)
      intro j hj
      have hj' : j < ws.length := by simpa using hj
      obtain ⟨q1, q2⟩ := hI j (by simpa using hj')
      refine ⟨q1.trans ?_, q2⟩
      rw [getElem!_pos (ws.map (·.v)).toArray j (by simpa using hj'), getElem!_pos ws.toArray j (by simpa using hj')]
      simp [wtV]
    have hS := Tryz.slices_SortFunc_total wtV (fun _ => rfl) cfW swoW 42 #[] g 0 cap ws.toArray w eg (CmpReads.lays fun _ _ _ _ x y => down_closure x y _) hH (lt_of_block hg) (by simpa using hl) totW
    refine hS.mono ?_
    rintro e w' ⟨rfl, m, os, rfl⟩
    unfold sortWorld
    rw [putRowW]
    have e1 : (ws.toArray.toList.mergeSort fun x y => !(ltOf cfW) y x).toArray.map (·.v) = (fall (ws.map (·.v))).toArray := by rw [← fallW]; simp
    rw [e1]
    refine ⟨rfl, ?_, grownBy_sortedI _⟩
    have := ownsRow_sortedI (os := os) (n := m) (ss := ws.map (·.v)) (ts := fall (ws.map (·.v))) (fall_length _) hbg hg (by simpa using h1) h2 h3
    simpa [ints] using this

end Go.Dk

