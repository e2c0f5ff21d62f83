/- slices.Backward at []int: what its loop does, whatever the body. -/
import Derived.RangeFuncNested
import Derived.RangeFuncBound
import Derived.RangeFuncCalls
import Derived.RangeFuncLeaves
import Derived.Shelf.Abstract
import Derived.Shelf.RegionOpen
import Derived.WalkKit
import Derived.OwnWalkIn
import Derived.TacticsInMore
import Derived.LoopNIn
import Derived.LoopIn
import Derived.Test.YtfldpjacgeoegaaGreatYe
import Derived.Test.YtfldpjacgeoegaaGreatZ
import Derived.Test.YtfldpjacgeoegaaGreatH
namespace Go.Dk
open Go.RowKit Go.Maps Go.MapKept Go.Shelf
open Go.Proofs hiding intOf

attribute [local go_sem] Oper.semAt_some

/-- The blocks of S stand as they stood. -/
def KeepS (S : Nat → Prop) (W W' : World) : Prop := ∀ g, S g → W'.heap[g]? = W.heap[g]?
theorem keepS_t {S : Nat → Prop} {A B C : World} (h : KeepS S A B) (k : KeepS S B C) : KeepS S A C := fun g hg => (k g hg).trans (h g hg)
theorem keepS_b {S : Nat → Prop} {B : Nat} (hS : ∀ g, S g → g < B) (W : World) (l : Nat) (o o' : Obj) (hl : B ≤ l) (_ : W.heap[l]? = some o) (_ : o.isCells = false) (_ : o.isWalk = false) : KeepS S W (W.putObj l o') := fun g hg => by
  have : g ≠ l := by have := hS g hg; omega
  simp [World.putObj, Ne.symm this]
theorem keepS_refl (S : Nat → Prop) (W : World) : KeepS S W W := fun _ _ => rfl
theorem keepS_below {S : Nat → Prop} {B : Nat} {W W' : World} (hS : ∀ g, S g → g < B) (h : Below B W W') : KeepS S W W' := fun g hg => h.block g (hS g hg)
theorem keepS_grown {S : Nat → Prop} {W W' : World} {r : Option Nat} (h : W.grownBy W' r) (hS : ∀ g, S g → g < W.heap.size ∧ r ≠ some g) : KeepS S W W' := fun g hg => h.block g (hS g hg).1 (fun e => (hS g hg).2 e.symm)

/-- From the end down: the places. -/
def downTo (n k : Nat) : List Nat := (List.range k).map fun j => n - 1 - j
theorem downTo_succ (n k : Nat) : downTo n (k + 1) = downTo n k ++ [n - 1 - k] := by simp [downTo, List.range_succ]
theorem downTo_length (n k : Nat) : (downTo n k).length = k := by simp [downTo]
theorem downTo_prefix (n k : Nat) (hk : k ≤ n) : downTo n k <+: downTo n n := by
  have : downTo n k = (downTo n n).take k := by
    unfold downTo
    rw [← List.map_take, List.take_range, Nat.min_eq_left hk]
  rw [this]; exact List.take_prefix _ _
/-- What a place hands over. -/
def placeV (zs : List Int) (x : Nat) : Array Value := #[.int .i64 (x : Int), .int .i64 (zs[x]?.getD 0)]

set_option maxRecDepth 100000 in
set_option maxHeartbeats 2000000 in
theorem backward1_in (F : Fence) (n : Nat) (hF : F.fn 97) (hro : F.round = none) (hn : 1 ≤ n) (l Bs b off cap : Nat) (zs : List Int) (hreach : zs.length * 8 ≤ 140737488351232) (S : Nat → Prop) (hSb : 0 < zs.length → S b) (hSs : S Bs) (J Jx : List Nat → World → Prop)
    (hY : ∀ pre x W, J pre W → pre.length < zs.length → YieldAt F (n - 1) Tryz.prog l (placeV zs x) W fun e W' =>
      (e = .returned (.bool true) ∧ J (pre ++ [x]) W' ∧ KeepS S W W') ∨ (e = .returned (.bool false) ∧ Jx (pre ++ [x]) W'))
    (W : World) (hBs : ∃ t, W.heap[Bs]? = some (.cells #[.slice (some ⟨b, off, none⟩) zs.length cap] t (0, 0))) (hc : ∀ j, j < zs.length → W.cell? ⟨b, off + j, none⟩ = some (.int .i64 (zs[j]?.getD 0))) (h0 : J [] W) :
    CallsIn F n Tryz.prog 97 #[.func (.yield l) #[] #[], .pointer (some ⟨Bs, 0, none⟩)] W fun e W' => (∃ v, e = .returned v) ∧
      ((∃ ys, ys = downTo zs.length zs.length ∧ J ys W') ∨ (∃ pre, (∃ k, k ≤ zs.length ∧ pre = downTo zs.length k) ∧ Jx pre W')) := by
  obtain ⟨ts, hBs⟩ := hBs
  have HBs := Lib.hid hBs
  have c0 : W.cell? ⟨Bs, 0, none⟩ = some (.slice (some ⟨b, off, none⟩) zs.length cap) := cell_of hBs rfl
  clear hBs
  refine callsIn_of_wp Tryz.func97 rfl hF ?_ hro
  simp only [Tryz.ntmps97, List.size_toArray, List.length_cons, List.length_nil, Nat.reduceAdd, Nat.reduceSub, Array.replicate_succ, Array.replicate_zero, List.push_toArray, List.append_toArray, List.nil_append, List.cons_append]
  gi_wp2
  gi_loopw [3] (fun i wr => ∃ k : Nat, k ≤ zs.length ∧ i = .int .i64 ((zs.length : Int) - 1 - k) ∧ J (downTo zs.length k) wr ∧ KeepS S W wr)
    (fun i _ => (intOf i + 1).toNat)
  case atStart => exact ⟨0, Nat.zero_le _, by simp, h0, keepS_refl _ _⟩
  case round =>
    obtain ⟨k, hk, rfl, hJs, hnx⟩ := hrel
    have c1 : wr.cell? ⟨Bs, 0, none⟩ = some (.slice (some ⟨b, off, none⟩) zs.length cap) := (World.cell?_of_block (hnx Bs hSs)).trans c0
    by_cases hlt : k < zs.length
    · have hcx : wr.cell? ⟨b, off + (zs.length - 1 - k), none⟩ = some (.int .i64 (zs[zs.length - 1 - k]?.getD 0)) := (World.cell?_of_block (hnx b (hSb (by omega)))).trans (hc _ (by omega))
      obtain ⟨i0, hi0⟩ : ∃ i0 : Nat, i0 = zs.length - 1 - k := ⟨_, rfl⟩
      have hii : (zs.length : Int) - 1 - k = (i0 : Int) := by omega
      obtain ⟨fn, tmps, assign, body, hy, hR⟩ := hY _ (zs.length - 1 - k) wr hJs (by rw [downTo_length]; exact hlt)
      unfold placeV at hy
      rw [← hi0] at hy hcx hR
      obtain ⟨z0, hz0⟩ : ∃ z0, z0 = zs[i0]?.getD 0 := ⟨_, rfl⟩
      rw [← hz0] at hy hcx
      have HZ := Lib.hid hz0
      clear hz0
      rw [hii]
      have HI := Lib.hid hi0
      have HII := Lib.hid hii
      have hlt2 : i0 < zs.length := by omega
      clear hi0 hii
      gi_wp2
      refine hR.mono ?_
      rintro e W3 (⟨rfl, hJ3, hk3⟩ | ⟨rfl, hJx3⟩)
      · gi_wp2
        go_roundw
        case rel => exact ⟨k + 1, by omega, by have := HII.out; go_num, by rw [downTo_succ, ← HI.out]; exact hJ3, keepS_t hnx hk3⟩
        case measure => simp [intOf]
      · gi_wp2
        refine bodyPost_ret (results_none rfl _ _ _) rfl ?_
        exact ⟨⟨_, rfl⟩, .inr ⟨_, ⟨k + 1, by omega, by rw [downTo_succ, ← HI.out]⟩, hJx3⟩⟩
    · obtain rfl : k = zs.length := by omega
      have hm : (zs.length : Int) - 1 - zs.length = -1 := by omega
      rw [hm]
      clear hm
      gi_wp2
      go_end0
      exact ⟨⟨_, rfl⟩, .inl ⟨_, rfl, hJs⟩⟩

set_option maxRecDepth 100000 in
set_option maxHeartbeats 1000000 in
theorem backward1_nil_in (F : Fence) (n : Nat) (hF : F.fn 97) (hro : F.round = none) (l Bs cap : Nat) (a : Option Addr) (J : List Nat → World → Prop) (W : World) (hBs : W.cell? ⟨Bs, 0, none⟩ = some (.slice a 0 cap)) (h0 : J [] W) :
    CallsIn F n Tryz.prog 97 #[.func (.yield l) #[] #[], .pointer (some ⟨Bs, 0, none⟩)] W fun e W' => (∃ v, e = .returned v) ∧ J [] W' := by
  refine callsIn_of_wp Tryz.func97 rfl hF ?_ hro
  simp only [Tryz.ntmps97, List.size_toArray, List.length_cons, List.length_nil, Nat.reduceAdd, Nat.reduceSub, Array.replicate_succ, Array.replicate_zero, List.push_toArray, List.append_toArray, List.nil_append, List.cons_append]
  gi_wp2
  gi_loopw [3] (fun i wr => i = .int .i64 (-1) ∧ J [] wr) (fun _ _ => 0)
  case atStart => exact ⟨by simp, h0⟩
  case round =>
    obtain ⟨rfl, hJs⟩ := hrel
    gi_wp2
    go_end0
    exact ⟨⟨_, rfl⟩, hJs⟩

set_option maxHeartbeats 1000000 in
theorem backward_in (F : Fence) (n : Nat) (hF : F.fn 69) (hro : F.round = none) (a : Option Addr) (len cap : Nat) (w : World) :
    CallsIn F n Tryz.prog 69 #[.slice a len cap] w fun e w' => e = .returned (.func (.func 97) #[] #[.pointer (some ⟨w.heap.size, 0, none⟩)]) ∧ w' = w.alloc (.cells #[.slice a len cap] 33) := by
  refine callsIn_of_wp Tryz.func69 rfl hF ?_ hro
  simp only [Tryz.ntmps69, List.size_toArray, List.length_cons, List.length_nil, Nat.reduceAdd, Nat.reduceSub, Array.replicate_succ, Array.replicate_zero, List.push_toArray, List.append_toArray, List.nil_append, List.cons_append]
  gi_wp2
  go_ret
  exact ⟨rfl, rfl⟩

theorem backward_stops (F : Fence) (n : Nat) (hF : F.fn 97) (hro : F.round = none) (hn : 1 ≤ n) (Bs : Nat) (v : Value) (zs : List Int) (hreach : zs.length * 8 ≤ 140737488351232) (S : Nat → Prop) (w : World)
    (hS : ∀ g, S g → g < w.heap.size) (hSs : S Bs) (hBs : ∃ t, w.heap[Bs]? = some (.cells #[v] t (0, 0))) (hr : w.ownsRow 0 3 1 v zs.length (ints zs)) (hSb : ∀ g, v.ownBlock = some g → S g) :
    SeqStopsK F n Tryz.prog 97 #[.pointer (some ⟨Bs, 0, none⟩)] (placeV zs) (KeepS S) (fun ys => ys = downTo zs.length zs.length) (fun pre => pre <+: downTo zs.length zs.length) zs.length w := fun l J Jx W hW _ _ hY h0 => by
  obtain ⟨ts, hBs⟩ := hBs
  have hBs' : W.heap[Bs]? = some (.cells #[v] ts (0, 0)) := (hW.block _ (hS _ hSs)).trans hBs
  obtain ⟨a, cap, rfl⟩ := own_slice hr
  by_cases h0' : 0 < zs.length
  · obtain ⟨g, c, he, hg, hc⟩ := own_some hr h0'
    cases he
    have hcs : ∀ j, j < zs.length → W.cell? ⟨g, 0 + j, none⟩ = some (.int .i64 (zs[j]?.getD 0)) := fun j hj => by
      rw [Nat.zero_add]
      refine (hW.cell (p := ⟨g, j, none⟩) (hS _ (hSb g rfl))).trans (hc j _ ?_)
      simp [ints, List.getElem?_eq_getElem hj]
    refine (backward1_in F n hF hro hn l Bs g 0 cap zs hreach S (fun _ => hSb g rfl) hSs J Jx hY W ⟨ts, hBs'⟩ hcs h0).mono ?_
    rintro e W' ⟨he, ⟨ys, rfl, hj⟩ | ⟨pre, ⟨k, hk, rfl⟩, hj⟩⟩
    · exact ⟨he, .inl ⟨_, rfl, hj⟩⟩
    · exact ⟨he, .inr ⟨_, downTo_prefix _ _ hk, hj⟩⟩
  · have hz : zs.length = 0 := by omega
    have hd : downTo zs.length zs.length = [] := by rw [hz]; rfl
    rw [hz] at hBs'
    refine (backward1_nil_in F n hF hro l Bs cap a J W (cell_of hBs' rfl) h0).mono ?_
    rintro e W' ⟨he, hj⟩
    exact ⟨he, .inl ⟨_, hd.symm, hj⟩⟩

end Go.Dk

