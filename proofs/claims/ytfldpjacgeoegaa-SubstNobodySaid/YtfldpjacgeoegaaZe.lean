/- SubstNobody: the walk. -/
import Derived.Test.YtfldpjacgeoegaaZc
import Derived.Test.YtfldpjacgeoegaaZd
namespace Go.Dk
open Go.RowKit Go.Maps Go.MapKept
open Go.Proofs hiding intOf

set_option maxRecDepth 100000 in
set_option maxHeartbeats 4000000 in
theorem nobody07_any (w : World) (t : Value) (h : Dead w t) (id : Int) (v : Value) (l : List HY) (hn : ∀ x ∈ l, x.name.size ≤ maxLen) (hv : Rd w v l.length 2 (hyCells l)) (hl : l.length * 16 ≤ 140737488355328) :
    Calls Try.prog 20 #[t, .int .i64 id, v] w (One (.bool true) w) := by
  have HD := Lib.hid h
  have HV := Lib.hid hv
  have HN := Lib.hid hn
  have HP : Hid ((⟨#[112]⟩ : ByteArray).size ≤ maxLen) := by unfold Hid; decide
  have HB : Hid (Below w.heap.size w w) := Below.refl _ _
  clear h hv hn
  go_enter Try.func20, Try.ntmps20
  go_wp2_with (first
    | (go_at_call 27; refine (put07_dead _ _ _ (HD.out.below (by repeat (with_reducible first | exact Below.refl _ _ | exact HB.out | refine below_trans ?_ (below_alloc _ _) | refine below_trans ?_ (below_drew1 _) | refine below_trans ?_ (below_drewN _ _) | refine below_sc ?_ (by first | exact Nat.le_refl _ | (simp; done) | (simp; omega))))) _ l HN.out (HV.out.below (by repeat (with_reducible first | exact Below.refl _ _ | exact HB.out | refine below_trans ?_ (below_alloc _ _) | refine below_trans ?_ (below_drew1 _) | refine below_trans ?_ (below_drewN _ _) | refine below_sc ?_ (by first | exact Nat.le_refl _ | (simp; done) | (simp; omega))))) hl).mono ?_; rintro e w1 ⟨rfl, hb⟩; have HB := Lib.hid (below_trans (w := w) (by repeat (with_reducible first | exact Below.refl _ _ | exact HB.out | refine below_trans ?_ (below_alloc _ _) | refine below_trans ?_ (below_drew1 _) | refine below_trans ?_ (below_drewN _ _) | refine below_sc ?_ (by first | exact Nat.le_refl _ | (simp; done) | (simp; omega)))) hb); clear hb)
    | (go_at_call 37; refine (repl_dead _ _ (HD.out.below (by repeat (with_reducible first | exact Below.refl _ _ | exact HB.out | refine below_trans ?_ (below_alloc _ _) | refine below_trans ?_ (below_drew1 _) | refine below_trans ?_ (below_drewN _ _) | refine below_sc ?_ (by first | exact Nat.le_refl _ | (simp; done) | (simp; omega))))) _ _ _).mono ?_; rintro e w2 ⟨rfl, hb⟩; have HB := Lib.hid (below_trans (w := w) (by repeat (with_reducible first | exact Below.refl _ _ | exact HB.out | refine below_trans ?_ (below_alloc _ _) | refine below_trans ?_ (below_drew1 _) | refine below_trans ?_ (below_drewN _ _) | refine below_sc ?_ (by first | exact Nat.le_refl _ | (simp; done) | (simp; omega)))) hb); clear hb)
    | (go_at_call 28; refine (match07_dead _ _ (HD.out.below (by repeat (with_reducible first | exact Below.refl _ _ | exact HB.out | refine below_trans ?_ (below_alloc _ _) | refine below_trans ?_ (below_drew1 _) | refine below_trans ?_ (below_drewN _ _) | refine below_sc ?_ (by first | exact Nat.le_refl _ | (simp; done) | (simp; omega))))) _ _).mono ?_; rintro e w3 ⟨rfl, hb⟩; have HB := Lib.hid (below_trans (w := w) (by repeat (with_reducible first | exact Below.refl _ _ | exact HB.out | refine below_trans ?_ (below_alloc _ _) | refine below_trans ?_ (below_drew1 _) | refine below_trans ?_ (below_drewN _ _) | refine below_sc ?_ (by first | exact Nat.le_refl _ | (simp; done) | (simp; omega)))) hb); clear hb)
    | (go_at_call 33; refine (simple_dead _ _ (HD.out.below (by repeat (with_reducible first | exact Below.refl _ _ | exact HB.out | refine below_trans ?_ (below_alloc _ _) | refine below_trans ?_ (below_drew1 _) | refine below_trans ?_ (below_drewN _ _) | refine below_sc ?_ (by first | exact Nat.le_refl _ | (simp; done) | (simp; omega))))) _).mono ?_; rintro e w4 ⟨rfl, hb⟩; have HB := Lib.hid (below_trans (w := w) (by repeat (with_reducible first | exact Below.refl _ _ | exact HB.out | refine below_trans ?_ (below_alloc _ _) | refine below_trans ?_ (below_drew1 _) | refine below_trans ?_ (below_drewN _ _) | refine below_sc ?_ (by first | exact Nat.le_refl _ | (simp; done) | (simp; omega)))) hb); clear hb)
    | (go_at_call 39; refine (frame07_dead _ _ (HD.out.below (by repeat (with_reducible first | exact Below.refl _ _ | exact HB.out | refine below_trans ?_ (below_alloc _ _) | refine below_trans ?_ (below_drew1 _) | refine below_trans ?_ (below_drewN _ _) | refine below_sc ?_ (by first | exact Nat.le_refl _ | (simp; done) | (simp; omega))))) _ _ _ HP.out).mono ?_; rintro e w5 ⟨rfl, hb⟩; have HB := Lib.hid (below_trans (w := w) (by repeat (with_reducible first | exact Below.refl _ _ | exact HB.out | refine below_trans ?_ (below_alloc _ _) | refine below_trans ?_ (below_drew1 _) | refine below_trans ?_ (below_drewN _ _) | refine below_sc ?_ (by first | exact Nat.le_refl _ | (simp; done) | (simp; omega)))) hb); clear hb))
  go_ret
  exact ⟨rfl, HB.out⟩

set_option maxRecDepth 100000 in
set_option maxHeartbeats 4000000 in
theorem substNobody_any (w : World) (id : Int) (v : Value) (l : List HY) (hn : ∀ x ∈ l, x.name.size ≤ maxLen) (hv : Rd w v l.length 2 (hyCells l)) (hl : l.length * 16 ≤ 140737488355328) :
    Calls Try.prog 4 #[.int .i64 id, v] w fun e w' => e = .returned (.bool true) ∧ Below w.heap.size w w' := by
  have HV := Lib.hid hv
  have HN := Lib.hid hn
  clear hv hn
  go_enter Try.func4, Try.ntmps4
  go_wp2_with fail
  refine (nobody07_any _ (.pointer none) (.inl rfl) id _ l HN.out HV.out hl).mono ?_
  rintro e w1 ⟨rfl, hb1⟩
  have HB := Lib.hid hb1
  clear hb1
  go_wp2_with fail
  refine (nobody07_any _ (.pointer (some ⟨w1.heap.size, 0, none⟩)) (.inr ⟨_, rfl, World.cell?_alloc_at _ _ _ _ rfl⟩) id _ l HN.out (HV.out.below (by repeat (with_reducible first | exact Below.refl _ _ | exact HB.out | refine below_trans ?_ (below_alloc _ _) | refine below_trans ?_ (below_drew1 _) | refine below_trans ?_ (below_drewN _ _) | refine below_sc ?_ (by first | exact Nat.le_refl _ | (simp; done) | (simp; omega))))) hl).mono ?_
  rintro e w2 ⟨rfl, hb2⟩
  have HB := Lib.hid (below_trans (w := w) (by repeat (with_reducible first | exact Below.refl _ _ | exact HB.out | refine below_trans ?_ (below_alloc _ _) | refine below_trans ?_ (below_drew1 _) | refine below_trans ?_ (below_drewN _ _) | refine below_sc ?_ (by first | exact Nat.le_refl _ | (simp; done) | (simp; omega)))) hb2)
  clear hb2
  go_wp2_with (go_at_call 21; refine (heads07_any _).mono ?_; rintro e w10 ⟨rfl, hb10⟩; have HB := Lib.hid (below_trans (w := w) (by repeat (with_reducible first | exact Below.refl _ _ | exact HB.out | refine below_trans ?_ (below_alloc _ _) | refine below_trans ?_ (below_drew1 _) | refine below_trans ?_ (below_drewN _ _) | refine below_sc ?_ (by first | exact Nat.le_refl _ | (simp; done) | (simp; omega)))) hb10); clear hb10)
  go_ret
  exact ⟨rfl, HB.out⟩

end Go.Dk

