/- The document's Ints. -/
import Derived.Test.YtfldpjacgeoegaaGreatB
import Derived.Test.YtfldpjacgeoegaaGreatD
import Derived.BigQuiet
import Derived.Deep.QuietTactic
namespace Go.Dk
open Go.RowKit Go.Maps Go.MapKept
open Go.Proofs hiding intOf

theorem ints_at {w : World} {v : Value} {n : Nat} {zs : List Int} (h : Rd w v n 1 (ints zs)) {k : Nat} (hk : k < n) : ∃ b o c z, v = .slice (some ⟨b, o, none⟩) n c ∧ w.cell? ⟨b, o + k, none⟩ = some (.int .i64 z) ∧ zs[k]? = some z := by
  have hl : zs.length = n := by have := h.len; simpa [ints] using this
  obtain ⟨b, o, c, rfl, hc⟩ := h.some (by omega)
  obtain ⟨z, hz⟩ : ∃ z, zs[k]? = some z := ⟨_, List.getElem?_eq_getElem (by omega)⟩
  exact ⟨b, o, c, z, rfl, hc k _ (by simp [ints, hz]), hz⟩
theorem ints_len {w : World} {v : Value} {n : Nat} {zs : List Int} (h : Rd w v n 1 (ints zs)) : zs.length = n := by have := h.len; simpa [ints] using this

theorem rd_lit (w : World) (cs : Array Value) (e : TypeId) {n size : Nat} {xs : List Value} (h : cs.toList = xs) (hl : xs.length = n * size) : Rd (w.alloc (.cells cs e)) (.slice (some ⟨w.heap.size, 0, none⟩) n n) n size xs := by
  subst h
  refine ⟨⟨_, _, rfl, fun h => by (cases h), fun ad ha => ?_⟩, hl⟩
  cases ha
  refine ⟨fun _ => rfl, fun j u hu => ?_⟩
  rw [World.cell?_alloc_at _ _ _ _ rfl]
  simpa using hu

theorem take_eq_step {zs ys : List Int} {k : Nat} {z : Int} (h : zs.take k = ys.take k) (h1 : zs[k]? = some z) (h2 : ys[k]? = some z) : zs.take (k + 1) = ys.take (k + 1) := by
  rw [List.take_add_one, List.take_add_one, h, h1, h2]

set_option maxRecDepth 100000 in
set_option maxHeartbeats 400000 in
theorem refInts_any (w : World) (v u : Value) (n m : Nat) (xs ys : List Int) (hn : n ≤ maxLen) (hx : Rd w v n 1 (ints xs)) (hy : Rd w u m 1 (ints ys)) :
    Calls Tryz.prog 21 #[v, u] w fun e w' => e = .returned (.bool (decide (xs = ys))) ∧ Below w.heap.size w w' := by
  unfold maxLen at hn
  have hlx := ints_len hx
  have hly := ints_len hy
  obtain ⟨a, c, rfl⟩ := hx.slice
  obtain ⟨a', c', rfl⟩ := hy.slice
  by_cases hnm : n = m
  · subst hnm
    have HX := Lib.hid hx; have HY := Lib.hid hy; have LX := Lib.hid hlx; have LY := Lib.hid hly
    clear hx hy hlx hly
    go_enter Tryz.func21, Tryz.ntmps21
    go_wp2
    go_loopw [5] (fun i W => ∃ k : Nat, k ≤ n ∧ i = .int .i64 k ∧ xs.take k = ys.take k ∧ Below w.heap.size w W) (fun i _ => n - (intOf i).toNat)
    case atStart => exact ⟨0, Nat.zero_le _, rfl, rfl, Below.refl _ _⟩
    case round =>
      obtain ⟨k, hk, rfl, ht, hb⟩ := hrel
      have HT := Lib.hid ht
      clear ht
      by_cases hlt : k < n
      · obtain ⟨b, o, c1, z, e1, hc1, hz⟩ := ints_at (HX.out.below hb) hlt
        obtain ⟨b', o', c1', z', e1', hc1', hz'⟩ := ints_at (HY.out.below hb) hlt
        cases e1; cases e1'
        have HZ := Lib.hid hz; have HZ' := Lib.hid hz'
        have hki : (k : Int) < (n : Int) := by omega
        clear hz hz'
        by_cases hzz : z = z'
        · subst hzz
          go_wp2
          go_quiet (fail)
          go_wp2
          exact ⟨⟨k + 1, by omega, by go_num, take_eq_step HT.out HZ.out HZ'.out, hb.trans ((below_drewN wr nq).mono hb.size)⟩, by simp [intOf]; omega⟩
        · have hzb : (z != z') = true := by simp [hzz]
          have HNE : Hid (decide (xs = ys) = false) := by
            rw [Hid, decide_eq_false_iff_not]
            intro e; subst e
            have h1 := HZ.out; have h2 := HZ'.out
            rw [h1] at h2; cases h2; exact hzz rfl
          go_wp2
          go_quiet (fail)
          go_wp2
          go_ret
          exact ⟨ret_bool HNE.out.symm, hb.trans ((below_drewN wr nq).mono hb.size)⟩
      · have HEQ : Hid (decide (xs = ys) = true) := by
          rw [Hid, decide_eq_true_eq]
          have := HT.out
          rwa [List.take_of_length_le (by rw [LX.out]; omega), List.take_of_length_le (by rw [LY.out]; omega)] at this
        go_wp2
        go_ret
        exact ⟨ret_bool HEQ.out.symm, hb⟩
  · have hb : ((n : Int) != (m : Int)) = true := by simp; omega
    have HNE : Hid (decide (xs = ys) = false) := by
      rw [Hid, decide_eq_false_iff_not]
      intro e; subst e; omega
    clear hx hy hlx hly
    go_enter Tryz.func21, Tryz.ntmps21
    go_wp2
    go_ret
    exact ⟨ret_bool HNE.out.symm, Below.refl _ _⟩


end Go.Dk

