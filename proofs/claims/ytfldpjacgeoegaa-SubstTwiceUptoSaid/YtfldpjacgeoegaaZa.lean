/- Layer 7: the comparison of names and formulas. -/
import Derived.Test.YtfldpjacgeoegaaSz
namespace Go.Dk
open Go.RowKit Go.Maps Go.MapKept
open Go.Proofs hiding intOf

theorem neHy (w : World) (x y : HY) : (binOp .neq 60 (.agg #[.string x.name, .int .i64 x.form]) (.agg #[.string y.name, .int .i64 y.form])).run Try.prog w = .ok (.bool (!decide (x = y))) w := by
  go_simp
  obtain ⟨a, b⟩ := x
  obtain ⟨a', b'⟩ := y
  simp only [HY.mk.injEq]
  by_cases h1 : a = a' <;> by_cases h2 : b = b' <;> simp [h1, h2, bytes_ext]
theorem take_same {l m : List HY} {j : Nat} {x : HY} (h : l.take j = m.take j) (h1 : l[j]? = some x) (h2 : m[j]? = some x) : l.take (j + 1) = m.take (j + 1) := by
  rw [List.take_add_one, List.take_add_one, h, h1, h2]

set_option maxRecDepth 100000 in
set_option maxHeartbeats 800000 in
theorem hyps_any (w : World) (v u : Value) (l m : List HY) (hv : Rd w v l.length 2 (hyCells l)) (hu : Rd w u m.length 2 (hyCells m)) (hl : l.length ≤ 9223372036854775807) (hm : m.length ≤ 9223372036854775807) :
    Calls Try.prog 31 #[v, u] w fun e w' => e = .returned (.bool (decide (l = m))) ∧ Below w.heap.size w w' := by
  have HV := Lib.hid hv
  have HU := Lib.hid hu
  obtain ⟨va, vc, rfl⟩ := hv.slice
  obtain ⟨ua, uc, rfl⟩ := hu.slice
  clear hv hu
  by_cases he : l.length = m.length
  · have hme : ((l.length : Int) == (m.length : Int)) = true := by simp [he]
    have HE := Lib.hid he
    go_enter Try.func31, Try.ntmps31
    go_wp2_with fail
    go_loopw [5] (fun i W => ∃ j : Nat, j ≤ l.length ∧ i = .int .i64 (j : Int) ∧ l.take j = m.take j ∧ Below w.heap.size w W) (fun i _ => l.length - (intOf i).toNat)
    case atStart => exact ⟨0, Nat.zero_le _, rfl, rfl, Below.refl _ _⟩
    case round =>
      obtain ⟨j, hj, rfl, ht, hb⟩ := hrel
      have HT := Lib.hid ht; have HB := Lib.hid hb
      clear ht hb
      by_cases hlt : j < l.length
      · obtain ⟨b, o, c1, x, e1, x0, x1, hx⟩ := hy_at (HV.out.below HB.out) hlt
        obtain ⟨b', o', c2, y, e2, y0, y1, hy⟩ := hy_at (HU.out.below HB.out) (show j < m.length by omega)
        cases e1; cases e2
        have hjl : (j : Int) < (l.length : Int) := by omega
        have hjm : (j : Int) < (m.length : Int) := by omega
        have HX := Lib.hid hx; have HY' := Lib.hid hy
        clear hx hy hme he
        have hq := fun W => neHy W x y
        obtain ⟨xn, xf⟩ := x
        obtain ⟨yn, yf⟩ := y
        simp only at x0 x1 y0 y1 hq
        go_wp2
        go_quiet (fail)
        go_wp2
        · rename_i hne
          go_ret
          have hF : decide (l = m) = false := by
            simp only [decide_eq_false_iff_not]
            intro e
            have h1 := HX.out
            rw [e, HY'.out] at h1
            simp only [Option.some.injEq, HY.mk.injEq] at h1
            obtain ⟨rfl, rfl⟩ := h1
            simp at hne
          exact ⟨ret_bool hF.symm, below_trans HB.out (below_drewN _ _)⟩
        · rename_i heq
          have h2 : xn = yn ∧ xf = yf := by simpa using heq
          obtain ⟨rfl, rfl⟩ := h2
          exact ⟨⟨j + 1, by omega, by go_num, take_same HT.out HX.out HY'.out, below_trans HB.out (below_drewN _ _)⟩, by simp [intOf]; omega⟩
      · have HF : Hid (decide (l = m) = true) := by
          unfold Hid
          simp only [decide_eq_true_eq]
          have := HT.out
          rwa [List.take_of_length_le (by omega), List.take_of_length_le (by have := HE.out; omega)] at this
        go_wp2
        go_ret
        exact ⟨ret_bool HF.out.symm, HB.out⟩
  · have hme : ((l.length : Int) == (m.length : Int)) = false := by simp; omega
    have HF : Hid (decide (l = m) = false) := by
      unfold Hid
      simp only [decide_eq_false_iff_not]
      intro e; exact he (by rw [e])
    go_enter Try.func31, Try.ntmps31
    go_wp2_with fail
    go_ret
    exact ⟨ret_bool HF.out.symm, Below.refl _ _⟩

end Go.Dk

