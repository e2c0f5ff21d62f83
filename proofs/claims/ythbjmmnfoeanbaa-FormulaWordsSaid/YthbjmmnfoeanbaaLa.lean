/- FormulaWords: the walk. -/
import Derived.Test.YthbjmmnfoeanbaaS
import Derived.Test.YthbjmmnfoeanbaaV
namespace Go.Dk
open Go.RowKit Go.Maps Go.MapKept
open Go.Proofs hiding intOf

theorem put_atom (s : ByteArray) (h : word s = true) : (put [] ⟨1, s, 0, 0⟩).err = 0 := by
  simp [put, fits, h, List.idxOf?]
theorem put_noatom (s : ByteArray) (h : word s = false) : (put [] ⟨1, s, 0, 0⟩).err = 32 := by
  simp [put, fits, h]

set_option maxRecDepth 100000 in
set_option maxHeartbeats 1000000 in
theorem formulaWords_any (s : ByteArray) (w : World) (hs : s.size ≤ maxLen) : Calls Try.prog 3 #[.string s] w fun e w' => e = .returned (.bool true) ∧ Below w.heap.size w w' := by
  cases hw : word s with
  | true =>
    have he := put_atom s hw
    go_enter Try.func3, Try.ntmps3
    go_wp2_with fail
    refine (new_any 1 (owC w) w).mono ?_
    rintro e w0 ⟨t, ow0, rfl, ht0, hk0, hb0⟩
    go_wp2_with fail
    refine (atom_any 1 _ _ _ _ ht0 s hs).mono ?_
    rintro e w1 ⟨rfl, ow1, hk1, ht1⟩
    have hb1 := kept_below (k := 0) (hk0.trans hk1)
    have HB1 := Lib.hid hb1
    clear hk1 ht1 hb1 hk0 ht0 hb0
    go_wp2_with (first
      | (go_at_call 20; refine (word_any _ _ hs).mono ?_; rintro e w' ⟨rfl, rfl⟩)
      | (go_at_call 21; refine (refWord_any _ _ hs).mono ?_; rintro e w2 ⟨rfl, hb2⟩)
      | (go_at_call 22; refine (heads03_any _).mono ?_; rintro e w3 ⟨rfl, hb3⟩))
    go_ret
    refine ⟨rfl, ?_⟩
    repeat (first | exact HB1.out | refine below_trans ?_ (by assumption))
  | false =>
    have he := put_noatom s hw
    go_enter Try.func3, Try.ntmps3
    go_wp2_with fail
    refine (new_any 1 (owC w) w).mono ?_
    rintro e w0 ⟨t, ow0, rfl, ht0, hk0, hb0⟩
    go_wp2_with fail
    refine (atom_any 1 _ _ _ _ ht0 s hs).mono ?_
    rintro e w1 ⟨rfl, ow1, hk1, ht1⟩
    have hb1 := kept_below (k := 0) (hk0.trans hk1)
    have HB1 := Lib.hid hb1
    clear hk1 ht1 hb1 hk0 ht0 hb0
    go_wp2_with (first
      | (go_at_call 20; refine (word_any _ _ hs).mono ?_; rintro e w' ⟨rfl, rfl⟩)
      | (go_at_call 21; refine (refWord_any _ _ hs).mono ?_; rintro e w2 ⟨rfl, hb2⟩)
      | (go_at_call 22; refine (heads03_any _).mono ?_; rintro e w3 ⟨rfl, hb3⟩))
    go_ret
    refine ⟨rfl, ?_⟩
    repeat (first | exact HB1.out | refine below_trans ?_ (by assumption))

end Go.Dk
