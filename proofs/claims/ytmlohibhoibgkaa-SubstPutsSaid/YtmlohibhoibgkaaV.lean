/- The document's Word. -/
import Derived.Test.YtmlohibhoibgkaaW
namespace Go.Dk
open Go.RowKit Go.Maps Go.MapKept
open Go.Proofs

/-! ### the document's -/
set_option maxRecDepth 100000 in
theorem letter_any (c : UInt8) (w : World) : Calls Try.prog 72 #[.int .u8 (c.toNat : Int)] w fun e w' => e = .returned (.bool (letterB c)) ∧ w = w' := by
  have h : letterB c = (decide (97 ≤ (c.toNat : Int)) && decide ((c.toNat : Int) ≤ 122) || decide (65 ≤ (c.toNat : Int)) && decide ((c.toNat : Int) ≤ 90)) := by
    rw [Bool.eq_iff_iff]; simp [letterB, UInt8.le_iff_toNat_le]; omega
  have H := Lib.hid h; clear h
  by_cases h1 : 97 ≤ (c.toNat : Int) <;> by_cases h2 : (c.toNat : Int) ≤ 122 <;> by_cases h3 : 65 ≤ (c.toNat : Int) <;> by_cases h4 : (c.toNat : Int) ≤ 90
  all_goals first
    | (exfalso; omega)
    | (go_enter Try.func72, Try.ntmps72
       go_wp2
       go_ret
       exact ⟨ret_bool (by rw [H.out]; simp; omega), rfl⟩)

def resAt (k : Nat) : ByteArray := ⟨(reservedL.getD k []).toArray⟩

theorem resAt_contains (s : ByteArray) (k : Nat) (hk : k < 12) (h : ((resAt k).toList == s.toList) = true) : reservedL.contains s.data.toList = true := by
  have h1 : (resAt k).data.toList = s.data.toList := by simpa [ByteArray.toList_eq] using h
  rw [← h1]
  simp only [resAt, List.contains_iff_mem]
  have : k < reservedL.length := hk
  simp [this]

theorem resAt_not (s : ByteArray) (h : ∀ k, k < 12 → ((resAt k).toList == s.toList) = false) : reservedL.contains s.data.toList = false := by
  rw [← Bool.not_eq_true, List.contains_iff_mem]
  intro hm
  obtain ⟨k, hk, e⟩ := List.getElem_of_mem hm
  have := h k hk
  rw [ByteArray.toList_eq, ByteArray.toList_eq] at this
  simp [resAt, List.getD_eq_getElem?_getD, hk, e] at this

set_option maxRecDepth 100000 in
theorem reservedRow_any (w : World) : Calls Try.prog 73 #[] w fun e w' => e = .returned (.slice (some ⟨w.heap.size, 0, none⟩) 12 12) ∧ Below w.heap.size w w' ∧ ∀ k, k < 12 → w'.cell? ⟨w.heap.size, k, none⟩ = some (.string (resAt k)) := by
  go_enter Try.func73, Try.ntmps73
  go_wp2
  go_ret
  refine ⟨rfl, below_alloc _ _, fun k hk => ?_⟩
  rw [World.cell?_alloc_at _ _ _ _ rfl]
  match k, hk with
  | 0, _ => rfl
  | 1, _ => rfl
  | 2, _ => rfl
  | 3, _ => rfl
  | 4, _ => rfl
  | 5, _ => rfl
  | 6, _ => rfl
  | 7, _ => rfl
  | 8, _ => rfl
  | 9, _ => rfl
  | 10, _ => rfl
  | 11, _ => rfl

theorem char2 (c : UInt8) : wordB c = (letterB c || (decide (48 ≤ (c.toNat : Int)) && decide ((c.toNat : Int) ≤ 57)) || !((c.toNat : Int) != 95) || !((c.toNat : Int) != 39)) :=
  byte_all (fun n a b => b = (a || (decide (48 ≤ n) && decide (n ≤ 57)) || !(n != 95) || !(n != 39))) (by decide +kernel) c

set_option maxRecDepth 100000 in
set_option maxHeartbeats 800000 in
theorem refWord_any (s : ByteArray) (w : World) (hs : s.size ≤ maxLen) : Calls Try.prog 50 #[.string s] w fun e w' => e = .returned (.bool (word s)) ∧ Below w.heap.size w w' := by
  unfold maxLen at hs
  by_cases h1 : s.size < 1
  · have HL : Hid (word s = false) := by rw [word_eq]; simp [Hid]; omega
    go_enter Try.func50, Try.ntmps50
    go_wp2
    go_ret
    exact ⟨ret_bool HL.out.symm, Below.refl _ _⟩
  by_cases h2 : 31 < s.size
  · have HL : Hid (word s = false) := by rw [word_eq]; simp [Hid]; omega
    go_enter Try.func50, Try.ntmps50
    go_wp2
    go_ret
    exact ⟨ret_bool HL.out.symm, Below.refl _ _⟩
  have h0 : 0 < s.size := by omega
  have hp1 : wpre (s.data.toList.take (0 + 1)) = letterB s[0] := by rw [take_snoc s 0 h0, wpre_snoc]; simp [wpre]
  cases hl0 : letterB s[0] with
  | false =>
    have HL : Hid (word s = false) := word_false (k := 0 + 1) (by rw [hp1, hl0])
    clear hp1
    go_enter Try.func50, Try.ntmps50
    go_wp2_with (go_at_call 72; refine (letter_any _ _).mono ?_; rintro e w' ⟨rfl, rfl⟩)
    go_ret
    exact ⟨ret_bool HL.out.symm, Below.refl _ _⟩
  | true =>
    have HP1 : Hid (wpre (s.data.toList.take (0 + 1)) = true) := by rw [hp1, hl0]; rfl
    clear hp1
    go_enter Try.func50, Try.ntmps50
    go_wp2_with (go_at_call 72; refine (letter_any _ _).mono ?_; rintro e w' ⟨rfl, rfl⟩)
    go_loop [3] (fun i => ∃ k : Nat, 1 ≤ k ∧ k ≤ s.size ∧ i = .int .i64 k ∧ wpre (s.data.toList.take k) = true) (fun i => s.size - (intOf i).toNat)
    case atStart => exact ⟨1, Nat.le_refl _, by omega, rfl, HP1.out⟩
    case round =>
      obtain ⟨k, hk1, hk, rfl, hp⟩ := hrel
      clear hl0
      by_cases hlt : k < s.size
      · have hsn := wpre_snoc (s.data.toList.take k) s[k]
        rw [← take_snoc s k hlt, hp, Bool.true_and, if_neg (fun h => by have := (take_nil s k hlt).1 h; omega)] at hsn
        have HS : Hid (wpre (s.data.toList.take (k + 1)) = wordB s[k]) := hsn
        have HC : Hid (wordB s[k] = (letterB s[k] || (decide (48 ≤ (s[k].toNat : Int)) && decide ((s[k].toNat : Int) ≤ 57)) || !((s[k].toNat : Int) != 95) || !((s[k].toNat : Int) != 39))) := char2 _
        clear hsn hp
        cases hl : letterB s[k] with
        | true =>
          have HL : Hid (wordB s[k] = true) := by rw [Hid, HC.out, hl]; rfl
          clear HC
          go_wp2_with (go_at_call 72; refine (letter_any _ _).mono ?_; rintro e w' ⟨rfl, rfl⟩)
          go_round
          case rel => exact ⟨k + 1, by omega, by omega, by go_num, by rw [HS.out]; exact HL.out⟩
          case measure => simp [intOf]; omega
        | false =>
          rcases char_cases _ hl with ⟨hw, h3⟩ | ⟨hw, h3, h4⟩ | ⟨hw, h3, h4, h5, h6⟩ | ⟨hw, h3, h4, h5⟩ | ⟨hw, h3, h4, h5⟩
          iterate 3
            · have HL : Hid (wordB s[k] = true) := hw
              clear hw HC
              go_wp2_with (go_at_call 72; refine (letter_any _ _).mono ?_; rintro e w' ⟨rfl, rfl⟩)
              all_goals
                go_round
                case rel => exact ⟨k + 1, by omega, by omega, by go_num, by rw [HS.out]; exact HL.out⟩
                case measure => simp [intOf]; omega
          all_goals
            have HL : Hid (word s = false) := word_false (k := k + 1) (by rw [HS.out]; exact hw)
            clear hw HC
            try (have hd57 : decide ((s[k].toNat : Int) ≤ 57) = false := by simp; omega)
            go_wp2_with (go_at_call 72; refine (letter_any _ _).mono ?_; rintro e w' ⟨rfl, rfl⟩)
            go_ret
            exact ⟨ret_bool HL.out.symm, Below.refl _ _⟩
      · have HP : Hid (wpre s.data.toList = true) := by rw [List.take_of_length_le (by simp; omega)] at hp; exact hp
        clear hp
        go_wp2_with (go_at_call 73; refine (reservedRow_any _).mono ?_; rintro e w1 ⟨rfl, hb1, hc1⟩)
        have HC1 := Lib.hid hc1; clear hc1
        go_loop [5] (fun i => ∃ j : Nat, j ≤ 12 ∧ i = .int .i64 j ∧ ∀ m, m < j → ((resAt m).toList == s.toList) = false) (fun i => 12 - (intOf i).toNat)
        case atStart => exact ⟨0, by omega, rfl, fun m hm => absurd hm (by omega)⟩
        case round =>
          obtain ⟨j, hj, rfl, hno⟩ := hrel
          have HN := Lib.hid hno; clear hno
          by_cases hlt2 : j < 12
          · have hc := HC1.out j hlt2
            cases hq : ((resAt j).toList == s.toList) with
            | true =>
              have HL : Hid (word s = false) := by rw [Hid, word_eq, resAt_contains s j hlt2 hq]; simp
              go_wp2
              go_ret
              exact ⟨ret_bool HL.out.symm, hb1⟩
            | false =>
              have HQ := Lib.hid hq
              go_wp2
              go_round
              case rel => exact ⟨j + 1, by omega, by go_num, fun m hm => by
                rcases Nat.lt_or_eq_of_le (Nat.le_of_lt_succ hm) with h | h
                · exact HN.out m h
                · rw [h]; exact HQ.out⟩
              case measure => simp [intOf]; omega
          · have HL : Hid (word s = true) := by
              rw [Hid, word_eq, HP.out, resAt_not s (fun m hm => HN.out m (by omega))]; simp; omega
            go_wp2
            go_ret
            exact ⟨ret_bool HL.out.symm, hb1⟩


end Go.Dk

