/- The names: the program's Word and the document's. -/
import Derived.Test.YtmlohibhoibgkaaD
namespace Go.Dk
open Go.RowKit Go.Maps Go.MapKept
open Go.Proofs

set_option maxRecDepth 100000 in
theorem reserved_any (s : ByteArray) (w : World) : Calls Try.prog 57 #[.string s] w fun e w' => e = .returned (.bool (reservedL.contains s.data.toList)) ∧ w = w' := by
  go_enter Try.func57, Try.ntmps57
  go_wp2
  all_goals (go_ret; exact ⟨ret_bool (by rw [← ByteArray.toList_eq]; simp_all [reservedL]), rfl⟩)

def wpre (l : List UInt8) : Bool := match l with | [] => true | c :: t => letterB c && t.all wordB

theorem wpre_snoc (l : List UInt8) (c : UInt8) : wpre (l ++ [c]) = (wpre l && (if l = [] then letterB c else wordB c)) := by
  cases l with
  | nil => simp [wpre]
  | cons a t => simp [wpre, List.all_append, Bool.and_assoc]

theorem take_snoc (s : ByteArray) (k : Nat) (h : k < s.size) : s.data.toList.take (k + 1) = s.data.toList.take k ++ [s[k]] := by
  rw [List.take_succ_eq_append_getElem (by simpa using h)]; rfl

theorem take_nil (s : ByteArray) (k : Nat) (h : k < s.size) : s.data.toList.take k = [] ↔ k = 0 := by
  have : s.data.toList.length = s.size := by simp
  rw [List.take_eq_nil_iff]
  constructor
  · rintro (h1 | h1)
    · exact h1
    · rw [h1] at this; simp at this; omega
  · exact .inl

theorem byte_all (p : Int → Bool → Bool → Prop) (h : ∀ n : Fin 256, p (n.val : Int) (letterB (UInt8.ofNat n.val)) (wordB (UInt8.ofNat n.val))) (c : UInt8) : p (c.toNat : Int) (letterB c) (wordB c) := by
  have := h ⟨c.toNat, c.toNat_lt⟩
  simpa using this

theorem or_cases (c : UInt8) : (letterB c = true ∧ 97 ≤ bits .or .u8 (c.toNat : Int) 32 ∧ bits .or .u8 (c.toNat : Int) 32 ≤ 122) ∨ (letterB c = false ∧ bits .or .u8 (c.toNat : Int) 32 < 97) ∨ (letterB c = false ∧ 122 < bits .or .u8 (c.toNat : Int) 32 ∧ decide (bits .or .u8 (c.toNat : Int) 32 ≤ 122) = false) :=
  byte_all (fun n a _ => (a = true ∧ 97 ≤ bits .or .u8 n 32 ∧ bits .or .u8 n 32 ≤ 122) ∨ (a = false ∧ bits .or .u8 n 32 < 97) ∨ (a = false ∧ 122 < bits .or .u8 n 32 ∧ decide (bits .or .u8 n 32 ≤ 122) = false)) (by decide +kernel) c

theorem char_cases (c : UInt8) (h : letterB c = false) :
    (wordB c = true ∧ ((c.toNat : Int) != 95) = false) ∨ (wordB c = true ∧ ((c.toNat : Int) != 95) = true ∧ ((c.toNat : Int) != 39) = false) ∨ (wordB c = true ∧ ((c.toNat : Int) != 95) = true ∧ ((c.toNat : Int) != 39) = true ∧ 48 ≤ (c.toNat : Int) ∧ (c.toNat : Int) ≤ 57) ∨
    (wordB c = false ∧ ((c.toNat : Int) != 95) = true ∧ ((c.toNat : Int) != 39) = true ∧ (c.toNat : Int) < 48) ∨ (wordB c = false ∧ ((c.toNat : Int) != 95) = true ∧ ((c.toNat : Int) != 39) = true ∧ 57 < (c.toNat : Int)) :=
  byte_all (fun n a b => a = false → (b = true ∧ (n != 95) = false) ∨ (b = true ∧ (n != 95) = true ∧ (n != 39) = false) ∨ (b = true ∧ (n != 95) = true ∧ (n != 39) = true ∧ 48 ≤ n ∧ n ≤ 57) ∨
    (b = false ∧ (n != 95) = true ∧ (n != 39) = true ∧ n < 48) ∨ (b = false ∧ (n != 95) = true ∧ (n != 39) = true ∧ 57 < n)) (by decide +kernel) c h

theorem wpre_false {l : List UInt8} {k : Nat} (h : wpre (l.take k) = false) : wpre l = false := by
  cases l with
  | nil => simp [wpre] at h
  | cons a t =>
    cases k with
    | zero => simp [wpre] at h
    | succ k =>
      simp only [List.take_succ_cons, wpre, Bool.and_eq_false_iff, List.all_eq_false] at h ⊢
      rcases h with h | ⟨x, hx, h⟩
      · exact .inl h
      · exact .inr ⟨x, List.mem_of_mem_take hx, h⟩

theorem word_eq (s : ByteArray) : word s = (wpre s.data.toList && decide (1 ≤ s.size) && decide (s.size ≤ 31) && !reservedL.contains s.data.toList) := by
  have hs : s.data.toList.length = s.size := by simp
  unfold word wordL wpre
  rw [← hs]
  cases s.data.toList with
  | nil => simp
  | cons c t => simp

theorem word_false {s : ByteArray} {k : Nat} (h : wpre (s.data.toList.take k) = false) : word s = false := by rw [word_eq, wpre_false h]; simp

set_option maxRecDepth 100000 in
set_option maxHeartbeats 400000 in
theorem word_any (s : ByteArray) (w : World) (hs : s.size ≤ maxLen) : Calls Try.prog 34 #[.string s] w fun e w' => e = .returned (.bool (word s)) ∧ w = w' := by
  unfold maxLen at hs
  go_enter Try.func34, Try.ntmps34
  go_wp2
  go_loop [9] (fun i => ∃ k : Nat, k ≤ s.size ∧ i = .int .i64 k ∧ wpre (s.data.toList.take k) = true) (fun i => s.size - (intOf i).toNat)
  case atStart => exact ⟨0, Nat.zero_le _, rfl, rfl⟩
  case round =>
    obtain ⟨k, hk, rfl, hp⟩ := hrel
    by_cases hlt : k < s.size
    · have hsn := wpre_snoc (s.data.toList.take k) s[k]
      rw [← take_snoc s k hlt, hp, Bool.true_and] at hsn
      have htn := take_nil s k hlt
      have HS : Hid (wpre (s.data.toList.take (k + 1)) = if s.data.toList.take k = [] then letterB s[k] else wordB s[k]) := hsn
      have HT : Hid (s.data.toList.take k = [] ↔ k = 0) := htn
      clear hsn htn hp
      rcases or_cases s[k] with ⟨hl, h1, h2⟩ | ⟨hl, h1⟩ | ⟨hl, h1, h1d⟩
      · have HL : Hid (letterB s[k] = true) := hl
        clear hl
        go_wp2
        go_round
        case rel => exact ⟨k + 1, by omega, by go_num, by rw [HS.out]; split <;> simp [wordB, HL.out]⟩
        case measure => simp [intOf]; omega
      all_goals
        by_cases h0 : k = 0
        · subst h0
          have HL : Hid (word s = false) := word_false (k := 0 + 1) (by rw [HS.out]; simp [hl])
          clear hl
          go_wp2
          go_ret
          exact ⟨ret_bool HL.out.symm, rfl⟩
        · have hk0 : ((k : Int) == 0) = false := by simp; omega
          rcases char_cases _ hl with ⟨hw, h3⟩ | ⟨hw, h3, h4⟩ | ⟨hw, h3, h4, h5, h6⟩ | ⟨hw, h3, h4, h5⟩ | ⟨hw, h3, h4, h5⟩
          iterate 3
            · have HL : Hid (wordB s[k] = true) := hw
              clear hw hl
              go_wp2
              go_round
              case rel => exact ⟨k + 1, by omega, by go_num, by rw [HS.out, if_neg (fun h => h0 (HT.out.1 h))]; exact HL.out⟩
              case measure => simp [intOf]; omega
          all_goals
            have HL : Hid (word s = false) := word_false (k := k + 1) (by rw [HS.out, if_neg (fun h => h0 (HT.out.1 h))]; exact hw)
            clear hw hl
            go_wp2
            go_ret
            exact ⟨ret_bool HL.out.symm, rfl⟩
    · have HP : Hid (wpre s.data.toList = true) := by rw [List.take_of_length_le (by simp; omega)] at hp; exact hp
      clear hp
      have hkk : k = s.size := by omega
      have HK : Hid (k = s.size) := hkk
      clear hkk
      have hd : s.data.toList.length = s.size := by simp
      have HD := Lib.hid hd; clear hd
      by_cases h1 : s.size = 0
      · have he : s.toList = [] := by rw [ByteArray.toList_eq]; exact List.eq_nil_of_length_eq_zero (by rw [HD.out]; exact h1)
        have HL : Hid (word s = false) := by rw [word_eq, h1]; simp [Hid]
        clear h1
        go_wp2
        go_ret
        exact ⟨ret_bool HL.out.symm, rfl⟩
      · have he : s.toList.isEmpty = false := by
          rw [ByteArray.toList_eq]
          cases hx : s.data.toList with
          | nil => have := HD.out; rw [hx] at this; exact absurd this.symm h1
          | cons _ _ => rfl
        have he' : ¬ s.toList = [] := by intro h; rw [h] at he; cases he
        by_cases h2 : s.size ≤ 31
        · have HL : Hid (word s = !reservedL.contains s.data.toList) := by rw [word_eq, HP.out]; simp [Hid, h2]; intro; omega
          go_wp2_with (go_at_call 57; refine (reserved_any _ _).mono ?_; rintro e w' ⟨rfl, rfl⟩)
          go_ret
          exact ⟨ret_bool (by rw [HL.out]; simp), rfl⟩
        · have HL : Hid (word s = false) := by rw [word_eq]; simp [Hid, h2]
          go_wp2
          go_ret
          exact ⟨ret_bool HL.out.symm, rfl⟩


end Go.Dk

