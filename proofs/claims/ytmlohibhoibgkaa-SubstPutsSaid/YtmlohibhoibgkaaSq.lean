/- Layer 7: the three images. Written by wip/gensimp.py. -/
import Derived.Test.YtmlohibhoibgkaaSh
namespace Go.Dk
open Go.RowKit Go.Maps Go.MapKept
open Go.Proofs hiding intOf

def strV (s : ByteArray) : Value := .string s
theorem strV_inj : ∀ x y : ByteArray, strV x = strV y → x = y := by
  intro x y h; simpa [strV] using h
theorem lawStr : Keyed Try.prog 9 := string_keyed Try.underlying9
theorem keyStr (s : ByteArray) (h : s.size ≤ maxLen) : keyOf Try.prog 9 (strV s) = some (.string s.data.toList) := Go.WideMaps.keyOf_string_mk Try.underlying9 h
theorem look_str {w : World} {b : Nat} {f : ByteArray → Option Int} (h : TM Try.prog 9 strV intV w b f) (s : ByteArray) (hs : s.size ≤ maxLen) :
    (Instr.lookup 77 (.map (some b)) (.string s) true).run Try.prog w = .ok (.tuple #[.int .i64 ((f s).getD 0), .bool (f s).isSome]) w := by
  cases hf : f s with
  | none => exact h.look_none lawStr strV_inj Try.underlying77 (zeroInt _) (keyStr s hs) true hf
  | some v => exact h.look_some lawStr strV_inj Try.underlying77 (keyStr s hs) true hf

set_option maxRecDepth 100000 in
set_option maxHeartbeats 1000000 in
theorem imgPut_any (ow : Own) (w : World) (t : Value) (rows : List ND) (h : Tab 1 ow w t rows) (b1 b2 nb : Nat) (f : ByteArray → Option Int) (h1 : w.cell? ⟨b1, 0, none⟩ = some (.map (some nb))) (h2 : w.cell? ⟨b2, 0, none⟩ = some t) (hm : TM Try.prog 9 strV intV w nb f) (k : Nat) (kd a b l r : Int) (nm : ByteArray) (hn : nm.size ≤ maxLen) :
    Calls Try.prog 36 #[.int .i64 (k : Int), .agg #[.int .i64 kd, .string nm, .int .i64 a, .int .i64 b], .int .i64 l, .int .i64 r, .pointer (some ⟨b1, 0, none⟩), .pointer (some ⟨b2, 0, none⟩)] w (PutPost 1 ow w t (putOf f rows k ⟨kd, nm, a, b⟩ l r)) := by
  have H := Lib.hid h
  have HE := Lib.hid (putOf_plain f rows k ⟨kd, nm, a, b⟩ l r)
  have hl := look_str (hm.below (below_alloc w (.cells #[.int .i64 kd, .string nm, .int .i64 a, .int .i64 b] 36))) nm hn
  have l1 := World.block_lt_of_cell? w _ h1
  have l2 := World.block_lt_of_cell? w _ h2
  clear h hm hn
  cases hf : f nm with
  | none =>
    rw [hf] at hl
    simp only [Option.getD_none, Option.isSome_none] at hl
    have HEE : Hid (putOf f rows k ⟨kd, nm, a, b⟩ l r = plainP rows k ⟨kd, nm, a, b⟩ l r) := by rw [Hid, HE.out, if_neg (by simp [hf])]
    clear hf HE
    go_enter Try.func36, Try.ntmps36
    go_wp2_with fail
    refine (plain_any ow _ t rows (H.out.below (below_alloc _ _)) k kd a b l r nm).mono ?_
    rintro e w1 hp
    have HP := Lib.hid (PutPost.from (below_alloc _ _) hp)
    obtain ⟨rfl, _⟩ := hp
    go_wp2_with fail
    go_ret2
    rw [HEE.out]
    exact HP.out
  | some x =>
    rw [hf] at hl
    simp only [Option.getD_some, Option.isSome_some] at hl
    by_cases hk : kd = 1
    · have g1 : (kd == 1) = true := by simpa using hk
      have HEE : Hid (putOf f rows k ⟨kd, nm, a, b⟩ l r = ⟨rows, x, 0⟩) := by rw [Hid, HE.out, if_pos ⟨hk, by simp [hf]⟩]; simp [hf]
      clear hf HE hk
      go_enter Try.func36, Try.ntmps36
      go_wp2_with fail
      go_ret2
      rw [HEE.out]
      exact ⟨rfl, ow, (below_alloc _ _).kept_ow, H.out.below (below_alloc _ _)⟩
    · have g1 : (kd == 1) = false := by simpa using hk
      have HEE : Hid (putOf f rows k ⟨kd, nm, a, b⟩ l r = plainP rows k ⟨kd, nm, a, b⟩ l r) := by rw [Hid, HE.out, if_neg (fun h => hk h.1)]
      clear hf HE hk
      go_enter Try.func36, Try.ntmps36
      go_wp2_with fail
      refine (plain_any ow _ t rows (H.out.below (below_alloc _ _)) k kd a b l r nm).mono ?_
      rintro e w1 hp
      have HP := Lib.hid (PutPost.from (below_alloc _ _) hp)
      obtain ⟨rfl, _⟩ := hp
      go_wp2_with fail
      go_ret2
      rw [HEE.out]
      exact HP.out

set_option maxRecDepth 100000 in
set_option maxHeartbeats 1000000 in
theorem imgRepl_any (ow : Own) (w : World) (t : Value) (rows : List ND) (h : Tab 1 ow w t rows) (b1 b2 b3 : Nat) (old by' : Int) (h1 : w.cell? ⟨b1, 0, none⟩ = some (.int .i64 old)) (h2 : w.cell? ⟨b2, 0, none⟩ = some (.int .i64 by')) (h3 : w.cell? ⟨b3, 0, none⟩ = some t) (k : Nat) (kd a b l r : Int) (nm : ByteArray) :
    Calls Try.prog 53 #[.int .i64 (k : Int), .agg #[.int .i64 kd, .string nm, .int .i64 a, .int .i64 b], .int .i64 l, .int .i64 r, .pointer (some ⟨b1, 0, none⟩), .pointer (some ⟨b2, 0, none⟩), .pointer (some ⟨b3, 0, none⟩)] w (PutPost 1 ow w t (replOf old by' rows k ⟨kd, nm, a, b⟩ l r)) := by
  have H := Lib.hid h
  have l1 := World.block_lt_of_cell? w _ h1
  have l2 := World.block_lt_of_cell? w _ h2
  have l3 := World.block_lt_of_cell? w _ h3
  clear h
  by_cases hk : (k : Int) = old
  · have g1 : ((k : Int) == old) = true := by simpa using hk
    have HEE : Hid (replOf old by' rows k ⟨kd, nm, a, b⟩ l r = ⟨rows, by', 0⟩) := by unfold Hid replOf; rw [if_pos hk]
    clear hk
    go_enter Try.func53, Try.ntmps53
    go_wp2_with fail
    go_ret2
    rw [HEE.out]
    exact ⟨rfl, ow, (below_alloc _ _).kept_ow, H.out.below (below_alloc _ _)⟩
  · have g1 : ((k : Int) == old) = false := by simpa using hk
    have HEE : Hid (replOf old by' rows k ⟨kd, nm, a, b⟩ l r = plainP rows k ⟨kd, nm, a, b⟩ l r) := by unfold Hid replOf; rw [if_neg hk]
    clear hk
    go_enter Try.func53, Try.ntmps53
    go_wp2_with fail
    refine (plain_any ow _ t rows (H.out.below (below_alloc _ _)) k kd a b l r nm).mono ?_
    rintro e w1 hp
    have HP := Lib.hid (PutPost.from (below_alloc _ _) hp)
    obtain ⟨rfl, _⟩ := hp
    go_wp2_with fail
    go_ret2
    rw [HEE.out]
    exact HP.out

/-! ### simpler's methods -/
set_option maxRecDepth 100000 in
set_option maxHeartbeats 400000 in
theorem kind07_any (ow : Own) (w : World) (t : Value) (rows : List ND) (h : Tab 1 ow w t rows) (l : Nat) :
    Calls Try.prog 87 #[.agg #[t], .int .i64 (l : Int)] w fun e w' => e = .returned (.int .i64 (rowAt rows l).kind) ∧ Below w.heap.size w w' := by
  have H := Lib.hid h
  clear h
  by_cases hl : l < rows.length
  · have HR := Lib.hid (rowAt_get hl)
    go_enter Try.func87, Try.ntmps87
    go_wp2_with (go_at_call 15; refine (node_yes 1 ow _ _ _ (H.out.below (below_alloc _ _)) _ _ HR.out).mono ?_; rintro e w1 ⟨rfl, hb1⟩; have HB := Lib.hid (below_trans (below_trans (below_alloc w (.cells #[t] 97)) hb1) (below_alloc _ (.cells #[.int .i64 (rowAt rows l).kind, .string (rowAt rows l).name, .int .i64 (rowAt rows l).l, .int .i64 (rowAt rows l).r] 36))); clear hb1)
    go_ret
    exact ⟨rfl, HB.out⟩
  · have hb : hasB rows.length (l : Int) = false := by simp [hasB]; omega
    have HR : Hid (rowAt rows l = ⟨0, ByteArray.empty, 0, 0⟩) := by unfold Hid rowAt; simp [List.getD, List.getElem?_eq_none (Nat.le_of_not_lt hl)]
    go_enter Try.func87, Try.ntmps87
    go_wp2_with (go_at_call 15; refine (node_no 1 ow _ _ _ (H.out.below (below_alloc _ _)) _ hb).mono ?_; rintro e w1 ⟨rfl, hb1⟩; have HB := Lib.hid (below_trans (below_trans (below_alloc w (.cells #[t] 97)) hb1) (below_alloc _ (.cells #[.int .i64 0, .string ⟨#[]⟩, .int .i64 0, .int .i64 0] 36))); clear hb1)
    go_ret
    exact ⟨ret_int (by rw [HR.out]), HB.out⟩

set_option maxRecDepth 100000 in
set_option maxHeartbeats 400000 in
theorem no07_any (ow : Own) (w : World) (t : Value) (rows : List ND) (h : Tab 1 ow w t rows) (l : Nat) :
    Calls Try.prog 64 #[.agg #[t], .int .i64 (l : Int)] w fun e w' => e = .returned (.bool (noB rows (l : Int))) ∧ Below w.heap.size w w' := by
  have H := Lib.hid h
  clear h
  have HV : Hid (noB rows (l : Int) = ((rowAt rows l).kind == 2)) := by
    unfold Hid noB
    simp only [Int.toNat_natCast]
    rfl
  go_enter Try.func64, Try.ntmps64
  go_wp2_with fail
  refine (kind07_any ow _ t rows (H.out.below (below_alloc _ _)) l).mono ?_
  rintro e w1 ⟨rfl, hb1⟩
  have HB := Lib.hid (below_trans (below_alloc _ _) hb1)
  clear hb1
  go_wp2_with fail
  go_ret
  exact ⟨ret_bool HV.out.symm, HB.out⟩

theorem noB_beq (rows : List ND) (l : Nat) : noB rows (l : Int) = ((rowAt rows l).kind == 2) := by
  unfold noB
  simp only [Int.toNat_natCast]
  rfl
set_option maxRecDepth 100000 in
set_option maxHeartbeats 1000000 in
theorem yes07_any (ow : Own) (w : World) (t : Value) (rows : List ND) (h : Tab 1 ow w t rows) (x : Nat) :
    Calls Try.prog 66 #[.agg #[t], .int .i64 (x : Int)] w fun e w' => e = .returned (.bool (yesB rows (x : Int))) ∧ Below w.heap.size w w' := by
  have H := Lib.hid h
  have hok := h.ok
  clear h
  by_cases hl : x < rows.length
  · have hrow := rowAt_get hl
    have hfn := fits_le (hok.fit _ _ hrow)
    have hy : yesB rows (x : Int) = ((rowAt rows x).kind == 5 && noB rows (rowAt rows x).l && noB rows (rowAt rows x).r) := by unfold yesB; simp only [Int.toNat_natCast]; rfl
    generalize rowAt rows x = n at hrow hfn hy
    obtain ⟨kd, nm, l', r'⟩ := n
    simp only at hfn hy
    obtain ⟨l, rfl⟩ := Int.eq_ofNat_of_zero_le hfn.2.2.1.1
    obtain ⟨r, rfl⟩ := Int.eq_ofNat_of_zero_le hfn.2.2.2.1
    rw [noB_beq, noB_beq] at hy
    have HR := Lib.hid hrow
    have HY := Lib.hid hy
    have HKA := Lib.hid (fun W h y => kind07_any ow W t rows h y)
    clear hrow hfn hy hok hl
    by_cases h5 : kd = 5
    · have g5 : (kd == 5) = true := by simpa using h5
      subst h5
      have HL := Lib.hid (HKA.out · · l)
      have HRR := Lib.hid (HKA.out · · r)
      clear HKA
      generalize (rowAt rows l).kind = kl at *
      generalize (rowAt rows r).kind = kr at *
      by_cases hl2 : kl = 2
      · have gl : (kl == 2) = true := by simpa using hl2
        by_cases hr2 : kr = 2
        · have gr : (kr == 2) = true := by simpa using hr2
          have HV : Hid (yesB rows (x : Int) = true) := by rw [Hid, HY.out, gl, gr]; rfl
          clear HY hl2 hr2
          go_enter Try.func66, Try.ntmps66
          go_wp2_with fail
          refine (node_yes 1 ow _ _ _ (H.out.below (below_alloc _ _)) _ _ HR.out).mono ?_
          rintro e w1 ⟨rfl, hb1⟩
          have q0 : w1.cell? ⟨w.heap.size, 0, none⟩ = some t := (hb1.cell (p := ⟨w.heap.size, 0, none⟩) (by simp)).trans (World.cell?_alloc_at _ _ _ _ rfl)
          have z1 : w.heap.size < w1.heap.size := World.block_lt_of_cell? w1 _ q0
          have HB := Lib.hid (below_trans (below_trans (below_alloc w (.cells #[t] 97)) hb1) (below_alloc w1 (.cells #[.int .i64 5, .string nm, .int .i64 (l : Int), .int .i64 (r : Int)] 36)))
          clear hb1
          go_wp2_with fail
          have c0 : (w1.alloc (.cells #[.int .i64 5, .string nm, .int .i64 (l : Int), .int .i64 (r : Int)] 36)).cell? ⟨w.heap.size, 0, none⟩ = some t := (World.cell?_alloc_lt _ _ _ z1).trans q0
          refine (HL.out _ (H.out.below HB.out)).mono ?_
          rintro e w3 ⟨rfl, hb3⟩
          have q0 : w3.cell? ⟨w.heap.size, 0, none⟩ = some t := (hb3.cell (p := ⟨w.heap.size, 0, none⟩) (by simp; omega)).trans c0
          have q3 : w3.cell? ⟨w1.heap.size, 3, none⟩ = some (.int .i64 (r : Int)) := (hb3.cell (p := ⟨w1.heap.size, 3, none⟩) (by simp)).trans (World.cell?_alloc_at _ _ _ _ rfl)
          have HB := Lib.hid (below_trans HB.out hb3)
          clear hb3 c0
          go_wp2_with fail
          refine (HRR.out _ (H.out.below HB.out)).mono ?_
          rintro e w4 ⟨rfl, hb4⟩
          have HB := Lib.hid (below_trans HB.out hb4)
          clear hb4
          go_wp2_with fail
          go_ret
          exact ⟨ret_bool HV.out.symm, HB.out⟩
        · have gr : (kr == 2) = false := by simpa using hr2
          have HV : Hid (yesB rows (x : Int) = false) := by rw [Hid, HY.out, gr]; simp
          clear HY hl2 hr2
          go_enter Try.func66, Try.ntmps66
          go_wp2_with fail
          refine (node_yes 1 ow _ _ _ (H.out.below (below_alloc _ _)) _ _ HR.out).mono ?_
          rintro e w1 ⟨rfl, hb1⟩
          have q0 : w1.cell? ⟨w.heap.size, 0, none⟩ = some t := (hb1.cell (p := ⟨w.heap.size, 0, none⟩) (by simp)).trans (World.cell?_alloc_at _ _ _ _ rfl)
          have z1 : w.heap.size < w1.heap.size := World.block_lt_of_cell? w1 _ q0
          have HB := Lib.hid (below_trans (below_trans (below_alloc w (.cells #[t] 97)) hb1) (below_alloc w1 (.cells #[.int .i64 5, .string nm, .int .i64 (l : Int), .int .i64 (r : Int)] 36)))
          clear hb1
          go_wp2_with fail
          have c0 : (w1.alloc (.cells #[.int .i64 5, .string nm, .int .i64 (l : Int), .int .i64 (r : Int)] 36)).cell? ⟨w.heap.size, 0, none⟩ = some t := (World.cell?_alloc_lt _ _ _ z1).trans q0
          refine (HL.out _ (H.out.below HB.out)).mono ?_
          rintro e w3 ⟨rfl, hb3⟩
          have q0 : w3.cell? ⟨w.heap.size, 0, none⟩ = some t := (hb3.cell (p := ⟨w.heap.size, 0, none⟩) (by simp; omega)).trans c0
          have q3 : w3.cell? ⟨w1.heap.size, 3, none⟩ = some (.int .i64 (r : Int)) := (hb3.cell (p := ⟨w1.heap.size, 3, none⟩) (by simp)).trans (World.cell?_alloc_at _ _ _ _ rfl)
          have HB := Lib.hid (below_trans HB.out hb3)
          clear hb3 c0
          go_wp2_with fail
          refine (HRR.out _ (H.out.below HB.out)).mono ?_
          rintro e w4 ⟨rfl, hb4⟩
          have HB := Lib.hid (below_trans HB.out hb4)
          clear hb4
          go_wp2_with fail
          go_ret
          exact ⟨ret_bool HV.out.symm, HB.out⟩
      · have gl : (kl == 2) = false := by simpa using hl2
        have HV : Hid (yesB rows (x : Int) = false) := by rw [Hid, HY.out, gl]; simp
        clear HY hl2
        go_enter Try.func66, Try.ntmps66
        go_wp2_with fail
        refine (node_yes 1 ow _ _ _ (H.out.below (below_alloc _ _)) _ _ HR.out).mono ?_
        rintro e w1 ⟨rfl, hb1⟩
        have q0 : w1.cell? ⟨w.heap.size, 0, none⟩ = some t := (hb1.cell (p := ⟨w.heap.size, 0, none⟩) (by simp)).trans (World.cell?_alloc_at _ _ _ _ rfl)
        have z1 : w.heap.size < w1.heap.size := World.block_lt_of_cell? w1 _ q0
        have HB := Lib.hid (below_trans (below_trans (below_alloc w (.cells #[t] 97)) hb1) (below_alloc w1 (.cells #[.int .i64 5, .string nm, .int .i64 (l : Int), .int .i64 (r : Int)] 36)))
        clear hb1
        go_wp2_with fail
        have c0 : (w1.alloc (.cells #[.int .i64 5, .string nm, .int .i64 (l : Int), .int .i64 (r : Int)] 36)).cell? ⟨w.heap.size, 0, none⟩ = some t := (World.cell?_alloc_lt _ _ _ z1).trans q0
        refine (HL.out _ (H.out.below HB.out)).mono ?_
        rintro e w3 ⟨rfl, hb3⟩
        have q0 : w3.cell? ⟨w.heap.size, 0, none⟩ = some t := (hb3.cell (p := ⟨w.heap.size, 0, none⟩) (by simp; omega)).trans c0
        have q3 : w3.cell? ⟨w1.heap.size, 3, none⟩ = some (.int .i64 (r : Int)) := (hb3.cell (p := ⟨w1.heap.size, 3, none⟩) (by simp)).trans (World.cell?_alloc_at _ _ _ _ rfl)
        have HB := Lib.hid (below_trans HB.out hb3)
        clear hb3 c0
        go_wp2_with fail
        go_ret
        exact ⟨ret_bool HV.out.symm, HB.out⟩
    · have g5 : (kd == 5) = false := by simpa using h5
      have HV : Hid (yesB rows (x : Int) = false) := by rw [Hid, HY.out, g5]; rfl
      clear HY h5
      go_enter Try.func66, Try.ntmps66
      go_wp2_with fail
      refine (node_yes 1 ow _ _ _ (H.out.below (below_alloc _ _)) _ _ HR.out).mono ?_
      rintro e w1 ⟨rfl, hb1⟩
      have q0 : w1.cell? ⟨w.heap.size, 0, none⟩ = some t := (hb1.cell (p := ⟨w.heap.size, 0, none⟩) (by simp)).trans (World.cell?_alloc_at _ _ _ _ rfl)
      have z1 : w.heap.size < w1.heap.size := World.block_lt_of_cell? w1 _ q0
      have HB := Lib.hid (below_trans (below_trans (below_alloc w (.cells #[t] 97)) hb1) (below_alloc w1 (.cells #[.int .i64 kd, .string nm, .int .i64 (l : Int), .int .i64 (r : Int)] 36)))
      clear hb1
      go_wp2_with fail
      go_ret
      exact ⟨ret_bool HV.out.symm, HB.out⟩
  · have hb : hasB rows.length (x : Int) = false := by simp [hasB]; omega
    have HV : Hid (yesB rows (x : Int) = false) := by
      have : rowAt rows x = ⟨0, ByteArray.empty, 0, 0⟩ := by unfold rowAt; simp [List.getD, List.getElem?_eq_none (Nat.le_of_not_lt hl)]
      unfold Hid yesB
      simp only [Int.toNat_natCast, this]
      rfl
    go_enter Try.func66, Try.ntmps66
    go_wp2_with (go_at_call 15; refine (node_no 1 ow _ _ _ (H.out.below (below_alloc _ _)) _ hb).mono ?_; rintro e w1 ⟨rfl, hb1⟩; have HB := Lib.hid (below_trans (below_trans (below_alloc w (.cells #[t] 97)) hb1) (below_alloc _ (.cells #[.int .i64 0, .string ⟨#[]⟩, .int .i64 0, .int .i64 0] 36))); clear hb1)
    go_ret
    exact ⟨ret_bool HV.out.symm, HB.out⟩

theorem botE : (⟨2, ByteArray.empty, 0, 0⟩ : ND) = ⟨2, ⟨#[]⟩, 0, 0⟩ := rfl
/-- A table's blocks and a box of the call's own: what is put leaves the box. -/
theorem kept_box {ow ow' : Own} {w w' : World} {o : Obj} (h : Kept 1 (fun b => if b < w.heap.size then ow b else 2) (w.alloc o) ow' w') {i : Nat} {v : Value} (hc : (w.alloc o).cell? ⟨w.heap.size, i, none⟩ = some v) : w'.cell? ⟨w.heap.size, i, none⟩ = some v := by
  have e := h.block w.heap.size (by simp) (by simp)
  exact (World.cell?_of_block e).trans hc
theorem tab_box {ow : Own} {w : World} {t : Value} {rows : List ND} (h : Tab 1 ow w t rows) (o : Obj) : Tab 1 (fun b => if b < w.heap.size then ow b else 2) (w.alloc o) t rows :=
  h.kept (((below_alloc w o).kept_ow).recolour (fun b hb => by simp [hb]) : Kept 2 ow w _ _) (by decide)
theorem PutPost.unbox {ow : Own} {w : World} {t : Value} {p : Put} {e : Ending} {w' : World} {o : Obj} (h : PutPost 1 (fun b => if b < w.heap.size then ow b else 2) (w.alloc o) t p e w') : PutPost 1 ow w t p e w' := by
  obtain ⟨he, ow', hk, ht⟩ := h
  exact ⟨he, ow', (((below_alloc w o).kept_ow).recolour (fun b hb => by simp [hb]) : Kept 1 ow w _ _).trans hk, ht⟩

set_option maxRecDepth 100000 in
set_option maxHeartbeats 400000 in
theorem top07_any (ow : Own) (w : World) (t : Value) (rows : List ND) (h : Tab 1 ow w t rows) :
    Calls Try.prog 67 #[.agg #[t]] w (PutPost 1 ow w t (topP rows)) := by
  have H := Lib.hid (tab_box h (.cells #[t] 97))
  clear h
  by_cases hz : (put rows ⟨2, ⟨#[]⟩, 0, 0⟩).err = 0
  · have HE : Hid (topP rows = put (put rows ⟨2, ⟨#[]⟩, 0, 0⟩).rows ⟨5, ⟨#[]⟩, (put rows ⟨2, ⟨#[]⟩, 0, 0⟩).id, (put rows ⟨2, ⟨#[]⟩, 0, 0⟩).id⟩) := by
      unfold Hid topP
      rw [if_neg (by rw [botE]; simpa using hz)]
      rfl
    have gz : ((put rows ⟨2, ⟨#[]⟩, 0, 0⟩).err != 0) = false := by simp [hz]
    clear hz
    go_enter Try.func67, Try.ntmps67
    go_wp2_with fail
    refine (bot_any 1 _ _ _ rows H.out).mono ?_
    rintro e w1 ⟨rfl, ow1, hk1, ht1⟩
    have c1 : w1.cell? ⟨w.heap.size, 0, none⟩ = some t := kept_box hk1 (World.cell?_alloc_at _ _ _ _ rfl)
    have HK1 := Lib.hid hk1; have HT1 := Lib.hid ht1
    clear hk1 ht1
    go_wp2_with fail
    refine (imp_any 1 ow1 _ _ _ HT1.out _ _).mono ?_
    rintro e w2 hp
    have HP : Hid (PutPost 1 ow w t (topP rows) e w2) := by
      rw [Hid, HE.out]
      obtain ⟨he, ow2, hk2, ht2⟩ := hp
      exact PutPost.unbox ⟨he, ow2, HK1.out.trans hk2, ht2⟩
    obtain ⟨rfl, _⟩ := hp
    go_wp2_with fail
    go_ret2
    obtain ⟨_, ow', hk', ht'⟩ := HP.out
    refine ⟨?_, ow', hk', ht'⟩
    rw [HE.out]
    rfl
  · have HE : Hid (topP rows = ⟨(put rows ⟨2, ⟨#[]⟩, 0, 0⟩).rows, 0, (put rows ⟨2, ⟨#[]⟩, 0, 0⟩).err⟩) := by
      unfold Hid topP
      rw [if_pos (by rw [botE]; simpa using hz)]
      rfl
    have gz : ((put rows ⟨2, ⟨#[]⟩, 0, 0⟩).err != 0) = true := by simp [hz]
    clear hz
    go_enter Try.func67, Try.ntmps67
    go_wp2_with fail
    refine (bot_any 1 _ _ _ rows H.out).mono ?_
    rintro e w1 ⟨rfl, ow1, hk1, ht1⟩
    have HK1 := Lib.hid hk1; have HT1 := Lib.hid ht1
    clear hk1 ht1
    go_wp2_with fail
    go_ret2
    rw [HE.out]
    exact PutPost.unbox ⟨rfl, ow1, HK1.out, HT1.out⟩

end Go.Dk

