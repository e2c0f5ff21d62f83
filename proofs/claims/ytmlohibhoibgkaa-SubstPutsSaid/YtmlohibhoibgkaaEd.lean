/- From, the program's and the document's. -/
import Derived.Test.YtmlohibhoibgkaaEc
namespace Go.Dk
open Go.RowKit Go.Maps Go.MapKept
open Go.Proofs hiding intOf

/-- The first error of putting rows one behind the other onto acc; 0: none. -/
def fromE : List ND → List ND → Int
  | _, [] => 0
  | acc, n :: r => if (put acc n).err ≠ 0 then (put acc n).err else if (put acc n).id ≠ (acc.length : Int) then 31 else fromE (acc ++ [n]) r

theorem put_new_rows {acc : List ND} {n : ND} (_ok : Ok acc) (he : (put acc n).err = 0) (hi : (put acc n).id = (acc.length : Int)) : (put acc n).rows = acc ++ [n] := by
  unfold put at *
  split at he
  · rename_i hf; simp only at he; exact absurd he hf
  · rename_i hf
    rw [if_neg hf] at hi ⊢
    cases hx : acc.idxOf? n with
    | some i =>
      rw [hx] at hi
      simp only at hi
      have := (List.getElem?_eq_some_iff.1 (get_of_idxOf? hx)).1
      omega
    | none =>
      rw [hx] at hi he
      simp only at hi he ⊢
      split at he
      · cases he
      · rename_i hl; rw [if_neg hl]

theorem fromE_step {rows : List ND} {i : Nat} {n : ND} (hi : rows[i]? = some n) : fromE (rows.take i) (rows.drop i) = if (put (rows.take i) n).err ≠ 0 then (put (rows.take i) n).err else if (put (rows.take i) n).id ≠ ((rows.take i).length : Int) then 31 else fromE (rows.take (i + 1)) (rows.drop (i + 1)) := by
  have hl := (List.getElem?_eq_some_iff.1 hi).1
  have e : rows.drop i = n :: rows.drop (i + 1) := by
    rw [List.drop_eq_getElem_cons hl, (List.getElem?_eq_some_iff.1 hi).2]
  have e2 : rows.take (i + 1) = rows.take i ++ [n] := by rw [List.take_add_one, hi]; rfl
  rw [e, fromE, e2]

/-- The cells of row i of a slice of rows that can be read. -/
theorem nodes_at {w : World} {v : Value} {rows : List ND} (h : Rd w v rows.length 4 (nodeCells rows)) {i : Nat} {n : ND} (hi : rows[i]? = some n) :
    ∃ b o c, v = .slice (some ⟨b, o, none⟩) rows.length c ∧ w.cell? ⟨b, o + i * 4, none⟩ = some (.int .i64 n.kind) ∧ w.cell? ⟨b, o + i * 4 + 1, none⟩ = some (.string n.name) ∧ w.cell? ⟨b, o + i * 4 + 2, none⟩ = some (.int .i64 n.l) ∧ w.cell? ⟨b, o + i * 4 + 3, none⟩ = some (.int .i64 n.r) := by
  have hl := (List.getElem?_eq_some_iff.1 hi).1
  obtain ⟨b, o, c, rfl, hc⟩ := h.some (by omega)
  have e : ∀ j, o + (i * 4 + j) = o + i * 4 + j := fun j => by omega
  exact ⟨b, o, c, rfl, hc _ _ (nodeCells_at rows i n hi 0 (by omega)), by rw [← e]; exact hc _ _ (nodeCells_at rows i n hi 1 (by omega)), by rw [← e]; exact hc _ _ (nodeCells_at rows i n hi 2 (by omega)), by rw [← e]; exact hc _ _ (nodeCells_at rows i n hi 3 (by omega))⟩

/-- What a From comes to. -/
def FromPost (T : Nat → Own → World → Value → List ND → Prop) (k : Nat) (ow : Own) (w : World) (rows : List ND) (e : Ending) (w' : World) : Prop :=
  ∃ v', e = .returned (.tuple #[v', .int .i64 (fromE [] rows)]) ∧ Below w.heap.size w w' ∧ (fromE [] rows = 0 → ∃ ow', Kept k ow w ow' w' ∧ T k ow' w' v' rows) ∧ (fromE [] rows ≠ 0 → v' = .pointer none)

structure FromI (T : Nat → Own → World → Value → List ND → Prop) (w W : World) (t : Value) (rows : List ND) (i : Nat) : Prop where
  ex : ∃ ow', T 1 ow' W t (rows.take i) ∧ Kept 1 (owC w) w ow' W
  eq : fromE [] rows = fromE (rows.take i) (rows.drop i)

theorem FromI.bel {T : Nat → Own → World → Value → List ND → Prop} {w W : World} {t : Value} {rows : List ND} {i : Nat} (h : FromI T w W t rows i) : Below w.heap.size w W := by
  obtain ⟨⟨ow', _, hk⟩, _⟩ := h
  exact kept_below' hk

theorem from_done {T : Nat → Own → World → Value → List ND → Prop} (rec : ∀ {k k2 : Nat} {ow ow2 : Own} {w : World} {t : Value} {rows : List ND}, T k ow w t rows → (∀ b, ow b = k → ow2 b = k2) → T k2 ow2 w t rows)
    {w W : World} {t : Value} {rows : List ND} (h : FromI T w W t rows rows.length) (k : Nat) (ow : Own) : fromE [] rows = 0 ∧ ∃ ow', Kept k ow w ow' W ∧ T k ow' W t rows := by
  have hb := h.bel
  obtain ⟨⟨ow', ht, hk⟩, he⟩ := h
  rw [List.take_length] at ht
  refine ⟨by rw [he]; simp [fromE], fun b => if b < w.heap.size then ow b else k, (hb.kept_ow).recolour (fun b hb => by simp [hb]), rec ht fun b hb' => ?_⟩
  by_cases hl : b < w.heap.size
  · have := hk.own b hl
    rw [hb'] at this
    simp [owC, hl] at this
  · simp [hl]

set_option maxRecDepth 100000 in
set_option maxHeartbeats 400000 in
theorem refFrom_any (k : Nat) (ow : Own) (w : World) (v : Value) (rows : List ND) (hn : ∀ n ∈ rows, n.name.size ≤ maxLen) (hr : Rd w v rows.length 4 (nodeCells rows)) (hm : rows.length ≤ maxLen) :
    Calls Try.prog 27 #[v] w (FromPost RTab k ow w rows) := by
  unfold maxLen at hm
  have HR := Lib.hid hr
  have HN := Lib.hid hn
  obtain ⟨a, c, rfl⟩ := hr.slice
  have h0 : FromI RTab w (w.alloc (.cells #[.slice none 0 0] 69)) (.pointer (some ⟨w.heap.size, 0, none⟩)) rows 0 := by
    refine ⟨⟨owC w, ⟨w.heap.size, .slice none 0 0, rfl, heap_alloc_new w _, .inl (World.ownsRow_nil _ _ _ _), Ok.nil, by simp [owC], fun g h => by simp [Value.ownBlock] at h⟩, (below_alloc w _).kept_ow⟩, rfl⟩
  have H0 := Lib.hid h0
  clear hr hn h0
  go_enter Try.func27, Try.ntmps27
  go_wp2
  go_loopw [5, 6, 7] (fun i _ _ W => ∃ j : Nat, j ≤ rows.length ∧ i = .int .i64 j ∧ FromI RTab w W (.pointer (some ⟨w.heap.size, 0, none⟩)) rows j) (fun i _ _ _ => rows.length - (intOf i).toNat)
  case atStart => exact ⟨0, Nat.zero_le _, rfl, H0.out⟩
  case round =>
    obtain ⟨j, hj, rfl, hI⟩ := hrel
    have HI := Lib.hid hI
    by_cases hlt : j < rows.length
    · obtain ⟨n, hx⟩ : ∃ n, rows[j]? = some n := ⟨_, List.getElem?_eq_getElem hlt⟩
      obtain ⟨b, o, c', hv, d0, d1, d2, d3⟩ := nodes_at (HR.out.below hI.bel) hx
      cases hv
      obtain ⟨ow1, ht1, hk1⟩ := hI.ex
      have hstep := fromE_step hx
      have hlen : (rows.take j).length = j := by simp; omega
      have hnm : n.name.size ≤ maxLen := HN.out n (List.mem_of_getElem? hx)
      have HT1 := Lib.hid ht1; have HK1 := Lib.hid hk1; have HX := Lib.hid hx; have HS := Lib.hid hstep; have HL := Lib.hid hlen
      obtain ⟨kd, nm, l, r⟩ := n
      clear hI ht1 hk1 hx hstep hlen
      by_cases he : (put (rows.take j) ⟨kd, nm, l, r⟩).err = 0
      · by_cases hi : (put (rows.take j) ⟨kd, nm, l, r⟩).id = (j : Int)
        · have HE := Lib.hid he; have HID := Lib.hid hi
          go_wp2_with (go_at_call 54; refine (refPut_any 1 _ _ _ _ HT1.out _ _ _ _ hnm).mono ?_; rintro e w2 ⟨rfl, ow2, hk2, ht2⟩)
          refine ⟨⟨j + 1, by omega, by go_num, ⟨ow2, ?_, HK1.out.trans hk2⟩, ?_⟩, by simp [intOf]; omega⟩
          · have e2 : rows.take (j + 1) = rows.take j ++ [⟨kd, nm, l, r⟩] := by rw [List.take_add_one, HX.out]; rfl
            rw [e2, ← put_new_rows HT1.out.ok HE.out (by rw [HID.out, HL.out])]
            exact ht2
          · rw [HI.out.eq, HS.out, if_neg (by simp [HE.out]), if_neg (by rw [HID.out, HL.out]; simp)]
        · have hb : ((put (rows.take j) ⟨kd, nm, l, r⟩).id != (j : Int)) = true := by simp [hi]
          have HF : Hid (fromE [] rows = 31) := by rw [Hid, HI.out.eq, HS.out, if_neg (by simp [he]), if_pos (by rw [HL.out]; exact hi)]
          go_wp2_with (go_at_call 54; refine (refPut_any 1 _ _ _ _ HT1.out _ _ _ _ hnm).mono ?_; rintro e w2 ⟨rfl, ow2, hk2, ht2⟩)
          go_ret2
          refine ⟨.pointer none, by rw [HF.out]; rfl, kept_below' (HK1.out.trans hk2), (by rw [HF.out]; intro h; cases h), fun _ => rfl⟩
      · have hb : ((put (rows.take j) ⟨kd, nm, l, r⟩).err != 0) = true := by simp [he]
        have HF : Hid (fromE [] rows = (put (rows.take j) ⟨kd, nm, l, r⟩).err) := by rw [Hid, HI.out.eq, HS.out, if_pos he]
        have HE := Lib.hid he
        clear he
        go_wp2_with (go_at_call 54; refine (refPut_any 1 _ _ _ _ HT1.out _ _ _ _ hnm).mono ?_; rintro e w2 ⟨rfl, ow2, hk2, ht2⟩)
        go_ret2
        refine ⟨.pointer none, by rw [HF.out]; rfl, kept_below' (HK1.out.trans hk2), (by rw [HF.out]; intro h; exact absurd h HE.out), fun _ => rfl⟩
    · have hjl : j = rows.length := by omega
      subst hjl
      obtain ⟨f1, f2⟩ := from_done (fun h hc => h.recolour hc) hI k ow
      have HF1 := Lib.hid f1; have HF2 := Lib.hid f2
      clear hI f1 f2
      go_wp2
      go_ret2
      refine ⟨_, by rw [HF1.out]; rfl, HI.out.bel, fun _ => HF2.out, fun h => absurd HF1.out h⟩

set_option maxRecDepth 100000 in
set_option maxHeartbeats 400000 in
theorem from_any (k : Nat) (ow : Own) (w : World) (v : Value) (rows : List ND) (hn : ∀ n ∈ rows, n.name.size ≤ maxLen) (hr : Rd w v rows.length 4 (nodeCells rows)) (hm : rows.length ≤ maxLen) :
    Calls Try.prog 28 #[v] w (FromPost Tab k ow w rows) := by
  unfold maxLen at hm
  have HR := Lib.hid hr
  have HN := Lib.hid hn
  obtain ⟨a, c, rfl⟩ := hr.slice
  clear hr hn
  go_enter Try.func28, Try.ntmps28
  go_wp2_with (go_at_call 29; refine (new_any 1 (owC w) w).mono ?_; rintro e w1 ⟨tc, ow1, rfl, ht1, hk1, hb1⟩)
  have H0 : Hid (FromI Tab w w1 tc rows 0) := ⟨⟨ow1, by simpa using ht1, hk1⟩, rfl⟩
  clear ht1 hk1 hb1
  go_loopw [5, 6, 7, 8, 12] (fun _ _ _ _ i W => ∃ j : Nat, j ≤ rows.length ∧ i = .int .i64 j ∧ FromI Tab w W tc rows j) (fun _ _ _ _ i _ => rows.length - (intOf i).toNat)
  case atStart => exact ⟨0, Nat.zero_le _, rfl, H0.out⟩
  case round =>
    obtain ⟨j, hj, rfl, hI⟩ := hrel
    have HI := Lib.hid hI
    by_cases hlt : j < rows.length
    · obtain ⟨n, hx⟩ : ∃ n, rows[j]? = some n := ⟨_, List.getElem?_eq_getElem hlt⟩
      obtain ⟨b, o, c', hv, d0, d1, d2, d3⟩ := nodes_at (HR.out.below hI.bel) hx
      cases hv
      obtain ⟨ow1, ht1, hk1⟩ := hI.ex
      have hstep := fromE_step hx
      have hlen : (rows.take j).length = j := by simp; omega
      have hnm : n.name.size ≤ maxLen := HN.out n (List.mem_of_getElem? hx)
      have HT1 := Lib.hid (ht1.below (below_alloc wr (.cells #[.int .i64 n.kind, .string n.name, .int .i64 n.l, .int .i64 n.r] 36)))
      have HK1 := Lib.hid (hk1.trans (below_alloc wr (.cells #[.int .i64 n.kind, .string n.name, .int .i64 n.l, .int .i64 n.r] 36)).kept_ow); have HX := Lib.hid hx; have HS := Lib.hid hstep; have HL := Lib.hid hlen
      obtain ⟨kd, nm, l, r⟩ := n
      clear hI ht1 hk1 hx hstep hlen
      by_cases he : (put (rows.take j) ⟨kd, nm, l, r⟩).err = 0
      · by_cases hi : (put (rows.take j) ⟨kd, nm, l, r⟩).id = (j : Int)
        · have HE := Lib.hid he; have HID := Lib.hid hi
          go_wp2_with (go_at_call 55; refine (put_any 1 _ _ _ _ HT1.out _ _ _ _ hnm).mono ?_; rintro e w2 ⟨rfl, ow2, hk2, ht2⟩)
          refine ⟨⟨j + 1, by omega, by go_num, ⟨ow2, ?_, HK1.out.trans hk2⟩, ?_⟩, by simp [intOf]; omega⟩
          · have e2 : rows.take (j + 1) = rows.take j ++ [⟨kd, nm, l, r⟩] := by rw [List.take_add_one, HX.out]; rfl
            rw [e2, ← put_new_rows HT1.out.ok HE.out (by rw [HID.out, HL.out])]
            exact ht2
          · rw [HI.out.eq, HS.out, if_neg (by simp [HE.out]), if_neg (by rw [HID.out, HL.out]; simp)]
        · have hb : ((put (rows.take j) ⟨kd, nm, l, r⟩).id != (j : Int)) = true := by simp [hi]
          have HF : Hid (fromE [] rows = 31) := by rw [Hid, HI.out.eq, HS.out, if_neg (by simp [he]), if_pos (by rw [HL.out]; exact hi)]
          go_wp2_with (go_at_call 55; refine (put_any 1 _ _ _ _ HT1.out _ _ _ _ hnm).mono ?_; rintro e w2 ⟨rfl, ow2, hk2, ht2⟩)
          go_ret2
          refine ⟨.pointer none, by rw [HF.out]; rfl, kept_below' (HK1.out.trans hk2), (by rw [HF.out]; intro h; cases h), fun _ => rfl⟩
      · have hb : ((put (rows.take j) ⟨kd, nm, l, r⟩).err != 0) = true := by simp [he]
        have hb' : ((put (rows.take j) ⟨kd, nm, l, r⟩).err == 0) = false := by simp [he]
        have HF : Hid (fromE [] rows = (put (rows.take j) ⟨kd, nm, l, r⟩).err) := by rw [Hid, HI.out.eq, HS.out, if_pos he]
        have HE := Lib.hid he
        clear he
        go_wp2_with (go_at_call 55; refine (put_any 1 _ _ _ _ HT1.out _ _ _ _ hnm).mono ?_; rintro e w2 ⟨rfl, ow2, hk2, ht2⟩)
        go_ret2
        refine ⟨.pointer none, by rw [HF.out]; rfl, kept_below' (HK1.out.trans hk2), (by rw [HF.out]; intro h; exact absurd h HE.out), fun _ => rfl⟩
    · have hjl : j = rows.length := by omega
      subst hjl
      obtain ⟨f1, f2⟩ := from_done (fun h hc => h.recolour hc) hI k ow
      have HF1 := Lib.hid f1; have HF2 := Lib.hid f2
      clear hI f1 f2
      go_wp2
      go_ret2
      refine ⟨_, by rw [HF1.out]; rfl, HI.out.bel, fun _ => HF2.out, fun h => absurd HF1.out h⟩


end Go.Dk

