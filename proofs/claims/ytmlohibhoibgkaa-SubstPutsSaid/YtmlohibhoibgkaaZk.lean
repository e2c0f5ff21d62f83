/- The document's layer 7: what simpler asks. -/
import Derived.Test.YtmlohibhoibgkaaSg
import Derived.Test.YtmlohibhoibgkaaEc
import Derived.Test.YtmlohibhoibgkaaSm
import Derived.Test.YtmlohibhoibgkaaO
namespace Go.Dk
open Go.RowKit Go.Maps Go.MapKept
open Go.Proofs hiding intOf

section
variable (k : Nat) (ow : Own) (w : World) (t : Value) (rows : List ND) (h : RTab k ow w t rows)
include h

set_option maxRecDepth 100000 in
theorem bot07_any (i : Nat) (hi : i < rows.length) : Calls Try.prog 68 #[t, .int .i64 (i : Int)] w fun e w' => e = .returned (.bool (noB rows (i : Int))) ∧ w = w' := by
  obtain ⟨rb, v, rfl, ht⟩ := h
  have hok := ht.ok.le
  obtain ⟨g, c, rfl, ⟨cp, d0, d1, d2, d3⟩⟩ := ht.row (rowAt_get hi)
  have hii : (i : Int) < (rows.length : Int) := by omega
  have HE : Hid (noB rows (i : Int) = ((rowAt rows i).kind == 2)) := by
    unfold Hid noB
    rw [Int.toNat_natCast]
    by_cases e : (rowAt rows i).kind = 2 <;> simp [e]
  generalize rowAt rows i = n at *
  clear ht
  go_enter Try.func68, Try.ntmps68
  go_wp2_with fail
  go_ret
  exact ⟨ret_bool HE.out.symm, rfl⟩

set_option maxRecDepth 100000 in
theorem rtop07_any : Calls Try.prog 70 #[t] w (RPutPost k ow w t (topP rows)) := by
  have H := Lib.hid h
  clear h
  go_enter Try.func70, Try.ntmps70
  go_wp2_with fail
  refine (refBot_any k ow w t rows H.out).mono ?_
  rintro e w1 ⟨rfl, ow1, hk1, ht1⟩
  have HE : Hid (topP rows = if (put rows ⟨2, ByteArray.empty, 0, 0⟩).err ≠ 0 then ⟨(put rows ⟨2, ByteArray.empty, 0, 0⟩).rows, 0, (put rows ⟨2, ByteArray.empty, 0, 0⟩).err⟩ else put (put rows ⟨2, ByteArray.empty, 0, 0⟩).rows ⟨5, ByteArray.empty, (put rows ⟨2, ByteArray.empty, 0, 0⟩).id, (put rows ⟨2, ByteArray.empty, 0, 0⟩).id⟩) := rfl
  rw [show (⟨#[]⟩ : ByteArray) = ByteArray.empty from rfl] at ht1 ⊢
  have HT1 := Lib.hid ht1
  have HK1 := Lib.hid hk1
  clear ht1 hk1
  generalize put rows ⟨2, ByteArray.empty, 0, 0⟩ = p at *
  by_cases he : p.err = 0
  · rw [if_neg (by simp [he])] at HE
    rw [he]
    go_wp2_with fail
    refine (refImp_any k ow1 w1 t p.rows HT1.out p.id p.id).mono ?_
    rintro e w2 ⟨rfl, ow2, hk2, ht2⟩
    rw [show (⟨#[]⟩ : ByteArray) = ByteArray.empty from rfl] at ht2 ⊢
    rw [← HE.out] at ht2 ⊢
    have HT2 := Lib.hid ht2
    have HK2 := Lib.hid (HK1.out.trans hk2)
    clear ht2 hk2
    go_wp2_with fail
    go_ret2
    exact ⟨rfl, ow2, HK2.out, HT2.out⟩
  · rw [if_pos he] at HE
    go_wp2_with fail
    go_ret2
    rw [HE.out]
    exact ⟨rfl, ow1, HK1.out, HT1.out⟩

set_option maxRecDepth 100000 in
theorem isTop07_any (i : Nat) (hi : i < rows.length) : Calls Try.prog 69 #[t, .int .i64 (i : Int)] w fun e w' => e = .returned (.bool (yesB rows (i : Int))) ∧ w = w' := by
  have H := Lib.hid h
  have hok := h.ok
  have HB := Lib.hid (fun (x : Nat) (hx : x < rows.length) => bot07_any k ow w t rows h x hx)
  obtain ⟨rb, v, rfl, ht⟩ := h
  have hle := hok.le
  obtain ⟨g, c, rfl, ⟨cp, d0, d1, d2, d3⟩⟩ := ht.row (rowAt_get hi)
  have hii : (i : Int) < (rows.length : Int) := by omega
  have HE : Hid (yesB rows (i : Int) = ((rowAt rows i).kind == 5 && noB rows (rowAt rows i).l && noB rows (rowAt rows i).r)) := by
    unfold Hid yesB
    rw [Int.toNat_natCast]
    by_cases e : (rowAt rows i).kind = 5 <;> simp [e]
  have hparts := fun h3 => hok.parts (rowAt_get hi) h3
  generalize rowAt rows i = n at *
  clear ht
  by_cases h5 : n.kind = 5
  · have g5 : (n.kind == 5) = true := by simpa using h5
    obtain ⟨⟨p1, p2⟩, p3, p4⟩ := hparts (by omega)
    obtain ⟨kd, nm, l, r⟩ := n
    simp only at *
    obtain ⟨l, rfl⟩ := Int.eq_ofNat_of_zero_le p1
    obtain ⟨r, rfl⟩ := Int.eq_ofNat_of_zero_le p3
    have BL := Lib.hid (HB.out l (by omega))
    have BR := Lib.hid (HB.out r (by omega))
    rw [g5, Bool.true_and] at HE
    clear h5 hparts HB
    cases hl : noB rows (l : Int) with
    | false =>
      rw [hl] at HE BL
      clear hl
      go_enter Try.func69, Try.ntmps69
      go_wp2_with (go_at_call_of 68 (l : Int); refine BL.out.mono ?_; rintro e w' ⟨rfl, rfl⟩)
      go_ret
      exact ⟨ret_bool HE.out.symm, rfl⟩
    | true =>
      rw [hl, Bool.true_and] at HE
      rw [hl] at BL
      clear hl
      generalize noB rows (r : Int) = br at *
      go_enter Try.func69, Try.ntmps69
      go_wp2_with fail
      refine BL.out.mono ?_
      rintro e w' ⟨rfl, rfl⟩
      go_wp2_with fail
      refine BR.out.mono ?_
      rintro e w' ⟨rfl, rfl⟩
      go_wp2_with fail
      go_ret
      exact ⟨ret_bool HE.out.symm, rfl⟩
  · have g5 : (n.kind == 5) = false := by simpa using h5
    rw [g5] at HE
    clear h5 hparts HB
    go_enter Try.func69, Try.ntmps69
    go_wp2_with fail
    go_ret
    exact ⟨ret_bool HE.out.symm, rfl⟩

end


end Go.Dk


/- The document's layer 7: what is simpler. -/
namespace Go.Dk
open Go.RowKit Go.Maps Go.MapKept
open Go.Proofs hiding intOf

set_option maxRecDepth 100000 in
set_option maxHeartbeats 4000000 in
theorem simpler07_3 (k : Nat) (ow : Own) (w : World) (t : Value) (rows : List ND) (h : RTab k ow w t rows) (l r x : Nat) (nm : ByteArray) (a b : Int) (hl : l < rows.length) (hr : r < rows.length) :
    Calls Try.prog 48 #[t, .int .i64 3, .int .i64 (l : Int), .int .i64 (r : Int)] w (RPutPost k ow w t (simpOf rows x ⟨3, nm, a, b⟩ (l : Int) (r : Int))) := by
  have H := Lib.hid h
  have BL := Lib.hid (bot07_any k ow w t rows h l hl)
  have BR := Lib.hid (bot07_any k ow w t rows h r hr)
  have TL := Lib.hid (isTop07_any k ow w t rows h l hl)
  have TR := Lib.hid (isTop07_any k ow w t rows h r hr)
  have TP := Lib.hid (rtop07_any k ow w t rows h)
  have TW := Lib.hid (refTwo_any k ow w t rows h 3 (l : Int) (r : Int))
  have HS : Hid (∃ s, simpOf rows x ⟨3, nm, a, b⟩ (l : Int) (r : Int) = s) := ⟨_, rfl⟩
  obtain ⟨s, hs⟩ := HS.out
  rw [hs]
  unfold simpOf at hs
  clear h hl hr HS
  have e0 : (⟨#[]⟩ : ByteArray) = ByteArray.empty := rfl
  rw [e0] at TW
  clear e0
  generalize noB rows (l : Int) = bl at *
  generalize noB rows (r : Int) = br at *
  generalize yesB rows (l : Int) = yl at *
  generalize yesB rows (r : Int) = yr at *
  by_cases hq : (l : Int) = (r : Int)
  all_goals
    have hqb : ((l : Int) == (r : Int)) = decide ((l : Int) = (r : Int)) := rfl
    simp only [hq, decide_true, decide_false] at hqb
    cases bl <;> cases br <;> cases yl <;> cases yr
    all_goals
      as_aux_lemma =>
      simp [hq] at hs
      have HE := Lib.hid hs
      clear hs
      go_enter Try.func48, Try.ntmps48
      go_wp2_with (first
        | (go_at_call_of 68 (Value.int IntKind.i64 (l : Int)); refine BL.out.mono ?_; rintro e w' ⟨rfl, rfl⟩)
        | (go_at_call_of 68 (Value.int IntKind.i64 (r : Int)); refine BR.out.mono ?_; rintro e w' ⟨rfl, rfl⟩)
        | (go_at_call_of 69 (Value.int IntKind.i64 (l : Int)); refine TL.out.mono ?_; rintro e w' ⟨rfl, rfl⟩)
        | (go_at_call_of 69 (Value.int IntKind.i64 (r : Int)); refine TR.out.mono ?_; rintro e w' ⟨rfl, rfl⟩)
        | (go_at_call 70; refine TP.out.mono ?_; rintro e w1 hp; have HP := Lib.hid hp; obtain ⟨rfl, _⟩ := hp)
        | (go_at_call 52; refine TW.out.mono ?_; rintro e w1 hp; have HP := Lib.hid hp; obtain ⟨rfl, _⟩ := hp))
      go_ret2
      rw [← HE.out]
      first
        | exact HP.out
        | exact ⟨rfl, ow, Kept.refl _ _ _, H.out⟩
        | exact ⟨by rw [hq], ow, Kept.refl _ _ _, H.out⟩
set_option maxRecDepth 100000 in
set_option maxHeartbeats 4000000 in
theorem simpler07_4 (k : Nat) (ow : Own) (w : World) (t : Value) (rows : List ND) (h : RTab k ow w t rows) (l r x : Nat) (nm : ByteArray) (a b : Int) (hl : l < rows.length) (hr : r < rows.length) :
    Calls Try.prog 48 #[t, .int .i64 4, .int .i64 (l : Int), .int .i64 (r : Int)] w (RPutPost k ow w t (simpOf rows x ⟨4, nm, a, b⟩ (l : Int) (r : Int))) := by
  have H := Lib.hid h
  have BL := Lib.hid (bot07_any k ow w t rows h l hl)
  have BR := Lib.hid (bot07_any k ow w t rows h r hr)
  have TL := Lib.hid (isTop07_any k ow w t rows h l hl)
  have TR := Lib.hid (isTop07_any k ow w t rows h r hr)
  have TP := Lib.hid (rtop07_any k ow w t rows h)
  have TW := Lib.hid (refTwo_any k ow w t rows h 4 (l : Int) (r : Int))
  have HS : Hid (∃ s, simpOf rows x ⟨4, nm, a, b⟩ (l : Int) (r : Int) = s) := ⟨_, rfl⟩
  obtain ⟨s, hs⟩ := HS.out
  rw [hs]
  unfold simpOf at hs
  clear h hl hr HS
  have e0 : (⟨#[]⟩ : ByteArray) = ByteArray.empty := rfl
  rw [e0] at TW
  clear e0
  generalize noB rows (l : Int) = bl at *
  generalize noB rows (r : Int) = br at *
  generalize yesB rows (l : Int) = yl at *
  generalize yesB rows (r : Int) = yr at *
  by_cases hq : (l : Int) = (r : Int)
  all_goals
    have hqb : ((l : Int) == (r : Int)) = decide ((l : Int) = (r : Int)) := rfl
    simp only [hq, decide_true, decide_false] at hqb
    cases bl <;> cases br <;> cases yl <;> cases yr
    all_goals
      as_aux_lemma =>
      simp [hq] at hs
      have HE := Lib.hid hs
      clear hs
      go_enter Try.func48, Try.ntmps48
      go_wp2_with (first
        | (go_at_call_of 68 (Value.int IntKind.i64 (l : Int)); refine BL.out.mono ?_; rintro e w' ⟨rfl, rfl⟩)
        | (go_at_call_of 68 (Value.int IntKind.i64 (r : Int)); refine BR.out.mono ?_; rintro e w' ⟨rfl, rfl⟩)
        | (go_at_call_of 69 (Value.int IntKind.i64 (l : Int)); refine TL.out.mono ?_; rintro e w' ⟨rfl, rfl⟩)
        | (go_at_call_of 69 (Value.int IntKind.i64 (r : Int)); refine TR.out.mono ?_; rintro e w' ⟨rfl, rfl⟩)
        | (go_at_call 70; refine TP.out.mono ?_; rintro e w1 hp; have HP := Lib.hid hp; obtain ⟨rfl, _⟩ := hp)
        | (go_at_call 52; refine TW.out.mono ?_; rintro e w1 hp; have HP := Lib.hid hp; obtain ⟨rfl, _⟩ := hp))
      go_ret2
      rw [← HE.out]
      first
        | exact HP.out
        | exact ⟨rfl, ow, Kept.refl _ _ _, H.out⟩
        | exact ⟨by rw [hq], ow, Kept.refl _ _ _, H.out⟩
set_option maxRecDepth 100000 in
set_option maxHeartbeats 4000000 in
theorem simpler07_5 (k : Nat) (ow : Own) (w : World) (t : Value) (rows : List ND) (h : RTab k ow w t rows) (l r x : Nat) (nm : ByteArray) (a b : Int) (hl : l < rows.length) (hr : r < rows.length) :
    Calls Try.prog 48 #[t, .int .i64 5, .int .i64 (l : Int), .int .i64 (r : Int)] w (RPutPost k ow w t (simpOf rows x ⟨5, nm, a, b⟩ (l : Int) (r : Int))) := by
  have H := Lib.hid h
  have BL := Lib.hid (bot07_any k ow w t rows h l hl)
  have BR := Lib.hid (bot07_any k ow w t rows h r hr)
  have TL := Lib.hid (isTop07_any k ow w t rows h l hl)
  have TR := Lib.hid (isTop07_any k ow w t rows h r hr)
  have TP := Lib.hid (rtop07_any k ow w t rows h)
  have TW := Lib.hid (refTwo_any k ow w t rows h 5 (l : Int) (r : Int))
  have HS : Hid (∃ s, simpOf rows x ⟨5, nm, a, b⟩ (l : Int) (r : Int) = s) := ⟨_, rfl⟩
  obtain ⟨s, hs⟩ := HS.out
  rw [hs]
  unfold simpOf at hs
  clear h hl hr HS
  have e0 : (⟨#[]⟩ : ByteArray) = ByteArray.empty := rfl
  rw [e0] at TW
  clear e0
  generalize noB rows (l : Int) = bl at *
  generalize noB rows (r : Int) = br at *
  generalize yesB rows (l : Int) = yl at *
  generalize yesB rows (r : Int) = yr at *
  by_cases hq : (l : Int) = (r : Int)
  all_goals
    have hqb : ((l : Int) == (r : Int)) = decide ((l : Int) = (r : Int)) := rfl
    simp only [hq, decide_true, decide_false] at hqb
    cases bl <;> cases br <;> cases yl <;> cases yr
    all_goals
      as_aux_lemma =>
      simp [hq] at hs
      have HE := Lib.hid hs
      clear hs
      go_enter Try.func48, Try.ntmps48
      go_wp2_with (first
        | (go_at_call_of 68 (Value.int IntKind.i64 (l : Int)); refine BL.out.mono ?_; rintro e w' ⟨rfl, rfl⟩)
        | (go_at_call_of 68 (Value.int IntKind.i64 (r : Int)); refine BR.out.mono ?_; rintro e w' ⟨rfl, rfl⟩)
        | (go_at_call_of 69 (Value.int IntKind.i64 (l : Int)); refine TL.out.mono ?_; rintro e w' ⟨rfl, rfl⟩)
        | (go_at_call_of 69 (Value.int IntKind.i64 (r : Int)); refine TR.out.mono ?_; rintro e w' ⟨rfl, rfl⟩)
        | (go_at_call 70; refine TP.out.mono ?_; rintro e w1 hp; have HP := Lib.hid hp; obtain ⟨rfl, _⟩ := hp)
        | (go_at_call 52; refine TW.out.mono ?_; rintro e w1 hp; have HP := Lib.hid hp; obtain ⟨rfl, _⟩ := hp))
      go_ret2
      rw [← HE.out]
      first
        | exact HP.out
        | exact ⟨rfl, ow, Kept.refl _ _ _, H.out⟩
        | exact ⟨by rw [hq], ow, Kept.refl _ _ _, H.out⟩

end Go.Dk


/- The document's layer 7: a failure leaves the table as it was. -/
namespace Go.Dk
open Go.RowKit Go.Maps Go.MapKept
open Go.Proofs hiding intOf

set_option maxRecDepth 100000 in
theorem kept07_any (k : Nat) (ow : Own) (w : World) (t : Value) (rows0 rows : List ND) (h : RTab k ow w t rows) (hp : rows0 <+: rows) (id e : Int) (he : ¬ e = 0) :
    Calls Try.prog 49 #[t, .int .i64 (rows0.length : Int), .int .i64 id, .int .i64 e] w (RPutPost k ow w t ⟨rows0, 0, e⟩) := by
  have hc := refCut_good k ow w t rows h rows0.length hp.length_le
  have ht : rows.take rows0.length = rows0 := by obtain ⟨s, rfl⟩ := hp; simp
  rw [ht] at hc
  have HC := Lib.hid hc
  clear hc ht h hp
  go_enter Try.func49, Try.ntmps49
  go_wp2_with fail
  refine HC.out.mono ?_
  rintro e w1 ⟨rfl, ow1, hk1, ht1⟩
  go_wp2_with fail
  go_ret2
  exact ⟨rfl, ow1, hk1, ht1⟩

end Go.Dk


/- Made anew by two that answer the same. -/
namespace Go.Dk

def SameOf (of of' : OfF) (rows0 : List ND) : Prop := ∀ (rows : List ND) (k l r : Nat), Ok rows → rows0 <+: rows → k < rows0.length → (3 ≤ (rowAt rows0 k).kind → l < rows.length ∧ r < rows.length) →
    of rows k (rowAt rows0 k) (if 3 ≤ (rowAt rows0 k).kind then (l : Int) else 0) (if 3 ≤ (rowAt rows0 k).kind then (r : Int) else 0) = of' rows k (rowAt rows0 k) (if 3 ≤ (rowAt rows0 k).kind then (l : Int) else 0) (if 3 ≤ (rowAt rows0 k).kind then (r : Int) else 0)
theorem anewGo_congr {of of' : OfF} {F : Fm → Fm} {rows0 : List ND} (ok0 : Ok rows0) (hs : Sem of F rows0) (hE : SameOf of of' rows0) : ∀ (todo : List Nat) (rows : List ND) (img : Nat → Int) (done : Nat → Prop), AnI F rows0 rows img done →
    (∀ k ∈ todo, k < rows0.length) → todo.Pairwise (· < ·) → (∀ k ∈ todo, 3 ≤ (rowAt rows0 k).kind → (done (rowAt rows0 k).l.toNat ∨ (rowAt rows0 k).l.toNat ∈ todo) ∧ (done (rowAt rows0 k).r.toNat ∨ (rowAt rows0 k).r.toNat ∈ todo)) →
    anewGo of todo rows img = anewGo of' todo rows img
  | [], _, _, _, _, _, _, _ => rfl
  | k :: t, rows, img, done, h, hlt, hp, hd => by
    have hp' := List.pairwise_cons.1 hp
    have hk := hlt k (by simp)
    have hrow : rowAt rows k = rowAt rows0 k := rowAt_prefix h.pre hk
    have parts : 3 ≤ (rowAt rows0 k).kind → ∃ l r : Nat, img (rowAt rows0 k).l.toNat = (l : Int) ∧ img (rowAt rows0 k).r.toNat = (r : Int) ∧ l < rows.length ∧ r < rows.length ∧ tree rows l = F (tree rows0 (rowAt rows0 k).l.toNat) ∧ tree rows r = F (tree rows0 (rowAt rows0 k).r.toNat) := by
      intro h3
      obtain ⟨p1, p2⟩ := ok0.parts (rowAt_get hk) h3
      obtain ⟨d1, d2⟩ := hd k (by simp) h3
      have notin : ∀ x, x < k → x ∉ k :: t := by
        intro x hx hm
        rcases List.mem_cons.1 hm with rfl | hm
        · omega
        · have := hp'.1 x hm; omega
      obtain ⟨l, a1, a2, a3⟩ := h.img _ (d1.resolve_right (notin _ (by omega))) (by omega)
      obtain ⟨r, b1, b2, b3⟩ := h.img _ (d2.resolve_right (notin _ (by omega))) (by omega)
      exact ⟨l, r, a1, b1, a2, b2, a3, b3⟩
    obtain ⟨l, r, hlr⟩ : ∃ l r : Nat, (if 3 ≤ (rowAt rows0 k).kind then img (rowAt rows0 k).l.toNat else 0) = (if 3 ≤ (rowAt rows0 k).kind then (l : Int) else 0) ∧ (if 3 ≤ (rowAt rows0 k).kind then img (rowAt rows0 k).r.toNat else 0) = (if 3 ≤ (rowAt rows0 k).kind then (r : Int) else 0) ∧
        (3 ≤ (rowAt rows0 k).kind → l < rows.length ∧ r < rows.length ∧ tree rows l = F (tree rows0 (rowAt rows0 k).l.toNat) ∧ tree rows r = F (tree rows0 (rowAt rows0 k).r.toNat)) := by
      by_cases h3 : 3 ≤ (rowAt rows0 k).kind
      · obtain ⟨l, r, a, b, c⟩ := parts h3
        exact ⟨l, r, by rw [if_pos h3, if_pos h3, a], by rw [if_pos h3, if_pos h3, b], fun _ => c⟩
      · exact ⟨0, 0, by rw [if_neg h3, if_neg h3], by rw [if_neg h3, if_neg h3], fun h => absurd h h3⟩
    obtain ⟨e1, e2, e3⟩ := hlr
    have hI := hs.img rows k l r h.ok h.pre hk e3
    have hE1 := hE rows k l r h.ok h.pre hk (fun h3 => ⟨(e3 h3).1, (e3 h3).2.1⟩)
    unfold anewGo
    simp only [hrow, e1, e2]
    rw [← hE1]
    clear hE1
    generalize of rows k (rowAt rows0 k) (if 3 ≤ (rowAt rows0 k).kind then (l : Int) else 0) (if 3 ≤ (rowAt rows0 k).kind then (r : Int) else 0) = p at *
    by_cases hz : p.err = 0
    · rw [if_pos hz, if_pos hz]
      obtain ⟨o1, o2, i, o3, o4, o5⟩ := hI hz
      refine anewGo_congr ok0 hs hE t p.rows (fun x => if x = k then p.id else img x) (fun x => done x ∨ x = k) ⟨o1, h.pre.trans o2, fun x hx hl => ?_⟩ (fun x hx => hlt x (by simp [hx])) hp'.2 (fun x hx h3 => ?_)
      · by_cases e : x = k
        · subst e
          rw [if_pos rfl]
          exact ⟨i, o3, o4, o5⟩
        · rw [if_neg e]
          obtain ⟨j, a, b, c⟩ := h.img x (hx.resolve_right e) hl
          exact ⟨j, a, Nat.lt_of_lt_of_le b (prefix_length o2), by rw [tree_prefix o2 b, c]⟩
      · obtain ⟨a, b⟩ := hd x (by simp [hx]) h3
        have conv : ∀ y, (done y ∨ y ∈ k :: t) → ((done y ∨ y = k) ∨ y ∈ t) := by
          intro y hy
          rcases hy with hy | hy
          · exact .inl (.inl hy)
          · rcases List.mem_cons.1 hy with rfl | hy
            · exact .inl (.inr rfl)
            · exact .inr hy
        exact ⟨conv _ a, conv _ b⟩
    · rw [if_neg hz, if_neg hz]

theorem anewP_congr {of of' : OfF} {F : Fm → Fm} {rows : List ND} (ok : Ok rows) (hs : Sem of F rows) (hE : SameOf of of' rows) {id : Nat} (hid : id < rows.length) : anewP of rows id = anewP of' rows id := by
  have := anewGo_congr ok hs hE (below rows id) rows (fun _ => 0) (fun _ => False) ⟨ok, List.prefix_refl _, fun _ h => h.elim⟩ (fun k hk => by have := ((mem_below ok).1 hk).le ok; omega) (below_pairwise rows id) (fun k hk h3 => by
      obtain ⟨a, b⟩ := below_parts ok hid hk h3; exact ⟨.inr a, .inr b⟩)
  unfold anewP
  rw [this]
/-- The program's answer is the document's. -/
theorem simple_same {rows : List ND} (ok : Ok rows) {id : Nat} (hid : id < rows.length) : anewP simpOf rows id = anewP simpOf' rows id := by
  refine anewP_congr ok (simpOf_sem ok) (fun rs k l r ok2 _ _ h3 => ?_) hid
  by_cases h : 3 ≤ (rowAt rows k).kind
  · rw [if_pos h, if_pos h]
    exact (simpOf_eq ok2 k _ (h3 h).1 (h3 h).2).symm
  · rw [if_neg h, if_neg h]
    have h1 : ¬ (rowAt rows k).kind = 3 := by omega
    have h2 : ¬ (rowAt rows k).kind = 4 := by omega
    have h4 : ¬ (rowAt rows k).kind = 5 := by omega
    simp [simpOf, simpOf', h1, h2, h4]

end Go.Dk


/- The document's Simple. -/
namespace Go.Dk
open Go.RowKit Go.Maps Go.MapKept
open Go.Proofs hiding intOf

set_option maxRecDepth 100000 in
theorem refSimple_no (k : Nat) (ow : Own) (w : World) (t : Value) (rows : List ND) (h : RTab k ow w t rows) (id : Int) (hb : hasB rows.length id = false) :
    Calls Try.prog 20 #[t, .int .i64 id] w (RPutPost k ow w t (simpP rows id)) := by
  have H := Lib.hid h
  have HE : Hid (simpP rows id = ⟨rows, 0, 31⟩) := by unfold Hid simpP; rw [if_pos hb]
  have HR := refHas_any k ow w t rows h id
  rw [hb] at HR
  have HRH := Lib.hid HR
  clear h hb HR
  go_enter Try.func20, Try.ntmps20
  go_wp2_with (go_at_call 8; refine HRH.out.mono ?_; rintro e w' ⟨rfl, rfl⟩)
  go_ret2
  rw [HE.out]
  exact ⟨rfl, ow, Kept.refl _ _ _, H.out⟩

/-- The list of images reads as the images, where they are made. -/
def ImgL (n : Nat) (l : List Int) (done : List Nat) (img : Nat → Int) : Prop := l.length = n ∧ ∀ x ∈ done, l[x]? = some (img x)
theorem ImgL.start (n : Nat) (img : Nat → Int) : ImgL n (List.replicate n 0) [] img := ⟨by simp, fun _ h => by cases h⟩
theorem ImgL.set {n : Nat} {l : List Int} {done : List Nat} {img : Nat → Int} (h : ImgL n l done img) {x : Nat} (hx : x < n) (hd : x ∉ done) (v : Int) : ImgL n (l.set x v) (done ++ [x]) (fun y => if y = x then v else img y) := by
  refine ⟨by simp [h.1], fun y hy => ?_⟩
  rcases List.mem_append.1 hy with hy | hy
  · have hne : y ≠ x := fun e => hd (e ▸ hy)
    simp only [if_neg hne]
    rw [List.getElem?_set_ne (Ne.symm hne)]
    exact h.2 y hy
  · have e : y = x := by simpa using hy
    subst e
    simp only [if_pos]
    rw [List.getElem?_set_self (by rw [h.1]; exact hx)]

end Go.Dk

