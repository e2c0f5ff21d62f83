/- FormulaOnce: numbers stay, no two rows are alike, rows make the same table. -/
import Derived.Test.YthbjmmnfoeanbaaUf
import Derived.Test.YthbjmmnfoeanbaaFm
namespace Go.Dk
open Go.RowKit Go.Maps Go.MapKept
open Go.Proofs hiding intOf

/-- The rows of a table, put one behind the other, are that table. -/
theorem fromE_ok {rows : List ND} (h : Ok rows) : fromE [] rows = 0 := by
  have key : ∀ (k : Nat), k ≤ rows.length → fromE (rows.take (rows.length - k)) (rows.drop (rows.length - k)) = 0 := by
    intro k
    induction k with
    | zero => intro _; simp [fromE]
    | succ k ih =>
      intro hk
      have hi : rows.length - (k + 1) < rows.length := by omega
      rw [fromE_step (List.getElem?_eq_getElem hi)]
      have hn : (rows.take (rows.length - (k + 1))).idxOf? rows[rows.length - (k + 1)] = none := idxOf?_take h.nodup (List.getElem?_eq_getElem hi)
      have hl : (rows.take (rows.length - (k + 1))).length = rows.length - (k + 1) := by simp
      have hf := h.fit _ _ (List.getElem?_eq_getElem hi)
      have hle := h.le
      have hp : put (rows.take (rows.length - (k + 1))) rows[rows.length - (k + 1)] = ⟨rows.take (rows.length - (k + 1)) ++ [rows[rows.length - (k + 1)]], (rows.length - (k + 1) : Nat), 0⟩ := by
        unfold put
        rw [hl, if_neg (by simpa using hf), hn]
        simp only
        rw [if_neg (by omega)]
      rw [hp]
      simp only [ne_eq, not_true_eq_false, if_false, hl]
      rw [show rows.length - (k + 1) + 1 = rows.length - k by omega]
      exact ih (by omega)
  have := key rows.length (Nat.le_refl _)
  simpa using this

theorem playP_prefix (rows : List ND) (x : AC) (h : x.kind ≠ 8) : rows <+: playP rows x := by
  have np : ∀ a, rows <+: (notP rows a).rows := by
    intro a
    unfold notP
    split
    · exact List.prefix_refl _
    · simp only
      split
      · exact put_prefix _ _
      · exact (put_prefix _ _).trans (put_prefix _ _)
  unfold playP
  rw [if_neg h]
  repeat' split
  all_goals first | exact put_prefix _ _ | exact np _ | exact List.prefix_refl _

theorem KeptIn.cells {S : Nat → Prop} {ow ow' : Own} {w w' : World} (h : KeptIn S ow w ow' w') {e : TypeId} {size n : Nat} {v : Value} {xs : List Value} (hr : RowW w e size v n xs) (hc : ∀ g, v.ownBlock = some g → ¬ S (ow g)) : RowW w' e size v n xs :=
  hr.same fun g hg => h.block g (hr.lt hg) (hc g hg)

theorem own_cap {w : World} {base n c : Nat} {a : Option Addr} {e : TypeId} {size : Nat} {xs : List Value} (h : w.ownsRow base e size (.slice a n c) n xs) : n ≤ c := by
  rcases h.2 with ⟨e, rfl⟩ | ⟨g, cap, cur, e, _, _, hc, _⟩
  · cases e; omega
  · cases e; exact hc
/-- A slice that can be read, cut to its beginning. -/
theorem Rd.take {w : World} {a : Option Addr} {m c size : Nat} {xs : List Value} (h : Rd w (.slice a m c) m size xs) {n : Nat} (hn : n ≤ m) : Rd w (.slice a n c) n size (xs.take (n * size)) := by
  obtain ⟨⟨a', c', e, h1, h2⟩, hl⟩ := h
  cases e
  refine ⟨⟨a, c, rfl, fun ha => ⟨by have := (h1 ha).1; omega, (h1 ha).2⟩, fun ad ha => ⟨fun hne => (h2 ad ha).1 (by omega), fun j u hu => (h2 ad ha).2 j u ?_⟩⟩, ?_⟩
  · rw [List.getElem?_take] at hu
    split at hu
    · exact hu
    · cases hu
  · rw [List.length_take, hl, Nat.min_eq_left (Nat.mul_le_mul_right _ hn)]

theorem cut_prefix {w : World} {a : Option Addr} {c : Nat} {rows xs : List ND} (hp : rows <+: xs) (h : Rd w (.slice a xs.length c) xs.length 4 (nodeCells xs)) : Rd w (.slice a rows.length c) rows.length 4 (nodeCells rows) := by
  have := h.take hp.length_le
  rw [← nodeCells_take, ← List.prefix_iff_eq_take.1 hp] at this
  exact this

/-- On the way: the program's table has grown; the other one is whatever it is. -/
structure OnAt (w W : World) (t r v : Value) (xs0 xs ys : List ND) (ow : Own) : Prop where
  p : Pair ow W t r xs ys
  b : Below w.heap.size w W
  z : ∀ b, b < w.heap.size → ow b = 0
  row : RowW W 37 4 v xs0.length (nodeCells xs0)
  vc : ∀ g, v.ownBlock = some g → ow g = 0
  pre : xs0 <+: xs
def OnI (w W : World) (t r v : Value) (xs0 : List ND) : Prop := ∃ ow xs ys, OnAt w W t r v xs0 xs ys ow

theorem OnI.bel {w W : World} {t r v : Value} {xs0 : List ND} (h : OnI w W t r v xs0) : Below w.heap.size w W := by obtain ⟨_, _, _, h⟩ := h; exact h.b
theorem OnI.play {w W : World} {t r v : Value} {xs0 : List ND} (h : OnI w W t r v xs0) (x : AC) (hin : ACin x) (hk : x.kind ≠ 8) : Calls Try.prog 29 #[t, r, x.val] W fun e W' => (∃ b, e = .returned (.bool b)) ∧ OnI w W' t r v xs0 := by
  obtain ⟨ow, xs, ys, h⟩ := h
  refine (play_any ow W t r xs ys h.p x hin).mono ?_
  rintro e W' ⟨b, ow', rfl, _, hk', hp⟩
  have ns : ∀ c, ow c = 0 → ¬ S12 (ow c) := fun c hc => by rw [hc]; rintro (h | h) <;> cases h
  refine ⟨⟨b, rfl⟩, ow', _, _, hp, h.b.trans (hk'.below h.b.size fun c hc => ns c (h.z c hc)), fun c hc => (hk'.own c (Nat.lt_of_lt_of_le hc h.b.size)).trans (h.z c hc), hk'.cells h.row fun g hg => ns g (h.vc g hg), fun g hg => (hk'.own g (h.row.lt hg)).trans (h.vc g hg), h.pre.trans (playP_prefix xs x hk)⟩

theorem OnI.start {w w0 w2 : World} {t v : Value} {ow : Own} {xs : List ND} (ht : Tab 1 ow w0 t xs) (hb0 : Below w.heap.size w w0) (hz : ∀ b, b < w.heap.size → ow b = 0) (hv : w2.ownsRow w0.heap.size 37 4 v xs.length (nodeCells xs)) (hb : Below w0.heap.size w0 w2) :
    OnI w (w2.alloc (.cells #[.slice none 0 0] 50)) t (.pointer (some ⟨w2.heap.size, 0, none⟩)) v xs := by
  refine ⟨fun b => if b < w0.heap.size then ow b else if b < w2.heap.size then 0 else 2, xs, [], ⟨((ht.recolourLt (fun b hb e => by simp [hb, e])).below hb).below (below_alloc _ _), w2.heap.size, _, rfl, heap_alloc_new' _ _ rfl, .inl (World.ownsRow_nil _ _ _ _), Ok.nil, ?_, by simp [Value.ownBlock]⟩, below_trans (below_trans hb0 hb) (below_alloc _ _), fun b hbw => ?_, ?_, fun g hg => ?_, List.prefix_refl _⟩
  · have := hb.size; simp; omega
  · simp only [Nat.lt_of_lt_of_le hbw hb0.size, if_true]; exact hz b hbw
  · refine RowW.below (.inl ?_) (below_alloc _ _)
    refine ⟨hv.1, ?_⟩
    rcases hv.2 with h | ⟨g, cap, cur, h1, h2, h3⟩
    · exact .inl h
    · exact .inr ⟨g, cap, cur, h1, Nat.zero_le _, h3⟩
  · obtain ⟨h1, h2⟩ := hv.lt g hg
    have h3 : ¬ g < w0.heap.size := by omega
    simp only [h3, if_false, h2, if_true]

set_option maxRecDepth 100000 in
set_option maxHeartbeats 1600000 in
theorem once_ok (w : World) (v u : Value) (rows : List ND) (acts : List AC) (hn : ∀ n ∈ rows, n.name.size ≤ maxLen) (hr : Rd w v rows.length 4 (nodeCells rows)) (hm : rows.length ≤ maxLen) (hl : rows.length * 40 ≤ 140737488355328)
    (hu : Rd w u acts.length 8 (acts.flatMap AC.cells)) (hum : acts.length ≤ maxLen) (hai : ∀ x ∈ acts, ACin x) (h0 : fromE [] rows = 0) :
    Calls Try.prog 6 #[v, u] w fun e w' => e = .returned (.bool true) ∧ Below w.heap.size w w' := by
  have HR := Lib.hid hr
  have HN := Lib.hid hn
  have H0 := Lib.hid h0
  have HU := Lib.hid hu
  have HAI := Lib.hid hai
  obtain ⟨a, c, rfl⟩ := hr.slice
  obtain ⟨a', c', rfl⟩ := hu.slice
  clear hr hn h0 hu hai
  unfold maxLen at hum
  go_enter Try.func6, Try.ntmps6
  go_wp2_with (first
    | (go_at_call 27; refine (both_any w _ rows HN.out HR.out hm hl).mono ?_; rintro e w1 ⟨hb1, _, h⟩; obtain ⟨t, r, ow, he, hp, ho⟩ := h H0.out; subst he; obtain ⟨pb, hpb⟩ := hp.t.ptr; obtain ⟨qb, hqb⟩ := hp.r.ptr; subst hpb hqb; have HT1 := Lib.hid hp.t; have HB1 := Lib.hid hb1; have HZ1 := Lib.hid ho; clear h hp ho hb1)
    | (go_at_call 28; refine (rows_any 1 ow _ _ _ HT1.out).mono ?_; rintro e w2 ⟨v2, rfl, hown2, hb2⟩; have HI := Lib.hid (OnI.start HT1.out HB1.out HZ1.out hown2 hb2); obtain ⟨va, vc, hv2⟩ := own_slice hown2; subst hv2; clear hown2 hb2)
    | fail)
  generalize w2.alloc (.cells #[.slice none 0 0] 50) = w3 at *
  generalize w2.heap.size = rb at *
  go_loopw [10] (fun i W => ∃ j : Nat, j ≤ acts.length ∧ i = .int .i64 j ∧ OnI w W (.pointer (some ⟨pb, 0, none⟩)) (.pointer (some ⟨rb, 0, none⟩)) (.slice va rows.length vc) rows) (fun i _ => acts.length - (intOf i).toNat)
  case atStart => exact ⟨0, Nat.zero_le _, rfl, HI.out⟩
  case round =>
    obtain ⟨j, hj, rfl, hI⟩ := hrel
    have HJ := Lib.hid hI
    by_cases hlt : j < acts.length
    · obtain ⟨x, hx⟩ : ∃ x, acts[j]? = some x := ⟨_, List.getElem?_eq_getElem hlt⟩
      have hxm : ACin x := HAI.out x (List.mem_of_getElem? hx)
      obtain ⟨gb, go, gc, he, hgl, e0, e1, e2, e3, e4, e5, e6, e7⟩ := acts_at (HU.out.below hI.bel) hx
      cases he
      have HX := Lib.hid hxm
      clear hI hx hxm
      obtain ⟨kd, nm, xa, xb, ⟨nk, nn, nl, nr⟩⟩ := x
      simp only at e0 e1 e2 e3 e4 e5 e6 e7
      by_cases hk : kd = 8
      · subst hk
        go_wp2
        exact ⟨⟨j + 1, by omega, by go_num, HJ.out⟩, by simp [intOf]; omega⟩
      · have hk' : (kd != 8) = true := by simpa using hk
        have HK : Hid (kd ≠ 8) := hk
        clear hk
        go_wp2_with (go_at_call 29; refine (OnI.play HJ.out ⟨kd, nm, xa, xb, ⟨nk, nn, nl, nr⟩⟩ HX.out HK.out).mono ?_; rintro e w4 ⟨⟨b, rfl⟩, hp4⟩)
        exact ⟨⟨j + 1, by omega, by go_num, hp4⟩, by simp [intOf]; omega⟩
    · clear HI
      obtain ⟨ow1, xs, ys, hA⟩ := hI
      have HA := Lib.hid hA
      clear hA
      have hle : rows.length ≤ xs.length := HA.out.pre.length_le
      have hlt0 : decide (xs.length < rows.length) = false := by simpa using hle
      go_wp2_with (first
        | (go_at_call 28; refine (rows_any 1 ow1 _ _ xs HA.out.p.t).mono ?_; rintro e w4 ⟨v4, rfl, hown4, hb4⟩; obtain ⟨la, lc, hv4⟩ := own_slice hown4; subst hv4; have hcap : xs.length ≤ lc := own_cap hown4; have HB4 := Lib.hid hb4; have HO4 := Lib.hid hown4; have HS4 := Lib.hid (cut_prefix HA.out.pre (rd_own hown4)); clear hb4 hown4)
        | (go_at_call 30; refine (refSame_any _ _ _ rows rows (by have := HA.out.p.t.ok.le; unfold maxLen; omega) (by first | exact HS4.out | exact HS4.out.below (below_drew' _)) (by first | exact HA.out.row.rd.below HB4.out | exact (HA.out.row.rd.below HB4.out).below (below_drew' _))).mono ?_; rintro e w5 ⟨rfl, hb5⟩; have HB5 := Lib.hid hb5; clear hb5)
        | fail)
      obtain ⟨wo, hwo⟩ : ∃ wo : World, wo = wr := ⟨_, rfl⟩
      subst hwo
      have hlx := HA.out.p.t.ok.le
      have HT5 : Hid (Tab 1 ow1 w5 (.pointer (some ⟨pb, 0, none⟩)) xs) := (HA.out.p.t.below HB4.out).below HB5.out
      have HR5 : Hid (Rd w5 (.slice la xs.length lc) xs.length 4 (nodeCells xs)) := (rd_own HO4.out).below HB5.out
      have HB05 : Hid (Below w.heap.size w w5) := below_trans (below_trans HA.out.b HB4.out) HB5.out
      go_loopw [12] (fun i W => ∃ j : Nat, j ≤ xs.length ∧ i = .int .i64 j ∧ Below w5.heap.size w5 W) (fun i _ => xs.length - (intOf i).toNat)
      case atStart => exact ⟨0, Nat.zero_le _, rfl, Below.refl _ _⟩
      case round =>
        obtain ⟨j2, hj2, rfl, hbr⟩ := hrel
        by_cases hlt2 : j2 < xs.length
        · obtain ⟨x, hx⟩ : ∃ x, xs[j2]? = some x := ⟨_, List.getElem?_eq_getElem hlt2⟩
          obtain ⟨gb, go, gc, he, e0, e1, e2, e3⟩ := nodes_at (HR5.out.below hbr) hx
          cases he
          have HBR := Lib.hid hbr
          have hix := Lib.hid (idxOf?_get HA.out.p.t.ok.nodup hx)
          have hfx := fits_le (HA.out.p.t.ok.fit _ _ hx)
          have hrow := HA.out.p.t.ok.row hx
          obtain ⟨kd, nm, l, r⟩ := x
          simp only at e0 e1 e2 e3 hfx
          have HW : Hid (nm.size ≤ maxLen ∧ (Lit.int .i64 kd).wf = true ∧ (Lit.int .i64 l).wf = true ∧ (Lit.int .i64 r).wf = true) := ⟨by unfold maxLen; omega, wf64 (by omega), wf64 (by omega), wf64 (by omega)⟩
          have HC : Hid (∀ W, Below wr.heap.size wr W → (W.cell? ⟨gb, go + j2 * 4, none⟩ = some (.int .i64 kd) ∧ W.cell? ⟨gb, go + j2 * 4 + 1, none⟩ = some (.string nm) ∧ W.cell? ⟨gb, go + j2 * 4 + 2, none⟩ = some (.int .i64 l) ∧ W.cell? ⟨gb, go + j2 * 4 + 3, none⟩ = some (.int .i64 r))) := fun W hb => by
            have lg : gb < wr.heap.size := World.block_lt_of_cell? wr _ e0
            exact ⟨(hb.cell (p := ⟨gb, go + j2 * 4, none⟩) lg).trans e0, (hb.cell (p := ⟨gb, go + j2 * 4 + 1, none⟩) lg).trans e1, (hb.cell (p := ⟨gb, go + j2 * 4 + 2, none⟩) lg).trans e2, (hb.cell (p := ⟨gb, go + j2 * 4 + 3, none⟩) lg).trans e3⟩
          clear hbr hx hfx
          rcases hrow with ⟨h1, h2, h3, _⟩ | h1 | ⟨h1, h2, h3, h4, h5, h6⟩
          · simp only at h1 h2 h3
            subst h1 h2 h3
            go_wp2_with (go_at_call 31; refine (find_any 1 ow1 _ _ xs (HT5.out.below HBR.out) _ _ _ _ HW.out.1 HW.out.2.1 HW.out.2.2.1 HW.out.2.2.2).mono ?_; rintro e w6 ⟨rfl, hb6⟩; rw [hix.out]; obtain ⟨f0, f1, f2, f3⟩ := HC.out _ hb6; have HB6 := Lib.hid (below_trans HBR.out hb6); clear hb6)
            exact ⟨⟨j2 + 1, by omega, by go_num, HB6.out⟩, by simp [intOf]; omega⟩
          · simp only [ND.mk.injEq] at h1
            obtain ⟨rfl, rfl, rfl, rfl⟩ := h1
            go_wp2_with (go_at_call 31; refine (find_any 1 ow1 _ _ xs (HT5.out.below HBR.out) _ _ _ _ HW.out.1 HW.out.2.1 HW.out.2.2.1 HW.out.2.2.2).mono ?_; rintro e w6 ⟨rfl, hb6⟩; rw [hix.out]; obtain ⟨f0, f1, f2, f3⟩ := HC.out _ hb6; have HB6 := Lib.hid (below_trans HBR.out hb6); clear hb6)
            exact ⟨⟨j2 + 1, by omega, by go_num, HB6.out⟩, by simp [intOf]; omega⟩
          · simp only at h1 h2 h3 h4 h5 h6
            have n1 : ¬ (j2 : Int) ≤ l := by omega
            have n2 : ¬ (j2 : Int) ≤ r := by omega
            have n3 : ¬ l < 0 := by omega
            have n4 : ¬ r < 0 := by omega
            clear h2
            rcases h1 with rfl | rfl | rfl
            all_goals
              go_wp2_with (go_at_call 31; refine (find_any 1 ow1 _ _ xs (HT5.out.below HBR.out) _ _ _ _ HW.out.1 HW.out.2.1 HW.out.2.2.1 HW.out.2.2.2).mono ?_; rintro e w6 ⟨rfl, hb6⟩; rw [hix.out]; obtain ⟨f0, f1, f2, f3⟩ := HC.out _ hb6; have HB6 := Lib.hid (below_trans HBR.out hb6); clear hb6)
              exact ⟨⟨j2 + 1, by omega, by go_num, HB6.out⟩, by simp [intOf]; omega⟩
        · have HBR := Lib.hid hbr
          clear hbr
          go_wp2_with (first
            | (go_at_call 23; refine (from_any 1 (fun _ => 0) wr _ xs (fun n hn => by obtain ⟨i, hi⟩ := List.mem_iff_getElem?.1 hn; have := fits_le (HA.out.p.t.ok.fit i n hi); unfold maxLen; omega) (HR5.out.below HBR.out) (by unfold maxLen; omega)).mono ?_; rintro e w6 ⟨u6, he, hb6, ht6, _⟩; rw [fromE_ok HA.out.p.t.ok] at he; subst he; obtain ⟨ow6, hk6, ht6⟩ := ht6 (fromE_ok HA.out.p.t.ok); obtain ⟨ub, hub⟩ := ht6.ptr; subst hub; have HT6 := Lib.hid ht6; have HB6 := Lib.hid hb6; have HBX := Lib.hid (below_trans HBR.out hb6); clear hk6 ht6 hb6)
            | fail)
          go_wp2_with (first
            | (go_at_call 28; refine (rows_post 1 ow6 _ _ xs HT6.out).mono ?_; rintro e w7 ⟨v7, rfl, hrd7, hb7⟩; have HB7 := Lib.hid (below_trans HBX.out hb7); have HD7 := Lib.hid hrd7; clear hb7 hrd7)
            | (go_at_call 30; refine (refSame_any _ _ _ xs xs (by unfold maxLen; omega) HD7.out (HR5.out.below HB7.out)).mono ?_; rintro e w8 ⟨rfl, hb8⟩; have HB8 := Lib.hid (below_trans HB7.out hb8); clear hb8)
            | (go_at_call 22; refine (heads03_any _).mono ?_; rintro e w9 ⟨rfl, hb9⟩; have HB9 := Lib.hid (below_trans HB8.out hb9); clear hb9))
          go_ret
          exact ⟨by simp, below_trans HB05.out HB9.out⟩
set_option maxRecDepth 100000 in
set_option maxHeartbeats 1600000 in
theorem once_no (w : World) (v u : Value) (rows : List ND) (acts : List AC) (hn : ∀ n ∈ rows, n.name.size ≤ maxLen) (hr : Rd w v rows.length 4 (nodeCells rows)) (hm : rows.length ≤ maxLen) (hl : rows.length * 40 ≤ 140737488355328)
    (hu : Rd w u acts.length 8 (acts.flatMap AC.cells)) (hum : acts.length ≤ maxLen) (hai : ∀ x ∈ acts, ACin x) (h0 : fromE [] rows ≠ 0) :
    Calls Try.prog 6 #[v, u] w fun e w' => e = .returned (.bool true) ∧ Below w.heap.size w w' := by
  have HR := Lib.hid hr
  have HN := Lib.hid hn
  have H0 := Lib.hid h0
  have HU := Lib.hid hu
  have HAI := Lib.hid hai
  obtain ⟨a, c, rfl⟩ := hr.slice
  obtain ⟨a', c', rfl⟩ := hu.slice
  clear hr hn h0 hu hai
  unfold maxLen at hum
  go_enter Try.func6, Try.ntmps6
  go_wp2_with (first
    | (go_at_call 27; refine (both_any w _ rows HN.out HR.out hm hl).mono ?_; rintro e w0 ⟨hb1, h, _⟩; have he := h H0.out; subst he; have HB0 := Lib.hid hb1; clear h hb1)
    | (go_at_call 18; refine (new_any 1 (fun _ => 0) _).mono ?_; rintro e w1 ⟨t, ow, he, ht2, hk2, hb2⟩; subst he; obtain ⟨pb, hpb⟩ := ht2.ptr; subst hpb; obtain ⟨rs, hrs⟩ : ∃ rs : List ND, [] = rs := ⟨_, rfl⟩; rw [hrs] at ht2; clear hrs; have HT1 := Lib.hid ht2; have HZ1 : Hid (∀ b, b < w.heap.size → ow b = 0) := fun b hb => hk2.own b (Nat.lt_of_lt_of_le hb HB0.out.size); have HB1 := Lib.hid (below_trans HB0.out hb2); clear ht2 hk2 hb2)
    | (go_at_call 28; refine (rows_any 1 ow _ _ _ HT1.out).mono ?_; rintro e w2 ⟨v2, rfl, hown2, hb2⟩; have HI := Lib.hid (OnI.start HT1.out HB1.out HZ1.out hown2 hb2); obtain ⟨va, vc, hv2⟩ := own_slice hown2; subst hv2; clear hown2 hb2)
    | fail)
  generalize w2.alloc (.cells #[.slice none 0 0] 50) = w3 at *
  generalize w2.heap.size = rb at *
  go_loopw [10] (fun i W => ∃ j : Nat, j ≤ acts.length ∧ i = .int .i64 j ∧ OnI w W (.pointer (some ⟨pb, 0, none⟩)) (.pointer (some ⟨rb, 0, none⟩)) (.slice va rs.length vc) rs) (fun i _ => acts.length - (intOf i).toNat)
  case atStart => exact ⟨0, Nat.zero_le _, rfl, HI.out⟩
  case round =>
    obtain ⟨j, hj, rfl, hI⟩ := hrel
    have HJ := Lib.hid hI
    by_cases hlt : j < acts.length
    · obtain ⟨x, hx⟩ : ∃ x, acts[j]? = some x := ⟨_, List.getElem?_eq_getElem hlt⟩
      have hxm : ACin x := HAI.out x (List.mem_of_getElem? hx)
      obtain ⟨gb, go, gc, he, hgl, e0, e1, e2, e3, e4, e5, e6, e7⟩ := acts_at (HU.out.below hI.bel) hx
      cases he
      have HX := Lib.hid hxm
      clear hI hx hxm
      obtain ⟨kd, nm, xa, xb, ⟨nk, nn, nl, nr⟩⟩ := x
      simp only at e0 e1 e2 e3 e4 e5 e6 e7
      by_cases hk : kd = 8
      · subst hk
        go_wp2
        exact ⟨⟨j + 1, by omega, by go_num, HJ.out⟩, by simp [intOf]; omega⟩
      · have hk' : (kd != 8) = true := by simpa using hk
        have HK : Hid (kd ≠ 8) := hk
        clear hk
        go_wp2_with (go_at_call 29; refine (OnI.play HJ.out ⟨kd, nm, xa, xb, ⟨nk, nn, nl, nr⟩⟩ HX.out HK.out).mono ?_; rintro e w4 ⟨⟨b, rfl⟩, hp4⟩)
        exact ⟨⟨j + 1, by omega, by go_num, hp4⟩, by simp [intOf]; omega⟩
    · clear HI
      obtain ⟨ow1, xs, ys, hA⟩ := hI
      have HA := Lib.hid hA
      clear hA
      have hle : rs.length ≤ xs.length := HA.out.pre.length_le
      have hlt0 : decide (xs.length < rs.length) = false := by simpa using hle
      go_wp2_with (first
        | (go_at_call 28; refine (rows_any 1 ow1 _ _ xs HA.out.p.t).mono ?_; rintro e w4 ⟨v4, rfl, hown4, hb4⟩; obtain ⟨la, lc, hv4⟩ := own_slice hown4; subst hv4; have hcap : xs.length ≤ lc := own_cap hown4; have HB4 := Lib.hid hb4; have HO4 := Lib.hid hown4; have HS4 := Lib.hid (cut_prefix HA.out.pre (rd_own hown4)); clear hb4 hown4)
        | (go_at_call 30; refine (refSame_any _ _ _ rs rs (by have := HA.out.p.t.ok.le; unfold maxLen; omega) (by first | exact HS4.out | exact HS4.out.below (below_drew' _)) (by first | exact HA.out.row.rd.below HB4.out | exact (HA.out.row.rd.below HB4.out).below (below_drew' _))).mono ?_; rintro e w5 ⟨rfl, hb5⟩; have HB5 := Lib.hid hb5; clear hb5)
        | fail)
      obtain ⟨wo, hwo⟩ : ∃ wo : World, wo = wr := ⟨_, rfl⟩
      subst hwo
      have hlx := HA.out.p.t.ok.le
      have HT5 : Hid (Tab 1 ow1 w5 (.pointer (some ⟨pb, 0, none⟩)) xs) := (HA.out.p.t.below HB4.out).below HB5.out
      have HR5 : Hid (Rd w5 (.slice la xs.length lc) xs.length 4 (nodeCells xs)) := (rd_own HO4.out).below HB5.out
      have HB05 : Hid (Below w.heap.size w w5) := below_trans (below_trans HA.out.b HB4.out) HB5.out
      go_loopw [12] (fun i W => ∃ j : Nat, j ≤ xs.length ∧ i = .int .i64 j ∧ Below w5.heap.size w5 W) (fun i _ => xs.length - (intOf i).toNat)
      case atStart => exact ⟨0, Nat.zero_le _, rfl, Below.refl _ _⟩
      case round =>
        obtain ⟨j2, hj2, rfl, hbr⟩ := hrel
        by_cases hlt2 : j2 < xs.length
        · obtain ⟨x, hx⟩ : ∃ x, xs[j2]? = some x := ⟨_, List.getElem?_eq_getElem hlt2⟩
          obtain ⟨gb, go, gc, he, e0, e1, e2, e3⟩ := nodes_at (HR5.out.below hbr) hx
          cases he
          have HBR := Lib.hid hbr
          have hix := Lib.hid (idxOf?_get HA.out.p.t.ok.nodup hx)
          have hfx := fits_le (HA.out.p.t.ok.fit _ _ hx)
          have hrow := HA.out.p.t.ok.row hx
          obtain ⟨kd, nm, l, r⟩ := x
          simp only at e0 e1 e2 e3 hfx
          have HW : Hid (nm.size ≤ maxLen ∧ (Lit.int .i64 kd).wf = true ∧ (Lit.int .i64 l).wf = true ∧ (Lit.int .i64 r).wf = true) := ⟨by unfold maxLen; omega, wf64 (by omega), wf64 (by omega), wf64 (by omega)⟩
          have HC : Hid (∀ W, Below wr.heap.size wr W → (W.cell? ⟨gb, go + j2 * 4, none⟩ = some (.int .i64 kd) ∧ W.cell? ⟨gb, go + j2 * 4 + 1, none⟩ = some (.string nm) ∧ W.cell? ⟨gb, go + j2 * 4 + 2, none⟩ = some (.int .i64 l) ∧ W.cell? ⟨gb, go + j2 * 4 + 3, none⟩ = some (.int .i64 r))) := fun W hb => by
            have lg : gb < wr.heap.size := World.block_lt_of_cell? wr _ e0
            exact ⟨(hb.cell (p := ⟨gb, go + j2 * 4, none⟩) lg).trans e0, (hb.cell (p := ⟨gb, go + j2 * 4 + 1, none⟩) lg).trans e1, (hb.cell (p := ⟨gb, go + j2 * 4 + 2, none⟩) lg).trans e2, (hb.cell (p := ⟨gb, go + j2 * 4 + 3, none⟩) lg).trans e3⟩
          clear hbr hx hfx
          rcases hrow with ⟨h1, h2, h3, _⟩ | h1 | ⟨h1, h2, h3, h4, h5, h6⟩
          · simp only at h1 h2 h3
            subst h1 h2 h3
            go_wp2_with (go_at_call 31; refine (find_any 1 ow1 _ _ xs (HT5.out.below HBR.out) _ _ _ _ HW.out.1 HW.out.2.1 HW.out.2.2.1 HW.out.2.2.2).mono ?_; rintro e w6 ⟨rfl, hb6⟩; rw [hix.out]; obtain ⟨f0, f1, f2, f3⟩ := HC.out _ hb6; have HB6 := Lib.hid (below_trans HBR.out hb6); clear hb6)
            exact ⟨⟨j2 + 1, by omega, by go_num, HB6.out⟩, by simp [intOf]; omega⟩
          · simp only [ND.mk.injEq] at h1
            obtain ⟨rfl, rfl, rfl, rfl⟩ := h1
            go_wp2_with (go_at_call 31; refine (find_any 1 ow1 _ _ xs (HT5.out.below HBR.out) _ _ _ _ HW.out.1 HW.out.2.1 HW.out.2.2.1 HW.out.2.2.2).mono ?_; rintro e w6 ⟨rfl, hb6⟩; rw [hix.out]; obtain ⟨f0, f1, f2, f3⟩ := HC.out _ hb6; have HB6 := Lib.hid (below_trans HBR.out hb6); clear hb6)
            exact ⟨⟨j2 + 1, by omega, by go_num, HB6.out⟩, by simp [intOf]; omega⟩
          · simp only at h1 h2 h3 h4 h5 h6
            have n1 : ¬ (j2 : Int) ≤ l := by omega
            have n2 : ¬ (j2 : Int) ≤ r := by omega
            have n3 : ¬ l < 0 := by omega
            have n4 : ¬ r < 0 := by omega
            clear h2
            rcases h1 with rfl | rfl | rfl
            all_goals
              go_wp2_with (go_at_call 31; refine (find_any 1 ow1 _ _ xs (HT5.out.below HBR.out) _ _ _ _ HW.out.1 HW.out.2.1 HW.out.2.2.1 HW.out.2.2.2).mono ?_; rintro e w6 ⟨rfl, hb6⟩; rw [hix.out]; obtain ⟨f0, f1, f2, f3⟩ := HC.out _ hb6; have HB6 := Lib.hid (below_trans HBR.out hb6); clear hb6)
              exact ⟨⟨j2 + 1, by omega, by go_num, HB6.out⟩, by simp [intOf]; omega⟩
        · have HBR := Lib.hid hbr
          clear hbr
          go_wp2_with (first
            | (go_at_call 23; refine (from_any 1 (fun _ => 0) wr _ xs (fun n hn => by obtain ⟨i, hi⟩ := List.mem_iff_getElem?.1 hn; have := fits_le (HA.out.p.t.ok.fit i n hi); unfold maxLen; omega) (HR5.out.below HBR.out) (by unfold maxLen; omega)).mono ?_; rintro e w6 ⟨u6, he, hb6, ht6, _⟩; rw [fromE_ok HA.out.p.t.ok] at he; subst he; obtain ⟨ow6, hk6, ht6⟩ := ht6 (fromE_ok HA.out.p.t.ok); obtain ⟨ub, hub⟩ := ht6.ptr; subst hub; have HT6 := Lib.hid ht6; have HB6 := Lib.hid hb6; have HBX := Lib.hid (below_trans HBR.out hb6); clear hk6 ht6 hb6)
            | fail)
          go_wp2_with (first
            | (go_at_call 28; refine (rows_post 1 ow6 _ _ xs HT6.out).mono ?_; rintro e w7 ⟨v7, rfl, hrd7, hb7⟩; have HB7 := Lib.hid (below_trans HBX.out hb7); have HD7 := Lib.hid hrd7; clear hb7 hrd7)
            | (go_at_call 30; refine (refSame_any _ _ _ xs xs (by unfold maxLen; omega) HD7.out (HR5.out.below HB7.out)).mono ?_; rintro e w8 ⟨rfl, hb8⟩; have HB8 := Lib.hid (below_trans HB7.out hb8); clear hb8)
            | (go_at_call 22; refine (heads03_any _).mono ?_; rintro e w9 ⟨rfl, hb9⟩; have HB9 := Lib.hid (below_trans HB8.out hb9); clear hb9))
          go_ret
          exact ⟨by simp, below_trans HB05.out HB9.out⟩
theorem once_any (w : World) (v u : Value) (rows : List ND) (acts : List AC) (hn : ∀ n ∈ rows, n.name.size ≤ maxLen) (hr : Rd w v rows.length 4 (nodeCells rows)) (hm : rows.length ≤ maxLen) (hl : rows.length * 40 ≤ 140737488355328)
    (hu : Rd w u acts.length 8 (acts.flatMap AC.cells)) (hum : acts.length ≤ maxLen) (hai : ∀ x ∈ acts, ACin x) :
    Calls Try.prog 6 #[v, u] w fun e w' => e = .returned (.bool true) ∧ Below w.heap.size w w' := by
  by_cases h0 : fromE [] rows = 0
  · exact once_ok w v u rows acts hn hr hm hl hu hum hai h0
  · exact once_no w v u rows acts hn hr hm hl hu hum hai h0

end Go.Dk
