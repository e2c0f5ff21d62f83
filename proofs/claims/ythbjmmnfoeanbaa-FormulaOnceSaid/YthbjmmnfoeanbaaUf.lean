/- FormulaPlays: every row of actions. -/
import Derived.Test.YthbjmmnfoeanbaaUd
import Derived.Test.YthbjmmnfoeanbaaUc
import Derived.Test.YthbjmmnfoeanbaaMb
import Derived.Test.YthbjmmnfoeanbaaS
namespace Go.Dk
open Go.RowKit Go.Maps Go.MapKept
open Go.Proofs hiding intOf

theorem asks_any (ow : Own) (w : World) (t r : Value) (rows : List ND) (h : Pair ow w t r rows rows) (i : Int) (n : ND) (hin : NDin n) :
    Calls Try.prog 32 #[t, r, .int .i64 i, n.val] w fun e w' => e = .returned (.bool true) ∧ Below w.heap.size w w' := by
  cases hb : hasB rows.length i with
  | false => exact asks_no ow w t r rows h i n hin hb
  | true =>
    simp only [hasB, Bool.and_eq_true, decide_eq_true_eq] at hb
    obtain ⟨j, rfl⟩ := Int.eq_ofNat_of_zero_le hb.1
    have hj : j < rows.length := by omega
    exact asks_yes ow w t r rows h j rows[j] (List.getElem?_eq_getElem hj) n hin

/-- On the way: the two tables are alike; what stood at first stands. -/
def PlI (w W : World) (t r : Value) : Prop := ∃ ow rows, Pair ow W t r rows rows ∧ Below w.heap.size w W ∧ ∀ b, b < w.heap.size → ow b = 0
theorem PlI.below {w W W' : World} {t r : Value} (h : PlI w W t r) (hb : Below W.heap.size W W') : PlI w W' t r := by
  obtain ⟨ow, rows, h1, h2, h3⟩ := h
  exact ⟨ow, rows, h1.below hb, below_trans h2 hb, h3⟩
theorem PlI.bel {w W : World} {t r : Value} (h : PlI w W t r) : Below w.heap.size w W := by obtain ⟨_, _, _, h, _⟩ := h; exact h
theorem PlI.play {w W W' : World} {t r : Value} {ow : Own} {rows : List ND} (h : Pair ow W t r rows rows ∧ Below w.heap.size w W ∧ ∀ b, b < w.heap.size → ow b = 0) {x : AC} {e : Ending} (hp : PlayPost ow W t r rows rows x e W') : e = .returned (.bool true) ∧ PlI w W' t r := by
  obtain ⟨b, ow', rfl, hb, hk, hpr⟩ := hp
  rw [hb rfl]
  refine ⟨rfl, ow', _, hpr, h.2.1.trans (hk.below h.2.1.size fun c hc => by rw [h.2.2 c hc]; rintro (h | h) <;> cases h), fun c hc => (hk.own c (Nat.lt_of_lt_of_le hc h.2.1.size)).trans (h.2.2 c hc)⟩

theorem plays_play (w W : World) (t r : Value) (h : PlI w W t r) (x : AC) (hin : ACin x) : Calls Try.prog 29 #[t, r, x.val] W fun e W' => e = .returned (.bool true) ∧ PlI w W' t r := by
  obtain ⟨ow, rows, h⟩ := h
  exact (play_any ow W t r rows rows h.1 x hin).mono fun e W' hp => PlI.play h hp
theorem plays_asks (w W : World) (t r : Value) (h : PlI w W t r) (i : Int) (n : ND) (hin : NDin n) : Calls Try.prog 32 #[t, r, .int .i64 i, n.val] W fun e W' => e = .returned (.bool true) ∧ PlI w W' t r := by
  have h' := h
  obtain ⟨ow, rows, h1, _⟩ := h
  exact (asks_any ow W t r rows h1 i n hin).mono fun e W' hp => ⟨hp.1, h'.below hp.2⟩

/-- An action's cells in a row of actions. -/
theorem acts_at {w : World} {v : Value} {acts : List AC} (h : Rd w v acts.length 8 (acts.flatMap AC.cells)) {i : Nat} {x : AC} (hi : acts[i]? = some x) :
    ∃ b o c, v = .slice (some ⟨b, o, none⟩) acts.length c ∧ b < w.heap.size ∧ w.cell? ⟨b, o + i * 8, none⟩ = some (.int .i64 x.kind) ∧ w.cell? ⟨b, o + i * 8 + 1, none⟩ = some (.string x.name) ∧ w.cell? ⟨b, o + i * 8 + 2, none⟩ = some (.int .i64 x.a) ∧ w.cell? ⟨b, o + i * 8 + 3, none⟩ = some (.int .i64 x.b) ∧
      w.cell? ⟨b, o + i * 8 + 4, none⟩ = some (.int .i64 x.n.kind) ∧ w.cell? ⟨b, o + i * 8 + 5, none⟩ = some (.string x.n.name) ∧ w.cell? ⟨b, o + i * 8 + 6, none⟩ = some (.int .i64 x.n.l) ∧ w.cell? ⟨b, o + i * 8 + 7, none⟩ = some (.int .i64 x.n.r) := by
  have hl := (List.getElem?_eq_some_iff.1 hi).1
  obtain ⟨b, o, c, rfl, hc⟩ := h.some (by omega)
  have at_ : ∀ j u, x.cells[j]? = some u → (acts.flatMap AC.cells)[i * 8 + j]? = some u := by
    intro j u hu
    have hj : j < 8 := by have := (List.getElem?_eq_some_iff.1 hu).1; simpa [AC.cells] using this
    clear hc h hl
    induction acts generalizing i with
    | nil => simp at hi
    | cons a t ih =>
      cases i with
      | zero =>
        simp at hi
        subst hi
        simp only [List.flatMap_cons, Nat.zero_mul, Nat.zero_add]
        rw [List.getElem?_append_left (by simpa [AC.cells] using hj)]
        exact hu
      | succ i =>
        have := ih (i := i) (by simpa using hi)
        simp only [List.flatMap_cons]
        rw [List.getElem?_append_right (by simp [AC.cells]; omega)]
        rw [← this]
        congr 1
        simp [AC.cells]; omega
  have c0 := hc (i * 8) _ (at_ 0 _ rfl)
  refine ⟨b, o, c, rfl, World.block_lt_of_cell? w _ c0, c0, ?_, ?_, ?_, ?_, ?_, ?_, ?_⟩
  · exact hc _ _ (at_ 1 _ rfl)
  · exact hc _ _ (at_ 2 _ rfl)
  · exact hc _ _ (at_ 3 _ rfl)
  · exact hc _ _ (at_ 4 _ rfl)
  · exact hc _ _ (at_ 5 _ rfl)
  · exact hc _ _ (at_ 6 _ rfl)
  · exact hc _ _ (at_ 7 _ rfl)

theorem setCells_one (w : World) (b o : Nat) (v : Value) : w.setCells b o [v] = w.setCell ⟨b, o, none⟩ v := rfl

theorem PlI.fresh {w w0 w2 : World} {t : Value} {ow2 : Own} (hb0 : Below w.heap.size w w0) (ht : Tab 1 ow2 w2 t []) (hk : Kept 1 (fun _ => 0) w0 ow2 w2) (hb : Below w0.heap.size w0 w2) : PlI w (w2.alloc (.cells #[.slice none 0 0] 50)) t (.pointer (some ⟨w2.heap.size, 0, none⟩)) := by
  refine ⟨fun b => if b < w2.heap.size then ow2 b else 2, [], ⟨(ht.recolourLt (fun b hb e => by simp [hb, e])).below (below_alloc _ _), w2.heap.size, _, rfl, heap_alloc_new' _ _ rfl, ?_, Ok.nil, by simp, by simp [Value.ownBlock]⟩, below_trans (below_trans hb0 hb) (below_alloc _ _), fun b hbw => ?_⟩
  · exact .inl (World.ownsRow_nil _ _ _ _)
  · have h1 := Nat.lt_of_lt_of_le hbw hb0.size
    have h2 := Nat.lt_of_lt_of_le h1 hb.size
    simp only [h2, if_true]
    exact hk.own b h1

set_option maxRecDepth 100000 in
set_option maxHeartbeats 1000000 in
theorem plays_ok (w : World) (v u : Value) (rows : List ND) (acts : List AC) (hn : ∀ n ∈ rows, n.name.size ≤ maxLen) (hr : Rd w v rows.length 4 (nodeCells rows)) (hm : rows.length ≤ maxLen) (hl : rows.length * 40 ≤ 140737488355328)
    (hu : Rd w u acts.length 8 (acts.flatMap AC.cells)) (hum : acts.length ≤ maxLen) (hai : ∀ x ∈ acts, ACin x) (h0 : fromE [] rows = 0) :
    Calls Try.prog 7 #[v, u] w fun e w' => e = .returned (.bool true) ∧ Below w.heap.size w w' := by
  have HR := Lib.hid hr
  have HN := Lib.hid hn
  have H0 := Lib.hid h0
  have HU := Lib.hid hu
  have HAI := Lib.hid hai
  obtain ⟨a, c, rfl⟩ := hr.slice
  obtain ⟨a', c', rfl⟩ := hu.slice
  clear hr hn h0 hu hai
  unfold maxLen at hum
  go_enter Try.func7, Try.ntmps7
  go_wp2_with (first
    | (go_at_call 27; refine (both_any w _ rows HN.out HR.out hm hl).mono ?_; rintro e w1 ⟨hb1, _, h⟩; obtain ⟨t, r, ow, he, hp, ho⟩ := h H0.out; subst he; obtain ⟨pb, hpb⟩ := hp.t.ptr; obtain ⟨qb, hqb⟩ := hp.r.ptr; subst hpb hqb; have HI : Hid (PlI w w1 (.pointer (some ⟨pb, 0, none⟩)) (.pointer (some ⟨qb, 0, none⟩))) := ⟨ow, _, hp, hb1, ho⟩; clear h hp ho hb1)
    | fail)
  go_loopw [8] (fun i W => ∃ j : Nat, j ≤ acts.length ∧ i = .int .i64 j ∧ PlI w W (.pointer (some ⟨pb, 0, none⟩)) (.pointer (some ⟨qb, 0, none⟩))) (fun i _ => acts.length - (intOf i).toNat)
  case atStart => exact ⟨0, Nat.zero_le _, rfl, HI.out⟩
  case round =>
    obtain ⟨j, hj, rfl, hI⟩ := hrel
    have HJ := Lib.hid hI
    by_cases hlt : j < acts.length
    · obtain ⟨x, hx⟩ : ∃ x, acts[j]? = some x := ⟨_, List.getElem?_eq_getElem hlt⟩
      have hxm : ACin x := HAI.out x (List.mem_of_getElem? hx)
      have hxx := hx
      obtain ⟨gb, go, gc, he, hgl, e0, e1, e2, e3, e4, e5, e6, e7⟩ := acts_at (HU.out.below hI.bel) hx
      cases he
      have HX := Lib.hid hxm
      clear hI hx hxm
      obtain ⟨kd, nm, xa, xb, ⟨nk, nn, nl, nr⟩⟩ := x
      simp only at e0 e1 e2 e3 e4 e5 e6 e7
      have HC : Hid (∀ W, PlI w W (.pointer (some ⟨pb, 0, none⟩)) (.pointer (some ⟨qb, 0, none⟩)) → (W.cell? ⟨gb, go + j * 8, none⟩ = some (.int .i64 kd) ∧ W.cell? ⟨gb, go + j * 8 + 1, none⟩ = some (.string nm) ∧ W.cell? ⟨gb, go + j * 8 + 2, none⟩ = some (.int .i64 xa) ∧ W.cell? ⟨gb, go + j * 8 + 3, none⟩ = some (.int .i64 xb) ∧ W.cell? ⟨gb, go + j * 8 + 4, none⟩ = some (.int .i64 nk) ∧ W.cell? ⟨gb, go + j * 8 + 5, none⟩ = some (.string nn) ∧ W.cell? ⟨gb, go + j * 8 + 6, none⟩ = some (.int .i64 nl) ∧ W.cell? ⟨gb, go + j * 8 + 7, none⟩ = some (.int .i64 nr))) := fun W h => by
        obtain ⟨b', o', c'', he', _, f⟩ := acts_at (HU.out.below h.bel) hxx
        cases he'
        exact f
      clear e0 e1 e2 e3 e4 e5 e6 e7 hxx
      have hd0 : PlI w wr.drew (.pointer (some ⟨pb, 0, none⟩)) (.pointer (some ⟨qb, 0, none⟩)) := HJ.out.below (below_drew' _)
      go_wp2
      go_region_held3 (fun W => (W.cell? ⟨gb, go + j * 8, none⟩ = some (.int .i64 kd) ∧ W.cell? ⟨gb, go + j * 8 + 1, none⟩ = some (.string nm) ∧ W.cell? ⟨gb, go + j * 8 + 2, none⟩ = some (.int .i64 xa) ∧ W.cell? ⟨gb, go + j * 8 + 3, none⟩ = some (.int .i64 xb) ∧ W.cell? ⟨gb, go + j * 8 + 4, none⟩ = some (.int .i64 nk) ∧ W.cell? ⟨gb, go + j * 8 + 5, none⟩ = some (.string nn) ∧ W.cell? ⟨gb, go + j * 8 + 6, none⟩ = some (.int .i64 nl) ∧ W.cell? ⟨gb, go + j * 8 + 7, none⟩ = some (.int .i64 nr))) (first | exact HC.out _ (by assumption))
        (first
          | (go_at_call 29; refine (plays_play w _ _ _ (by assumption) ⟨kd, nm, xa, xb, ⟨nk, nn, nl, nr⟩⟩ HX.out).mono ?_; rintro e w2 ⟨rfl, hp2⟩)
          | (go_at_call 32; refine (plays_asks w _ _ _ (by assumption) _ ⟨nk, nn, nl, nr⟩ HX.out.n).mono ?_; rintro e w2 ⟨rfl, hp2⟩))
      all_goals
        go_wp2
        exact ⟨⟨j + 1, by omega, by go_num, by assumption⟩, by simp [intOf]; omega⟩
    · obtain ⟨ow1, rows1, hp1, hb1, ho1⟩ := hI
      have HB := Lib.hid hb1
      have HP := Lib.hid hp1
      have HO := Lib.hid ho1
      obtain ⟨qb', qv, hqe, hq⟩ := hp1.r
      cases hqe
      obtain ⟨qa, qc, hq2⟩ := hq.hr.slice
      subst hq2
      have c5 : wr.cell? ⟨qb, 0, none⟩ = some (.slice qa rows1.length qc) := cell_of hq.hp rfl
      have lq := lt_of_block hq.hp
      have HQ := Lib.hid hq
      clear hp1 hb1 ho1 hq
      go_wp2_with (first
        | (go_at_call 28; refine (rows_any 1 ow1 _ _ rows1 HP.out.t).mono ?_; rintro e w2 ⟨v', rfl, hown2, hb2⟩; have c6 : w2.cell? ⟨qb, 0, none⟩ = some (.slice qa rows1.length qc) := (hb2.cell (p := ⟨qb, 0, none⟩) lq).trans c5; have HB2 := Lib.hid hb2; have HO2 := Lib.hid hown2; clear hb2 hown2)
        | (go_at_call 30; refine (refSame_any _ _ _ rows1 rows1 (by have := HP.out.t.ok.le; unfold maxLen; omega) (rd_own HO2.out) (HQ.out.below HB2.out).hr.rd).mono ?_; rintro e w3 ⟨rfl, hb3⟩; have HB3 := Lib.hid hb3; clear hb3)
        | fail)
      obtain ⟨la, lc, hv'⟩ := own_slice HO2.out
      subst hv'
      have HLO : Hid (∀ b, b < wr.heap.size → (Value.slice la rows1.length lc).ownBlock ≠ some b) := own_lo HO2.out
      have HB13 : Hid (Below wr.heap.size wr w3) := below_trans HB2.out HB3.out
      obtain ⟨ow3, hw3⟩ : ∃ ow3 : Own, ow3 = fun b => if (Value.slice la rows1.length lc).ownBlock = some b then 3 else ow1 b := ⟨_, rfl⟩
      have HW3 := Lib.hid hw3
      clear hw3
      have HR3 : Hid (∀ k b, b < wr.heap.size → ow1 b = k → ow3 b = k) := fun k b hb e => by rw [HW3.out]; simp only; rw [if_neg (HLO.out b hb), e]
      have HT5 : Hid (Tab 1 ow3 w3 (.pointer (some ⟨pb, 0, none⟩)) rows1) := (HP.out.t.recolourLt (HR3.out 1)).below HB13.out
      have HT6 : Hid (RTab 2 ow3 w3 (.pointer (some ⟨qb, 0, none⟩)) rows1) := (HP.out.r.recolourLt (HR3.out 2)).below HB13.out
      have HI3 : Hid (OwnI w3 w3 ow3 (.slice la rows1.length lc) rows1.length) := ⟨Kept.refl _ _ _, fun h => by
        obtain ⟨g, c, e, h1, _, h2⟩ := own_there HO2.out h
        have h3 := there_below h1 h2 HB3.out
        cases e
        exact ⟨g, lc, rfl, h3, by rw [HW3.out]; simp [Value.ownBlock]⟩⟩
      have hle1 := HP.out.t.ok.le
      clear c5 c6 lq
      obtain ⟨wo, hwo⟩ : ∃ wo : World, wo = wr := ⟨_, rfl⟩
      subst hwo
      go_loopw [11] (fun i W => ∃ j : Nat, j ≤ rows1.length ∧ i = .int .i64 j ∧ OwnI w3 W ow3 (.slice la rows1.length lc) rows1.length) (fun i _ => rows1.length - (intOf i).toNat)
      case atStart => exact ⟨0, Nat.zero_le _, rfl, HI3.out⟩
      case round =>
        obtain ⟨j2, hj2, rfl, hI2⟩ := hrel
        by_cases hlt2 : j2 < rows1.length
        · obtain ⟨g, c, e, h1, h2⟩ := hI2.t (by omega)
          cases e
          have hI3 := Lib.hid (hI2.step hlt2 [.int .i64 9])
          have HTh := Lib.hid h1
          clear hI2 h1
          obtain ⟨⟨⟨u0, d0⟩, f0⟩, _⟩ := there4 HTh.out hlt2
          go_wp2
          refine ⟨⟨j2 + 1, by omega, by go_num, hI3.out⟩, by simp [intOf]; omega⟩
        · have hI3 := Lib.hid hI2
          clear hI2
          have HOW : Hid (∀ b, b < w.heap.size → ow3 b ≠ 3) := fun b hb e => by
            have hb' := Nat.lt_of_lt_of_le hb HB.out.size
            rw [HW3.out] at e
            simp only at e
            rw [if_neg (HLO.out b hb'), HO.out b hb] at e
            cases e
          have HB03 : Hid (Below w.heap.size w w3) := below_trans HB.out HB13.out
          have HWW : Hid (Below w.heap.size w wr) := HB03.out.trans (hI3.out.k.below HB03.out.size HOW.out)
          have HT7 : Hid (Tab 1 ow3 wr (.pointer (some ⟨pb, 0, none⟩)) rows1) := HT5.out.kept hI3.out.k (by decide)
          have HT8 : Hid (RTab 2 ow3 wr (.pointer (some ⟨qb, 0, none⟩)) rows1) := HT6.out.kept hI3.out.k (by decide)
          go_wp2_with (first
            | (go_at_call 25; refine (like_any 1 2 ow3 ow3 _ _ _ rows1 HT7.out HT8.out).mono ?_; rintro e w4 ⟨rfl, hb4⟩)
            | (go_at_call 22; refine (heads03_any _).mono ?_; rintro e w5 ⟨rfl, hb5⟩))
          go_ret
          exact ⟨rfl, below_trans (below_trans HWW.out hb4) hb5⟩
set_option maxRecDepth 100000 in
set_option maxHeartbeats 1000000 in
theorem plays_no (w : World) (v u : Value) (rows : List ND) (acts : List AC) (hn : ∀ n ∈ rows, n.name.size ≤ maxLen) (hr : Rd w v rows.length 4 (nodeCells rows)) (hm : rows.length ≤ maxLen) (hl : rows.length * 40 ≤ 140737488355328)
    (hu : Rd w u acts.length 8 (acts.flatMap AC.cells)) (hum : acts.length ≤ maxLen) (hai : ∀ x ∈ acts, ACin x) (h0 : fromE [] rows ≠ 0) :
    Calls Try.prog 7 #[v, u] w fun e w' => e = .returned (.bool true) ∧ Below w.heap.size w w' := by
  have HR := Lib.hid hr
  have HN := Lib.hid hn
  have H0 := Lib.hid h0
  have HU := Lib.hid hu
  have HAI := Lib.hid hai
  obtain ⟨a, c, rfl⟩ := hr.slice
  obtain ⟨a', c', rfl⟩ := hu.slice
  clear hr hn h0 hu hai
  unfold maxLen at hum
  go_enter Try.func7, Try.ntmps7
  go_wp2_with (first
    | (go_at_call 27; refine (both_any w _ rows HN.out HR.out hm hl).mono ?_; rintro e w0 ⟨hb1, h, _⟩; have he := h H0.out; subst he; have HB0 := Lib.hid hb1; clear h hb1)
    | (go_at_call 18; refine (new_any 1 (fun _ => 0) _).mono ?_; rintro e w2 ⟨t, ow2, he, ht2, hk2, hb2⟩; subst he; obtain ⟨pb, hpb⟩ := ht2.ptr; subst hpb; have HI0 := Lib.hid (PlI.fresh HB0.out ht2 hk2 hb2); clear ht2 hk2 hb2)
    | fail)
  have HI := HI0
  clear HI0
  generalize w2.alloc (.cells #[.slice none 0 0] 50) = w1 at *
  generalize w2.heap.size = qb at *
  go_loopw [8] (fun i W => ∃ j : Nat, j ≤ acts.length ∧ i = .int .i64 j ∧ PlI w W (.pointer (some ⟨pb, 0, none⟩)) (.pointer (some ⟨qb, 0, none⟩))) (fun i _ => acts.length - (intOf i).toNat)
  case atStart => exact ⟨0, Nat.zero_le _, rfl, HI.out⟩
  case round =>
    obtain ⟨j, hj, rfl, hI⟩ := hrel
    have HJ := Lib.hid hI
    by_cases hlt : j < acts.length
    · obtain ⟨x, hx⟩ : ∃ x, acts[j]? = some x := ⟨_, List.getElem?_eq_getElem hlt⟩
      have hxm : ACin x := HAI.out x (List.mem_of_getElem? hx)
      have hxx := hx
      obtain ⟨gb, go, gc, he, hgl, e0, e1, e2, e3, e4, e5, e6, e7⟩ := acts_at (HU.out.below hI.bel) hx
      cases he
      have HX := Lib.hid hxm
      clear hI hx hxm
      obtain ⟨kd, nm, xa, xb, ⟨nk, nn, nl, nr⟩⟩ := x
      simp only at e0 e1 e2 e3 e4 e5 e6 e7
      have HC : Hid (∀ W, PlI w W (.pointer (some ⟨pb, 0, none⟩)) (.pointer (some ⟨qb, 0, none⟩)) → (W.cell? ⟨gb, go + j * 8, none⟩ = some (.int .i64 kd) ∧ W.cell? ⟨gb, go + j * 8 + 1, none⟩ = some (.string nm) ∧ W.cell? ⟨gb, go + j * 8 + 2, none⟩ = some (.int .i64 xa) ∧ W.cell? ⟨gb, go + j * 8 + 3, none⟩ = some (.int .i64 xb) ∧ W.cell? ⟨gb, go + j * 8 + 4, none⟩ = some (.int .i64 nk) ∧ W.cell? ⟨gb, go + j * 8 + 5, none⟩ = some (.string nn) ∧ W.cell? ⟨gb, go + j * 8 + 6, none⟩ = some (.int .i64 nl) ∧ W.cell? ⟨gb, go + j * 8 + 7, none⟩ = some (.int .i64 nr))) := fun W h => by
        obtain ⟨b', o', c'', he', _, f⟩ := acts_at (HU.out.below h.bel) hxx
        cases he'
        exact f
      clear e0 e1 e2 e3 e4 e5 e6 e7 hxx
      have hd0 : PlI w wr.drew (.pointer (some ⟨pb, 0, none⟩)) (.pointer (some ⟨qb, 0, none⟩)) := HJ.out.below (below_drew' _)
      go_wp2
      go_region_held3 (fun W => (W.cell? ⟨gb, go + j * 8, none⟩ = some (.int .i64 kd) ∧ W.cell? ⟨gb, go + j * 8 + 1, none⟩ = some (.string nm) ∧ W.cell? ⟨gb, go + j * 8 + 2, none⟩ = some (.int .i64 xa) ∧ W.cell? ⟨gb, go + j * 8 + 3, none⟩ = some (.int .i64 xb) ∧ W.cell? ⟨gb, go + j * 8 + 4, none⟩ = some (.int .i64 nk) ∧ W.cell? ⟨gb, go + j * 8 + 5, none⟩ = some (.string nn) ∧ W.cell? ⟨gb, go + j * 8 + 6, none⟩ = some (.int .i64 nl) ∧ W.cell? ⟨gb, go + j * 8 + 7, none⟩ = some (.int .i64 nr))) (first | exact HC.out _ (by assumption))
        (first
          | (go_at_call 29; refine (plays_play w _ _ _ (by assumption) ⟨kd, nm, xa, xb, ⟨nk, nn, nl, nr⟩⟩ HX.out).mono ?_; rintro e w2 ⟨rfl, hp2⟩)
          | (go_at_call 32; refine (plays_asks w _ _ _ (by assumption) _ ⟨nk, nn, nl, nr⟩ HX.out.n).mono ?_; rintro e w2 ⟨rfl, hp2⟩))
      all_goals
        go_wp2
        exact ⟨⟨j + 1, by omega, by go_num, by assumption⟩, by simp [intOf]; omega⟩
    · obtain ⟨ow1, rows1, hp1, hb1, ho1⟩ := hI
      have HB := Lib.hid hb1
      have HP := Lib.hid hp1
      have HO := Lib.hid ho1
      obtain ⟨qb', qv, hqe, hq⟩ := hp1.r
      cases hqe
      obtain ⟨qa, qc, hq2⟩ := hq.hr.slice
      subst hq2
      have c5 : wr.cell? ⟨qb, 0, none⟩ = some (.slice qa rows1.length qc) := cell_of hq.hp rfl
      have lq := lt_of_block hq.hp
      have HQ := Lib.hid hq
      clear hp1 hb1 ho1 hq
      go_wp2_with (first
        | (go_at_call 28; refine (rows_any 1 ow1 _ _ rows1 HP.out.t).mono ?_; rintro e w2 ⟨v', rfl, hown2, hb2⟩; have c6 : w2.cell? ⟨qb, 0, none⟩ = some (.slice qa rows1.length qc) := (hb2.cell (p := ⟨qb, 0, none⟩) lq).trans c5; have HB2 := Lib.hid hb2; have HO2 := Lib.hid hown2; clear hb2 hown2)
        | (go_at_call 30; refine (refSame_any _ _ _ rows1 rows1 (by have := HP.out.t.ok.le; unfold maxLen; omega) (rd_own HO2.out) (HQ.out.below HB2.out).hr.rd).mono ?_; rintro e w3 ⟨rfl, hb3⟩; have HB3 := Lib.hid hb3; clear hb3)
        | fail)
      obtain ⟨la, lc, hv'⟩ := own_slice HO2.out
      subst hv'
      have HLO : Hid (∀ b, b < wr.heap.size → (Value.slice la rows1.length lc).ownBlock ≠ some b) := own_lo HO2.out
      have HB13 : Hid (Below wr.heap.size wr w3) := below_trans HB2.out HB3.out
      obtain ⟨ow3, hw3⟩ : ∃ ow3 : Own, ow3 = fun b => if (Value.slice la rows1.length lc).ownBlock = some b then 3 else ow1 b := ⟨_, rfl⟩
      have HW3 := Lib.hid hw3
      clear hw3
      have HR3 : Hid (∀ k b, b < wr.heap.size → ow1 b = k → ow3 b = k) := fun k b hb e => by rw [HW3.out]; simp only; rw [if_neg (HLO.out b hb), e]
      have HT5 : Hid (Tab 1 ow3 w3 (.pointer (some ⟨pb, 0, none⟩)) rows1) := (HP.out.t.recolourLt (HR3.out 1)).below HB13.out
      have HT6 : Hid (RTab 2 ow3 w3 (.pointer (some ⟨qb, 0, none⟩)) rows1) := (HP.out.r.recolourLt (HR3.out 2)).below HB13.out
      have HI3 : Hid (OwnI w3 w3 ow3 (.slice la rows1.length lc) rows1.length) := ⟨Kept.refl _ _ _, fun h => by
        obtain ⟨g, c, e, h1, _, h2⟩ := own_there HO2.out h
        have h3 := there_below h1 h2 HB3.out
        cases e
        exact ⟨g, lc, rfl, h3, by rw [HW3.out]; simp [Value.ownBlock]⟩⟩
      have hle1 := HP.out.t.ok.le
      clear c5 c6 lq
      obtain ⟨wo, hwo⟩ : ∃ wo : World, wo = wr := ⟨_, rfl⟩
      subst hwo
      go_loopw [11] (fun i W => ∃ j : Nat, j ≤ rows1.length ∧ i = .int .i64 j ∧ OwnI w3 W ow3 (.slice la rows1.length lc) rows1.length) (fun i _ => rows1.length - (intOf i).toNat)
      case atStart => exact ⟨0, Nat.zero_le _, rfl, HI3.out⟩
      case round =>
        obtain ⟨j2, hj2, rfl, hI2⟩ := hrel
        by_cases hlt2 : j2 < rows1.length
        · obtain ⟨g, c, e, h1, h2⟩ := hI2.t (by omega)
          cases e
          have hI3 := Lib.hid (hI2.step hlt2 [.int .i64 9])
          have HTh := Lib.hid h1
          clear hI2 h1
          obtain ⟨⟨⟨u0, d0⟩, f0⟩, _⟩ := there4 HTh.out hlt2
          go_wp2
          refine ⟨⟨j2 + 1, by omega, by go_num, hI3.out⟩, by simp [intOf]; omega⟩
        · have hI3 := Lib.hid hI2
          clear hI2
          have HOW : Hid (∀ b, b < w.heap.size → ow3 b ≠ 3) := fun b hb e => by
            have hb' := Nat.lt_of_lt_of_le hb HB.out.size
            rw [HW3.out] at e
            simp only at e
            rw [if_neg (HLO.out b hb'), HO.out b hb] at e
            cases e
          have HB03 : Hid (Below w.heap.size w w3) := below_trans HB.out HB13.out
          have HWW : Hid (Below w.heap.size w wr) := HB03.out.trans (hI3.out.k.below HB03.out.size HOW.out)
          have HT7 : Hid (Tab 1 ow3 wr (.pointer (some ⟨pb, 0, none⟩)) rows1) := HT5.out.kept hI3.out.k (by decide)
          have HT8 : Hid (RTab 2 ow3 wr (.pointer (some ⟨qb, 0, none⟩)) rows1) := HT6.out.kept hI3.out.k (by decide)
          go_wp2_with (first
            | (go_at_call 25; refine (like_any 1 2 ow3 ow3 _ _ _ rows1 HT7.out HT8.out).mono ?_; rintro e w4 ⟨rfl, hb4⟩)
            | (go_at_call 22; refine (heads03_any _).mono ?_; rintro e w5 ⟨rfl, hb5⟩))
          go_ret
          exact ⟨rfl, below_trans (below_trans HWW.out hb4) hb5⟩
theorem plays_any (w : World) (v u : Value) (rows : List ND) (acts : List AC) (hn : ∀ n ∈ rows, n.name.size ≤ maxLen) (hr : Rd w v rows.length 4 (nodeCells rows)) (hm : rows.length ≤ maxLen) (hl : rows.length * 40 ≤ 140737488355328)
    (hu : Rd w u acts.length 8 (acts.flatMap AC.cells)) (hum : acts.length ≤ maxLen) (hai : ∀ x ∈ acts, ACin x) :
    Calls Try.prog 7 #[v, u] w fun e w' => e = .returned (.bool true) ∧ Below w.heap.size w w' := by
  by_cases h0 : fromE [] rows = 0
  · exact plays_ok w v u rows acts hn hr hm hl hu hum hai h0
  · exact plays_no w v u rows acts hn hr hm hl hu hum hai h0

end Go.Dk
