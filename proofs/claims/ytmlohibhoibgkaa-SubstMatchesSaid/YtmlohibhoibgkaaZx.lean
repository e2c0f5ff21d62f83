/- SubstMatches, walked. -/
import Derived.Test.YtmlohibhoibgkaaZu
import Derived.Test.YtmlohibhoibgkaaZa
import Derived.Test.YtmlohibhoibgkaaEe
import Derived.Test.YtmlohibhoibgkaaZi
namespace Go.Dk
open Go.RowKit Go.Maps Go.MapKept
open Go.Proofs hiding intOf

theorem refMatch_any (k : Nat) (ow : Own) (w : World) (t : Value) (rows : List ND) (h : RTab k ow w t rows) (p f : Int) :
    Calls Try.prog 16 #[t, .int .i64 p, .int .i64 f] w (MatchPost w rows p f) := by
  cases hb : hasB rows.length p with
  | false => exact refMatch_no k ow w t rows h p f (.inl hb)
  | true =>
    cases hc : hasB rows.length f with
    | false => exact refMatch_no k ow w t rows h p f (.inr hc)
    | true =>
      obtain ⟨x, rfl, hx⟩ := nat_of_has hb
      obtain ⟨y, rfl, hy⟩ := nat_of_has hc
      exact refMatch_yes k ow w t rows h x y hx hy

theorem take_parts {rows : List ND} (ok : Ok rows) {id : Nat} (hid : id < rows.length) {j x : Nat} (hx : (below rows id)[j]? = some x) (h3 : 3 ≤ (rowAt rows x).kind) :
    (rowAt rows x).l.toNat ∈ (below rows id).take j ∧ (rowAt rows x).r.toNat ∈ (below rows id).take j := by
  have hxm := List.mem_of_getElem? hx
  have hxl : x < rows.length := by have := ((mem_below ok).1 hxm).le ok; omega
  obtain ⟨p1, p2⟩ := below_parts ok hid hxm h3
  obtain ⟨q1, q2⟩ := ok.parts (rowAt_get hxl) h3
  have key : ∀ y, y ∈ below rows id → y < x → y ∈ (below rows id).take j := by
    intro y hy hlt
    obtain ⟨a, ha⟩ := List.getElem?_of_mem hy
    have hla := (List.getElem?_eq_some_iff.1 ha).1
    have hlj := (List.getElem?_eq_some_iff.1 hx).1
    have haj : a < j := by
      apply Classical.byContradiction
      intro hn
      rcases Nat.lt_or_ge j a with hja | hja
      · have := List.pairwise_iff_getElem.1 (below_pairwise rows id) j a hlj hla hja
        rw [(List.getElem?_eq_some_iff.1 ha).2, (List.getElem?_eq_some_iff.1 hx).2] at this
        omega
      · have e : a = j := by omega
        subst e
        rw [hx] at ha; cases ha; omega
    exact List.mem_of_getElem? (by rw [List.getElem?_take_of_lt haj]; exact ha)
  exact ⟨key _ p1 (by omega), key _ p2 (by omega)⟩
theorem take_sem {of : OfF} {F : Fm → Fm} {rows rowsj : List ND} (ok : Ok rows) (hs : Sem of F rows) {id : Nat} (hid : id < rows.length) {j : Nat} {img : Nat → Int} (st : anewGo of ((below rows id).take j) rows (fun _ => 0) = (rowsj, img, 0)) :
    ∀ x ∈ (below rows id).take j, ∃ i : Nat, img x = (i : Int) ∧ i < rowsj.length ∧ tree rowsj i = F (tree rows x) := by
  intro x hx
  have hlt : ∀ k ∈ (below rows id).take j, k < rows.length := fun k hk => by have := ((mem_below ok).1 (List.mem_of_mem_take hk)).le ok; omega
  have h := anewGo_sem ok hs ((below rows id).take j) rows (fun _ => 0) (fun _ => False) ⟨ok, List.prefix_refl _, fun _ h => h.elim⟩ hlt ((below_pairwise rows id).sublist (List.take_sublist _ _)) (fun k hk h3 => by
    obtain ⟨a, ha⟩ := List.getElem?_of_mem hk
    have haj : a < j := by
      have := (List.getElem?_eq_some_iff.1 ha).1
      rw [List.length_take] at this; omega
    rw [List.getElem?_take_of_lt haj] at ha
    obtain ⟨p1, p2⟩ := take_parts ok hid ha h3
    have sub : ∀ y ∈ (below rows id).take a, y ∈ (below rows id).take j := fun y hy => by
      obtain ⟨b, hb⟩ := List.getElem?_of_mem hy
      have hba : b < a := by
        have := (List.getElem?_eq_some_iff.1 hb).1
        rw [List.length_take] at this; omega
      rw [List.getElem?_take_of_lt hba] at hb
      exact List.mem_of_getElem? (i := b) (by rw [List.getElem?_take_of_lt (by omega)]; exact hb)
    exact ⟨.inr (sub _ p1), .inr (sub _ p2)⟩) (by rw [st])
  rw [st] at h
  exact h.img x (.inr hx) (hlt x hx)

theorem put_in {named : ByteArray → Option Int} {rows : List ND} (ok : Ok rows) {id : Nat} (hid : id < rows.length) (hn : ∀ s f, named s = some f → hasB rows.length f = true)
    (hex : ∀ k ∈ below rows id, ∃ m, m < rows.length ∧ tree rows m = sub (sig named rows) (tree rows k))   : ∃ img : Nat → Int, anewP (putOf named) rows id = ⟨rows, img id, 0⟩ := by
  have hs := putOf_sem (named := named) ok hn
  have key : ∀ j, j ≤ (below rows id).length → ∃ img : Nat → Int, anewGo (putOf named) ((below rows id).take j) rows (fun _ => 0) = (rows, img, 0) := by
    intro j
    induction j with
    | zero => exact fun _ => ⟨fun _ => 0, by simp [anewGo]⟩
    | succ j ih =>
      intro hj
      obtain ⟨img, st⟩ := ih (by omega)
      obtain ⟨x, hx⟩ : ∃ x, (below rows id)[j]? = some x := ⟨_, List.getElem?_eq_getElem (by omega)⟩
      have hxm := List.mem_of_getElem? hx
      have hxl : x < rows.length := by have := ((mem_below ok).1 hxm).le ok; omega
      have hP : (pAt (putOf named) rows x img).err = 0 ∧ (pAt (putOf named) rows x img).rows = rows := by
        unfold pAt putOf
        by_cases h3 : 3 ≤ (rowAt rows x).kind
        · rw [if_pos h3, if_pos h3, if_neg (by omega)]
          obtain ⟨p1, p2⟩ := take_parts ok hid hx h3
          obtain ⟨a, a1, a2, a3⟩ := take_sem ok hs hid st _ p1
          obtain ⟨b, b1, b2, b3⟩ := take_sem ok hs hid st _ p2
          obtain ⟨m, m1, m2⟩ := hex x hxm
          have hkm : (rowAt rows x).kind = (rowAt rows m).kind := by
            have e1 := tree_kind ok (rowAt_get hxl)
            have e2 := tree_kind ok (rowAt_get m1)
            have := sub_kind (sig named rows) (tree rows x) (by rw [e1]; omega)
            rw [← m2, e1, e2] at this
            exact this.symm
          obtain ⟨c1, c2⟩ := two_sub ok hxl m1 h3 hkm m2.symm
          have hpm := ok.parts (rowAt_get m1) (by omega)
          have ea := tree_inj ok a2 (by omega) (a3.trans c1)
          have eb := tree_inj ok b2 (by omega) (b3.trans c2)
          rw [a1, b1]
          have hrow := rowAt_get m1
          have e : rowAt rows m = ⟨(rowAt rows x).kind, ByteArray.empty, (a : Int), (b : Int)⟩ := by
            rw [hkm]
            rcases ok.row hrow with ⟨h, _⟩ | h | ⟨_, hnm, _⟩
            · omega
            · rw [h] at hkm; simp [botN] at hkm; omega
            · generalize rowAt rows m = n at *
              obtain ⟨kd, nm, l, r⟩ := n
              simp only at *
              have el : l = (a : Int) := by omega
              have er : r = (b : Int) := by omega
              rw [hnm, el, er]
          rw [e] at hrow
          rw [put_there ok hrow]
          exact ⟨rfl, rfl⟩
        · rw [if_neg h3, if_neg h3, if_pos (by omega)]
          split <;> exact ⟨rfl, rfl⟩
      refine ⟨fun y => if y = x then (pAt (putOf named) rows x img).id else img y, ?_⟩
      rw [takeN_snoc hx, anewGo_snoc st hP.1, hP.2]
  obtain ⟨img, h⟩ := key _ (Nat.le_refl _)
  rw [List.take_length] at h
  exact ⟨img, anewP_end h⟩

/-- What was told makes the formula of the pattern. -/
theorem match_put {rows : List ND} (ok : Ok rows) {p f : Nat} (hp : p < rows.length) (hf : f < rows.length) {l : List HY} (h : MatchY rows p f l) : putP rows (p : Int) l = ⟨rows, (f : Int), 0⟩ := by
  have hv : ValidP rows (p : Int) l := by
    refine ⟨by simp [hasB, hp], List.all_eq_true.2 fun x hx => h.forms x hx, ?_, List.all_eq_true.2 fun x hx => ?_⟩
    · unfold twiceB
      simp [h.nodup]
    · obtain ⟨k, hr, hk, hn, hl⟩ := atoms_reach ok p hp x.name ((h.names x.name).2 ⟨x, hx, rfl⟩)
      rw [← hn]
      exact atom_word ok hl hk
  have hfm := hyB_has hv.forms
  have hreach : ∀ i q, Reach rows i q → i < rows.length → ∀ g, g < rows.length → sub (sig (namedF l) rows) (tree rows i) = tree rows g → ∃ g', g' < rows.length ∧ tree rows g' = sub (sig (namedF l) rows) (tree rows q) := by
    intro i q hr
    induction hr with
    | refl => exact fun _ g hg e => ⟨g, hg, e.symm⟩
    | @left i j n hi hk _ ih =>
      intro hil g hg e
      have er : rowAt rows i = n := rowAt_of hi
      have hkm : (rowAt rows i).kind = (rowAt rows g).kind := by
        have e1 := tree_kind ok (rowAt_get hil)
        have e2 := tree_kind ok (rowAt_get hg)
        have := sub_kind (sig (namedF l) rows) (tree rows i) (by rw [e1, er]; omega)
        rw [e, e1, e2] at this
        exact this.symm
      obtain ⟨c1, c2⟩ := two_sub ok hil hg (by rw [er]; exact hk) hkm e
      have hpi := ok.parts hi hk
      have hpg := ok.parts (rowAt_get hg) (by rw [← hkm, er]; exact hk)
      rw [er] at c1
      exact ih (by omega) _ (by omega) c1
    | @right i j n hi hk _ ih =>
      intro hil g hg e
      have er : rowAt rows i = n := rowAt_of hi
      have hkm : (rowAt rows i).kind = (rowAt rows g).kind := by
        have e1 := tree_kind ok (rowAt_get hil)
        have e2 := tree_kind ok (rowAt_get hg)
        have := sub_kind (sig (namedF l) rows) (tree rows i) (by rw [e1, er]; omega)
        rw [e, e1, e2] at this
        exact this.symm
      obtain ⟨c1, c2⟩ := two_sub ok hil hg (by rw [er]; exact hk) hkm e
      have hpi := ok.parts hi hk
      have hpg := ok.parts (rowAt_get hg) (by rw [← hkm, er]; exact hk)
      rw [er] at c2
      exact ih (by omega) _ (by omega) c2
  obtain ⟨img, hP⟩ := put_in (named := namedF l) ok hp hfm (fun k hk => hreach p k ((mem_below ok).1 hk) hp f hf h.fits)
  have he : (putP rows (p : Int) l).err = 0 := by rw [putP_valid hv, Int.toNat_natCast, hP]
  obtain ⟨_, _, c, hc1, hc2, hc3⟩ := putP_img ok he
  have hrs : (putP rows (p : Int) l).rows = rows := by rw [putP_valid hv, Int.toNat_natCast, hP]
  rw [hrs] at hc2 hc3
  rw [Int.toNat_natCast] at hc3
  have := tree_inj ok hc2 hf (hc3.trans h.fits)
  have e1 : (putP rows (p : Int) l).id = (f : Int) := by rw [hc1, this]
  generalize putP rows (p : Int) l = R at *
  obtain ⟨a, b, c⟩ := R
  simp only at *
  rw [hrs, e1, he]

theorem matchY_len {rows : List ND} (ok : Ok rows) {p f : Nat} (hp : p < rows.length) {l : List HY} (h : MatchY rows p f l) : l.length ≤ rows.length ∧ ∀ x ∈ l, x.name.size ≤ maxLen := by
  have hex : ∀ x ∈ l, ∃ q, q < rows.length ∧ (rowAt rows q).name = x.name := fun x hx => by
    obtain ⟨k, _, _, hn, hl⟩ := atoms_reach ok p hp x.name ((h.names x.name).2 ⟨x, hx, rfl⟩)
    exact ⟨k, hl, hn⟩
  refine ⟨?_, fun x hx => ?_⟩
  · have hf : ∃ F : HY → Nat, ∀ x ∈ l, F x < rows.length ∧ (rowAt rows (F x)).name = x.name := by
      classical
      refine ⟨fun x => if h : ∃ q, q < rows.length ∧ (rowAt rows q).name = x.name then Classical.choose h else 0, fun x hx => ?_⟩
      simp only [dif_pos (hex x hx)]
      exact Classical.choose_spec (hex x hx)
    obtain ⟨F, hF⟩ := hf
    have hn2 : (l.map F).Nodup := by
      unfold List.Nodup
      rw [List.pairwise_map]
      exact h.sorted.imp_of_mem fun {a b} ha hb hlt e => by
        have : a.name = b.name := by rw [← (hF a ha).2, ← (hF b hb).2, e]
        rw [this] at hlt
        exact List.lt_irrefl _ hlt
    have := nodup_le hn2 (m := rows.length) (fun x hx => by
      obtain ⟨s, hs, rfl⟩ := List.mem_map.1 hx
      exact (hF s hs).1)
    simpa using this
  · obtain ⟨q, hq, hn⟩ := hex x hx
    have := fits_le (ok.fit _ _ (rowAt_get hq))
    rw [← hn]
    unfold maxLen; omega
theorem lookE_two {rows : List ND} {p f : Int} (h : lookE rows [p, f] = 0) : hasB rows.length p = true ∧ hasB rows.length f = true := by
  unfold lookE at h
  by_cases hc : (([p, f] : List Int).all fun z => hasB rows.length z) = true
  · simpa using hc
  · rw [if_neg hc] at h; cases h

def TrueM (w : World) (e : Ending) (w' : World) : Prop := e = .returned (.bool true) ∧ Below w.heap.size w w'

set_option maxRecDepth 100000 in
set_option maxHeartbeats 2000000 in
theorem substMatches_any (w : World) (v : Value) (rows : List ND) (hn : ∀ n ∈ rows, n.name.size ≤ maxLen) (hr : Rd w v rows.length 4 (nodeCells rows)) (hm : rows.length ≤ maxLen) (hl : rows.length * 40 ≤ 140737488355328) (p f : Int) :
    Calls Try.prog 4 #[v, .int .i64 p, .int .i64 f] w (TrueM w) := by
  have HBo := Lib.hid (both_any w v rows hn hr hm hl)
  obtain ⟨va, vc, rfl⟩ := hr.slice
  clear hr hn hm hl
  by_cases h0 : fromE [] rows = 0
  · have H0 := Lib.hid h0
    clear h0
    go_enter Try.func4, Try.ntmps4
    go_wp2_with fail
    refine HBo.out.mono ?_
    rintro e w1 ⟨hb1, _, h⟩
    obtain ⟨t, r, ow, rfl, hp, ho⟩ := h H0.out
    have HI : Hid (PaI w w1 ow t r rows rows) := ⟨hp, hb1, ho⟩
    have HOK := Lib.hid hp.t.ok
    clear h hb1 hp ho HBo
    go_wp2_with fail
    refine (match07_any ow w1 t rows HI.out.p.t p f).mono ?_
    rintro e w2 ⟨v2, l2, b2, rfl, hno2, hm2, hown2, hb2⟩
    have HI2 := Lib.hid (HI.out.below hb2)
    obtain ⟨a2, c2, rfl⟩ := own_slice hown2
    have HO2 := Lib.hid hown2
    have HB12 := Lib.hid hb2
    clear hown2 hb2
    go_wp2_with fail
    refine (refMatch_any 2 ow w2 r rows HI2.out.p.r p f).mono ?_
    rintro e w3 ⟨v3, l3, b3, rfl, hno3, hm3, hown3, hb3⟩
    have HI3 := Lib.hid (HI2.out.below hb3)
    obtain ⟨a3, c3, rfl⟩ := own_slice hown3
    have HR3 := Lib.hid (rd_own hown3)
    have HO3 := Lib.hid (own_belowC HO2.out hb3)
    clear hown3 hb3 HO2
    have hsame : l2 = l3 ∧ b2 = b3 := by
      by_cases e : lookE rows [p, f] = 0
      · exact matchS_unique HOK.out (hm2 e) (hm3 e)
      · obtain ⟨rfl, rfl⟩ := hno2 e
        obtain ⟨rfl, rfl⟩ := hno3 e
        exact ⟨rfl, rfl⟩
    obtain ⟨rfl, rfl⟩ := hsame
    have HNO := Lib.hid hno2; have HM2 := Lib.hid hm2
    clear hno2 hno3 hm2 hm3
    generalize hlk : lookE rows [p, f] = lk at *
    have HLK := Lib.hid hlk
    clear hlk
    have HL : Hid (l2.length ≤ 9223372036854775807) := by
      unfold Hid
      cases b2 with
      | false =>
        have e : l2 = [] := by
          by_cases e : lk = 0
          · exact ((HM2.out e).2 rfl).1
          · exact (HNO.out e).1
        rw [e]; simp
      | true =>
        have e : lk = 0 := by
          apply Classical.byContradiction
          intro e
          have := (HNO.out e).2
          cases this
        have h2 := lookE_two (HLK.out.trans e)
        have := (matchY_len HOK.out (has_nat h2.1).1 ((HM2.out e).1 rfl)).1
        have := HOK.out.le
        omega
    have HHY := Lib.hid (hyps_any w3 _ _ l2 l2 (rd_own HO3.out) HR3.out HL.out HL.out)
    rw [decide_eq_true rfl] at HHY
    cases b2 with
    | false =>
      as_aux_lemma =>
      go_wp2_with (first
        | (go_at_call 17; refine HHY.out.mono ?_; rintro e w4 ⟨rfl, hb4⟩; have HI4 := Lib.hid (HI3.out.below hb4); clear hb4)
        | (go_at_call 18; refine (like_any 1 2 ow ow _ t r rows HI4.out.p.t HI4.out.p.r).mono ?_; rintro e w5 ⟨rfl, hb5⟩; have HI5 := Lib.hid (HI4.out.below hb5); clear hb5)
        | (go_at_call 9; refine (heads07_any _).mono ?_; rintro e w9 ⟨rfl, hb9⟩; have HB := Lib.hid (below_trans HI5.out.bl hb9); clear hb9))
      go_ret
      exact ⟨rfl, HB.out⟩
    | true =>
      as_aux_lemma =>
      have e : lk = 0 := by
        apply Classical.byContradiction
        intro e
        have := (HNO.out e).2
        cases this
      have h2 := lookE_two (HLK.out.trans e)
      have hY := (HM2.out e).1 rfl
      have HPS : Hid (l2.length * 16 ≤ 140737488355328 ∧ ∀ x ∈ l2, x.name.size ≤ maxLen) := by
        have := matchY_len HOK.out (has_nat h2.1).1 hY
        have := HOK.out.le
        refine ⟨by omega, (matchY_len HOK.out (has_nat h2.1).1 hY).2⟩
      have HMP : Hid (putP rows p l2 = ⟨rows, f, 0⟩) := by
        have := match_put HOK.out (has_nat h2.1).1 (has_nat h2.2).1 hY
        rw [(has_nat h2.1).2, (has_nat h2.2).2] at this
        exact this
      subst e
      clear h2 hY
      go_wp2_with (first
        | (go_at_call 17; refine HHY.out.mono ?_; rintro e w4 ⟨rfl, hb4⟩; have HI4 := Lib.hid (HI3.out.below hb4); have HO4 := Lib.hid (own_belowC HO3.out hb4); clear hb4)
        | (go_at_call 18; refine (like_any 1 2 ow ow _ t r rows HI4.out.p.t HI4.out.p.r).mono ?_; rintro e w5 ⟨rfl, hb5⟩; have HI5 := Lib.hid (HI4.out.below hb5); have HO5 := Lib.hid (own_belowC HO4.out hb5); clear hb5)
        | (go_at_call 13; refine (put07_any ow w5 t _ rows HI5.out.p.t p l2 HPS.out.2 (rd_own HO5.out) HPS.out.1).mono ?_; rw [HMP.out]; rintro e w6 ⟨rfl, ow6, hk6, ht6⟩; have HI6 := Lib.hid (HI5.out.putT hk6 ht6); clear hk6 ht6)
        | (go_at_call 9; refine (heads07_any _).mono ?_; rintro e w9 ⟨rfl, hb9⟩; have HB := Lib.hid (below_trans HI6.out.bl hb9); clear hb9))
      go_ret
      exact ⟨rfl, HB.out⟩
  · have H0 := Lib.hid h0
    clear h0
    go_enter Try.func4, Try.ntmps4
    go_wp2_with (first
      | (go_at_call 7; refine HBo.out.mono ?_; rintro e w1 ⟨hb1, h, _⟩; obtain rfl := h H0.out; have HB1 := Lib.hid hb1; clear h hb1)
      | (go_at_call 9; refine (heads07_any _).mono ?_; rintro e w9 ⟨rfl, hb9⟩; have HB := Lib.hid (below_trans HB1.out hb9); clear hb9))
    go_ret
    exact ⟨rfl, HB.out⟩

end Go.Dk

