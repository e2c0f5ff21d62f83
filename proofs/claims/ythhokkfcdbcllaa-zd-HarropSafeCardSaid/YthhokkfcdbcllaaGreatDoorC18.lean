/- Parts of the proof: Hh, Sq, Sr, St, Sj. -/
import Derived.Deep.RegionHeld3
import Derived.Outline
import Derived.IntWalk
import Derived.BigQuiet
import Derived.Deep.QuietTactic
import Derived.Test.YthhokkfcdbcllaaGreatDoorC01
import Derived.Test.YthhokkfcdbcllaaGreatDoorC02
import Derived.Test.YthhokkfcdbcllaaGreatDoorC03
import Derived.Test.YthhokkfcdbcllaaGreatDoorC04
import Derived.Test.YthhokkfcdbcllaaGreatDoorC05
import Derived.Test.YthhokkfcdbcllaaGreatDoorC06
import Derived.Test.YthhokkfcdbcllaaGreatDoorC07
import Derived.Test.YthhokkfcdbcllaaGreatDoorC08
import Derived.Test.YthhokkfcdbcllaaGreatDoorC09
import Derived.Test.YthhokkfcdbcllaaGreatDoorC10
import Derived.Test.YthhokkfcdbcllaaGreatDoorC11
import Derived.Test.YthhokkfcdbcllaaGreatDoorC12
import Derived.Test.YthhokkfcdbcllaaGreatDoorC13
import Derived.Test.YthhokkfcdbcllaaGreatDoorC14
import Derived.Test.YthhokkfcdbcllaaGreatDoorC15
import Derived.Test.YthhokkfcdbcllaaGreatDoorC16
import Derived.Test.YthhokkfcdbcllaaGreatDoorC17
section
namespace Go.Dk
open Go.RowKit Go.Maps Go.MapKept Go.Shelf
open Go.Proofs hiding intOf
def admGo (rows : List ND) : List Int → Nat → Int × Int
  | [], _ => (0, 0)
  | z :: t, i => if askE rows [] z.toNat ≠ 0 then (0, 110) else if askB rows [] z.toNat = true then ((i : Int), 0) else admGo rows t (i + 1)
def admP (rows : List ND) (a b : List Int) (c d : Int) : Int × Int :=
  if (visserP rows a b c d).err ≠ 0 then (0, if (visserP rows a b c d).err = 30 then 110 else (visserP rows a b c d).err)
  else if askE (visserP rows a b c d).rows [] (visserP rows a b c d).prem.toNat ≠ 0 then (0, 110)
  else if askB (visserP rows a b c d).rows [] (visserP rows a b c d).prem.toNat = false then (0, 2)
  else admGo (visserP rows a b c d).rows (visserP rows a b c d).parts 0
theorem lists0 (w : World) : ListsR w (.slice none 0 0) [] := ⟨[], ⟨⟨none, 0, rfl, fun _ => ⟨rfl, rfl⟩, fun _ h => by cases h⟩, rfl⟩, fun i zs x h1 _ => by simp at h1⟩
theorem rd_nil (w : World) : Rd w (.slice none 0 0) ([] : List Int).length 1 (ints []) := ⟨⟨none, 0, rfl, fun _ => ⟨rfl, rfl⟩, fun _ h => by cases h⟩, rfl⟩
theorem IdT.has {rows : List ND} {z : Int} {T : Fm} (h : IdT rows z T) : ∃ n : Nat, z = (n : Int) ∧ n < rows.length := by obtain ⟨n, h1, h2, _⟩ := h; exact ⟨n, h1, h2⟩
theorem AllT.has {rows : List ND} {zs : List Int} {ts : List Fm} (h : AllT rows zs ts) : ∀ z ∈ zs, hasB rows.length z = true := by
  induction h with
  | nil => intro z hz; cases hz
  | cons a _ ih =>
    intro z hz
    rcases List.mem_cons.1 hz with rfl | hz
    · obtain ⟨n, rfl, hn⟩ := a.has; simp [hasB, hn]
    · exact ih z hz
/-- What was there when the table was not stays. -/
theorem KeptF.from_ {F F' : FP} {w W W' : World} (h : KeptF F W F' W') (hb : Below w.heap.size w W) (hn : ∀ b, F b → w.heap.size ≤ b) : Below w.heap.size w W' :=
  hb.trans (h.below hb.size fun b hl hf => by have := hn b hf; omega)
theorem All2.len {α β : Type} {R : α → β → Prop} {l : List α} {m : List β} (h : All2 R l m) : l.length = m.length := by
  induction h with
  | nil => rfl
  | cons _ _ ih => simp [ih]
theorem admGo_at {rows : List ND} {ps : List Int} {j k : Nat} {z : Int} (h : ps[j]? = some z) : admGo rows (ps.drop j) k = if askE rows [] z.toNat ≠ 0 then (0, 110) else if askB rows [] z.toNat = true then ((k : Int), 0) else admGo rows (ps.drop (j + 1)) (k + 1) := by
  have hj := (List.getElem?_eq_some_iff.1 h).1
  rw [List.drop_eq_getElem_cons hj]
  have : ps[j] = z := (List.getElem?_eq_some_iff.1 h).2
  rw [this]
  rfl
set_option maxRecDepth 100000 in
set_option maxHeartbeats 4000000 in
theorem admits_any (F : FP) (w : World) (t va vb : Value) (rows : List ND) (h : TabF F w t rows) (hT : TabG w) (a b : List Int) (ha : Rd w va a.length 1 (ints a)) (hb : Rd w vb b.length 1 (ints b)) (hla : a.length < 2 ^ 62) (hlb : b.length < 2 ^ 62) (c d : Int) :
    Calls Tryz.prog 14 #[t, va, vb, .int .i64 c, .int .i64 d] w (DjPost w (admP rows a b c d)) := by
  have H := Lib.hid h
  have HT := Lib.hid hT
  have HOK := Lib.hid h.ok
  have HLK : Hid (∀ W, Below w.heap.size w W → Calls Tryz.prog 25 #[t, .slice none 0 0] W fun e w' => e = .returned (.int .i64 0) ∧ Below W.heap.size W w') := fun W hb => by
    have := lookH_any 0 _ W t (.slice none 0 0) rows [] ((h.below hb).col 0) (lists0 W) (by simp)
    simpa [lookE] using this
  have HVI : Hid (∀ (F1 : FP) (W : World) (t1 : Value), Below w.heap.size w W → TabF F1 W t1 rows → (∀ b, F1 b → w.heap.size ≤ b) → Calls Tryz.prog 15 #[t1, va, vb, .int .i64 c, .int .i64 d] W (VisPost F1 W t1 (visserP rows a b c d))) := fun F1 W t1 hbw ht hn =>
    visser_any F1 W t1 va vb rows ht a b (fun F2 W2 hk => ha.below (hk.from_ hbw hn)) (fun F2 W2 hk => hb.below (hk.from_ hbw hn)) hla hlb c d
  clear h hT ha hb
  obtain ⟨r, hr⟩ : ∃ r, r = visserP rows a b c d := ⟨_, rfl⟩
  have HAD : Hid (admP rows a b c d = if r.err ≠ 0 then (0, if r.err = 30 then 110 else r.err) else if askE r.rows [] r.prem.toNat ≠ 0 then (0, 110) else if askB r.rows [] r.prem.toNat = false then (0, 2) else admGo r.rows r.parts 0) := by
    unfold Hid admP; rw [← hr]
  have HVO : Hid (r.err = 0 → (∃ n : Nat, r.prem = (n : Int) ∧ n < r.rows.length) ∧ (∀ z ∈ r.parts, hasB r.rows.length z = true) ∧ r.parts.length < 2 ^ 62) := fun he => by
    rw [hr] at he
    have h1 := (visser_ok HOK.out he).1
    have h2 := (visser_ok HOK.out he).2.2.1
    rw [← hr] at h1
    refine ⟨h1.prem.has, h1.parts.has, ?_⟩
    have := h1.parts.len
    simp at this
    have := List.length_zip (l₁ := a) (l₂ := b)
    omega
  rw [← hr] at HVI
  clear hr
  by_cases h30 : r.err = 30
  · have g30 : (r.err == 30) = true := by simpa using h30
    have HP : Hid (admP rows a b c d = (0, 110)) := by unfold Hid; rw [HAD.out, if_pos (by omega), if_pos h30]
    clear h30
    go_enter Tryz.func14, Tryz.ntmps14
    go_wp2_with (first
      | (go_at_call 25; refine (HLK.out _ (Below.refl _ _)).mono ?_; rintro e w2 ⟨rfl, hb2⟩; have HB2 := Lib.hid hb2; clear hb2)
      | (go_at_call 28; refine (asker_any F _ t rows (H.out.below HB2.out)).mono ?_; rintro e w3 ⟨c1, cb, Fc, rfl, hA3, hF3, hc3, hb3⟩; unfold askV; have HA3 := Lib.hid hA3; have HF3 : Hid (∀ b, Fc b → w.heap.size ≤ b) := (fun b hb => Nat.le_trans HB2.out.size (hF3 b hb)); have HB3 := Lib.hid (below_trans HB2.out hb3); clear hA3 hF3 hc3 hb3)
      | (go_at_call 15; refine (HVI.out Fc _ c1 HB3.out HA3.out.tab HF3.out).mono ?_; rintro e w4 ⟨pv, F4, rfl, hk4, ht4, ho4⟩; have HA4 := Lib.hid (HA3.out.put hk4 ht4); have HB4 : Hid (Below w.heap.size w w4) := HB3.out.trans (hk4.below HB3.out.size (fun b hb hf => by have := HF3.out b hf; omega)); obtain ⟨qa, qc, rfl⟩ := own_slice ho4.own; have HO4 := Lib.hid ho4; clear hk4 ht4 ho4))
    go_ret2
    exact djPost_mk HP.out HB4.out
  · have g30 : (r.err == 30) = false := by simpa using h30
    by_cases h0 : r.err = 0
    case neg =>
      have g0 : (r.err != 0) = true := by simpa using h0
      have HP : Hid (admP rows a b c d = (0, r.err)) := by unfold Hid; rw [HAD.out, if_pos h0, if_neg h30]
      clear h30 h0
      go_enter Tryz.func14, Tryz.ntmps14
      go_wp2_with (first
        | (go_at_call 25; refine (HLK.out _ (Below.refl _ _)).mono ?_; rintro e w2 ⟨rfl, hb2⟩; have HB2 := Lib.hid hb2; clear hb2)
        | (go_at_call 28; refine (asker_any F _ t rows (H.out.below HB2.out)).mono ?_; rintro e w3 ⟨c1, cb, Fc, rfl, hA3, hF3, hc3, hb3⟩; unfold askV; have HA3 := Lib.hid hA3; have HF3 : Hid (∀ b, Fc b → w.heap.size ≤ b) := (fun b hb => Nat.le_trans HB2.out.size (hF3 b hb)); have HB3 := Lib.hid (below_trans HB2.out hb3); clear hA3 hF3 hc3 hb3)
        | (go_at_call 15; refine (HVI.out Fc _ c1 HB3.out HA3.out.tab HF3.out).mono ?_; rintro e w4 ⟨pv, F4, rfl, hk4, ht4, ho4⟩; have HA4 := Lib.hid (HA3.out.put hk4 ht4); have HB4 : Hid (Below w.heap.size w w4) := HB3.out.trans (hk4.below HB3.out.size (fun b hb hf => by have := HF3.out b hf; omega)); obtain ⟨qa, qc, rfl⟩ := own_slice ho4.own; have HO4 := Lib.hid ho4; clear hk4 ht4 ho4))
      go_ret2
      exact djPost_mk HP.out HB4.out
    case pos =>
      have g0 : (r.err != 0) = false := by simpa using h0
      have HP : Hid (admP rows a b c d = if askE r.rows [] r.prem.toNat ≠ 0 then (0, 110) else if askB r.rows [] r.prem.toNat = false then (0, 2) else admGo r.rows r.parts 0) := by unfold Hid; rw [HAD.out, if_neg (by simpa using h0)]
      obtain ⟨⟨p, hp, hpl⟩, hps, hpn⟩ := HVO.out h0
      have HPS := Lib.hid hps
      have HPL : Hid (p < r.rows.length ∧ r.parts.length < 2 ^ 62) := ⟨hpl, hpn⟩
      obtain ⟨prows, pprem, pparts, perr⟩ := r
      simp only at hp HP HPS HPL g0 g30 HVI h0
      subst hp
      subst h0
      rw [Int.toNat_natCast] at HP
      clear HVO HAD hps hpl hpn h30
      go_enter Tryz.func14, Tryz.ntmps14
      go_wp2_with (first
        | (go_at_call 25; refine (HLK.out _ (Below.refl _ _)).mono ?_; rintro e w2 ⟨rfl, hb2⟩; have HB2 := Lib.hid hb2; clear hb2)
        | (go_at_call 28; refine (asker_any F _ t rows (H.out.below HB2.out)).mono ?_; rintro e w3 ⟨c1, cb, Fc, rfl, hA3, hF3, hc3, hb3⟩; unfold askV; have HA3 := Lib.hid hA3; have HF3 : Hid (∀ b, Fc b → w.heap.size ≤ b) := (fun b hb => Nat.le_trans HB2.out.size (hF3 b hb)); have HB3 := Lib.hid (below_trans HB2.out hb3); clear hA3 hF3 hc3 hb3)
        | (go_at_call 15; refine (HVI.out Fc _ c1 HB3.out HA3.out.tab HF3.out).mono ?_; rintro e w4 ⟨pv, F4, rfl, hk4, ht4, ho4⟩; have HA4 := Lib.hid (HA3.out.put hk4 ht4); have HB4 : Hid (Below w.heap.size w w4) := HB3.out.trans (hk4.below HB3.out.size (fun b hb hf => by have := HF3.out b hf; omega)); obtain ⟨qa, qc, rfl⟩ := own_slice ho4.own; have HO4 := Lib.hid ho4; clear hk4 ht4 ho4))
      have HASK : Hid (∀ (W : World) (x : Nat), Below w4.heap.size w4 W → x < prows.length → Calls Tryz.prog 49 #[.slice none 0 0, .int .i64 (x : Int), .pointer (some ⟨cb, 0, none⟩)] W fun e w' => e = .returned (.tuple #[.bool (askB prows [] x), .int .i64 (askE prows [] x)]) ∧ Below W.heap.size W w') :=
        fun W x hb hx => ask_any F4 W cb c1 prows (HA4.out.below hb) ((HT.out.below HB4.out).below hb) _ [] (rd_nil W) (by simp) (by simp) x hx
      refine (HASK.out _ p (Below.refl _ _) HPL.out.1).mono ?_
      rintro e w5 ⟨rfl, hb5⟩
      have HB5 := Lib.hid hb5
      clear hb5
      rcases askE_cases prows [] p with he0 | he0
      · rw [he0]
        cases hbp : askB prows [] p with
        | false =>
          have hp := HP.out
          rw [he0, hbp, if_neg (by simp), if_pos rfl] at hp
          have HP2 := Lib.hid hp
          clear hp he0 hbp
          go_wp2_with fail
          go_ret2
          exact djPost_mk HP2.out (below_trans HB4.out HB5.out)
        | true =>
          have hp := HP.out
          rw [he0, hbp, if_neg (by simp), if_neg (by simp)] at hp
          have HP2 := Lib.hid hp
          clear hp he0 hbp
          go_wp2_with fail
          go_loopw [63] (fun u W => ∃ j : Nat, j ≤ pparts.length ∧ u = .int .i64 (j : Int) ∧ admGo prows pparts 0 = admGo prows (pparts.drop j) j ∧ Below w4.heap.size w4 W) (fun u _ => pparts.length - (intOf u).toNat)
          case atStart => exact ⟨0, Nat.zero_le _, rfl, rfl, HB5.out⟩
          case round =>
            obtain ⟨j, hj, rfl, hall, hb⟩ := hrel
            have HA := Lib.hid hall; have HB := Lib.hid hb
            clear hall hb
            by_cases hlt : j < pparts.length
            · as_aux_lemma =>
              obtain ⟨ib, io, ic, z, he, hc1, hzk⟩ := ints_at ((HO4.out.below HB.out).rd) hlt
              cases he
              have hji : (j : Int) < (pparts.length : Int) := by omega
              obtain ⟨x, rfl, hx⟩ := nat_of_has (HPS.out z (List.mem_of_getElem? hzk))
              have HAT := Lib.hid (admGo_at (rows := prows) (k := j) hzk)
              rw [Int.toNat_natCast] at HAT
              have HX := Lib.hid hx
              have HPL2 := HPL.out.2
              clear hzk hx
              go_wp2_with fail
              refine (HASK.out _ x HB.out HX.out).mono ?_
              rintro e w7 ⟨rfl, hb7⟩
              have HB7 := Lib.hid (below_trans HB.out hb7)
              clear hb7
              rcases askE_cases prows [] x with hx0 | hx0
              · rw [hx0]
                cases hbx : askB prows [] x with
                | true =>
                  have hp := HAT.out
                  rw [hx0, hbx, if_neg (by simp), if_pos rfl] at hp
                  have HP3 : Hid (admP rows a b c d = ((j : Int), 0)) := by unfold Hid; rw [HP2.out, HA.out, hp]
                  clear hp hx0 hbx
                  go_wp2_with fail
                  go_ret2
                  exact djPost_mk HP3.out (below_trans HB4.out HB7.out)
                | false =>
                  have hp := HAT.out
                  rw [hx0, hbx, if_neg (by simp), if_neg (by simp)] at hp
                  have HP3 := Lib.hid hp
                  clear hp hx0 hbx
                  go_wp2_with fail
                  exact ⟨⟨j + 1, by omega, by go_num, by rw [HA.out, HP3.out], HB7.out⟩, by simp [intOf]; omega⟩
              · rw [hx0]
                have hp := HAT.out
                rw [hx0, if_pos (by simp)] at hp
                have HP3 : Hid (admP rows a b c d = (0, 110)) := by unfold Hid; rw [HP2.out, HA.out, hp]
                clear hp hx0
                go_wp2_with fail
                go_ret2
                exact djPost_mk HP3.out (below_trans HB4.out HB7.out)
            · obtain rfl : j = pparts.length := by omega
              have HP3 : Hid (admP rows a b c d = (0, 0)) := by unfold Hid; rw [HP2.out, HA.out, List.drop_length]; rfl
              have hnn : ¬ (pparts.length : Int) < (pparts.length : Int) := Int.lt_irrefl _
              go_wp2_with fail
              go_ret2
              exact djPost_mk HP3.out (below_trans HB4.out HB.out)
      · rw [he0]
        have hp := HP.out
        rw [he0, if_pos (by simp)] at hp
        have HP2 := Lib.hid hp
        clear hp he0
        go_wp2_with fail
        go_ret2
        exact djPost_mk HP2.out (below_trans HB4.out HB5.out)
end Go.Dk
end

section
namespace Go.Dk
open Go.RowKit Go.Maps Go.MapKept
open Go.Proofs hiding intOf
def strV (s : ByteArray) : Value := .string s
theorem strV_inj : ∀ x y : ByteArray, strV x = strV y → x = y := by
  intro x y h; simpa [strV] using h
theorem lawStr : Keyed Tryz.prog 9 := string_keyed Tryz.underlying9
theorem keyStr (s : ByteArray) (h : s.size ≤ maxLen) : keyOf Tryz.prog 9 (strV s) = some (.string s.data.toList) := Go.WideMaps.keyOf_string_mk Tryz.underlying9 h
theorem look_str {w : World} {b : Nat} {f : ByteArray → Option Int} (h : TM Tryz.prog 9 strV intV w b f) (s : ByteArray) (hs : s.size ≤ maxLen) :
    (Instr.lookup 124 (.map (some b)) (.string s) true).run Tryz.prog w = .ok (.tuple #[.int .i64 ((f s).getD 0), .bool (f s).isSome]) w := by
  cases hf : f s with
  | none => exact h.look_none lawStr strV_inj Tryz.underlying124 (zeroInt _) (keyStr s hs) true hf
  | some v => exact h.look_some lawStr strV_inj Tryz.underlying124 (keyStr s hs) true hf
set_option maxRecDepth 100000 in
set_option maxHeartbeats 1000000 in
theorem imgPut_any (ow : Own) (w : World) (t : Value) (rows : List ND) (h : Tab 1 ow w t rows) (b1 b2 nb : Nat) (f : ByteArray → Option Int) (h1 : w.cell? ⟨b1, 0, none⟩ = some (.map (some nb))) (h2 : w.cell? ⟨b2, 0, none⟩ = some t) (hm : TM Tryz.prog 9 strV intV w nb f) (k : Nat) (kd a b l r : Int) (nm : ByteArray) (hn : nm.size ≤ maxLen) :
    Calls Tryz.prog 57 #[.int .i64 (k : Int), .agg #[.int .i64 kd, .string nm, .int .i64 a, .int .i64 b], .int .i64 l, .int .i64 r, .pointer (some ⟨b1, 0, none⟩), .pointer (some ⟨b2, 0, none⟩)] w (PutPost 1 ow w t (putOf f rows k ⟨kd, nm, a, b⟩ l r)) := by
  have H := Lib.hid h
  have HE := Lib.hid (putOf_plain f rows k ⟨kd, nm, a, b⟩ l r)
  have hl := look_str (hm.below (below_alloc w (.cells #[.int .i64 kd, .string nm, .int .i64 a, .int .i64 b] 31))) nm hn
  have l1 := World.block_lt_of_cell? w _ h1
  have l2 := World.block_lt_of_cell? w _ h2
  clear h hm hn
  cases hf : f nm with
  | none =>
    rw [hf] at hl
    simp only [Option.getD_none, Option.isSome_none] at hl
    have HEE : Hid (putOf f rows k ⟨kd, nm, a, b⟩ l r = plainP rows k ⟨kd, nm, a, b⟩ l r) := by rw [Hid, HE.out, if_neg (by simp [hf])]
    clear hf HE
    go_enter Tryz.func57, Tryz.ntmps57
    go_wp2_with fail
    refine (plain_any ow _ t rows (H.out.below (below_alloc _ _)) k kd a b l r nm).mono ?_
    rintro e w1 hp
    have HP := Lib.hid (PutPost.from (below_alloc _ _) hp)
    obtain ⟨rfl, _⟩ := hp
    go_wp2_with fail
    go_ret2
    rw [HEE.out]
    exact HP.out
  | some x =>
    rw [hf] at hl
    simp only [Option.getD_some, Option.isSome_some] at hl
    by_cases hk : kd = 1
    · have g1 : (kd == 1) = true := by simpa using hk
      have HEE : Hid (putOf f rows k ⟨kd, nm, a, b⟩ l r = ⟨rows, x, 0⟩) := by rw [Hid, HE.out, if_pos ⟨hk, by simp [hf]⟩]; simp [hf]
      clear hf HE hk
      go_enter Tryz.func57, Tryz.ntmps57
      go_wp2_with fail
      go_ret2
      rw [HEE.out]
      exact ⟨rfl, ow, (below_alloc _ _).kept_ow, H.out.below (below_alloc _ _)⟩
    · have g1 : (kd == 1) = false := by simpa using hk
      have HEE : Hid (putOf f rows k ⟨kd, nm, a, b⟩ l r = plainP rows k ⟨kd, nm, a, b⟩ l r) := by rw [Hid, HE.out, if_neg (fun h => hk h.1)]
      clear hf HE hk
      go_enter Tryz.func57, Tryz.ntmps57
      go_wp2_with fail
      refine (plain_any ow _ t rows (H.out.below (below_alloc _ _)) k kd a b l r nm).mono ?_
      rintro e w1 hp
      have HP := Lib.hid (PutPost.from (below_alloc _ _) hp)
      obtain ⟨rfl, _⟩ := hp
      go_wp2_with fail
      go_ret2
      rw [HEE.out]
      exact HP.out
end Go.Dk
end

section
namespace Go.Dk
open Go.RowKit Go.Maps Go.MapKept
open Go.Proofs hiding intOf
/-- The image's two boxes. -/
structure ImgB (w W : World) (t : Value) (n : ND) : Prop where
  c0 : W.cell? ⟨w.heap.size, 0, none⟩ = some t
  bx : Boxed W (w.heap.size + 1) n
  bl : Below w.heap.size w W
theorem ImgB.below {w W W' : World} {t : Value} {n : ND} (h : ImgB w W t n) (hb : Below W.heap.size W W') : ImgB w W' t n :=
  ⟨(hb.cell (World.block_lt_of_cell? _ _ h.c0)).trans h.c0, h.bx.below hb, below_trans h.bl hb⟩
end Go.Dk
end

section
namespace Go.Dk
open Go.RowKit Go.Maps Go.MapKept
open Go.Proofs hiding intOf
theorem PutPost.re {ow : Own} {w W : World} {t : Value} {p : Put} {e : Ending} {w' : World} (hb : Below w.heap.size w W) (h : PutPost 1 (fun b => if b < w.heap.size then ow b else 2) W t p e w') : PutPost 1 ow w t p e w' := by
  obtain ⟨he, ow', hk, ht⟩ := h
  exact ⟨he, ow', (hb.kept_ow.recolour (fun b hb => by simp [hb]) : Kept 1 ow w _ _).trans hk, ht⟩
theorem rd_one' (w : World) {b : Nat} (x : Value) (e : TypeId) (hb : b = w.heap.size) : Rd (w.alloc (.cells #[x] e)) (.slice (some ⟨b, 0, none⟩) 1 1) 1 1 [x] := hb ▸ rd_one w x e
theorem tab_re {ow : Own} {w W : World} {t : Value} {rows : List ND} (h : Tab 1 ow w t rows) (hb : Below w.heap.size w W) : Tab 1 (fun b => if b < w.heap.size then ow b else 2) W t rows :=
  h.kept ((hb.kept_ow).recolour (fun b hb => by simp [hb]) : Kept 2 ow w _ _) (by decide)
theorem cell_kept {c : Nat} {ow ow' : Own} {w w' : World} {a : Addr} {v : Value} (h : w.cell? a = some v) (hk : Kept c ow w ow' w') (hc : ow a.block ≠ c) : w'.cell? a = some v :=
  (World.cell?_of_block (hk.block _ (World.block_lt_of_cell? w _ h) hc)).trans h
/-- The boxes of Replace. -/
def EnvR (ow : Own) (w : World) (b : Nat) (t : Value) (old by' : Int) : Prop :=
  w.cell? ⟨b, 0, none⟩ = some t ∧ w.cell? ⟨b + 1, 0, none⟩ = some (.int .i64 old) ∧ w.cell? ⟨b + 1 + 1, 0, none⟩ = some (.int .i64 by') ∧ ow b = 2 ∧ ow (b + 1) = 2 ∧ ow (b + 1 + 1) = 2
theorem envR_ok (b : Nat) (t : Value) (old by' : Int) : EnvOk (fun ow w => EnvR ow w b t old by') := by
  rintro c hc ow w ow' w' ⟨h1, h2, h3, o1, o2, o3⟩ hk
  have n2 : (2 : Nat) ≠ c := by omega
  exact ⟨cell_kept h1 hk (by rw [show (⟨b, 0, none⟩ : Addr).block = b from rfl, o1]; exact n2), cell_kept h2 hk (by rw [show (⟨b + 1, 0, none⟩ : Addr).block = b + 1 from rfl, o2]; exact n2), cell_kept h3 hk (by rw [show (⟨b + 1 + 1, 0, none⟩ : Addr).block = b + 1 + 1 from rfl, o3]; exact n2),
    (hk.own _ (World.block_lt_of_cell? w _ h1)).trans o1, (hk.own _ (World.block_lt_of_cell? w _ h2)).trans o2, (hk.own _ (World.block_lt_of_cell? w _ h3)).trans o3⟩
theorem EnvR.below {ow : Own} {w w' : World} {b : Nat} {t : Value} {old by' : Int} (h : EnvR ow w b t old by') (hb : Below w.heap.size w w') : EnvR ow w' b t old by' := envR_ok b t old by' 1 (.inl rfl) ow w ow w' h hb.kept_ow
end Go.Dk
end

section
namespace Go.Dk
open Go.RowKit Go.Maps Go.MapKept
open Go.Proofs hiding intOf
set_option maxRecDepth 100000 in
set_option maxHeartbeats 4000000 in
theorem anewPut_yes (E : EnvT) (hE : EnvOk E) (of : OfF) (hgr : Grows of) (hnn : ∀ rows k n l r, 0 ≤ l → 0 ≤ r → 0 ≤ (of rows k n l r).id) (ow : Own) (w : World) (t : Value) (rows : List ND) (h : Tab 1 ow w t rows) (p1 p2 : Value)
    (hC : ∀ ow w rows (k : Nat) (n : ND) (l r : Int), Tab 1 ow w t rows → E ow w → n.name.size ≤ maxLen → (1 ≤ n.kind ∧ n.kind ≤ 5) → 0 ≤ l → 0 ≤ r → Calls Tryz.prog 57 #[.int .i64 (k : Int), .agg #[.int .i64 n.kind, .string n.name, .int .i64 n.l, .int .i64 n.r], .int .i64 l, .int .i64 r, p1, p2] w (PutPost 1 ow w t (of rows k n l r)))
    (hEw : E ow w) (id : Nat) (hid : id < rows.length) :
    Calls Tryz.prog 56 #[t, .int .i64 (id : Int), .func (.func 57) #[] #[p1, p2]] w (PutPost 1 ow w t (anewP of rows id)) := by
  have hok := h.ok
  have hle := hok.le
  have H := Lib.hid h
  have HK := Lib.hid hok
  have HG := Lib.hid hgr
  have HN := Lib.hid hnn
  have HC := Lib.hid hC
  have HE := Lib.hid hE
  have HEW := Lib.hid hEw
  clear h hgr hnn hC hE hEw hok
  have hmm := @run_makeMap Tryz.prog
  go_enter Tryz.func56, Tryz.ntmps56
  go_wp2_with (first
    | (go_at_call 31; refine (len_any 1 ow _ _ rows H.out).mono ?_; rintro e w' ⟨rfl, rfl⟩)
    | (go_at_call 77; refine (below_yes 1 ow _ _ _ H.out id hid).mono ?_; rintro e w2 ⟨v2, rfl, hown2, hb2⟩; have HI := Lib.hid (AnW.start (of := of) HE.out H.out HEW.out hb2 hown2); obtain ⟨a2, c2, hv2⟩ := own_slice hown2; subst hv2; clear hown2 hb2))
  clear hmm
  have hlb := below_le rows id
  go_loopw [10, 32] (fun e i W => e = .int .i64 0 ∧ ∃ (j : Nat) (ow' : Own) (rowsj : List ND) (img : Nat → Int), j ≤ (below rows id).length ∧ i = .int .i64 (j : Int) ∧ AnW E of ow w t rows id w2.heap.size (.slice a2 (below rows id).length c2) j ow' W rowsj img) (fun _ i _ => (below rows id).length - (intOf i).toNat)
  case atStart => exact ⟨rfl, 0, _, _, _, Nat.zero_le _, rfl, HI.out⟩
  case round =>
    obtain ⟨rfl, j, ow', rowsj, img, hj, rfl, hI⟩ := hrel
    have HJ := Lib.hid hI
    by_cases hlt : j < (below rows id).length
    · obtain ⟨b, o, c1, x', he, hc1, hxk'⟩ := ints_at (rd_own hI.own) hlt
      cases he
      obtain ⟨x, hx⟩ : ∃ x, (below rows id)[j]? = some x := ⟨_, List.getElem?_eq_getElem hlt⟩
      obtain rfl : x' = (x : Int) := by
        have : (natInts (below rows id))[j]? = some (x : Int) := by simp [natInts, hx]
        rw [this] at hxk'; exact (Option.some.inj hxk').symm
      have hxi : x ≤ id := ((mem_below HK.out).1 (List.mem_of_getElem? hx)).le HK.out
      have hpl := prefix_length hI.pre
      have hrow := rowAt_get (rows := rowsj) (i := x) (by omega)
      have hp0 : pAt of rowsj x img = of rowsj x (rowAt rowsj x) (if 3 ≤ (rowAt rowsj x).kind then img (rowAt rowsj x).l.toNat else 0) (if 3 ≤ (rowAt rowsj x).kind then img (rowAt rowsj x).r.toNat else 0) := rfl
      generalize rowAt rowsj x = n at hrow hp0
      have hjk := hI.tab.ok
      have hjl := hjk.le
      have hfn := fits_le (hjk.fit _ _ hrow)
      obtain ⟨kd, nm, l', r'⟩ := n
      simp only at hfn hp0
      obtain ⟨l, rfl⟩ := Int.eq_ofNat_of_zero_le hfn.2.2.1.1
      obtain ⟨r, rfl⟩ := Int.eq_ofNat_of_zero_le hfn.2.2.2.1
      simp only [Int.toNat_natCast] at hp0
      have HX := Lib.hid hx
      have HRX := Lib.hid hrow
      have HLR : Hid (l ≤ 9223372036854775807 ∧ r ≤ 9223372036854775807 ∧ x ≤ 9223372036854775807) := by unfold Hid; omega
      have HNM : Hid (nm.size ≤ maxLen) := by unfold Hid maxLen; omega
      have HKN : Hid (1 ≤ kd ∧ kd ≤ 5) := hfn.2.1
      have HGT := Lib.hid hI.get
      have n1 := hI.nn l; have n2 := hI.nn r
      clear hI hxk' hx hrow hfn hjk
      by_cases h3 : 3 ≤ kd
      · as_aux_lemma =>
        rw [if_pos h3, if_pos h3] at hp0
        have g3 : (decide (3 ≤ kd)) = true := by simpa using h3
        have HNN : Hid (0 ≤ img l ∧ 0 ≤ img r) := ⟨n1, n2⟩
        have HID : Hid (0 ≤ (of rowsj x ⟨kd, nm, l, r⟩ (img l) (img r)).id) := HN.out _ _ _ _ _ n1 n2
        have HGR : Hid (rowsj <+: (of rowsj x ⟨kd, nm, l, r⟩ (img l) (img r)).rows) := HG.out _ _ _ _ _
        have HCC : Hid (∀ W, Tab 1 ow' W t rowsj → E ow' W → Calls Tryz.prog 57 #[.int .i64 (x : Int), .agg #[.int .i64 kd, .string nm, .int .i64 (l : Int), .int .i64 (r : Int)], .int .i64 (img l), .int .i64 (img r), p1, p2] W (PutPost 1 ow' W t (of rowsj x ⟨kd, nm, l, r⟩ (img l) (img r)))) := fun W a b => HC.out ow' W rowsj x ⟨kd, nm, l, r⟩ _ _ a b HNM.out HKN.out n1 n2
        have g1 := HGT.out l; have g2 := HGT.out r
        have HP0 := Lib.hid hp0
        clear hp0 n1 n2
        generalize of rowsj x ⟨kd, nm, l, r⟩ (img l) (img r) = p at *
        generalize hil : img l = il at *
        generalize hir : img r = ir at *
        clear hil hir
        go_wp2_with (go_at_call 27; refine (node_yes 1 ow' _ _ _ HJ.out.tab _ _ HRX.out).mono ?_; rintro e w4 ⟨rfl, hb4⟩; have HJ4 := Lib.hid (HJ.out.later HE.out (below_trans hb4 (below_alloc w4 (.cells #[.int .i64 kd, .string nm, .int .i64 (l : Int), .int .i64 (r : Int)] 31)))); clear hb4)
        have HBX : Hid (Boxed (w4.alloc (.cells #[.int .i64 kd, .string nm, .int .i64 (l : Int), .int .i64 (r : Int)] 31)) w4.heap.size ⟨kd, nm, l, r⟩) := boxed_new w4 ⟨kd, nm, l, r⟩ _
        generalize w4.alloc (.cells #[.int .i64 kd, .string nm, .int .i64 (l : Int), .int .i64 (r : Int)] 31) = w5 at *
        have q0 := HBX.out.c0; have q2 := HBX.out.c2; have q3 := HBX.out.c3
        have hl1 : ∀ nq, (Instr.lookup 150 (.map (some w2.heap.size)) (.int .i64 (l : Int)) false).run Tryz.prog (w5.drewN nq) = .ok (.int .i64 il) (w5.drewN nq) := fun nq => by
          have := (HJ4.out.mp.below (below_drewN w5 nq)).look_int l HLR.out.1
          rw [g1] at this; exact this
        have hl2 : ∀ nq, (Instr.lookup 150 (.map (some w2.heap.size)) (.int .i64 (r : Int)) false).run Tryz.prog (w5.drewN nq) = .ok (.int .i64 ir) (w5.drewN nq) := fun nq => by
          have := (HJ4.out.mp.below (below_drewN w5 nq)).look_int r HLR.out.2.1
          rw [g2] at this; exact this
        have HGG : Hid ((imgF img ((below rows id).take j) l).getD 0 = il) := g1
        clear g1 g2
        go_wp2_with fail
        go_quiet (fail)
        have HJ5 := Lib.hid (HJ4.out.later HE.out (below_drewN w5 nq))
        obtain ⟨q0, q1, q2, q3⟩ := HBX.out.below (below_drewN w5 nq)
        simp only at q0 q1 q2 q3
        clear hl1 hl2 HBX HJ4
        generalize w5.drewN nq = w6 at *
        by_cases hz : p.err = 0
        · as_aux_lemma =>
          have gz : (p.err != 0) = false := by simp [hz]
          have HZ := Lib.hid hz
          clear hz
          go_wp2_with (first
            | (go_at_call 57; refine (HCC.out _ HJ5.out.tab HJ5.out.env).mono ?_; rintro e w7 ⟨rfl, ow7, hk7, ht7⟩; have HK7 := Lib.hid hk7; have HT7 := Lib.hid ht7; have HM7 := Lib.hid (HJ5.out.mp.kept hk7 (by rw [HJ5.out.cm]; decide)); clear hk7 ht7)
            | (at_mapUpdate; refine wp_put HM7.out lawInt natV_inj rfl (.tmp 54) (.tmp 55) _ 150 3 rfl Tryz.underlying150 rfl x rfl p.id rfl (keyNat x HLR.out.2.2) ?_; intro w8 hm8 ho8; have HJ8 := Lib.hid (HJ5.out.next HE.out HX.out HP0.out HZ.out HID.out HGR.out HK7.out HT7.out hm8 ho8); clear hm8 ho8))
          refine ⟨⟨by rw [HZ.out], j + 1, _, _, _, by omega, by go_num, HJ8.out⟩, by simp [intOf]; omega⟩
        · as_aux_lemma =>
          have gz : (p.err != 0) = true := by simp [hz]
          have HZ := Lib.hid hz
          have HST : Hid (anewP of rows id = ⟨rows, 0, p.err⟩) := by
            rw [Hid, anewP_stop HX.out HJ5.out.st (by rw [HP0.out]; exact HZ.out), HP0.out]
          clear hz
          go_wp2_with (first
            | (go_at_call 57; refine (HCC.out _ HJ5.out.tab HJ5.out.env).mono ?_; rintro e w7 ⟨rfl, ow7, hk7, ht7⟩; have HK7 := Lib.hid hk7; have HT7 := Lib.hid ht7; have HM7 := Lib.hid (HJ5.out.mp.kept hk7 (by rw [HJ5.out.cm]; decide)); clear hk7 ht7)
            | (go_at_call 33; refine (cut_any 1 ow7 _ t p.rows HF8.out.2 (rows.length : Int)).mono ?_; rintro e w9 ⟨rfl, ow9, hk9, ht9⟩; have HF9 : Hid (Kept 1 ow w ow9 w9 ∧ Tab 1 ow9 w9 t rows) := ⟨HF8.out.1.trans hk9, by unfold cutP at ht9; rw [if_pos ⟨by omega, by have := prefix_length HJ5.out.pre; have := prefix_length HGR.out; omega⟩] at ht9; simp only [Int.toNat_natCast] at ht9; rw [take_of_prefix (HJ5.out.pre.trans HGR.out)] at ht9; exact ht9⟩; clear hk9 ht9)
            | (at_mapUpdate; refine wp_put HM7.out lawInt natV_inj rfl (.tmp 54) (.tmp 55) _ 150 3 rfl Tryz.underlying150 rfl x rfl p.id rfl (keyNat x HLR.out.2.2) ?_; intro w8 hm8 ho8; have HF8 := Lib.hid (HJ5.out.fail HK7.out HT7.out ho8); clear hm8 ho8))
          go_ret2
          rw [HST.out]
          exact ⟨rfl, _, HF9.out.1, HF9.out.2⟩
      · as_aux_lemma =>
        rw [if_neg h3, if_neg h3] at hp0
        have g3 : (decide (3 ≤ kd)) = false := by simpa using h3
        have z0 : (0 : Int) ≤ 0 := Int.le_refl _
        have HID : Hid (0 ≤ (of rowsj x ⟨kd, nm, l, r⟩ 0 0).id) := HN.out _ _ _ _ _ z0 z0
        have HGR : Hid (rowsj <+: (of rowsj x ⟨kd, nm, l, r⟩ 0 0).rows) := HG.out _ _ _ _ _
        have HCC : Hid (∀ W, Tab 1 ow' W t rowsj → E ow' W → Calls Tryz.prog 57 #[.int .i64 (x : Int), .agg #[.int .i64 kd, .string nm, .int .i64 (l : Int), .int .i64 (r : Int)], .int .i64 0, .int .i64 0, p1, p2] W (PutPost 1 ow' W t (of rowsj x ⟨kd, nm, l, r⟩ 0 0))) := fun W a b => HC.out ow' W rowsj x ⟨kd, nm, l, r⟩ _ _ a b HNM.out HKN.out z0 z0
        have HP0 := Lib.hid hp0
        clear hp0 n1 n2 z0 h3
        generalize of rowsj x ⟨kd, nm, l, r⟩ 0 0 = p at *
        by_cases hz : p.err = 0
        · as_aux_lemma =>
          have gz : (p.err != 0) = false := by simp [hz]
          have HZ := Lib.hid hz
          clear hz
          go_wp2_with (first
            | (go_at_call 27; refine (node_yes 1 ow' _ _ _ HJ.out.tab _ _ HRX.out).mono ?_; rintro e w4 ⟨rfl, hb4⟩; have HJ5 := Lib.hid (HJ.out.later HE.out (below_trans hb4 (below_alloc w4 (.cells #[.int .i64 kd, .string nm, .int .i64 (l : Int), .int .i64 (r : Int)] 31)))); clear hb4)
            | (go_at_call 57; refine (HCC.out _ HJ5.out.tab HJ5.out.env).mono ?_; rintro e w7 ⟨rfl, ow7, hk7, ht7⟩; have HK7 := Lib.hid hk7; have HT7 := Lib.hid ht7; have HM7 := Lib.hid (HJ5.out.mp.kept hk7 (by rw [HJ5.out.cm]; decide)); clear hk7 ht7)
            | (at_mapUpdate; refine wp_put HM7.out lawInt natV_inj rfl (.tmp 54) (.tmp 55) _ 150 3 rfl Tryz.underlying150 rfl x rfl p.id rfl (keyNat x HLR.out.2.2) ?_; intro w8 hm8 ho8; have HJ8 := Lib.hid (HJ5.out.next HE.out HX.out HP0.out HZ.out HID.out HGR.out HK7.out HT7.out hm8 ho8); clear hm8 ho8))
          refine ⟨⟨by rw [HZ.out], j + 1, _, _, _, by omega, by go_num, HJ8.out⟩, by simp [intOf]; omega⟩
        · as_aux_lemma =>
          have gz : (p.err != 0) = true := by simp [hz]
          have HZ := Lib.hid hz
          have HST : Hid (anewP of rows id = ⟨rows, 0, p.err⟩) := by
            rw [Hid, anewP_stop HX.out HJ.out.st (by rw [HP0.out]; exact HZ.out), HP0.out]
          clear hz
          go_wp2_with (first
            | (go_at_call 27; refine (node_yes 1 ow' _ _ _ HJ.out.tab _ _ HRX.out).mono ?_; rintro e w4 ⟨rfl, hb4⟩; have HJ5 := Lib.hid (HJ.out.later HE.out (below_trans hb4 (below_alloc w4 (.cells #[.int .i64 kd, .string nm, .int .i64 (l : Int), .int .i64 (r : Int)] 31)))); clear hb4)
            | (go_at_call 57; refine (HCC.out _ HJ5.out.tab HJ5.out.env).mono ?_; rintro e w7 ⟨rfl, ow7, hk7, ht7⟩; have HK7 := Lib.hid hk7; have HT7 := Lib.hid ht7; have HM7 := Lib.hid (HJ5.out.mp.kept hk7 (by rw [HJ5.out.cm]; decide)); clear hk7 ht7)
            | (go_at_call 33; refine (cut_any 1 ow7 _ t p.rows HF8.out.2 (rows.length : Int)).mono ?_; rintro e w9 ⟨rfl, ow9, hk9, ht9⟩; have HF9 : Hid (Kept 1 ow w ow9 w9 ∧ Tab 1 ow9 w9 t rows) := ⟨HF8.out.1.trans hk9, by unfold cutP at ht9; rw [if_pos ⟨by omega, by have := prefix_length HJ5.out.pre; have := prefix_length HGR.out; omega⟩] at ht9; simp only [Int.toNat_natCast] at ht9; rw [take_of_prefix (HJ5.out.pre.trans HGR.out)] at ht9; exact ht9⟩; clear hk9 ht9)
            | (at_mapUpdate; refine wp_put HM7.out lawInt natV_inj rfl (.tmp 54) (.tmp 55) _ 150 3 rfl Tryz.underlying150 rfl x rfl p.id rfl (keyNat x HLR.out.2.2) ?_; intro w8 hm8 ho8; have HF8 := Lib.hid (HJ5.out.fail HK7.out HT7.out ho8); clear hm8 ho8))
          go_ret2
          rw [HST.out]
          exact ⟨rfl, _, HF9.out.1, HF9.out.2⟩
    · obtain rfl : j = (below rows id).length := by omega
      have hst := hI.st
      have hg := hI.get id
      have hm := hI.mp
      rw [List.take_length] at hst hg hm
      have HST : Hid (anewP of rows id = ⟨rowsj, img id, 0⟩) := anewP_end hst
      have hl1 := hm.look_int id (by omega)
      rw [hg] at hl1
      have HKP := Lib.hid hI.kp
      have HTB := Lib.hid hI.tab
      clear hI hst hg hm
      go_wp2_with fail
      go_ret2
      rw [HST.out]
      exact ⟨rfl, _, HKP.out, HTB.out⟩
end Go.Dk
end
