/- Parts of the proof: Hh, Sq, St, Sj, Su. -/
import Derived.Deep.DeepCutAuto
import Derived.Deep.CutBlock
import Derived.Deep.RegionLaw
import Derived.Deep.RegionHeld3
import Derived.ArgAppend
import Derived.Outline
import Derived.IntWalk
import Derived.BigQuiet
import Derived.Deep.QuietTactic
import Derived.Test.YthhokkfcdbcllaaDoorN01
import Derived.Test.YthhokkfcdbcllaaDoorN02
import Derived.Test.YthhokkfcdbcllaaDoorN03
import Derived.Test.YthhokkfcdbcllaaDoorN04
import Derived.Test.YthhokkfcdbcllaaDoorN05
import Derived.Test.YthhokkfcdbcllaaDoorN06
import Derived.Test.YthhokkfcdbcllaaDoorN07
import Derived.Test.YthhokkfcdbcllaaDoorN08
import Derived.Test.YthhokkfcdbcllaaDoorN09
import Derived.Test.YthhokkfcdbcllaaDoorN10
import Derived.Test.YthhokkfcdbcllaaDoorN11
import Derived.Test.YthhokkfcdbcllaaDoorN12
import Derived.Test.YthhokkfcdbcllaaDoorN13
import Derived.Test.YthhokkfcdbcllaaDoorN14
import Derived.Test.YthhokkfcdbcllaaDoorN15
import Derived.Test.YthhokkfcdbcllaaDoorN16
section
namespace Go.Dk
open Go.RowKit Go.Maps Go.MapKept Go.Shelf
open Go.Proofs hiding intOf
def admGo (rows : List ND) : List Int → Nat → Int × Int
  | [], _ => (0, 0)
  | z :: t, i => if askE rows [] z.toNat ≠ 0 then (0, 110) else if askB rows [] z.toNat = true then ((i : Int), 0) else admGo rows t (i + 1)
def admP (rows : List ND) (a b : List Int) (c d : Int) : Int × Int :=
  if (visserP rows a b c d).err ≠ 0 then (0, if (visserP rows a b c d).err = 30 then 110 else (visserP rows a b c d).err)
  else if askE (visserP rows a b c d).rows [] (visserP rows a b c d).prem.toNat ≠ 0 then (0, 110)
  else if askB (visserP rows a b c d).rows [] (visserP rows a b c d).prem.toNat = false then (0, 2)
  else admGo (visserP rows a b c d).rows (visserP rows a b c d).parts 0
theorem lists0 (w : World) : ListsR w (.slice none 0 0) [] := ⟨[], ⟨⟨none, 0, rfl, fun _ => ⟨rfl, rfl⟩, fun _ h => by cases h⟩, rfl⟩, fun i zs x h1 _ => by simp at h1⟩
theorem rd_nil (w : World) : Rd w (.slice none 0 0) ([] : List Int).length 1 (ints []) := ⟨⟨none, 0, rfl, fun _ => ⟨rfl, rfl⟩, fun _ h => by cases h⟩, rfl⟩
theorem IdT.has {rows : List ND} {z : Int} {T : Fm} (h : IdT rows z T) : ∃ n : Nat, z = (n : Int) ∧ n < rows.length := by obtain ⟨n, h1, h2, _⟩ := h; exact ⟨n, h1, h2⟩
theorem AllT.has {rows : List ND} {zs : List Int} {ts : List Fm} (h : AllT rows zs ts) : ∀ z ∈ zs, hasB rows.length z = true := by
  induction h with
  | nil => intro z hz; cases hz
  | cons a _ ih =>
    intro z hz
    rcases List.mem_cons.1 hz with rfl | hz
    · obtain ⟨n, rfl, hn⟩ := a.has; simp [hasB, hn]
    · exact ih z hz
/-- What was there when the table was not stays. -/
theorem KeptF.from_ {F F' : FP} {w W W' : World} (h : KeptF F W F' W') (hb : Below w.heap.size w W) (hn : ∀ b, F b → w.heap.size ≤ b) : Below w.heap.size w W' :=
  hb.trans (h.below hb.size fun b hl hf => by have := hn b hf; omega)
theorem All2.len {α β : Type} {R : α → β → Prop} {l : List α} {m : List β} (h : All2 R l m) : l.length = m.length := by
  induction h with
  | nil => rfl
  | cons _ _ ih => simp [ih]
theorem admGo_at {rows : List ND} {ps : List Int} {j k : Nat} {z : Int} (h : ps[j]? = some z) : admGo rows (ps.drop j) k = if askE rows [] z.toNat ≠ 0 then (0, 110) else if askB rows [] z.toNat = true then ((k : Int), 0) else admGo rows (ps.drop (j + 1)) (k + 1) := by
  have hj := (List.getElem?_eq_some_iff.1 h).1
  rw [List.drop_eq_getElem_cons hj]
  have : ps[j] = z := (List.getElem?_eq_some_iff.1 h).2
  rw [this]
  rfl
set_option maxRecDepth 100000 in
set_option maxHeartbeats 4000000 in
theorem admits_any (F : FP) (w : World) (t va vb : Value) (rows : List ND) (h : TabF F w t rows) (hT : TabG w) (a b : List Int) (ha : Rd w va a.length 1 (ints a)) (hb : Rd w vb b.length 1 (ints b)) (hla : a.length < 2 ^ 62) (hlb : b.length < 2 ^ 62) (c d : Int) :
    Calls Tryd.prog 9 #[t, va, vb, .int .i64 c, .int .i64 d] w (DjPost w (admP rows a b c d)) := by
  have H := Lib.hid h
  have HT := Lib.hid hT
  have HOK := Lib.hid h.ok
  have HLK : Hid (∀ W, Below w.heap.size w W → Calls Tryd.prog 12 #[t, .slice none 0 0] W fun e w' => e = .returned (.int .i64 0) ∧ Below W.heap.size W w') := fun W hb => by
    have := lookH_any 0 _ W t (.slice none 0 0) rows [] ((h.below hb).col 0) (lists0 W) (by simp)
    simpa [lookE] using this
  have HVI : Hid (∀ (F1 : FP) (W : World) (t1 : Value), Below w.heap.size w W → TabF F1 W t1 rows → (∀ b, F1 b → w.heap.size ≤ b) → Calls Tryd.prog 8 #[t1, va, vb, .int .i64 c, .int .i64 d] W (VisPost F1 W t1 (visserP rows a b c d))) := fun F1 W t1 hbw ht hn =>
    visser_any F1 W t1 va vb rows ht a b (fun F2 W2 hk => ha.below (hk.from_ hbw hn)) (fun F2 W2 hk => hb.below (hk.from_ hbw hn)) hla hlb c d
  clear h hT ha hb
  obtain ⟨r, hr⟩ : ∃ r, r = visserP rows a b c d := ⟨_, rfl⟩
  have HAD : Hid (admP rows a b c d = if r.err ≠ 0 then (0, if r.err = 30 then 110 else r.err) else if askE r.rows [] r.prem.toNat ≠ 0 then (0, 110) else if askB r.rows [] r.prem.toNat = false then (0, 2) else admGo r.rows r.parts 0) := by
    unfold Hid admP; rw [← hr]
  have HVO : Hid (r.err = 0 → (∃ n : Nat, r.prem = (n : Int) ∧ n < r.rows.length) ∧ (∀ z ∈ r.parts, hasB r.rows.length z = true) ∧ r.parts.length < 2 ^ 62) := fun he => by
    rw [hr] at he
    have h1 := (visser_ok HOK.out he).1
    have h2 := (visser_ok HOK.out he).2.2.1
    rw [← hr] at h1
    refine ⟨h1.prem.has, h1.parts.has, ?_⟩
    have := h1.parts.len
    simp at this
    have := List.length_zip (l₁ := a) (l₂ := b)
    omega
  rw [← hr] at HVI
  clear hr
  by_cases h30 : r.err = 30
  · have g30 : (r.err == 30) = true := by simpa using h30
    have HP : Hid (admP rows a b c d = (0, 110)) := by unfold Hid; rw [HAD.out, if_pos (by omega), if_pos h30]
    clear h30
    go_enter Tryd.func9, Tryd.ntmps9
    go_wp2_with (first
      | (go_at_call 12; refine (HLK.out _ (Below.refl _ _)).mono ?_; rintro e w2 ⟨rfl, hb2⟩; have HB2 := Lib.hid hb2; clear hb2)
      | (go_at_call 15; refine (asker_any F _ t rows (H.out.below HB2.out)).mono ?_; rintro e w3 ⟨c1, cb, Fc, rfl, hA3, hF3, hc3, hb3⟩; unfold askV; have HA3 := Lib.hid hA3; have HF3 : Hid (∀ b, Fc b → w.heap.size ≤ b) := (fun b hb => Nat.le_trans HB2.out.size (hF3 b hb)); have HB3 := Lib.hid (below_trans HB2.out hb3); clear hA3 hF3 hc3 hb3)
      | (go_at_call 8; refine (HVI.out Fc _ c1 HB3.out HA3.out.tab HF3.out).mono ?_; rintro e w4 ⟨pv, F4, rfl, hk4, ht4, ho4⟩; have HA4 := Lib.hid (HA3.out.put hk4 ht4); have HB4 : Hid (Below w.heap.size w w4) := HB3.out.trans (hk4.below HB3.out.size (fun b hb hf => by have := HF3.out b hf; omega)); obtain ⟨qa, qc, rfl⟩ := own_slice ho4.own; have HO4 := Lib.hid ho4; clear hk4 ht4 ho4))
    go_ret2
    exact djPost_mk HP.out HB4.out
  · have g30 : (r.err == 30) = false := by simpa using h30
    by_cases h0 : r.err = 0
    case neg =>
      have g0 : (r.err != 0) = true := by simpa using h0
      have HP : Hid (admP rows a b c d = (0, r.err)) := by unfold Hid; rw [HAD.out, if_pos h0, if_neg h30]
      clear h30 h0
      go_enter Tryd.func9, Tryd.ntmps9
      go_wp2_with (first
        | (go_at_call 12; refine (HLK.out _ (Below.refl _ _)).mono ?_; rintro e w2 ⟨rfl, hb2⟩; have HB2 := Lib.hid hb2; clear hb2)
        | (go_at_call 15; refine (asker_any F _ t rows (H.out.below HB2.out)).mono ?_; rintro e w3 ⟨c1, cb, Fc, rfl, hA3, hF3, hc3, hb3⟩; unfold askV; have HA3 := Lib.hid hA3; have HF3 : Hid (∀ b, Fc b → w.heap.size ≤ b) := (fun b hb => Nat.le_trans HB2.out.size (hF3 b hb)); have HB3 := Lib.hid (below_trans HB2.out hb3); clear hA3 hF3 hc3 hb3)
        | (go_at_call 8; refine (HVI.out Fc _ c1 HB3.out HA3.out.tab HF3.out).mono ?_; rintro e w4 ⟨pv, F4, rfl, hk4, ht4, ho4⟩; have HA4 := Lib.hid (HA3.out.put hk4 ht4); have HB4 : Hid (Below w.heap.size w w4) := HB3.out.trans (hk4.below HB3.out.size (fun b hb hf => by have := HF3.out b hf; omega)); obtain ⟨qa, qc, rfl⟩ := own_slice ho4.own; have HO4 := Lib.hid ho4; clear hk4 ht4 ho4))
      go_ret2
      exact djPost_mk HP.out HB4.out
    case pos =>
      have g0 : (r.err != 0) = false := by simpa using h0
      have HP : Hid (admP rows a b c d = if askE r.rows [] r.prem.toNat ≠ 0 then (0, 110) else if askB r.rows [] r.prem.toNat = false then (0, 2) else admGo r.rows r.parts 0) := by unfold Hid; rw [HAD.out, if_neg (by simpa using h0)]
      obtain ⟨⟨p, hp, hpl⟩, hps, hpn⟩ := HVO.out h0
      have HPS := Lib.hid hps
      have HPL : Hid (p < r.rows.length ∧ r.parts.length < 2 ^ 62) := ⟨hpl, hpn⟩
      obtain ⟨prows, pprem, pparts, perr⟩ := r
      simp only at hp HP HPS HPL g0 g30 HVI h0
      subst hp
      subst h0
      rw [Int.toNat_natCast] at HP
      clear HVO HAD hps hpl hpn h30
      go_enter Tryd.func9, Tryd.ntmps9
      go_wp2_with (first
        | (go_at_call 12; refine (HLK.out _ (Below.refl _ _)).mono ?_; rintro e w2 ⟨rfl, hb2⟩; have HB2 := Lib.hid hb2; clear hb2)
        | (go_at_call 15; refine (asker_any F _ t rows (H.out.below HB2.out)).mono ?_; rintro e w3 ⟨c1, cb, Fc, rfl, hA3, hF3, hc3, hb3⟩; unfold askV; have HA3 := Lib.hid hA3; have HF3 : Hid (∀ b, Fc b → w.heap.size ≤ b) := (fun b hb => Nat.le_trans HB2.out.size (hF3 b hb)); have HB3 := Lib.hid (below_trans HB2.out hb3); clear hA3 hF3 hc3 hb3)
        | (go_at_call 8; refine (HVI.out Fc _ c1 HB3.out HA3.out.tab HF3.out).mono ?_; rintro e w4 ⟨pv, F4, rfl, hk4, ht4, ho4⟩; have HA4 := Lib.hid (HA3.out.put hk4 ht4); have HB4 : Hid (Below w.heap.size w w4) := HB3.out.trans (hk4.below HB3.out.size (fun b hb hf => by have := HF3.out b hf; omega)); obtain ⟨qa, qc, rfl⟩ := own_slice ho4.own; have HO4 := Lib.hid ho4; clear hk4 ht4 ho4))
      have HASK : Hid (∀ (W : World) (x : Nat), Below w4.heap.size w4 W → x < prows.length → Calls Tryd.prog 26 #[.slice none 0 0, .int .i64 (x : Int), .pointer (some ⟨cb, 0, none⟩)] W fun e w' => e = .returned (.tuple #[.bool (askB prows [] x), .int .i64 (askE prows [] x)]) ∧ Below W.heap.size W w') :=
        fun W x hb hx => ask_any F4 W cb c1 prows (HA4.out.below hb) ((HT.out.below HB4.out).below hb) _ [] (rd_nil W) (by simp) (by simp) x hx
      refine (HASK.out _ p (Below.refl _ _) HPL.out.1).mono ?_
      rintro e w5 ⟨rfl, hb5⟩
      have HB5 := Lib.hid hb5
      clear hb5
      rcases askE_cases prows [] p with he0 | he0
      · rw [he0]
        cases hbp : askB prows [] p with
        | false =>
          have hp := HP.out
          rw [he0, hbp, if_neg (by simp), if_pos rfl] at hp
          have HP2 := Lib.hid hp
          clear hp he0 hbp
          go_wp2_with fail
          go_ret2
          exact djPost_mk HP2.out (below_trans HB4.out HB5.out)
        | true =>
          have hp := HP.out
          rw [he0, hbp, if_neg (by simp), if_neg (by simp)] at hp
          have HP2 := Lib.hid hp
          clear hp he0 hbp
          go_wp2_with fail
          go_loopw [63] (fun u W => ∃ j : Nat, j ≤ pparts.length ∧ u = .int .i64 (j : Int) ∧ admGo prows pparts 0 = admGo prows (pparts.drop j) j ∧ Below w4.heap.size w4 W) (fun u _ => pparts.length - (intOf u).toNat)
          case atStart => exact ⟨0, Nat.zero_le _, rfl, rfl, HB5.out⟩
          case round =>
            obtain ⟨j, hj, rfl, hall, hb⟩ := hrel
            have HA := Lib.hid hall; have HB := Lib.hid hb
            clear hall hb
            by_cases hlt : j < pparts.length
            · as_aux_lemma =>
              obtain ⟨ib, io, ic, z, he, hc1, hzk⟩ := ints_at ((HO4.out.below HB.out).rd) hlt
              cases he
              have hji : (j : Int) < (pparts.length : Int) := by omega
              obtain ⟨x, rfl, hx⟩ := nat_of_has (HPS.out z (List.mem_of_getElem? hzk))
              have HAT := Lib.hid (admGo_at (rows := prows) (k := j) hzk)
              rw [Int.toNat_natCast] at HAT
              have HX := Lib.hid hx
              have HPL2 := HPL.out.2
              clear hzk hx
              go_wp2_with fail
              refine (HASK.out _ x HB.out HX.out).mono ?_
              rintro e w7 ⟨rfl, hb7⟩
              have HB7 := Lib.hid (below_trans HB.out hb7)
              clear hb7
              rcases askE_cases prows [] x with hx0 | hx0
              · rw [hx0]
                cases hbx : askB prows [] x with
                | true =>
                  have hp := HAT.out
                  rw [hx0, hbx, if_neg (by simp), if_pos rfl] at hp
                  have HP3 : Hid (admP rows a b c d = ((j : Int), 0)) := by unfold Hid; rw [HP2.out, HA.out, hp]
                  clear hp hx0 hbx
                  go_wp2_with fail
                  go_ret2
                  exact djPost_mk HP3.out (below_trans HB4.out HB7.out)
                | false =>
                  have hp := HAT.out
                  rw [hx0, hbx, if_neg (by simp), if_neg (by simp)] at hp
                  have HP3 := Lib.hid hp
                  clear hp hx0 hbx
                  go_wp2_with fail
                  exact ⟨⟨j + 1, by omega, by go_num, by rw [HA.out, HP3.out], HB7.out⟩, by simp [intOf]; omega⟩
              · rw [hx0]
                have hp := HAT.out
                rw [hx0, if_pos (by simp)] at hp
                have HP3 : Hid (admP rows a b c d = (0, 110)) := by unfold Hid; rw [HP2.out, HA.out, hp]
                clear hp hx0
                go_wp2_with fail
                go_ret2
                exact djPost_mk HP3.out (below_trans HB4.out HB7.out)
            · obtain rfl : j = pparts.length := by omega
              have HP3 : Hid (admP rows a b c d = (0, 0)) := by unfold Hid; rw [HP2.out, HA.out, List.drop_length]; rfl
              have hnn : ¬ (pparts.length : Int) < (pparts.length : Int) := Int.lt_irrefl _
              go_wp2_with fail
              go_ret2
              exact djPost_mk HP3.out (below_trans HB4.out HB.out)
      · rw [he0]
        have hp := HP.out
        rw [he0, if_pos (by simp)] at hp
        have HP2 := Lib.hid hp
        clear hp he0
        go_wp2_with fail
        go_ret2
        exact djPost_mk HP2.out (below_trans HB4.out HB5.out)
end Go.Dk
end

section
namespace Go.Dk
open Go.RowKit Go.Maps Go.MapKept
open Go.Proofs hiding intOf
def strV (s : ByteArray) : Value := .string s
theorem strV_inj : ∀ x y : ByteArray, strV x = strV y → x = y := by
  intro x y h; simpa [strV] using h
theorem lawStr : Keyed Tryd.prog 9 := string_keyed Tryd.underlying9
theorem keyStr (s : ByteArray) (h : s.size ≤ maxLen) : keyOf Tryd.prog 9 (strV s) = some (.string s.data.toList) := Go.WideMaps.keyOf_string_mk Tryd.underlying9 h
theorem look_str {w : World} {b : Nat} {f : ByteArray → Option Int} (h : TM Tryd.prog 9 strV intV w b f) (s : ByteArray) (hs : s.size ≤ maxLen) :
    (Instr.lookup 83 (.map (some b)) (.string s) true).run Tryd.prog w = .ok (.tuple #[.int .i64 ((f s).getD 0), .bool (f s).isSome]) w := by
  cases hf : f s with
  | none => exact h.look_none lawStr strV_inj Tryd.underlying83 (zeroInt _) (keyStr s hs) true hf
  | some v => exact h.look_some lawStr strV_inj Tryd.underlying83 (keyStr s hs) true hf
set_option maxRecDepth 100000 in
set_option maxHeartbeats 1000000 in
theorem imgPut_any (ow : Own) (w : World) (t : Value) (rows : List ND) (h : Tab 1 ow w t rows) (b1 b2 nb : Nat) (f : ByteArray → Option Int) (h1 : w.cell? ⟨b1, 0, none⟩ = some (.map (some nb))) (h2 : w.cell? ⟨b2, 0, none⟩ = some t) (hm : TM Tryd.prog 9 strV intV w nb f) (k : Nat) (kd a b l r : Int) (nm : ByteArray) (hn : nm.size ≤ maxLen) :
    Calls Tryd.prog 32 #[.int .i64 (k : Int), .agg #[.int .i64 kd, .string nm, .int .i64 a, .int .i64 b], .int .i64 l, .int .i64 r, .pointer (some ⟨b1, 0, none⟩), .pointer (some ⟨b2, 0, none⟩)] w (PutPost 1 ow w t (putOf f rows k ⟨kd, nm, a, b⟩ l r)) := by
  have H := Lib.hid h
  have HE := Lib.hid (putOf_plain f rows k ⟨kd, nm, a, b⟩ l r)
  have hl := look_str (hm.below (below_alloc w (.cells #[.int .i64 kd, .string nm, .int .i64 a, .int .i64 b] 45))) nm hn
  have l1 := World.block_lt_of_cell? w _ h1
  have l2 := World.block_lt_of_cell? w _ h2
  clear h hm hn
  cases hf : f nm with
  | none =>
    rw [hf] at hl
    simp only [Option.getD_none, Option.isSome_none] at hl
    have HEE : Hid (putOf f rows k ⟨kd, nm, a, b⟩ l r = plainP rows k ⟨kd, nm, a, b⟩ l r) := by rw [Hid, HE.out, if_neg (by simp [hf])]
    clear hf HE
    go_enter Tryd.func32, Tryd.ntmps32
    go_wp2_with fail
    refine (plain_any ow _ t rows (H.out.below (below_alloc _ _)) k kd a b l r nm).mono ?_
    rintro e w1 hp
    have HP := Lib.hid (PutPost.from (below_alloc _ _) hp)
    obtain ⟨rfl, _⟩ := hp
    go_wp2_with fail
    go_ret2
    rw [HEE.out]
    exact HP.out
  | some x =>
    rw [hf] at hl
    simp only [Option.getD_some, Option.isSome_some] at hl
    by_cases hk : kd = 1
    · have g1 : (kd == 1) = true := by simpa using hk
      have HEE : Hid (putOf f rows k ⟨kd, nm, a, b⟩ l r = ⟨rows, x, 0⟩) := by rw [Hid, HE.out, if_pos ⟨hk, by simp [hf]⟩]; simp [hf]
      clear hf HE hk
      go_enter Tryd.func32, Tryd.ntmps32
      go_wp2_with fail
      go_ret2
      rw [HEE.out]
      exact ⟨rfl, ow, (below_alloc _ _).kept_ow, H.out.below (below_alloc _ _)⟩
    · have g1 : (kd == 1) = false := by simpa using hk
      have HEE : Hid (putOf f rows k ⟨kd, nm, a, b⟩ l r = plainP rows k ⟨kd, nm, a, b⟩ l r) := by rw [Hid, HE.out, if_neg (fun h => hk h.1)]
      clear hf HE hk
      go_enter Tryd.func32, Tryd.ntmps32
      go_wp2_with fail
      refine (plain_any ow _ t rows (H.out.below (below_alloc _ _)) k kd a b l r nm).mono ?_
      rintro e w1 hp
      have HP := Lib.hid (PutPost.from (below_alloc _ _) hp)
      obtain ⟨rfl, _⟩ := hp
      go_wp2_with fail
      go_ret2
      rw [HEE.out]
      exact HP.out
end Go.Dk
end

section
namespace Go.Dk
open Go.RowKit Go.Maps Go.MapKept
open Go.Proofs hiding intOf
theorem PutPost.re {ow : Own} {w W : World} {t : Value} {p : Put} {e : Ending} {w' : World} (hb : Below w.heap.size w W) (h : PutPost 1 (fun b => if b < w.heap.size then ow b else 2) W t p e w') : PutPost 1 ow w t p e w' := by
  obtain ⟨he, ow', hk, ht⟩ := h
  exact ⟨he, ow', (hb.kept_ow.recolour (fun b hb => by simp [hb]) : Kept 1 ow w _ _).trans hk, ht⟩
theorem rd_one' (w : World) {b : Nat} (x : Value) (e : TypeId) (hb : b = w.heap.size) : Rd (w.alloc (.cells #[x] e)) (.slice (some ⟨b, 0, none⟩) 1 1) 1 1 [x] := hb ▸ rd_one w x e
theorem tab_re {ow : Own} {w W : World} {t : Value} {rows : List ND} (h : Tab 1 ow w t rows) (hb : Below w.heap.size w W) : Tab 1 (fun b => if b < w.heap.size then ow b else 2) W t rows :=
  h.kept ((hb.kept_ow).recolour (fun b hb => by simp [hb]) : Kept 2 ow w _ _) (by decide)
theorem cell_kept {c : Nat} {ow ow' : Own} {w w' : World} {a : Addr} {v : Value} (h : w.cell? a = some v) (hk : Kept c ow w ow' w') (hc : ow a.block ≠ c) : w'.cell? a = some v :=
  (World.cell?_of_block (hk.block _ (World.block_lt_of_cell? w _ h) hc)).trans h
/-- The boxes of Replace. -/
def EnvR (ow : Own) (w : World) (b : Nat) (t : Value) (old by' : Int) : Prop :=
  w.cell? ⟨b, 0, none⟩ = some t ∧ w.cell? ⟨b + 1, 0, none⟩ = some (.int .i64 old) ∧ w.cell? ⟨b + 1 + 1, 0, none⟩ = some (.int .i64 by') ∧ ow b = 2 ∧ ow (b + 1) = 2 ∧ ow (b + 1 + 1) = 2
theorem envR_ok (b : Nat) (t : Value) (old by' : Int) : EnvOk (fun ow w => EnvR ow w b t old by') := by
  rintro c hc ow w ow' w' ⟨h1, h2, h3, o1, o2, o3⟩ hk
  have n2 : (2 : Nat) ≠ c := by omega
  exact ⟨cell_kept h1 hk (by rw [show (⟨b, 0, none⟩ : Addr).block = b from rfl, o1]; exact n2), cell_kept h2 hk (by rw [show (⟨b + 1, 0, none⟩ : Addr).block = b + 1 from rfl, o2]; exact n2), cell_kept h3 hk (by rw [show (⟨b + 1 + 1, 0, none⟩ : Addr).block = b + 1 + 1 from rfl, o3]; exact n2),
    (hk.own _ (World.block_lt_of_cell? w _ h1)).trans o1, (hk.own _ (World.block_lt_of_cell? w _ h2)).trans o2, (hk.own _ (World.block_lt_of_cell? w _ h3)).trans o3⟩
theorem EnvR.below {ow : Own} {w w' : World} {b : Nat} {t : Value} {old by' : Int} (h : EnvR ow w b t old by') (hb : Below w.heap.size w w') : EnvR ow w' b t old by' := envR_ok b t old by' 1 (.inl rfl) ow w ow w' h hb.kept_ow
end Go.Dk
end

section
namespace Go.Dk
open Go.RowKit Go.Maps Go.MapKept
open Go.Proofs hiding intOf
set_option maxRecDepth 100000 in
set_option maxHeartbeats 4000000 in
theorem anewPut_yes (E : EnvT) (hE : EnvOk E) (of : OfF) (hgr : Grows of) (hnn : ∀ rows k n l r, 0 ≤ l → 0 ≤ r → 0 ≤ (of rows k n l r).id) (ow : Own) (w : World) (t : Value) (rows : List ND) (h : Tab 1 ow w t rows) (p1 p2 : Value)
    (hC : ∀ ow w rows (k : Nat) (n : ND) (l r : Int), Tab 1 ow w t rows → E ow w → n.name.size ≤ maxLen → (1 ≤ n.kind ∧ n.kind ≤ 5) → 0 ≤ l → 0 ≤ r → Calls Tryd.prog 32 #[.int .i64 (k : Int), .agg #[.int .i64 n.kind, .string n.name, .int .i64 n.l, .int .i64 n.r], .int .i64 l, .int .i64 r, p1, p2] w (PutPost 1 ow w t (of rows k n l r)))
    (hEw : E ow w) (id : Nat) (hid : id < rows.length) :
    Calls Tryd.prog 31 #[t, .int .i64 (id : Int), .func (.func 32) #[] #[p1, p2]] w (PutPost 1 ow w t (anewP of rows id)) := by
  have hok := h.ok
  have hle := hok.le
  have H := Lib.hid h
  have HK := Lib.hid hok
  have HG := Lib.hid hgr
  have HN := Lib.hid hnn
  have HC := Lib.hid hC
  have HE := Lib.hid hE
  have HEW := Lib.hid hEw
  clear h hgr hnn hC hE hEw hok
  have hmm := @run_makeMap Tryd.prog
  go_enter Tryd.func31, Tryd.ntmps31
  go_wp2_with (first
    | (go_at_call 16; refine (len_any 1 ow _ _ rows H.out).mono ?_; rintro e w' ⟨rfl, rfl⟩)
    | (go_at_call 41; refine (below_yes 1 ow _ _ _ H.out id hid).mono ?_; rintro e w2 ⟨v2, rfl, hown2, hb2⟩; have HI := Lib.hid (AnW.start (of := of) HE.out H.out HEW.out hb2 hown2); obtain ⟨a2, c2, hv2⟩ := own_slice hown2; subst hv2; clear hown2 hb2))
  clear hmm
  have hlb := below_le rows id
  go_loopw [10, 32] (fun e i W => e = .int .i64 0 ∧ ∃ (j : Nat) (ow' : Own) (rowsj : List ND) (img : Nat → Int), j ≤ (below rows id).length ∧ i = .int .i64 (j : Int) ∧ AnW E of ow w t rows id w2.heap.size (.slice a2 (below rows id).length c2) j ow' W rowsj img) (fun _ i _ => (below rows id).length - (intOf i).toNat)
  case atStart => exact ⟨rfl, 0, _, _, _, Nat.zero_le _, rfl, HI.out⟩
  case round =>
    obtain ⟨rfl, j, ow', rowsj, img, hj, rfl, hI⟩ := hrel
    have HJ := Lib.hid hI
    by_cases hlt : j < (below rows id).length
    · obtain ⟨b, o, c1, x', he, hc1, hxk'⟩ := ints_at (rd_own hI.own) hlt
      cases he
      obtain ⟨x, hx⟩ : ∃ x, (below rows id)[j]? = some x := ⟨_, List.getElem?_eq_getElem hlt⟩
      obtain rfl : x' = (x : Int) := by
        have : (natInts (below rows id))[j]? = some (x : Int) := by simp [natInts, hx]
        rw [this] at hxk'; exact (Option.some.inj hxk').symm
      have hxi : x ≤ id := ((mem_below HK.out).1 (List.mem_of_getElem? hx)).le HK.out
      have hpl := prefix_length hI.pre
      have hrow := rowAt_get (rows := rowsj) (i := x) (by omega)
      have hp0 : pAt of rowsj x img = of rowsj x (rowAt rowsj x) (if 3 ≤ (rowAt rowsj x).kind then img (rowAt rowsj x).l.toNat else 0) (if 3 ≤ (rowAt rowsj x).kind then img (rowAt rowsj x).r.toNat else 0) := rfl
      generalize rowAt rowsj x = n at hrow hp0
      have hjk := hI.tab.ok
      have hjl := hjk.le
      have hfn := fits_le (hjk.fit _ _ hrow)
      obtain ⟨kd, nm, l', r'⟩ := n
      simp only at hfn hp0
      obtain ⟨l, rfl⟩ := Int.eq_ofNat_of_zero_le hfn.2.2.1.1
      obtain ⟨r, rfl⟩ := Int.eq_ofNat_of_zero_le hfn.2.2.2.1
      simp only [Int.toNat_natCast] at hp0
      have HX := Lib.hid hx
      have HRX := Lib.hid hrow
      have HLR : Hid (l ≤ 9223372036854775807 ∧ r ≤ 9223372036854775807 ∧ x ≤ 9223372036854775807) := by unfold Hid; omega
      have HNM : Hid (nm.size ≤ maxLen) := by unfold Hid maxLen; omega
      have HKN : Hid (1 ≤ kd ∧ kd ≤ 5) := hfn.2.1
      have HGT := Lib.hid hI.get
      have n1 := hI.nn l; have n2 := hI.nn r
      clear hI hxk' hx hrow hfn hjk
      by_cases h3 : 3 ≤ kd
      · as_aux_lemma =>
        rw [if_pos h3, if_pos h3] at hp0
        have g3 : (decide (3 ≤ kd)) = true := by simpa using h3
        have HNN : Hid (0 ≤ img l ∧ 0 ≤ img r) := ⟨n1, n2⟩
        have HID : Hid (0 ≤ (of rowsj x ⟨kd, nm, l, r⟩ (img l) (img r)).id) := HN.out _ _ _ _ _ n1 n2
        have HGR : Hid (rowsj <+: (of rowsj x ⟨kd, nm, l, r⟩ (img l) (img r)).rows) := HG.out _ _ _ _ _
        have HCC : Hid (∀ W, Tab 1 ow' W t rowsj → E ow' W → Calls Tryd.prog 32 #[.int .i64 (x : Int), .agg #[.int .i64 kd, .string nm, .int .i64 (l : Int), .int .i64 (r : Int)], .int .i64 (img l), .int .i64 (img r), p1, p2] W (PutPost 1 ow' W t (of rowsj x ⟨kd, nm, l, r⟩ (img l) (img r)))) := fun W a b => HC.out ow' W rowsj x ⟨kd, nm, l, r⟩ _ _ a b HNM.out HKN.out n1 n2
        have g1 := HGT.out l; have g2 := HGT.out r
        have HP0 := Lib.hid hp0
        clear hp0 n1 n2
        generalize of rowsj x ⟨kd, nm, l, r⟩ (img l) (img r) = p at *
        generalize hil : img l = il at *
        generalize hir : img r = ir at *
        clear hil hir
        go_wp2_with (go_at_call 14; refine (node_yes 1 ow' _ _ _ HJ.out.tab _ _ HRX.out).mono ?_; rintro e w4 ⟨rfl, hb4⟩; have HJ4 := Lib.hid (HJ.out.later HE.out (below_trans hb4 (below_alloc w4 (.cells #[.int .i64 kd, .string nm, .int .i64 (l : Int), .int .i64 (r : Int)] 45)))); clear hb4)
        have HBX : Hid (Boxed (w4.alloc (.cells #[.int .i64 kd, .string nm, .int .i64 (l : Int), .int .i64 (r : Int)] 45)) w4.heap.size ⟨kd, nm, l, r⟩) := boxed_new w4 ⟨kd, nm, l, r⟩ _
        generalize w4.alloc (.cells #[.int .i64 kd, .string nm, .int .i64 (l : Int), .int .i64 (r : Int)] 45) = w5 at *
        have q0 := HBX.out.c0; have q2 := HBX.out.c2; have q3 := HBX.out.c3
        have hl1 : ∀ nq, (Instr.lookup 105 (.map (some w2.heap.size)) (.int .i64 (l : Int)) false).run Tryd.prog (w5.drewN nq) = .ok (.int .i64 il) (w5.drewN nq) := fun nq => by
          have := (HJ4.out.mp.below (below_drewN w5 nq)).look_int l HLR.out.1
          rw [g1] at this; exact this
        have hl2 : ∀ nq, (Instr.lookup 105 (.map (some w2.heap.size)) (.int .i64 (r : Int)) false).run Tryd.prog (w5.drewN nq) = .ok (.int .i64 ir) (w5.drewN nq) := fun nq => by
          have := (HJ4.out.mp.below (below_drewN w5 nq)).look_int r HLR.out.2.1
          rw [g2] at this; exact this
        have HGG : Hid ((imgF img ((below rows id).take j) l).getD 0 = il) := g1
        clear g1 g2
        go_wp2_with fail
        go_quiet (fail)
        have HJ5 := Lib.hid (HJ4.out.later HE.out (below_drewN w5 nq))
        obtain ⟨q0, q1, q2, q3⟩ := HBX.out.below (below_drewN w5 nq)
        simp only at q0 q1 q2 q3
        clear hl1 hl2 HBX HJ4
        generalize w5.drewN nq = w6 at *
        by_cases hz : p.err = 0
        · as_aux_lemma =>
          have gz : (p.err != 0) = false := by simp [hz]
          have HZ := Lib.hid hz
          clear hz
          go_wp2_with (first
            | (go_at_call 32; refine (HCC.out _ HJ5.out.tab HJ5.out.env).mono ?_; rintro e w7 ⟨rfl, ow7, hk7, ht7⟩; have HK7 := Lib.hid hk7; have HT7 := Lib.hid ht7; have HM7 := Lib.hid (HJ5.out.mp.kept hk7 (by rw [HJ5.out.cm]; decide)); clear hk7 ht7)
            | (at_mapUpdate; refine wp_put HM7.out lawInt natV_inj rfl (.tmp 54) (.tmp 55) _ 105 3 rfl Tryd.underlying105 rfl x rfl p.id rfl (keyNat x HLR.out.2.2) ?_; intro w8 hm8 ho8; have HJ8 := Lib.hid (HJ5.out.next HE.out HX.out HP0.out HZ.out HID.out HGR.out HK7.out HT7.out hm8 ho8); clear hm8 ho8))
          refine ⟨⟨by rw [HZ.out], j + 1, _, _, _, by omega, by go_num, HJ8.out⟩, by simp [intOf]; omega⟩
        · as_aux_lemma =>
          have gz : (p.err != 0) = true := by simp [hz]
          have HZ := Lib.hid hz
          have HST : Hid (anewP of rows id = ⟨rows, 0, p.err⟩) := by
            rw [Hid, anewP_stop HX.out HJ5.out.st (by rw [HP0.out]; exact HZ.out), HP0.out]
          clear hz
          go_wp2_with (first
            | (go_at_call 32; refine (HCC.out _ HJ5.out.tab HJ5.out.env).mono ?_; rintro e w7 ⟨rfl, ow7, hk7, ht7⟩; have HK7 := Lib.hid hk7; have HT7 := Lib.hid ht7; have HM7 := Lib.hid (HJ5.out.mp.kept hk7 (by rw [HJ5.out.cm]; decide)); clear hk7 ht7)
            | (go_at_call 18; refine (cut_any 1 ow7 _ t p.rows HF8.out.2 (rows.length : Int)).mono ?_; rintro e w9 ⟨rfl, ow9, hk9, ht9⟩; have HF9 : Hid (Kept 1 ow w ow9 w9 ∧ Tab 1 ow9 w9 t rows) := ⟨HF8.out.1.trans hk9, by unfold cutP at ht9; rw [if_pos ⟨by omega, by have := prefix_length HJ5.out.pre; have := prefix_length HGR.out; omega⟩] at ht9; simp only [Int.toNat_natCast] at ht9; rw [take_of_prefix (HJ5.out.pre.trans HGR.out)] at ht9; exact ht9⟩; clear hk9 ht9)
            | (at_mapUpdate; refine wp_put HM7.out lawInt natV_inj rfl (.tmp 54) (.tmp 55) _ 105 3 rfl Tryd.underlying105 rfl x rfl p.id rfl (keyNat x HLR.out.2.2) ?_; intro w8 hm8 ho8; have HF8 := Lib.hid (HJ5.out.fail HK7.out HT7.out ho8); clear hm8 ho8))
          go_ret2
          rw [HST.out]
          exact ⟨rfl, _, HF9.out.1, HF9.out.2⟩
      · as_aux_lemma =>
        rw [if_neg h3, if_neg h3] at hp0
        have g3 : (decide (3 ≤ kd)) = false := by simpa using h3
        have z0 : (0 : Int) ≤ 0 := Int.le_refl _
        have HID : Hid (0 ≤ (of rowsj x ⟨kd, nm, l, r⟩ 0 0).id) := HN.out _ _ _ _ _ z0 z0
        have HGR : Hid (rowsj <+: (of rowsj x ⟨kd, nm, l, r⟩ 0 0).rows) := HG.out _ _ _ _ _
        have HCC : Hid (∀ W, Tab 1 ow' W t rowsj → E ow' W → Calls Tryd.prog 32 #[.int .i64 (x : Int), .agg #[.int .i64 kd, .string nm, .int .i64 (l : Int), .int .i64 (r : Int)], .int .i64 0, .int .i64 0, p1, p2] W (PutPost 1 ow' W t (of rowsj x ⟨kd, nm, l, r⟩ 0 0))) := fun W a b => HC.out ow' W rowsj x ⟨kd, nm, l, r⟩ _ _ a b HNM.out HKN.out z0 z0
        have HP0 := Lib.hid hp0
        clear hp0 n1 n2 z0 h3
        generalize of rowsj x ⟨kd, nm, l, r⟩ 0 0 = p at *
        by_cases hz : p.err = 0
        · as_aux_lemma =>
          have gz : (p.err != 0) = false := by simp [hz]
          have HZ := Lib.hid hz
          clear hz
          go_wp2_with (first
            | (go_at_call 14; refine (node_yes 1 ow' _ _ _ HJ.out.tab _ _ HRX.out).mono ?_; rintro e w4 ⟨rfl, hb4⟩; have HJ5 := Lib.hid (HJ.out.later HE.out (below_trans hb4 (below_alloc w4 (.cells #[.int .i64 kd, .string nm, .int .i64 (l : Int), .int .i64 (r : Int)] 45)))); clear hb4)
            | (go_at_call 32; refine (HCC.out _ HJ5.out.tab HJ5.out.env).mono ?_; rintro e w7 ⟨rfl, ow7, hk7, ht7⟩; have HK7 := Lib.hid hk7; have HT7 := Lib.hid ht7; have HM7 := Lib.hid (HJ5.out.mp.kept hk7 (by rw [HJ5.out.cm]; decide)); clear hk7 ht7)
            | (at_mapUpdate; refine wp_put HM7.out lawInt natV_inj rfl (.tmp 54) (.tmp 55) _ 105 3 rfl Tryd.underlying105 rfl x rfl p.id rfl (keyNat x HLR.out.2.2) ?_; intro w8 hm8 ho8; have HJ8 := Lib.hid (HJ5.out.next HE.out HX.out HP0.out HZ.out HID.out HGR.out HK7.out HT7.out hm8 ho8); clear hm8 ho8))
          refine ⟨⟨by rw [HZ.out], j + 1, _, _, _, by omega, by go_num, HJ8.out⟩, by simp [intOf]; omega⟩
        · as_aux_lemma =>
          have gz : (p.err != 0) = true := by simp [hz]
          have HZ := Lib.hid hz
          have HST : Hid (anewP of rows id = ⟨rows, 0, p.err⟩) := by
            rw [Hid, anewP_stop HX.out HJ.out.st (by rw [HP0.out]; exact HZ.out), HP0.out]
          clear hz
          go_wp2_with (first
            | (go_at_call 14; refine (node_yes 1 ow' _ _ _ HJ.out.tab _ _ HRX.out).mono ?_; rintro e w4 ⟨rfl, hb4⟩; have HJ5 := Lib.hid (HJ.out.later HE.out (below_trans hb4 (below_alloc w4 (.cells #[.int .i64 kd, .string nm, .int .i64 (l : Int), .int .i64 (r : Int)] 45)))); clear hb4)
            | (go_at_call 32; refine (HCC.out _ HJ5.out.tab HJ5.out.env).mono ?_; rintro e w7 ⟨rfl, ow7, hk7, ht7⟩; have HK7 := Lib.hid hk7; have HT7 := Lib.hid ht7; have HM7 := Lib.hid (HJ5.out.mp.kept hk7 (by rw [HJ5.out.cm]; decide)); clear hk7 ht7)
            | (go_at_call 18; refine (cut_any 1 ow7 _ t p.rows HF8.out.2 (rows.length : Int)).mono ?_; rintro e w9 ⟨rfl, ow9, hk9, ht9⟩; have HF9 : Hid (Kept 1 ow w ow9 w9 ∧ Tab 1 ow9 w9 t rows) := ⟨HF8.out.1.trans hk9, by unfold cutP at ht9; rw [if_pos ⟨by omega, by have := prefix_length HJ5.out.pre; have := prefix_length HGR.out; omega⟩] at ht9; simp only [Int.toNat_natCast] at ht9; rw [take_of_prefix (HJ5.out.pre.trans HGR.out)] at ht9; exact ht9⟩; clear hk9 ht9)
            | (at_mapUpdate; refine wp_put HM7.out lawInt natV_inj rfl (.tmp 54) (.tmp 55) _ 105 3 rfl Tryd.underlying105 rfl x rfl p.id rfl (keyNat x HLR.out.2.2) ?_; intro w8 hm8 ho8; have HF8 := Lib.hid (HJ5.out.fail HK7.out HT7.out ho8); clear hm8 ho8))
          go_ret2
          rw [HST.out]
          exact ⟨rfl, _, HF9.out.1, HF9.out.2⟩
    · obtain rfl : j = (below rows id).length := by omega
      have hst := hI.st
      have hg := hI.get id
      have hm := hI.mp
      rw [List.take_length] at hst hg hm
      have HST : Hid (anewP of rows id = ⟨rowsj, img id, 0⟩) := anewP_end hst
      have hl1 := hm.look_int id (by omega)
      rw [hg] at hl1
      have HKP := Lib.hid hI.kp
      have HTB := Lib.hid hI.tab
      clear hI hst hg hm
      go_wp2_with fail
      go_ret2
      rw [HST.out]
      exact ⟨rfl, _, HKP.out, HTB.out⟩
end Go.Dk
end

section
namespace Go.Dk
open Go.RowKit Go.Maps Go.MapKept
open Go.Proofs hiding intOf
def HY.cells (h : HY) : List Value := [.string h.name, .int .i64 h.form]
def hyCells (l : List HY) : List Value := l.flatMap HY.cells
theorem hyCells_at (l : List HY) (i : Nat) (h : HY) (hi : l[i]? = some h) (j : Nat) (hj : j < 2) : (hyCells l)[i * 2 + j]? = h.cells[j]? := by
  induction l generalizing i with
  | nil => simp at hi
  | cons a t ih =>
    cases i with
    | zero =>
      simp at hi
      subst hi
      unfold hyCells
      rw [List.flatMap_cons, List.getElem?_append_left (by simp [HY.cells]; omega)]
      simp
    | succ i =>
      simp only [List.getElem?_cons_succ] at hi
      unfold hyCells
      rw [List.flatMap_cons, List.getElem?_append_right (by simp [HY.cells]; omega)]
      have := ih i hi
      unfold hyCells at this
      rw [← this]
      congr 1
      simp [HY.cells]; omega
theorem hy_at {w : World} {v : Value} {l : List HY} (h : Rd w v l.length 2 (hyCells l)) {k : Nat} (hk : k < l.length) : ∃ b o c x, v = .slice (some ⟨b, o, none⟩) l.length c ∧ w.cell? ⟨b, o + k * 2, none⟩ = some (.string x.name) ∧ w.cell? ⟨b, o + k * 2 + 1, none⟩ = some (.int .i64 x.form) ∧ l[k]? = some (x : HY) := by
  obtain ⟨b, o, c, rfl, hc⟩ := h.some (by omega)
  obtain ⟨x, hx⟩ : ∃ x, l[k]? = some x := ⟨_, List.getElem?_eq_getElem hk⟩
  refine ⟨b, o, c, x, rfl, ?_, ?_, hx⟩
  · exact hc (k * 2) _ (by have := hyCells_at l k x hx 0 (by omega); simpa [HY.cells] using this)
  · have := hc (k * 2 + 1) _ (by have := hyCells_at l k x hx 1 (by omega); simpa [HY.cells] using this)
    rwa [show o + (k * 2 + 1) = o + k * 2 + 1 by omega] at this
def formsOf (l : List HY) : List Int := l.map (·.form)
theorem formsOf_snoc {l : List HY} {k : Nat} {x : HY} (h : l[k]? = some x) : formsOf (l.take (k + 1)) = formsOf (l.take k) ++ [x.form] := by
  unfold formsOf; rw [List.take_add_one, h]; simp
theorem lookE_put (rows : List ND) (id : Int) (l : List HY) : lookE rows (id :: formsOf l) = if hasB rows.length id = true ∧ hyB rows l = true then 0 else 31 := by
  unfold lookE hyB formsOf
  simp only [List.all_cons, List.all_map, Bool.and_eq_true]
  rfl
/-- The boxes of Put: the table's, the map's. -/
def EnvP (ow : Own) (w : World) (b b12 nb : Nat) (t : Value) (f : ByteArray → Option Int) : Prop :=
  w.cell? ⟨b, 0, none⟩ = some t ∧ w.cell? ⟨b12, 0, none⟩ = some (.map (some nb)) ∧ TM Tryd.prog 9 strV intV w nb f ∧ ow b = 2 ∧ ow b12 = 2 ∧ ow nb = 2
theorem envP_ok (b b12 nb : Nat) (t : Value) (f : ByteArray → Option Int) : EnvOk (fun ow w => EnvP ow w b b12 nb t f) := by
  rintro c hc ow w ow' w' ⟨h1, h2, h3, o1, o2, o3⟩ hk
  have n2 : (2 : Nat) ≠ c := by omega
  exact ⟨cell_kept h1 hk (by rw [show (⟨b, 0, none⟩ : Addr).block = b from rfl, o1]; exact n2), cell_kept h2 hk (by rw [show (⟨b12, 0, none⟩ : Addr).block = b12 from rfl, o2]; exact n2), h3.kept hk (by rw [o3]; exact n2),
    (hk.own _ (World.block_lt_of_cell? w _ h1)).trans o1, (hk.own _ (World.block_lt_of_cell? w _ h2)).trans o2, (hk.own _ h3.lt).trans o3⟩
/-- In Put's loops: the boxes, the map. -/
structure PuI (w W : World) (b12 nb : Nat) (t : Value) (f : ByteArray → Option Int) : Prop where
  c0 : W.cell? ⟨w.heap.size, 0, none⟩ = some t
  c12 : W.cell? ⟨b12, 0, none⟩ = some (.map (some nb))
  mp : TM Tryd.prog 9 strV intV W nb f
  bl : Below w.heap.size w W
  lb : w.heap.size ≤ b12
  ln : w.heap.size ≤ nb
theorem PuI.below {w W W' : World} {b12 nb : Nat} {t : Value} {f : ByteArray → Option Int} (h : PuI w W b12 nb t f) (hb : Below W.heap.size W W') : PuI w W' b12 nb t f :=
  ⟨(hb.cell (World.block_lt_of_cell? _ _ h.c0)).trans h.c0, (hb.cell (World.block_lt_of_cell? _ _ h.c12)).trans h.c12, h.mp.below hb, below_trans h.bl hb, h.lb, h.ln⟩
theorem PuI.put {w W W' : World} {b12 nb : Nat} {t : Value} {f f' : ByteArray → Option Int} (h : PuI w W b12 nb t f) (hm : TM Tryd.prog 9 strV intV W' nb f') (ho : Only nb W W') : PuI w W' b12 nb t f' := by
  obtain ⟨_, ⟨es, clock, hes, _⟩, _⟩ := h.mp
  have e1 : ∀ {b : Nat} {v : Value}, W.cell? ⟨b, 0, none⟩ = some v → b ≠ nb := fun hc e => by
    subst e; simp [World.cell?, hes] at hc
  exact ⟨(World.cell?_of_block (ho.block _ (e1 h.c0))).trans h.c0, (World.cell?_of_block (ho.block _ (e1 h.c12))).trans h.c12, hm, h.bl.trans (ho.below h.ln), h.lb, h.ln⟩
theorem PuI.env {ow : Own} {w W : World} {b12 nb : Nat} {t : Value} {f : ByteArray → Option Int} (h : PuI w W b12 nb t f) : EnvP (fun b => if b < w.heap.size then ow b else 2) W w.heap.size b12 nb t f :=
  ⟨h.c0, h.c12, h.mp, by simp, if_neg (by have := h.lb; omega), if_neg (by have := h.ln; omega)⟩
theorem hyB_nat {rows : List ND} {l : List HY} (h : hyB rows l = true) : ∀ s f, namedF l s = some f → 0 ≤ f := fun s f hf => by
  obtain ⟨x, hx, _, rfl⟩ := namedF_some hf
  obtain ⟨y, hy, _⟩ := nat_of_has (List.all_eq_true.1 h x hx)
  omega
theorem twice_at {l : List HY} {k : Nat} {x : HY} (hx : l[k]? = some x) {f : Int} (hf : namedF (l.take k) x.name = some f) : twiceB l = true := by
  unfold twiceB
  simp only [Bool.not_eq_true', decide_eq_false_iff_not]
  intro hd
  have h1 := nodup_take (k + 1) hd
  rw [List.take_add_one, hx] at h1
  simp only [Option.toList_some] at h1
  rw [nodup_snoc (nodup_take k hd), hf] at h1
  cases h1
theorem words_at {l : List HY} {k : Nat} {x : HY} (hx : l[k]? = some x) (hw : word x.name = false) : wordsB l = false := by
  unfold wordsB
  rw [List.all_eq_false]
  exact ⟨x, List.mem_of_getElem? hx, by rw [hw]; simp⟩
theorem namedF_upd {l : List HY} {k : Nat} {x : HY} (hx : l[k]? = some x) (hn : namedF (l.take k) x.name = none) : upd (namedF (l.take k)) x.name (some x.form) = namedF (l.take (k + 1)) := by
  funext s
  rw [List.take_add_one, hx]
  simp only [Option.toList_some]
  rw [namedF_snoc hn]
  by_cases e : s = x.name
  · subst e; rw [upd_same, if_pos rfl]
  · rw [upd_other _ _ e, if_neg e]
set_option maxRecDepth 100000 in
set_option maxHeartbeats 4000000 in
theorem put07_any (ow : Own) (w : World) (t v : Value) (rows : List ND) (h : Tab 1 ow w t rows) (id : Int) (l : List HY) (hn : ∀ x ∈ l, x.name.size ≤ maxLen) (hv : Rd w v l.length 2 (hyCells l)) (hl : l.length * 16 ≤ 140737488355328) :
    Calls Tryd.prog 19 #[t, .int .i64 id, v] w (PutPost 1 ow w t (putP rows id l)) := by
  obtain ⟨pb, rfl⟩ := h.ptr
  have HT : Hid (∀ W, Below w.heap.size w W → Tab 1 (fun b => if b < w.heap.size then ow b else 2) W (.pointer (some ⟨pb, 0, none⟩)) rows) := fun W hb => tab_re h hb
  have HV := Lib.hid hv
  have HN := Lib.hid hn
  obtain ⟨va, vc, rfl⟩ := hv.slice
  have HL := Lib.hid (lookE_put rows id l)
  have hmm := @run_makeMap Tryd.prog
  clear h hv hn
  go_enter Tryd.func19, Tryd.ntmps19
  go_wp2_with fail
  have HI0 : Hid (Below w.heap.size w ((w.alloc (.cells #[.pointer (some ⟨pb, 0, none⟩)] 24)).alloc (.cells #[.int .i64 id] 3))) := below_trans (below_alloc _ _) (below_alloc _ _)
  have HC0 : Hid (((w.alloc (.cells #[.pointer (some ⟨pb, 0, none⟩)] 24)).alloc (.cells #[.int .i64 id] 3)).cell? ⟨w.heap.size, 0, none⟩ = some (.pointer (some ⟨pb, 0, none⟩))) := (World.cell?_alloc_lt _ _ _ (by simp)).trans (World.cell?_alloc_at _ _ _ _ rfl)
  have HO0 : Hid (((w.alloc (.cells #[.pointer (some ⟨pb, 0, none⟩)] 24)).alloc (.cells #[.int .i64 id] 3)).ownsRow (w.heap.size + 1) 3 1 (.slice (some ⟨w.heap.size + 1, 0, none⟩) 1 1) (0 + 1) (ints (id :: formsOf (l.take 0)))) := by
    refine ⟨by simp [ints, formsOf], .inr ⟨w.heap.size + 1, 1, _, rfl, Nat.le_refl _, heap_alloc_new' _ _ (by simp), Nat.le_refl _, by decide, by simp, by simp [ints, formsOf]⟩⟩
  generalize (w.alloc (.cells #[.pointer (some ⟨pb, 0, none⟩)] 24)).alloc (.cells #[.int .i64 id] 3) = w1 at *
  go_loopw [8, 23] (fun u i W => ∃ j : Nat, j ≤ l.length ∧ i = .int .i64 (j : Int) ∧ W.ownsRow (w.heap.size + 1) 3 1 u (j + 1) (ints (id :: formsOf (l.take j))) ∧ Below w.heap.size w W ∧ W.cell? ⟨w.heap.size, 0, none⟩ = some (.pointer (some ⟨pb, 0, none⟩))) (fun _ i _ => l.length - (intOf i).toNat)
  case atStart => exact ⟨0, Nat.zero_le _, rfl, HO0.out, HI0.out, HC0.out⟩
  case round =>
    obtain ⟨j, hj, rfl, hown, hb, hc0⟩ := hrel
    have HO := Lib.hid hown; have HB := Lib.hid hb; have HC := Lib.hid hc0
    obtain ⟨oa, oc, hoo⟩ := own_slice hown
    subst hoo
    clear hown hb
    by_cases hlt : j < l.length
    · as_aux_lemma =>
      obtain ⟨b, o, c1, x, he, hc1, hc2, hxk⟩ := hy_at (HV.out.below HB.out) hlt
      cases he
      have HX := Lib.hid hxk
      have hji : (j : Int) < (l.length : Int) := by omega
      have HFS := Lib.hid (formsOf_snoc hxk)
      obtain ⟨xn, xf⟩ := x
      simp only at hc1 hc2
      clear hxk
      go_wp2_with (at_builtin; refine wp_append rfl (.tmp 27) (.tmp 30) 22 rfl (w.heap.size + 1) 3 _ 1 8 Tryd.underlying22 infoInt rfl (by decide) (by decide) _ (j + 1) (ints (id :: formsOf (l.take j))) rfl (own_belowC HO.out (below_trans (below_alloc _ _) (below_alloc _ _))) _ 1 [.int .i64 xf] rfl (rd_one' _ _ _ (by simp)) (by simp [Value.oneCell']) (by omega) (by have := World.block_lt_of_cell? _ _ HC.out; simp at this; simp; omega) ?_; intro v5 w5 hown5 hgr5 hat5 hnil5; have HF5 : Hid (w5.ownsRow (w.heap.size + 1) 3 1 v5 (j + 1 + 1) (ints (id :: formsOf (l.take j)) ++ [.int .i64 xf]) ∧ Below w.heap.size w w5 ∧ w5.cell? ⟨w.heap.size, 0, none⟩ = some (.pointer (some ⟨pb, 0, none⟩))) := ⟨hown5, (below_trans HB.out (below_trans (below_alloc _ _) (below_alloc _ _))).grown hgr5 (by have := HB.out.size; simp; omega) (fun q hq => by have := (HO.out.lt q hq).1; omega), hgr5.cell ((World.cell?_alloc_lt _ _ _ (by have := World.block_lt_of_cell? _ _ HC.out; simp at this; simp; omega)).trans ((World.cell?_alloc_lt _ _ _ (World.block_lt_of_cell? _ _ HC.out)).trans HC.out)) (fun e => by have h9 := (HO.out.lt _ e.symm).1; simp at h9; omega)⟩; clear hown5 hgr5 hat5 hnil5)
      refine ⟨⟨j + 1, by omega, by go_num, ?_, HF5.out.2.1, HF5.out.2.2⟩, by simp [intOf]; omega⟩
      have := HF5.out.1
      rw [show ints (id :: formsOf (l.take j)) ++ [Value.int .i64 xf] = ints (id :: formsOf (l.take (j + 1))) by rw [HFS.out]; simp [ints]] at this
      exact this
    · as_aux_lemma =>
      obtain rfl : j = l.length := by omega
      have hO := HO.out
      rw [List.take_length] at hO
      have HR := Lib.hid (rd_own hO)
      have HLN : Hid ((id :: formsOf l).length = l.length + 1) := by simp [Hid, formsOf]
      clear hO hj hlt
      go_wp2_with fail
      refine (looked_any 1 _ _ _ _ rows (id :: formsOf l) (HT.out _ HB.out) (by rw [HLN.out]; exact HR.out) (by rw [HLN.out]; omega)).mono ?_
      rintro e w2 ⟨rfl, hb2⟩
      have HB2 := Lib.hid (below_trans HB.out hb2)
      have hc2 := (hb2.cell (World.block_lt_of_cell? _ _ hc0)).trans hc0
      have HC2 := Lib.hid hc2
      clear hb2 hc0
      by_cases hlook : hasB rows.length id = true ∧ hyB rows l = true
      · as_aux_lemma =>
        have HV0 : Hid (lookE rows (id :: formsOf l) = 0) := by rw [Hid, HL.out, if_pos hlook]
        rw [HV0.out]
        obtain ⟨xid, hxid, hxl⟩ := nat_of_has hlook.1
        have HYB := Lib.hid hlook.2
        have HHB := Lib.hid hlook.1
        subst hxid
        have HPT : Hid (putP rows (xid : Int) l = if twiceB l = true then ⟨rows, 0, 70⟩ else if wordsB l = false then ⟨rows, 0, 32⟩ else anewP (putOf (namedF l)) rows xid) := by
          unfold Hid putP
          rw [if_neg (by simp [hlook])]; rfl
        clear hlook HL HV0 HC hc2
        go_wp2_with fail
        have HM0 : Hid (PuI w ((w2.alloc (.map #[] 0)).alloc (.cells #[.map (some w2.heap.size)] 83)) (w2.heap.size + 1) w2.heap.size (.pointer (some ⟨pb, 0, none⟩)) (namedF (l.take 0))) := by
          have hz : namedF (l.take 0) = fun _ => none := by funext s; rfl
          rw [Hid, hz]
          refine PuI.mk ?_ (World.cell?_alloc_at _ _ _ _ (by simp)) ((TM.made _ _ _ _ _).below (below_alloc _ _)) (below_trans HB2.out (below_trans (below_alloc _ _) (below_alloc _ _))) (by have := HB2.out.size; omega) HB2.out.size
          rw [World.cell?_alloc_lt _ _ _ (by have := World.block_lt_of_cell? _ _ HC2.out; simp at this; simp; omega), World.cell?_alloc_lt _ _ _ (World.block_lt_of_cell? _ _ HC2.out)]
          exact HC2.out
        generalize (w2.alloc (.map #[] 0)).alloc (.cells #[.map (some w2.heap.size)] 83) = w3 at *
        generalize hb12 : w2.heap.size + 1 = b12 at *
        generalize w2.heap.size = nb at *
        clear hmm
        go_loopw [42] (fun i W => ∃ j : Nat, j ≤ l.length ∧ i = .int .i64 (j : Int) ∧ ((l.take j).map (·.name)).Nodup ∧ PuI w W b12 nb (.pointer (some ⟨pb, 0, none⟩)) (namedF (l.take j))) (fun i _ => l.length - (intOf i).toNat)
        case atStart => exact ⟨0, Nat.zero_le _, rfl, by simp, HM0.out⟩
        case round =>
          obtain ⟨j, hj, rfl, hnd, hI⟩ := hrel
          have HJ := Lib.hid hI; have HND := Lib.hid hnd
          clear hI hnd
          by_cases hlt : j < l.length
          · as_aux_lemma =>
            obtain ⟨b, o, c1, x, he, hc1, hc2, hxk⟩ := hy_at (HV.out.below HJ.out.bl) hlt
            cases he
            have HX := Lib.hid hxk
            have hji : (j : Int) < (l.length : Int) := by omega
            have hnm : x.name.size ≤ maxLen := HN.out x (List.mem_of_getElem? hxk)
            have HNM := Lib.hid hnm
            have HJ2 := Lib.hid (HJ.out.below (below_alloc wr (.cells #[.string x.name, .int .i64 x.form] 47)))
            have hlk := look_str HJ2.out.mp x.name hnm
            have q12 := HJ2.out.c12
            have q0 : (wr.alloc (.cells #[.string x.name, .int .i64 x.form] 47)).cell? ⟨wr.heap.size, 0, none⟩ = some (.string x.name) := World.cell?_alloc_at _ _ _ _ rfl
            have q1 : (wr.alloc (.cells #[.string x.name, .int .i64 x.form] 47)).cell? ⟨wr.heap.size, 1, none⟩ = some (.int .i64 x.form) := World.cell?_alloc_at _ _ _ _ rfl
            clear hxk hnm
            cases hf : namedF (l.take j) x.name with
            | some f =>
              have HTW := Lib.hid (twice_at HX.out hf)
              rw [hf] at hlk
              simp only [Option.getD_some, Option.isSome_some] at hlk
              clear hf
              obtain ⟨xn, xf⟩ := x
              simp only at *
              go_wp2_with fail
              go_ret2
              rw [HPT.out, if_pos HTW.out]
              exact PutPost.re HJ2.out.bl ⟨rfl, _, Kept.refl _ _ _, HT.out _ HJ2.out.bl⟩
            | none =>
              have HNF := Lib.hid hf
              have HND2 : Hid (((l.take (j + 1)).map (·.name)).Nodup) := by
                unfold Hid
                rw [List.take_add_one, HX.out]
                exact (nodup_snoc HND.out).2 hf
              have HU := Lib.hid (namedF_upd HX.out hf)
              rw [hf] at hlk
              simp only [Option.getD_none, Option.isSome_none] at hlk
              clear hf
              obtain ⟨xn, xf⟩ := x
              simp only at *
              go_wp2_with (at_mapUpdate; refine wp_put HJ2.out.mp lawStr strV_inj rfl (.tmp 54) (.tmp 56) (.tmp 58) 83 3 rfl Tryd.underlying83 rfl xn rfl xf rfl (keyStr xn HNM.out) ?_; intro w8 hm8 ho8; rw [HU.out] at hm8; have HJ8 := Lib.hid (HJ2.out.put hm8 ho8); clear hm8 ho8)
              exact ⟨⟨j + 1, by omega, by go_num, HND2.out, HJ8.out⟩, by simp [intOf]; omega⟩
          · as_aux_lemma =>
            obtain rfl : j = l.length := by omega
            have hJ := HJ.out
            have hND := HND.out
            rw [List.take_length] at hJ hND
            have HJJ := Lib.hid hJ
            have HTW : Hid (¬ twiceB l = true) := by unfold Hid twiceB; simpa using hND
            clear hJ hND hj hlt HJ HND
            go_wp2_with fail
            go_loopw [62] (fun i W => ∃ j : Nat, j ≤ l.length ∧ i = .int .i64 (j : Int) ∧ wordsB (l.take j) = true ∧ PuI w W b12 nb (.pointer (some ⟨pb, 0, none⟩)) (namedF l)) (fun i _ => l.length - (intOf i).toNat)
            case atStart => exact ⟨0, Nat.zero_le _, rfl, by simp [wordsB], HJJ.out⟩
            case round =>
              obtain ⟨j, hj, rfl, hwd, hI⟩ := hrel
              have HJ := Lib.hid hI; have HWD := Lib.hid hwd
              clear hI hwd
              by_cases hlt : j < l.length
              · as_aux_lemma =>
                obtain ⟨b, o, c1, x, he, hc1, hc2, hxk⟩ := hy_at (HV.out.below HJ.out.bl) hlt
                cases he
                have HX := Lib.hid hxk
                have hji : (j : Int) < (l.length : Int) := by omega
                have hnm : x.name.size ≤ maxLen := HN.out x (List.mem_of_getElem? hxk)
                have HNM := Lib.hid hnm
                have HJ2 := Lib.hid (HJ.out.below (below_alloc wr (.cells #[.string x.name, .int .i64 x.form] 47)))
                have q0 : (wr.alloc (.cells #[.string x.name, .int .i64 x.form] 47)).cell? ⟨wr.heap.size, 0, none⟩ = some (.string x.name) := World.cell?_alloc_at _ _ _ _ rfl
                have HWO := Lib.hid (fun W => word_any x.name W hnm)
                clear hxk hnm
                cases hwx : word x.name with
                | true =>
                  have HS : Hid (wordsB (l.take (j + 1)) = true) := by
                    have h1 := HWD.out
                    show wordsB _ = true
                    unfold wordsB at h1 ⊢
                    rw [List.take_add_one, HX.out]
                    simp only [Option.toList_some, List.all_append, h1, List.all_cons, hwx, List.all_nil, Bool.and_self]
                  rw [hwx] at HWO
                  clear hwx
                  obtain ⟨xn, xf⟩ := x
                  simp only at *
                  go_wp2_with fail
                  refine (HWO.out _).mono ?_
                  rintro e w5 ⟨rfl, rfl⟩
                  have HJ5 := HJ2
                  go_wp2_with fail
                  exact ⟨⟨j + 1, by omega, by go_num, HS.out, HJ5.out⟩, by simp [intOf]; omega⟩
                | false =>
                  have HNW := Lib.hid (words_at HX.out hwx)
                  rw [hwx] at HWO
                  clear hwx
                  obtain ⟨xn, xf⟩ := x
                  simp only at *
                  go_wp2_with fail
                  refine (HWO.out _).mono ?_
                  rintro e w5 ⟨rfl, rfl⟩
                  have HJ5 := HJ2
                  go_wp2_with fail
                  go_ret2
                  rw [HPT.out, if_neg HTW.out, if_pos HNW.out]
                  exact PutPost.re HJ5.out.bl ⟨rfl, _, Kept.refl _ _ _, HT.out _ HJ5.out.bl⟩
              · as_aux_lemma =>
                obtain rfl : j = l.length := by omega
                have hW := HWD.out
                rw [List.take_length] at hW
                have HWW : Hid (¬ wordsB l = false) := by simp [Hid, hW]
                have hmf : ∀ (fn : Fn) (first cap : Array Value) (w : World), (Instr.makeFunc fn first cap).run Tryd.prog w = .ok (.func fn first cap) w := fun _ _ _ _ => rfl
                have q0 := HJ.out.c0
                clear hW hj hlt
                go_wp2_with fail
                refine (anewPut_yes (fun ow W => EnvP ow W w.heap.size b12 nb (.pointer (some ⟨pb, 0, none⟩)) (namedF l)) (envP_ok _ _ _ _ _) (putOf (namedF l)) (putOf_grows _) (putOf_nn (hyB_nat HYB.out)) _ _ _ rows (HT.out _ HJ.out.bl) _ _ (fun ow w rows k n l' r ht he hnn _ hl hr => imgPut_any ow w _ rows ht _ _ nb (namedF l) he.2.1 he.1 he.2.2.1 k n.kind n.l n.r l' r n.name hnn) HJ.out.env xid hxl).mono ?_
                rintro e w9 hp
                have HP := Lib.hid (PutPost.re HJ.out.bl hp)
                obtain ⟨rfl, _⟩ := hp
                clear hmf
                go_wp2_with fail
                go_ret2
                rw [HPT.out, if_neg HTW.out, if_neg HWW.out]
                exact HP.out
      · as_aux_lemma =>
        have HV0 : Hid (lookE rows (id :: formsOf l) = 31) := by rw [Hid, HL.out, if_neg hlook]
        have HPE : Hid (putP rows id l = ⟨rows, 0, 31⟩) := by
          unfold Hid putP
          rw [if_pos]
          revert hlook
          cases hasB rows.length id <;> cases hyB rows l <;> simp
        rw [HV0.out]
        clear hlook HL HV0 hmm
        go_wp2_with fail
        go_ret2
        rw [HPE.out]
        exact PutPost.re HB2.out ⟨rfl, _, Kept.refl _ _ _, HT.out _ HB2.out⟩
end Go.Dk
end
