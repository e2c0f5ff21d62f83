/- The walk of MeasureSigns. -/
import Derived.Test.YtfldpjacgeoegaaSo
import Derived.Test.YtfldpjacgeoegaaYs
import Derived.Test.YtfldpjacgeoegaaYq
namespace Go.Dk
open Go.RowKit Go.Maps Go.MapKept Go.Sort
open Go.Proofs hiding intOf

/-- What Signs and Atoms tell. -/
noncomputable def sigA (rows : List ND) (i : Int) : List Nm := if hasB rows.length i = true then atomsOf rows i.toNat else []
noncomputable def sigP (rows : List ND) (i : Int) : List Nm := if hasB rows.length i = true then posOf rows i.toNat else []
noncomputable def sigM (rows : List ND) (i : Int) : List Nm := if hasB rows.length i = true then negOf rows i.toNat else []
def sigE (rows : List ND) (i : Int) : Int := if hasB rows.length i = true then 0 else 31

def StrsPostE (w : World) (ns : List Nm) (f : Int) (e : Ending) (w' : World) : Prop := ∃ v, e = .returned (.tuple #[v, .int .i64 f]) ∧ w'.ownsRow w.heap.size 9 1 v ns.length (strs ns) ∧ Below w.heap.size w w'
def SignsPostE (w : World) (ps ns : List Nm) (f : Int) (e : Ending) (w' : World) : Prop :=
  ∃ v u, e = .returned (.tuple #[v, u, .int .i64 f]) ∧ w'.ownsRow w.heap.size 9 1 v ps.length (strs ps) ∧ w'.ownsRow w.heap.size 9 1 u ns.length (strs ns) ∧ (∀ b, v.ownBlock = some b → u.ownBlock ≠ some b) ∧ Below w.heap.size w w'
def RSignsPostE (w : World) (l1 l2 l3 : List Nm) (f : Int) (e : Ending) (w' : World) : Prop := ∃ v1 v2 v3, e = .returned (.tuple #[v1, v2, v3, .int .i64 f]) ∧ Sg3 w w' v1 v2 v3 l1 l2 l3

theorem has_nat {n : Nat} {i : Int} (h : hasB n i = true) : ∃ x : Nat, i = (x : Int) ∧ x < n := by
  unfold hasB at h; simp at h; exact ⟨i.toNat, by omega, by omega⟩
section
variable (k : Nat) (ow : Own) (w : World) (t : Value) (rows : List ND) (i : Int)
theorem atoms_all (h : Tab k ow w t rows) : Calls Try.prog 13 #[t, .int .i64 i] w (StrsPostE w (sigA rows i) (sigE rows i)) := by
  by_cases hb : hasB rows.length i = true
  · obtain ⟨x, rfl, hx⟩ := has_nat hb
    refine (atoms_yes k ow w t rows h x hx).mono ?_
    rintro e w' ⟨v, rfl, h1, h2⟩
    unfold sigA sigE
    rw [if_pos hb, if_pos hb]
    exact ⟨v, rfl, h1, h2⟩
  · refine (atoms_no k ow w t rows h i (by simpa using hb)).mono ?_
    rintro e w' ⟨rfl, h2⟩
    unfold sigA sigE
    rw [if_neg hb, if_neg hb]
    exact ⟨_, rfl, World.ownsRow_nil _ _ _ _, h2⟩
theorem signs_all (h : Tab k ow w t rows) : Calls Try.prog 14 #[t, .int .i64 i] w (SignsPostE w (sigP rows i) (sigM rows i) (sigE rows i)) := by
  by_cases hb : hasB rows.length i = true
  · obtain ⟨x, rfl, hx⟩ := has_nat hb
    refine (signs_yes k ow w t rows h x hx).mono ?_
    rintro e w' ⟨v, u, rfl, h1, h2, h3, h4⟩
    unfold sigP sigM sigE
    rw [if_pos hb, if_pos hb, if_pos hb]
    exact ⟨v, u, rfl, h1, h2, h3, h4⟩
  · refine (signs_no k ow w t rows h i (by simpa using hb)).mono ?_
    rintro e w' ⟨rfl, h2⟩
    unfold sigP sigM sigE
    rw [if_neg hb, if_neg hb, if_neg hb]
    exact ⟨_, _, rfl, World.ownsRow_nil _ _ _ _, World.ownsRow_nil _ _ _ _, fun b hb => by simp [Value.ownBlock] at hb, h2⟩
theorem refSigns_all (h : RTab k ow w t rows) : Calls Try.prog 11 #[t, .int .i64 i] w (RSignsPostE w (sigA rows i) (sigP rows i) (sigM rows i) (sigE rows i)) := by
  by_cases hb : hasB rows.length i = true
  · obtain ⟨x, rfl, hx⟩ := has_nat hb
    refine (refSigns_yes k ow w t rows h x hx).mono ?_
    rintro e w' ⟨v1, v2, v3, rfl, h1⟩
    unfold sigA sigP sigM sigE
    rw [if_pos hb, if_pos hb, if_pos hb, if_pos hb]
    exact ⟨v1, v2, v3, rfl, h1⟩
  · refine (refSigns_no k ow w t rows h i (by simpa using hb)).mono ?_
    rintro e w' ⟨rfl, rfl⟩
    unfold sigA sigP sigM sigE
    rw [if_neg hb, if_neg hb, if_neg hb, if_neg hb]
    exact ⟨_, _, _, rfl, World.ownsRow_nil _ _ _ _, World.ownsRow_nil _ _ _ _, World.ownsRow_nil _ _ _ _, fun b hb => by simp [Value.ownBlock] at hb, fun b hb => by simp [Value.ownBlock] at hb, fun b hb => by simp [Value.ownBlock] at hb, Below.refl _ _⟩
theorem refOccurs_all (h : RTab k ow w t rows) (part : Int) : Calls Try.prog 12 #[t, .int .i64 part, .int .i64 i] w fun e w' => e = .returned (.tuple #[.int .i64 (occT rows part i).1, .int .i64 (occT rows part i).2.1, .int .i64 (occT rows part i).2.2]) ∧ Below w.heap.size w w' := by
  by_cases hb : hasB rows.length part = true ∧ hasB rows.length i = true
  · obtain ⟨x, rfl, hx⟩ := has_nat hb.1
    obtain ⟨y, rfl, hy⟩ := has_nat hb.2
    refine (refOccurs_yes k ow w t rows h x y hx hy).mono ?_
    rintro e w' ⟨rfl, h1⟩
    unfold occT
    rw [if_pos hb]
    exact ⟨rfl, h1⟩
  · refine (refOccurs_no k ow w t rows h part i hb).mono ?_
    rintro e w' ⟨rfl, rfl⟩
    unfold occT
    rw [if_neg hb]
    exact ⟨rfl, Below.refl _ _⟩
end
theorem occT_bd (rows : List ND) (part i : Int) : (0 ≤ (occT rows part i).1 ∧ (occT rows part i).1 ≤ MC) ∧ 0 ≤ (occT rows part i).2.1 ∧ (occT rows part i).2.1 ≤ MC := by
  unfold occT
  split
  · exact occs_in rows _ _
  · simp [MC]
theorem within_occ {rows : List ND} (ok : Ok rows) (part i : Int) : withinB rows part i = decide (0 < (occT rows part i).1 + (occT rows part i).2.1) := by
  unfold withinB
  rw [decide_eq_decide]
  by_cases hb : hasB rows.length part = true ∧ hasB rows.length i = true
  · obtain ⟨x, rfl, hx⟩ := has_nat hb.1
    obtain ⟨y, rfl, hy⟩ := has_nat hb.2
    unfold occT
    rw [if_pos hb]
    simp only [Int.toNat_natCast]
    rw [occs_iff ok hy, mem_below ok]
    exact ⟨fun h => h.2.2, fun h => ⟨hb.2, by omega, h⟩⟩
  · unfold occT
    rw [if_neg hb]
    constructor
    · rintro ⟨h1, h2, h3⟩
      exfalso
      refine hb ⟨?_, h1⟩
      obtain ⟨y, rfl, hy⟩ := has_nat h1
      simp only [Int.toNat_natCast] at h3
      have := ((mem_below ok).1 h3).le ok
      simp [hasB]; omega
    · intro h; simp at h
theorem sig_le (rows : List ND) (ok : Ok rows) (i : Int) : (sigA rows i).length ≤ 1025 ∧ (sigP rows i).length ≤ 1025 ∧ (sigM rows i).length ≤ 1025 := by
  have hle := ok.le
  by_cases hb : hasB rows.length i = true
  · obtain ⟨x, rfl, hx⟩ := has_nat hb
    unfold sigA sigP sigM
    rw [if_pos hb, if_pos hb, if_pos hb]
    simp only [Int.toNat_natCast]
    rw [← somA_end ok hx, ← somP_end ok hx, ← somM_end ok hx]
    have h1 := somN_le rows (pA rows x) (x + 1)
    have h2 := somN_le rows (pP rows x) (x + 1)
    have h3 := somN_le rows (pN rows x) (x + 1)
    omega
  · unfold sigA sigP sigM
    rw [if_neg hb, if_neg hb, if_neg hb]; simp

/-- Two rows of names that the caller may write. -/
structure QI (w W : World) (vx vy : Value) (nx ny : Nat) : Prop where
  ox : ∃ xs, W.ownsRow w.heap.size 9 1 vx nx xs
  oy : ∃ ys, W.ownsRow w.heap.size 9 1 vy ny ys
  ne : ∀ b, vx.ownBlock = some b → vy.ownBlock ≠ some b
  bl : Below w.heap.size w W
theorem QI.below {w W W' : World} {vx vy : Value} {nx ny : Nat} (h : QI w W vx vy nx ny) (hb : Below W.heap.size W W') : QI w W' vx vy nx ny := by
  obtain ⟨⟨xs, h1⟩, ⟨ys, h2⟩, h3, h4⟩ := h
  exact ⟨⟨xs, own_below h1 hb⟩, ⟨ys, own_below h2 hb⟩, h3, below_trans h4 hb⟩
theorem QI.swap {w W : World} {vx vy : Value} {nx ny : Nat} (h : QI w W vx vy nx ny) : QI w W vy vx ny nx := ⟨h.oy, h.ox, fun b hb e => h.ne b e hb, h.bl⟩
theorem QI.set {w W : World} {vy : Value} {g cap nx ny : Nat} (h : QI w W (.slice (some ⟨g, 0, none⟩) nx cap) vy nx ny) (k : Nat) (u : Value) : QI w (W.setCell ⟨g, k, none⟩ u) (.slice (some ⟨g, 0, none⟩) nx cap) vy nx ny := by
  obtain ⟨⟨xs, h1⟩, ⟨ys, h2⟩, h3, h4⟩ := h
  obtain ⟨s1, s2⟩ := h1.stored k u
  exact ⟨⟨_, s1⟩, ⟨ys, h2.kept s2 (by
    cases hv : vy.ownBlock with
    | none => exact .inl rfl
    | some b => exact .inr (fun e => h3 g rfl (by rw [hv]; exact e)))⟩, h3, h4.grown s2 h4.size (by intro q hq; cases hq; exact (h1.lt g rfl).1)⟩
theorem QI.cell {w W : World} {vx vy : Value} {nx ny : Nat} (h : QI w W vx vy nx ny) {k : Nat} (hk : k < nx) : ∃ g cap u, vx = .slice (some ⟨g, 0, none⟩) nx cap ∧ W.cell? ⟨g, k, none⟩ = some u ∧ W.frozen? ⟨g, k, none⟩ = false := by
  obtain ⟨⟨xs, h1⟩, _⟩ := h
  obtain ⟨g, cap, rfl, _⟩ := own_some h1 (by omega)
  have hl : xs.length = nx := by have := h1.1; simpa using this
  exact ⟨g, cap, xs[k]'(by omega), rfl, by rw [h1.cellAt k (by omega)]; exact List.getElem?_eq_getElem _, h1.frozenAt k⟩
theorem names06_same (w : World) (v u : Value) (n m : Nat) (xs : List Nm) (hn : n ≤ 4096) (hm : m ≤ 4096) (hx : Rd w v n 1 (strs xs)) (hy : Rd w u m 1 (strs xs)) :
    Calls Try.prog 16 #[v, u] w fun e w' => e = .returned (.bool true) ∧ Below w.heap.size w w' := by
  have := names06_any w v u n m xs xs hn hm hx hy
  simpa using this

set_option maxRecDepth 100000 in
set_option maxHeartbeats 4000000 in
theorem measureSigns_any (w : World) (v0 : Value) (rows0 : List ND) (part id : Int) (hn : ∀ n ∈ rows0, n.name.size ≤ maxLen) (hr : Rd w v0 rows0.length 4 (nodeCells rows0)) (hm : rows0.length ≤ maxLen) (hl : rows0.length * 40 ≤ 140737488355328) :
    Calls Try.prog 3 #[v0, .int .i64 part, .int .i64 id] w fun e w' => e = .returned (.bool true) ∧ Below w.heap.size w w' := by
  have HT := Lib.hid (tables_any w v0 rows0 hn hr hm hl)
  generalize useR rows0 = rows at HT
  obtain ⟨a, c, rfl⟩ := hr.slice
  clear hn hr hm hl
  go_enter Try.func3, Try.ntmps3
  go_wp2_with fail
  refine HT.out.mono ?_
  rintro e w1 ⟨t, r, ow, rfl, hp, hb1⟩
  have ok := hp.t.ok
  have HP := Lib.hid hp
  have HX := Lib.hid hb1
  clear HT hp hb1
  have A1 := Lib.hid (fun W h => refSigns_all 2 ow W r rows id h)
  have A2 := Lib.hid (fun W h => refOccurs_all 2 ow W r rows id h part)
  have A3 := Lib.hid (fun W h => atoms_all 1 ow W t rows id h)
  have A4 := Lib.hid (fun W h => signs_all 1 ow W t rows id h)
  have A5 := Lib.hid (fun W h => occurs_any 1 ow W t rows h part id)
  have A6 := Lib.hid (fun W h => within_any 1 ow W t rows h part id)
  rw [within_occ ok] at A6
  have hbd := occT_bd rows part id
  have HLE := Lib.hid (sig_le rows ok id)
  generalize (occT rows part id).1 = p at *
  generalize (occT rows part id).2.1 = q at *
  generalize (occT rows part id).2.2 = g at *
  generalize sigA rows id = LA at *
  generalize sigP rows id = LP at *
  generalize sigM rows id = LM at *
  generalize sigE rows id = f at *
  unfold MC at hbd
  clear ok
  go_wp2_with fail
  refine (A1.out _ HP.out.r).mono ?_
  rintro e w2 ⟨v1, v2, v3, rfl, h2⟩
  have HS := Lib.hid h2
  have HP2 := Lib.hid (HP.out.below h2.bl)
  have HX2 := Lib.hid (HX.out.trans (h2.bl.mono HX.out.size))
  clear h2 A1 HX HP
  go_wp2_with fail
  refine (A2.out _ HP2.out.r).mono ?_
  rintro e w3 ⟨rfl, hb3⟩
  have HS3 := Lib.hid (HS.out.below hb3)
  have HP3 := Lib.hid (HP2.out.below hb3)
  have HX3 := Lib.hid (HX2.out.trans (hb3.mono HX2.out.size))
  clear hb3 A2 HX2 HP2 HS
  go_wp2_with fail
  go_loopw [16] (fun u W => ∃ j : Nat, j ≤ 2 ∧ u = .int .i64 (j : Int) ∧ Below w3.heap.size w3 W) (fun u _ => 2 - (intOf u).toNat)
  case atStart => exact ⟨0, by omega, rfl, Below.refl _ _⟩
  case round =>
    obtain ⟨j, hj, rfl, hb⟩ := hrel
    have HB := Lib.hid hb
    clear hb
    by_cases hlt : j < 2
    · have hj2 : (j : Int) < 2 := by omega
      go_wp2_with fail
      refine (A3.out _ (HP3.out.below HB.out).t).mono ?_
      rintro e w4 ⟨vx, rfl, hox, hb4⟩
      have HO4 := Lib.hid hox
      have HB4 := Lib.hid (below_trans HB.out hb4)
      have HQ4 := Lib.hid hb4
      clear hox hb4
      go_wp2_with fail
      refine (A4.out _ (HP3.out.below HB4.out).t).mono ?_
      rintro e w5 ⟨vy, vz, rfl, hoy, hoz, hne, hb5⟩
      have HQI : Hid (QI w3 w5 vx vy LA.length LP.length) := ⟨⟨_, own_base (own_below HO4.out hb5) HB.out.size⟩, ⟨_, own_base hoy HB4.out.size⟩, fun b h1 h2 => by have h3 := (HO4.out.lt b h1).2; have h4 := (hoy.lt b h2).1; omega, below_trans HB4.out hb5⟩
      have HB5 := Lib.hid (below_trans HB4.out hb5)
      have HRX := Lib.hid (rd_own (own_below HO4.out hb5))
      have HRY := Lib.hid (rd_own hoy)
      have HRZ := Lib.hid (rd_own hoz)
      obtain ⟨xa, xc, hvx⟩ := own_slice HO4.out
      obtain ⟨ya, yc, hvy⟩ := own_slice hoy
      obtain ⟨za, zc, hvz⟩ := own_slice hoz
      subst hvx hvy hvz
      have HC : Hid (Below w5.heap.size w5 w5) := Below.refl _ _
      clear hoy hoz hne hb5 HO4 HQ4
      go_wp2_with (first
        | (go_at_call 15; refine (num06_any _ _).mono ?_; rintro e w' ⟨rfl, rfl⟩)
        | (go_at_call 16; have _ := HN2.out; refine (names06_same _ _ _ LM.length LM.length LM (by have := HLE.out.2.2; omega) (by have := HLE.out.2.2; omega) (HRZ.out.below HC.out) (rd_own (own_below HS3.out.o3 (below_trans HB5.out HC.out)))).mono ?_; rintro e w8 ⟨rfl, hb8⟩; have HC := Lib.hid (below_trans HC.out hb8); clear hb8)
        | (go_at_call 16; have _ := HN1.out; refine (names06_same _ _ _ LP.length LP.length LP (by have := HLE.out.2.1; omega) (by have := HLE.out.2.1; omega) (HRY.out.below HC.out) (rd_own (own_below HS3.out.o2 (below_trans HB5.out HC.out)))).mono ?_; rintro e w7 ⟨rfl, hb7⟩; have HN2 := Lib.hid (Eq.refl true); have HC := Lib.hid (below_trans HC.out hb7); clear hb7)
        | (go_at_call 16; refine (names06_same _ _ _ LA.length LA.length LA (by have := HLE.out.1; omega) (by have := HLE.out.1; omega) (HRX.out.below HC.out) (rd_own (own_below HS3.out.o1 (below_trans HB5.out HC.out)))).mono ?_; rintro e w6 ⟨rfl, hb6⟩; have HN1 := Lib.hid (Eq.refl true); have HC := Lib.hid (below_trans HC.out hb6); clear hb6))
      have HQ8 := Lib.hid (HQI.out.below HC.out)
      have HLA : Hid (LA.length ≤ 1025) := HLE.out.1
      have HLP : Hid (LP.length ≤ 1025) := HLE.out.2.1
      clear HQI HB5 HRX HRY HRZ HC HB4 HB HN1 HN2
      go_loopw [22] (fun u W => ∃ k : Nat, k ≤ LA.length ∧ u = .int .i64 (k : Int) ∧ QI w3 W (.slice xa LA.length xc) (.slice ya LP.length yc) LA.length LP.length) (fun u _ => LA.length - (intOf u).toNat)
      case atStart => exact ⟨0, Nat.zero_le _, rfl, HQ8.out⟩
      case round =>
        obtain ⟨k, hk, rfl, hq⟩ := hrel
        have HQ := Lib.hid hq
        have hla := HLA.out
        by_cases hlk : k < LA.length
        · obtain ⟨gg, cap, u, he, hc, hf⟩ := hq.cell hlk
          cases he
          have hkl : (k : Int) < (LA.length : Int) := by omega
          clear hq
          go_wp2_with fail
          exact ⟨⟨k + 1, by omega, by go_num, HQ.out.set k _⟩, by simp [intOf]; omega⟩
        · obtain rfl : k = LA.length := by omega
          have HQS := Lib.hid HQ.out.swap
          clear hq HQ
          go_wp2_with fail
          go_loopw [23] (fun u W => ∃ k : Nat, k ≤ LP.length ∧ u = .int .i64 (k : Int) ∧ QI w3 W (.slice ya LP.length yc) (.slice xa LA.length xc) LP.length LA.length) (fun u _ => LP.length - (intOf u).toNat)
          case atStart => exact ⟨0, Nat.zero_le _, rfl, HQS.out⟩
          case round =>
            obtain ⟨k, hk, rfl, hq⟩ := hrel
            have HQ := Lib.hid hq
            have hlp := HLP.out
            by_cases hlk : k < LP.length
            · obtain ⟨gg, cap, u, he, hc, hf⟩ := hq.cell hlk
              cases he
              have hkl : (k : Int) < (LP.length : Int) := by omega
              clear hq
              go_wp2_with fail
              exact ⟨⟨k + 1, by omega, by go_num, HQ.out.set k _⟩, by simp [intOf]; omega⟩
            · obtain rfl : k = LP.length := by omega
              clear hq
              go_wp2_with fail
              exact ⟨⟨j + 1, by omega, by go_num, HQ.out.bl⟩, by simp [intOf]; omega⟩
    · obtain rfl : j = 2 := by omega
      have HB0 : Hid (Below w.heap.size w wr) := HX3.out.trans (HB.out.mono HX3.out.size)
      have HPW := Lib.hid (HP3.out.below HB.out)
      have HC : Hid (Below wr.heap.size wr wr) := Below.refl _ _
      clear HB
      rw [show ((2 : Nat) : Int) = 2 from rfl]
      go_wp2_with (first
        | (go_at_call 15; refine (num06_any _ _).mono ?_; rintro e w' ⟨rfl, rfl⟩)
        | (go_at_call 17; refine (A5.out _ (HPW.out.below HC.out).t).mono ?_; rintro e w6 ⟨rfl, hb6⟩; have HC := Lib.hid (below_trans HC.out hb6); clear hb6)
        | (go_at_call 18; refine (A6.out _ (HPW.out.below HC.out).t).mono ?_; rintro e w7 ⟨rfl, hb7⟩; have HC := Lib.hid (below_trans HC.out hb7); clear hb7)
        | (go_at_call 19; refine (heads06_any _).mono ?_; rintro e w8 ⟨rfl, hb8⟩; have HC := Lib.hid (below_trans HC.out hb8); clear hb8))
      go_ret
      exact ⟨rfl, HB0.out.trans (HC.out.mono HB0.out.size)⟩
end Go.Dk
