/- The document's Signs. Written by wip/gensigns.py. -/
import Derived.Test.YtfldpjacgeoegaaYxa
import Derived.Test.YtfldpjacgeoegaaSn
namespace Go.Dk
open Go.RowKit Go.Maps Go.MapKept Go.Sort
open Go.Proofs hiding intOf

/-- Three rows of names of the call's own. -/
structure Sg3 (w W : World) (v1 v2 v3 : Value) (l1 l2 l3 : List Nm) : Prop where
  o1 : W.ownsRow w.heap.size 9 1 v1 l1.length (strs l1)
  o2 : W.ownsRow w.heap.size 9 1 v2 l2.length (strs l2)
  o3 : W.ownsRow w.heap.size 9 1 v3 l3.length (strs l3)
  n12 : ∀ b, v1.ownBlock = some b → v2.ownBlock ≠ some b
  n23 : ∀ b, v2.ownBlock = some b → v3.ownBlock ≠ some b
  n31 : ∀ b, v3.ownBlock = some b → v1.ownBlock ≠ some b
  bl : Below w.heap.size w W
section
variable {w W W' : World} {v1 v2 v3 v' : Value} {l1 l2 l3 l' : List Nm}
theorem Sg3.rot (h : Sg3 w W v1 v2 v3 l1 l2 l3) : Sg3 w W v2 v3 v1 l2 l3 l1 := ⟨h.o2, h.o3, h.o1, h.n23, h.n31, h.n12, h.bl⟩
theorem Sg3.below (h : Sg3 w W v1 v2 v3 l1 l2 l3) (hb : Below W.heap.size W W') : Sg3 w W' v1 v2 v3 l1 l2 l3 := ⟨own_below h.o1 hb, own_below h.o2 hb, own_below h.o3 hb, h.n12, h.n23, h.n31, below_trans h.bl hb⟩
theorem Sg3.put1 (h : Sg3 w W v1 v2 v3 l1 l2 l3) (hp : PutS W W' w.heap.size v1 v' (l1.length + 1) l') (hl : l'.length = l1.length + 1) : Sg3 w W' v' v2 v3 l' l2 l3 := by
  have k2 : v2.ownBlock = none ∨ v2.ownBlock ≠ v1.ownBlock := by
    cases hv : v1.ownBlock with
    | none => cases v2.ownBlock <;> simp
    | some b => exact .inr (h.n12 b hv)
  have k3 : v3.ownBlock = none ∨ v3.ownBlock ≠ v1.ownBlock := by
    cases hv : v3.ownBlock with
    | none => exact .inl rfl
    | some b => exact .inr (Ne.symm (h.n31 b hv))
  refine ⟨hl ▸ hp.own, h.o2.kept hp.gr k2, h.o3.kept hp.gr k3, fun b hb e => ?_, h.n23, fun b hb e => ?_, h.bl.grown hp.gr h.bl.size (fun q hq => (h.o1.lt q hq).1)⟩
  · rcases hp.at_ b hb with h1 | h1
    · exact h.n12 b h1 e
    · have := (h.o2.lt b e).2; omega
  · rcases hp.at_ b e with h1 | h1
    · exact h.n31 b hb h1
    · have := (h.o3.lt b hb).2; omega
theorem Sg3.put2 (h : Sg3 w W v1 v2 v3 l1 l2 l3) (hp : PutS W W' w.heap.size v2 v' (l2.length + 1) l') (hl : l'.length = l2.length + 1) : Sg3 w W' v1 v' v3 l1 l' l3 := (h.rot.put1 hp hl).rot.rot
theorem Sg3.put3 (h : Sg3 w W v1 v2 v3 l1 l2 l3) (hp : PutS W W' w.heap.size v3 v' (l3.length + 1) l') (hl : l'.length = l3.length + 1) : Sg3 w W' v1 v2 v' l1 l2 l' := (h.rot.rot.put1 hp hl).rot
end

/-- The names that have come. -/
def somN (rows : List ND) (p : Nat → Bool) (j : Nat) : List Nm := sortNm (nameL rows p (List.range j))
theorem somN_skip {rows : List ND} {p : Nat → Bool} {j : Nat} (h : ¬ ((rowAt rows j).kind = 1 ∧ p j = true)) : somN rows p (j + 1) = somN rows p j := by
  unfold somN; rw [List.range_succ, nameL_snoc, if_neg h]
theorem somN_put {rows : List ND} {p : Nat → Bool} {j : Nat} {s : ByteArray} (h1 : (rowAt rows j).kind = 1) (h2 : (rowAt rows j).name = s) (h3 : p j = true) : somN rows p (j + 1) = insN s.toList (somN rows p j) := by
  unfold somN; rw [List.range_succ, nameL_snoc, if_pos ⟨h1, h3⟩, insN_sort, h2, ByteArray.toList_eq]
theorem somN_le (rows : List ND) (p : Nat → Bool) (j : Nat) : (somN rows p j).length ≤ j := by
  have h : (somN rows p j).length = (nameL rows p (List.range j)).length := List.length_mergeSort _
  have := nameL_le rows p (List.range j)
  rw [h]; simpa using this
theorem somN_sorted (rows : List ND) (p : Nat → Bool) (j : Nat) : (somN rows p j).Pairwise (fun x y => x ≤ y) := sortNm_pairwise _
theorem insN_length (s : Nm) (l : List Nm) : (insN s l).length = l.length + 1 := by have := (insN_perm s l).length_eq; simpa using this
theorem nameL_filter {rows : List ND} {p q : Nat → Bool} {l l' : List Nat} (h : (l.filter fun x => decide ((rowAt rows x).kind = 1) && p x) = (l'.filter fun x => decide ((rowAt rows x).kind = 1) && q x)) : nameL rows p l = nameL rows q l' := by
  unfold nameL; rw [h]
theorem range_below {rows : List ND} (ok : Ok rows) {i : Nat} (hi : i < rows.length) {p q : Nat → Bool} (h1 : ∀ x, p x = true → Reach rows i x) (h2 : ∀ x, Reach rows i x → p x = q x) :
    ((List.range (i + 1)).filter fun x => decide ((rowAt rows x).kind = 1) && p x) = ((below rows i).filter fun x => decide ((rowAt rows x).kind = 1) && q x) := by
  unfold below
  rw [List.filter_filter]
  refine List.filter_congr fun x _ => ?_
  by_cases hr : Reach rows i x
  · simp [hr, h2 x hr]
  · have : p x = false := by
      cases hp : p x with
      | false => rfl
      | true => exact absurd (h1 x hp) hr
    simp [hr, this]
noncomputable def pA (rows : List ND) (i : Nat) : Nat → Bool := fun x => decide (0 < (occs rows i x).1 + (occs rows i x).2)
noncomputable def pP (rows : List ND) (i : Nat) : Nat → Bool := fun x => decide (0 < (occs rows i x).1)
noncomputable def pN (rows : List ND) (i : Nat) : Nat → Bool := fun x => decide (0 < (occs rows i x).2)
theorem somA_end {rows : List ND} (ok : Ok rows) {i : Nat} (hi : i < rows.length) : somN rows (pA rows i) (i + 1) = atomsOf rows i :=
  congrArg sortNm (nameL_filter (range_below ok hi (q := fun _ => true) (fun x hx => (occs_iff ok hi).1 (by simpa [pA] using hx)) (fun x hx => by simpa [pA] using (occs_iff ok hi).2 hx)))
theorem somP_end {rows : List ND} (ok : Ok rows) {i : Nat} (hi : i < rows.length) : somN rows (pP rows i) (i + 1) = posOf rows i :=
  congrArg sortNm (nameL_filter (range_below ok hi (q := fun x => decide (0 < (occs rows i x).1)) (fun x hx => (occs_iff ok hi).1 (by have := occs_in rows i x; simp [pP] at hx; omega)) (fun x _ => rfl)))
theorem somM_end {rows : List ND} (ok : Ok rows) {i : Nat} (hi : i < rows.length) : somN rows (pN rows i) (i + 1) = negOf rows i :=
  congrArg sortNm (nameL_filter (range_below ok hi (q := fun x => decide (0 < (occs rows i x).2)) (fun x hx => (occs_iff ok hi).1 (by have := occs_in rows i x; simp [pN] at hx; omega)) (fun x _ => rfl)))
theorem somN_zero (rows : List ND) (p : Nat → Bool) : somN rows p 0 = [] := by simp [somN, nameL, sortNm]

def RSignsPost (w : World) (l1 l2 l3 : List Nm) (e : Ending) (w' : World) : Prop := ∃ v1 v2 v3, e = .returned (.tuple #[v1, v2, v3, .int .i64 0]) ∧ Sg3 w w' v1 v2 v3 l1 l2 l3

set_option maxRecDepth 100000 in
theorem refSigns_no (k : Nat) (ow : Own) (w : World) (t : Value) (rows : List ND) (h : RTab k ow w t rows) (i : Int) (hb : hasB rows.length i = false) :
    Calls Try.prog 11 #[t, .int .i64 i] w fun e w' => e = .returned (.tuple #[.slice none 0 0, .slice none 0 0, .slice none 0 0, .int .i64 31]) ∧ w = w' := by
  have H1 := Lib.hid (refHas_any k ow w t rows h i)
  rw [hb] at H1
  clear h hb
  go_enter Try.func11, Try.ntmps11
  go_wp2_with (go_at_call 23; refine H1.out.mono ?_; rintro e w' ⟨rfl, rfl⟩)
  refine bodyPost_ret (v := .tuple #[.slice none 0 0, .slice none 0 0, .slice none 0 0, .int .i64 31]) (by simp [results, Try.results11, go_sem]) rfl ⟨rfl, rfl⟩

set_option maxRecDepth 100000 in
set_option maxHeartbeats 4000000 in
theorem refSigns_yes (k : Nat) (ow : Own) (w : World) (t : Value) (rows : List ND) (h : RTab k ow w t rows) (i : Nat) (hi : i < rows.length) :
    Calls Try.prog 11 #[t, .int .i64 (i : Int)] w (RSignsPost w (atomsOf rows i) (posOf rows i) (negOf rows i)) := by
  have H1 := Lib.hid (refHas_any k ow w t rows h i)
  have hb2 : hasB rows.length (i : Int) = true := by simp [hasB, hi]
  rw [hb2] at H1
  clear hb2
  have HR := Lib.hid h
  have hok := h.ok
  have hle := hok.le
  obtain ⟨rb, v, rfl, ht⟩ := h
  obtain ⟨g, c, rfl, hg, _⟩ := ht.hr.get (by omega)
  have HT := Lib.hid ht; have HK := Lib.hid hok
  clear ht hok
  go_enter Try.func11, Try.ntmps11
  go_wp2_with (go_at_call 23; refine H1.out.mono ?_; rintro e w' ⟨rfl, rfl⟩)
  go_loopw [8, 9, 10, 11] (fun v1 v2 v3 u W => ∃ j : Nat, j ≤ i + 1 ∧ u = .int .i64 (j : Int) ∧ Sg3 w W v1 v2 v3 (somN rows (pA rows i) j) (somN rows (pP rows i) j) (somN rows (pN rows i) j)) (fun _ _ _ u _ => i + 1 - (intOf u).toNat)
  case atStart =>
    refine ⟨0, Nat.zero_le _, rfl, ?_⟩
    rw [somN_zero, somN_zero, somN_zero]
    exact ⟨World.ownsRow_nil _ _ _ _, World.ownsRow_nil _ _ _ _, World.ownsRow_nil _ _ _ _, fun b hb => by simp [Value.ownBlock] at hb, fun b hb => by simp [Value.ownBlock] at hb, fun b hb => by simp [Value.ownBlock] at hb, Below.refl _ _⟩
  case round =>
    obtain ⟨j, hj, rfl, hI⟩ := hrel
    have HJ := Lib.hid hI
    obtain ⟨a1, c1, hv1⟩ := own_slice hI.o1
    obtain ⟨a2, c2, hv2⟩ := own_slice hI.o2
    obtain ⟨a3, c3, hv3⟩ := own_slice hI.o3
    subst hv1 hv2 hv3
    have b1 := somN_le rows (pA rows i) j
    have b2 := somN_le rows (pP rows i) j
    have b3 := somN_le rows (pN rows i) j
    have HB1 := Lib.hid b1; have HB2 := Lib.hid b2; have HB3 := Lib.hid b3
    clear hI b1 b2 b3
    by_cases hlt : j ≤ i
    · have hjl : j < rows.length := by omega
      have hji : (j : Int) ≤ (i : Int) := by omega
      obtain ⟨n, hn⟩ : ∃ n, rows[j]? = some n := ⟨_, List.getElem?_eq_getElem hjl⟩
      have hra := rowAt_of hn
      have HRW : Hid (RRow w rb g c rows.length j n) := by
        obtain ⟨g', c', e, h⟩ := HT.out.row hn
        cases e; exact h
      have hjn : (j : Int) < (rows.length : Int) := by omega
      have HJ8 : Hid (j ≤ 1024) := by unfold Hid; omega
      obtain ⟨r0, r1, r2, r3, r4⟩ := HRW.out.below HJ.out.bl
      obtain ⟨kd, nm, l, r⟩ := n
      simp only at r1 r2
      have HRA := Lib.hid hra
      clear hn hra r3 r4
      by_cases hk : kd = 1
      · subst hk
        have HOC := Lib.hid (refOccurs_yes k ow wr _ rows (HR.out.below HJ.out.bl) j i hjl hi)
        have hin := occs_in rows i j
        have EA : Hid (pA rows i j = decide (0 < (occs rows i j).1 + (occs rows i j).2)) := rfl
        have EP : Hid (pP rows i j = decide (0 < (occs rows i j).1)) := rfl
        have EN : Hid (pN rows i j = decide (0 < (occs rows i j).2)) := rfl
        have hin0 := hin
        unfold MC at hin
        generalize (occs rows i j).1 = p at *
        generalize (occs rows i j).2 = q at *
        clear hin0
        go_wp2_with fail
        refine HOC.out.mono ?_
        rintro e w5 ⟨rfl, hb5⟩
        have HS := Lib.hid (HJ.out.below hb5)
        obtain ⟨r0, r1, r2, _, _⟩ := HRW.out.below HS.out.bl
        simp only at r1 r2
        clear HJ HOC hb5
        by_cases hp : 0 < p
        · have gp : decide (0 < p) = true := by simpa using hp
          have gs : decide (0 < p + q) = true := by simp; omega
          by_cases hq : 0 < q
          · have gq : decide (0 < q) = true := by simpa using hq
            have E1 : Hid (somN rows (pA rows i) (j + 1) = insN nm.toList (somN rows (pA rows i) j)) := somN_put (by rw [HRA.out]) (by rw [HRA.out]) (by rw [EA.out]; exact gs)
            have E2 : Hid (somN rows (pP rows i) (j + 1) = insN nm.toList (somN rows (pP rows i) j)) := somN_put (by rw [HRA.out]) (by rw [HRA.out]) (by rw [EP.out]; exact gp)
            have E3 : Hid (somN rows (pN rows i) (j + 1) = insN nm.toList (somN rows (pN rows i) j)) := somN_put (by rw [HRA.out]) (by rw [HRA.out]) (by rw [EN.out]; exact gq)
            clear hp hq
            go_wp2_with fail
            refine (put06_own _ w.heap.size _ _ _ nm HS.out.bl.size (by have := HB1.out; have := HJ8.out; omega) (somN_sorted rows (pA rows i) j) HS.out.o1).mono ?_
            rintro e w6 ⟨v6, rfl, hp6⟩
            have HS6 := Lib.hid (HS.out.put1 hp6 (insN_length _ _))
            obtain ⟨a6, c6, hv6⟩ := own_slice HS6.out.o1
            subst hv6
            obtain ⟨r0, r1, r2, _, _⟩ := HRW.out.below HS6.out.bl
            simp only at r1 r2
            clear hp6 HS
            go_wp2_with fail
            refine (put06_own _ w.heap.size _ _ _ nm HS6.out.bl.size (by have := HB2.out; have := HJ8.out; omega) (somN_sorted rows (pP rows i) j) HS6.out.o2).mono ?_
            rintro e w7 ⟨v7, rfl, hp7⟩
            have HS7 := Lib.hid (HS6.out.put2 hp7 (insN_length _ _))
            obtain ⟨a7, c7, hv7⟩ := own_slice HS7.out.o2
            subst hv7
            obtain ⟨r0, r1, r2, _, _⟩ := HRW.out.below HS7.out.bl
            simp only at r1 r2
            clear hp7 HS6
            go_wp2_with fail
            refine (put06_own _ w.heap.size _ _ _ nm HS7.out.bl.size (by have := HB3.out; have := HJ8.out; omega) (somN_sorted rows (pN rows i) j) HS7.out.o3).mono ?_
            rintro e w8 ⟨v8, rfl, hp8⟩
            have HS8 := Lib.hid (HS7.out.put3 hp8 (insN_length _ _))
            obtain ⟨a8, c8, hv8⟩ := own_slice HS8.out.o3
            subst hv8
            obtain ⟨r0, r1, r2, _, _⟩ := HRW.out.below HS8.out.bl
            simp only at r1 r2
            clear hp8 HS7
            go_wp2_with fail
            exact ⟨⟨j + 1, by omega, by go_num, by rw [E1.out, E2.out, E3.out]; exact HS8.out⟩, by simp [intOf]; omega⟩
          · have gq : decide (0 < q) = false := by simpa using hq
            have E1 : Hid (somN rows (pA rows i) (j + 1) = insN nm.toList (somN rows (pA rows i) j)) := somN_put (by rw [HRA.out]) (by rw [HRA.out]) (by rw [EA.out]; exact gs)
            have E2 : Hid (somN rows (pP rows i) (j + 1) = insN nm.toList (somN rows (pP rows i) j)) := somN_put (by rw [HRA.out]) (by rw [HRA.out]) (by rw [EP.out]; exact gp)
            have E3 : Hid (somN rows (pN rows i) (j + 1) = somN rows (pN rows i) j) := somN_skip (by rw [EN.out]; intro h; rw [gq] at h; cases h.2)
            clear hp hq
            go_wp2_with fail
            refine (put06_own _ w.heap.size _ _ _ nm HS.out.bl.size (by have := HB1.out; have := HJ8.out; omega) (somN_sorted rows (pA rows i) j) HS.out.o1).mono ?_
            rintro e w6 ⟨v6, rfl, hp6⟩
            have HS6 := Lib.hid (HS.out.put1 hp6 (insN_length _ _))
            obtain ⟨a6, c6, hv6⟩ := own_slice HS6.out.o1
            subst hv6
            obtain ⟨r0, r1, r2, _, _⟩ := HRW.out.below HS6.out.bl
            simp only at r1 r2
            clear hp6 HS
            go_wp2_with fail
            refine (put06_own _ w.heap.size _ _ _ nm HS6.out.bl.size (by have := HB2.out; have := HJ8.out; omega) (somN_sorted rows (pP rows i) j) HS6.out.o2).mono ?_
            rintro e w7 ⟨v7, rfl, hp7⟩
            have HS7 := Lib.hid (HS6.out.put2 hp7 (insN_length _ _))
            obtain ⟨a7, c7, hv7⟩ := own_slice HS7.out.o2
            subst hv7
            obtain ⟨r0, r1, r2, _, _⟩ := HRW.out.below HS7.out.bl
            simp only at r1 r2
            clear hp7 HS6
            go_wp2_with fail
            exact ⟨⟨j + 1, by omega, by go_num, by rw [E1.out, E2.out, E3.out]; exact HS7.out⟩, by simp [intOf]; omega⟩
        · have gp : decide (0 < p) = false := by simpa using hp
          by_cases hq : 0 < q
          · have gq : decide (0 < q) = true := by simpa using hq
            have gs : decide (0 < p + q) = true := by simp; omega
            have E1 : Hid (somN rows (pA rows i) (j + 1) = insN nm.toList (somN rows (pA rows i) j)) := somN_put (by rw [HRA.out]) (by rw [HRA.out]) (by rw [EA.out]; exact gs)
            have E2 : Hid (somN rows (pP rows i) (j + 1) = somN rows (pP rows i) j) := somN_skip (by rw [EP.out]; intro h; rw [gp] at h; cases h.2)
            have E3 : Hid (somN rows (pN rows i) (j + 1) = insN nm.toList (somN rows (pN rows i) j)) := somN_put (by rw [HRA.out]) (by rw [HRA.out]) (by rw [EN.out]; exact gq)
            clear hp hq
            go_wp2_with fail
            refine (put06_own _ w.heap.size _ _ _ nm HS.out.bl.size (by have := HB1.out; have := HJ8.out; omega) (somN_sorted rows (pA rows i) j) HS.out.o1).mono ?_
            rintro e w6 ⟨v6, rfl, hp6⟩
            have HS6 := Lib.hid (HS.out.put1 hp6 (insN_length _ _))
            obtain ⟨a6, c6, hv6⟩ := own_slice HS6.out.o1
            subst hv6
            obtain ⟨r0, r1, r2, _, _⟩ := HRW.out.below HS6.out.bl
            simp only at r1 r2
            clear hp6 HS
            go_wp2_with fail
            refine (put06_own _ w.heap.size _ _ _ nm HS6.out.bl.size (by have := HB3.out; have := HJ8.out; omega) (somN_sorted rows (pN rows i) j) HS6.out.o3).mono ?_
            rintro e w7 ⟨v7, rfl, hp7⟩
            have HS7 := Lib.hid (HS6.out.put3 hp7 (insN_length _ _))
            obtain ⟨a7, c7, hv7⟩ := own_slice HS7.out.o3
            subst hv7
            obtain ⟨r0, r1, r2, _, _⟩ := HRW.out.below HS7.out.bl
            simp only at r1 r2
            clear hp7 HS6
            go_wp2_with fail
            exact ⟨⟨j + 1, by omega, by go_num, by rw [E1.out, E2.out, E3.out]; exact HS7.out⟩, by simp [intOf]; omega⟩
          · have gq : decide (0 < q) = false := by simpa using hq
            have gs : decide (0 < p + q) = false := by simp; omega
            have E1 : Hid (somN rows (pA rows i) (j + 1) = somN rows (pA rows i) j) := somN_skip (by rw [EA.out]; intro h; rw [gs] at h; cases h.2)
            have E2 : Hid (somN rows (pP rows i) (j + 1) = somN rows (pP rows i) j) := somN_skip (by rw [EP.out]; intro h; rw [gp] at h; cases h.2)
            have E3 : Hid (somN rows (pN rows i) (j + 1) = somN rows (pN rows i) j) := somN_skip (by rw [EN.out]; intro h; rw [gq] at h; cases h.2)
            clear hp hq
            go_wp2_with fail
            exact ⟨⟨j + 1, by omega, by go_num, by rw [E1.out, E2.out, E3.out]; exact HS.out⟩, by simp [intOf]; omega⟩
      · have hkb : (kd != 1) = true := by simpa using hk
        have E1 : Hid (somN rows (pA rows i) (j + 1) = somN rows (pA rows i) j) := somN_skip (by rw [HRA.out]; exact fun h => hk h.1)
        have E2 : Hid (somN rows (pP rows i) (j + 1) = somN rows (pP rows i) j) := somN_skip (by rw [HRA.out]; exact fun h => hk h.1)
        have E3 : Hid (somN rows (pN rows i) (j + 1) = somN rows (pN rows i) j) := somN_skip (by rw [HRA.out]; exact fun h => hk h.1)
        clear hk
        go_wp2_with fail
        exact ⟨⟨j + 1, by omega, by go_num, by rw [E1.out, E2.out, E3.out]; exact HJ.out⟩, by simp [intOf]; omega⟩
    · obtain rfl : j = i + 1 := by omega
      have hji : ¬ (((i + 1 : Nat) : Int) ≤ (i : Int)) := by omega
      go_wp2_with fail
      refine bodyPost_ret (v := .tuple #[.slice a1 (somN rows (pA rows i) (i + 1)).length c1, .slice a2 (somN rows (pP rows i) (i + 1)).length c2, .slice a3 (somN rows (pN rows i) (i + 1)).length c3, .int .i64 0]) (by simp [results, Try.results11, go_sem]) rfl ?_
      refine ⟨_, _, _, rfl, ?_⟩
      rw [← somA_end HK.out hi, ← somP_end HK.out hi, ← somM_end HK.out hi]
      exact HJ.out
end Go.Dk
