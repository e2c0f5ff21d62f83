/- Names: sorted; Atoms of a living table. -/
import Derived.Test.YtfldpjacgeoegaaYl
import Derived.Sort.OwnSorted
namespace Go.Dk
open Go.RowKit Go.Maps Go.MapKept Go.Sort
open Go.Proofs hiding intOf

abbrev Nm := List UInt8
def strs (ns : List Nm) : List Value := ns.map encStr
theorem strs_snoc (ns : List Nm) (s : ByteArray) : strs (ns ++ [s.data.toList]) = strs ns ++ [.string s] := by
  simp [strs, encStr]
def sortNm (ns : List Nm) : List Nm := ns.mergeSort fun x y => decide (x ≤ y)

theorem sortStrs_own (w : World) (base n : Nat) (v : Value) (ns : List Nm) (h : w.ownsRow base 9 1 v n (strs ns)) (hl : n < 4611686018427387904) :
    Calls Try.prog 47 #[v] w fun e w' => e = .returned (.tuple #[]) ∧ w'.ownsRow base 9 1 v n (strs (sortNm ns)) ∧ w.grownBy w' v.ownBlock := by
  have hn : ns.length = n := by have := h.1; simpa [strs] using this
  rcases h.2 with ⟨rfl, h0⟩ | ⟨g, cap, cur, rfl, hbg, hg, h1, h2, h3, h4⟩
  · subst h0
    have : ns = [] := List.eq_nil_of_length_eq_zero hn
    subst this
    refine (Try.slices_Sort_string_none none 0 w).mono ?_
    rintro e w' ⟨rfl, rfl⟩
    exact ⟨rfl, by simpa [sortNm] using h, ⟨rfl, rfl, rfl, Nat.le_refl _, fun _ _ _ => rfl⟩⟩
  · subst hn
    refine (Try.slices_Sort_string g 0 cap ns w (holds_of_block hg (by simpa [strs] using h4)) (lt_of_block hg) hl).mono ?_
    rintro e w' ⟨rfl, m, os, rfl⟩
    refine ⟨rfl, ?_, grownBy_sorted _⟩
    exact ownsRow_sorted (List.length_mergeSort _) hbg hg h1 h2 h3

/-- The names of some rows' atoms. -/
def nameL (rows : List ND) (p : Nat → Bool) (l : List Nat) : List Nm := (l.filter fun x => decide ((rowAt rows x).kind = 1) && p x).map fun x => (rowAt rows x).name.data.toList
theorem nameL_take (rows : List ND) (p : Nat → Bool) (l : List Nat) {k x : Nat} (hx : l[k]? = some x) : nameL rows p (l.take (k + 1)) = if (rowAt rows x).kind = 1 ∧ p x = true then nameL rows p (l.take k) ++ [(rowAt rows x).name.data.toList] else nameL rows p (l.take k) := by
  unfold nameL
  rw [List.take_add_one, hx]
  by_cases h1 : (rowAt rows x).kind = 1
  · by_cases h2 : p x = true
    · simp [h1, h2]
    · simp [h1, h2]
  · simp [h1]
theorem nameL_le (rows : List ND) (p : Nat → Bool) (l : List Nat) : (nameL rows p l).length ≤ l.length := by unfold nameL; simp only [List.length_map]; exact List.length_filter_le _ _
theorem nameL_perm {rows : List ND} {p : Nat → Bool} {l l' : List Nat} (h : (l.filter fun x => decide ((rowAt rows x).kind = 1) && p x).Perm (l'.filter fun x => decide ((rowAt rows x).kind = 1) && p x)) : sortNm (nameL rows p l) = sortNm (nameL rows p l') := by
  have hp : (nameL rows p l).Perm (nameL rows p l') := h.map _
  unfold sortNm
  refine List.Perm.eq_of_pairwise (le := fun x y : Nm => x ≤ y) (fun a b _ _ h1 h2 => List.le_antisymm h1 h2) ?_ ?_ ((List.mergeSort_perm _ _).trans (hp.trans (List.mergeSort_perm _ _).symm))
  · exact (List.pairwise_mergeSort (le := fun x y : Nm => decide (x ≤ y)) (fun a b c h1 h2 => by simp at *; exact List.le_trans h1 h2) (fun a b => by simp; exact List.le_total a b) _).imp (fun h => by simpa using h)
  · exact (List.pairwise_mergeSort (le := fun x y : Nm => decide (x ≤ y)) (fun a b c h1 h2 => by simp at *; exact List.le_trans h1 h2) (fun a b => by simp; exact List.le_total a b) _).imp (fun h => by simpa using h)

theorem infoStr : (Try.prog.info? 9).map (fun i => (i.zero, i.size, i.bytes)) = some (some (.string ByteArray.empty), 1, 16) := by kernel_rfl

/-- What Atoms tells. -/
noncomputable def atomsOf (rows : List ND) (i : Nat) : List Nm := sortNm (nameL rows (fun _ => true) (below rows i))

structure AtI (rows : List ND) (i : Nat) (w2 W : World) (base : Nat) (v : Value) (k : Nat) : Prop where
  own : W.ownsRow base 9 1 v (nameL rows (fun _ => true) ((below rows i).take k)).length (strs (nameL rows (fun _ => true) ((below rows i).take k)))
  bel : Below w2.heap.size w2 W

theorem AtI.skip {rows : List ND} {i : Nat} {w2 W W' : World} {v : Value} {k : Nat} (h : AtI rows i w2 W w2.heap.size v k) (hb : Below W.heap.size W W') (he : nameL rows (fun _ => true) ((below rows i).take (k + 1)) = nameL rows (fun _ => true) ((below rows i).take k)) : AtI rows i w2 W' w2.heap.size v (k + 1) := by
  refine ⟨?_, h.bel.trans (hb.mono h.bel.size)⟩
  rw [he]
  exact h.own.kept (row := none) ⟨hb.os, hb.tape, hb.output, hb.size, fun j hj _ => hb.block j hj⟩ (by cases v.ownBlock <;> simp)
theorem AtI.add {rows : List ND} {i : Nat} {w2 W W0 W' : World} {v v' : Value} {k : Nat} {nm : ByteArray} (h : AtI rows i w2 W w2.heap.size v k) (hb : Below W.heap.size W W0) (he : nameL rows (fun _ => true) ((below rows i).take (k + 1)) = nameL rows (fun _ => true) ((below rows i).take k) ++ [nm.data.toList])
    (hown : W'.ownsRow w2.heap.size 9 1 v' ((nameL rows (fun _ => true) ((below rows i).take k)).length + 1) (strs (nameL rows (fun _ => true) ((below rows i).take k)) ++ [.string nm])) (hg : W0.grownBy W' v.ownBlock) : AtI rows i w2 W' w2.heap.size v' (k + 1) := by
  refine ⟨?_, (h.bel.trans (hb.mono h.bel.size)).grown hg (Nat.le_trans h.bel.size hb.size) (fun q hq => (h.own.lt q hq).1)⟩
  rw [he, strs_snoc, List.length_append]
  exact hown
theorem own_below {w w' : World} {base n : Nat} {e : TypeId} {size : Nat} {v : Value} {xs : List Value} (h : w.ownsRow base e size v n xs) (hb : Below w.heap.size w w') : w'.ownsRow base e size v n xs :=
  h.kept (row := none) ⟨hb.os, hb.tape, hb.output, hb.size, fun j hj _ => hb.block j hj⟩ (by cases v.ownBlock <;> simp)

theorem own_base {w : World} {base base' n : Nat} {e : TypeId} {size : Nat} {v : Value} {xs : List Value} (h : w.ownsRow base e size v n xs) (hb : base' ≤ base) : w.ownsRow base' e size v n xs :=
  ⟨h.1, h.2.imp id (fun ⟨g, cap, cur, h1, h2, h3⟩ => ⟨g, cap, cur, h1, Nat.le_trans hb h2, h3⟩)⟩
theorem rd_one' (w : World) {b : Nat} (x : Value) (e : TypeId) (hb : b = w.heap.size) : Rd (w.alloc (.cells #[x] e)) (.slice (some ⟨b, 0, none⟩) 1 1) 1 1 [x] := hb ▸ rd_one w x e

def StrsPost (w : World) (ns : List Nm) (e : Ending) (w' : World) : Prop := ∃ v, e = .returned (.tuple #[v, .int .i64 0]) ∧ w'.ownsRow w.heap.size 9 1 v ns.length (strs ns) ∧ Below w.heap.size w w'

set_option maxRecDepth 100000 in
theorem atoms_no (k : Nat) (ow : Own) (w : World) (t : Value) (rows : List ND) (h : Tab k ow w t rows) (i : Int) (hb : hasB rows.length i = false) :
    Calls Try.prog 13 #[t, .int .i64 i] w fun e w' => e = .returned (.tuple #[.slice none 0 0, .int .i64 31]) ∧ Below w.heap.size w w' := by
  have H := Lib.hid h
  clear h
  go_enter Try.func13, Try.ntmps13
  go_wp2_with (go_at_call 45; refine (row_no k ow _ _ _ (H.out.below (by repeat (with_reducible first | exact Below.refl _ _ | exact HB.out | refine below_trans ?_ (below_alloc _ _) | refine below_trans ?_ (below_drew1 _) | refine below_trans ?_ (below_drewN _ _) | refine below_sc ?_ (by first | exact Nat.le_refl _ | (simp; done) | (simp; omega))))) _ hb).mono ?_; rintro e w1 ⟨rfl, hb1⟩; have HB := Lib.hid (below_trans (w := w) (by repeat (with_reducible first | exact Below.refl _ _ | exact HB.out | refine below_trans ?_ (below_alloc _ _) | refine below_trans ?_ (below_drew1 _) | refine below_trans ?_ (below_drewN _ _) | refine below_sc ?_ (by first | exact Nat.le_refl _ | (simp; done) | (simp; omega)))) hb1); clear hb1)
  go_ret2
  exact ⟨rfl, (by repeat (with_reducible first | exact Below.refl _ _ | exact HB.out | refine below_trans ?_ (below_alloc _ _) | refine below_trans ?_ (below_drew1 _) | refine below_trans ?_ (below_drewN _ _) | refine below_sc ?_ (by first | exact Nat.le_refl _ | (simp; done) | (simp; omega))))⟩

set_option maxRecDepth 100000 in
set_option maxHeartbeats 800000 in
theorem atoms_yes (k : Nat) (ow : Own) (w : World) (t : Value) (rows : List ND) (h : Tab k ow w t rows) (i : Nat) (hi : i < rows.length) :
    Calls Try.prog 13 #[t, .int .i64 (i : Int)] w (StrsPost w (atomsOf rows i)) := by
  have hok := h.ok
  have hle := hok.le
  have H := Lib.hid h
  have HR := Lib.hid (rowAt_get hi)
  clear h
  go_enter Try.func13, Try.ntmps13
  go_wp2_with (first
    | (go_at_call 45; refine (row_yes k ow _ _ _ (H.out.below (by repeat (with_reducible first | exact Below.refl _ _ | exact HB.out | refine below_trans ?_ (below_alloc _ _) | refine below_trans ?_ (below_drew1 _) | refine below_trans ?_ (below_drewN _ _) | refine below_sc ?_ (by first | exact Nat.le_refl _ | (simp; done) | (simp; omega))))) i _ HR.out).mono ?_; rintro e w1 ⟨rfl, hb1⟩; have HB := Lib.hid (below_trans (w := w) (by repeat (with_reducible first | exact Below.refl _ _ | exact HB.out | refine below_trans ?_ (below_alloc _ _) | refine below_trans ?_ (below_drew1 _) | refine below_trans ?_ (below_drewN _ _) | refine below_sc ?_ (by first | exact Nat.le_refl _ | (simp; done) | (simp; omega)))) hb1); clear hb1)
    | (go_at_call 46; refine (below_yes k ow _ _ _ (H.out.below (by repeat (with_reducible first | exact Below.refl _ _ | exact HB.out | refine below_trans ?_ (below_alloc _ _) | refine below_trans ?_ (below_drew1 _) | refine below_trans ?_ (below_drewN _ _) | refine below_sc ?_ (by first | exact Nat.le_refl _ | (simp; done) | (simp; omega))))) i hi).mono ?_; rintro e w2 ⟨v2, rfl, hown2, hb2⟩; obtain ⟨a2, c2, hv2⟩ := own_slice hown2; subst hv2; have HO2 := Lib.hid hown2; have HB := Lib.hid (below_trans (w := w) (by repeat (with_reducible first | exact Below.refl _ _ | exact HB.out | refine below_trans ?_ (below_alloc _ _) | refine below_trans ?_ (below_drew1 _) | refine below_trans ?_ (below_drewN _ _) | refine below_sc ?_ (by first | exact Nat.le_refl _ | (simp; done) | (simp; omega)))) hb2); clear hown2 hb2))
  have hlb := below_le rows i
  have HI : Hid (AtI rows i w2 w2 w2.heap.size (.slice none 0 0) 0) := ⟨World.ownsRow_nil _ _ _ _, Below.refl _ _⟩
  go_loopw [8, 32] (fun u j W => ∃ k : Nat, k ≤ (below rows i).length ∧ j = .int .i64 k ∧ AtI rows i w2 W w2.heap.size u k) (fun _ j _ => (below rows i).length - (intOf j).toNat)
  case atStart => exact ⟨0, Nat.zero_le _, rfl, HI.out⟩
  case round =>
    obtain ⟨j, hj, rfl, hI⟩ := hrel
    have HJ := Lib.hid hI
    have hnl := nameL_le rows (fun _ => true) ((below rows i).take j)
    have htl : ((below rows i).take j).length ≤ j := List.length_take_le _ _
    by_cases hlt : j < (below rows i).length
    · obtain ⟨b, o, c1, x', he, hc1, hxk'⟩ := ints_at ((rd_own HO2.out).below hI.bel) hlt
      cases he
      obtain ⟨x, hx⟩ : ∃ x, (below rows i)[j]? = some x := ⟨_, List.getElem?_eq_getElem hlt⟩
      obtain rfl : x' = (x : Int) := by
        have : (natInts (below rows i))[j]? = some (x : Int) := by simp [natInts, hx]
        rw [this] at hxk'; exact (Option.some.inj hxk').symm
      have hxi : x ≤ i := ((mem_below hok).1 (List.mem_of_getElem? hx)).le hok
      have hrow := rowAt_get (rows := rows) (i := x) (by omega)
      have HST := Lib.hid (nameL_take rows (fun _ => true) (below rows i) hx)
      generalize rowAt rows x = n at hrow HST
      obtain ⟨kd, nm, l, r⟩ := n
      have HRX := Lib.hid hrow
      have HTW : Hid (Tab k ow wr t rows) := H.out.below (HB.out.trans (hI.bel.mono HB.out.size))
      obtain ⟨a8, c8, hv8⟩ := own_slice hI.own
      subst hv8
      clear hI hxk' hx hrow
      by_cases hk1 : kd = 1
      · subst hk1
        have HE : Hid (nameL rows (fun _ => true) ((below rows i).take (j + 1)) = nameL rows (fun _ => true) ((below rows i).take j) ++ [nm.data.toList]) := by rw [Hid, HST.out, if_pos (by simp)]
        go_wp2_with (first
          | (go_at_call 29; refine (node_yes k ow _ _ _ HTW.out _ _ HRX.out).mono ?_; rintro e w4 ⟨rfl, hb4⟩; have HB4 := Lib.hid hb4; clear hb4)
          | (at_builtin; refine wp_append rfl (.tmp 45) (.tmp 48) 27 rfl w2.heap.size 9 _ 1 16 Try.underlying27 infoStr rfl (by decide) (by decide) _ (nameL rows (fun _ => true) ((below rows i).take j)).length (strs (nameL rows (fun _ => true) ((below rows i).take j))) rfl (own_below HJ.out.own (below_trans (below_trans HB4.out (below_alloc _ _)) (below_alloc _ _))) _ 1 [.string nm] rfl (rd_one' _ _ _ (by simp)) (by simp [Value.oneCell']) (by omega) (by have := HJ.out.bel.size; have := HB4.out.size; simp; omega) ?_; intro v5 w5 hown5 hgr5 hat5 hnil5; have HF := Lib.hid (HJ.out.add (below_trans (below_trans HB4.out (below_alloc _ _)) (below_alloc _ _)) HE.out hown5 hgr5); clear hown5 hgr5 hat5 hnil5))
        exact ⟨⟨j + 1, by omega, by go_num, HF.out⟩, by simp [intOf]; omega⟩
      · have hkb : (kd == 1) = false := by simpa using hk1
        have HE : Hid (nameL rows (fun _ => true) ((below rows i).take (j + 1)) = nameL rows (fun _ => true) ((below rows i).take j)) := by rw [Hid, HST.out, if_neg (by simp [hk1])]
        clear hk1
        go_wp2_with (go_at_call 29; refine (node_yes k ow _ _ _ HTW.out _ _ HRX.out).mono ?_; rintro e w4 ⟨rfl, hb4⟩; have HB4 := Lib.hid hb4; clear hb4)
        exact ⟨⟨j + 1, by omega, by go_num, HJ.out.skip (below_trans HB4.out (below_alloc _ _)) HE.out⟩, by simp [intOf]; omega⟩
    · obtain rfl : j = (below rows i).length := by omega
      rw [List.take_length] at hnl
      have ho := hI.own
      rw [List.take_length] at ho
      have HO := Lib.hid ho
      have HBW := Lib.hid hI.bel
      obtain ⟨a8, c8, hv8⟩ := own_slice ho
      subst hv8
      clear hI ho
      go_wp2_with (go_at_call 47; refine (sortStrs_own _ w2.heap.size _ _ _ HO.out (by omega)).mono ?_; rintro e w5 ⟨rfl, hown5, hg5⟩; have HO5 := Lib.hid hown5; have HB5 := Lib.hid (HBW.out.grown hg5 HBW.out.size (fun q hq => (HO.out.lt q hq).1)); clear hown5 hg5)
      go_ret2
      refine ⟨_, rfl, ?_, HB.out.trans (HB5.out.mono HB.out.size)⟩
      have hl : (atomsOf rows i).length = (nameL rows (fun _ => true) (below rows i)).length := by unfold atomsOf sortNm; exact List.length_mergeSort _
      rw [hl]
      exact own_base HO5.out HB.out.size
end Go.Dk
