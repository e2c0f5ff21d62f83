/- Names: insertion and comparison (the document's put, Names). -/
import Derived.Test.YtfldpjacgeoegaaYn
import Derived.Test.YtfldpjacgeoegaaRg
import Derived.Laws.OwnMore
namespace Go.Dk
open Go.RowKit Go.Maps Go.MapKept Go.Sort
open Go.Proofs hiding intOf

theorem strs_at {w : World} {v : Value} {n : Nat} {ns : List Nm} (h : Rd w v n 1 (strs ns)) {k : Nat} (hk : k < n) : ∃ b o c, ∃ a : ByteArray, v = .slice (some ⟨b, o, none⟩) n c ∧ w.cell? ⟨b, o + k, none⟩ = some (.string a) ∧ ns[k]? = some a.toList := by
  have hl : ns.length = n := by have := h.len; simpa [strs] using this
  obtain ⟨b, o, c, rfl, hc⟩ := h.some (by omega)
  obtain ⟨x, hx⟩ : ∃ x, ns[k]? = some x := ⟨_, List.getElem?_eq_getElem (by omega)⟩
  exact ⟨b, o, c, ⟨x.toArray⟩, rfl, hc k _ (by simp [strs, hx]), by simp [hx, ByteArray.toList_eq]⟩
theorem strs_len {w : World} {v : Value} {n : Nat} {ns : List Nm} (h : Rd w v n 1 (strs ns)) : ns.length = n := by have := h.len; simpa [strs] using this
theorem take_eq_stepS {zs ys : List Nm} {k : Nat} {z y : Nm} (h : zs.take k = ys.take k) (h1 : zs[k]? = some z) (h2 : ys[k]? = some y) (e : z = y) : zs.take (k + 1) = ys.take (k + 1) := by
  subst e; rw [List.take_add_one, List.take_add_one, h, h1, h2]

set_option maxRecDepth 100000 in
set_option maxHeartbeats 800000 in
theorem names06_any (w : World) (v u : Value) (n m : Nat) (xs ys : List Nm) (hn : n ≤ 4096) (hm : m ≤ 4096) (hx : Rd w v n 1 (strs xs)) (hy : Rd w u m 1 (strs ys)) :
    Calls Try.prog 16 #[v, u] w fun e w' => e = .returned (.bool (decide (xs = ys))) ∧ Below w.heap.size w w' := by
  have hnx := strs_len hx
  have hmy := strs_len hy
  have HX := Lib.hid hx; have HY := Lib.hid hy
  obtain ⟨a, c, rfl⟩ := hx.slice
  obtain ⟨a', c', rfl⟩ := hy.slice
  clear hx hy
  by_cases hnm : n = m
  · subst hnm
    go_enter Try.func16, Try.ntmps16
    go_wp2_with fail
    go_loopw [5] (fun i W => ∃ k : Nat, k ≤ n ∧ i = .int .i64 k ∧ xs.take k = ys.take k ∧ Below w.heap.size w W) (fun i _ => n - (intOf i).toNat)
    case atStart => exact ⟨0, Nat.zero_le _, rfl, rfl, Below.refl _ _⟩
    case round =>
      obtain ⟨k, hk, rfl, ht, hb⟩ := hrel
      have HT := Lib.hid ht
      have HB := Lib.hid hb
      clear ht hb
      by_cases hlt : k < n
      · obtain ⟨b, o, c1, x, he, hc1, hxk⟩ := strs_at (HX.out.below HB.out) hlt
        cases he
        have HXK := Lib.hid hxk
        obtain ⟨b', o', c2, y, he, hc2, hyk⟩ := strs_at (HY.out.below HB.out) hlt
        cases he
        have HYK := Lib.hid hyk
        have hki : (k : Int) < (n : Int) := by omega
        clear hxk hyk
        cases hxy : (x.toList == y.toList) with
        | true =>
          have HE : Hid (x.toList = y.toList) := by simpa [Hid] using hxy
          go_wp2_with fail
          go_quiet (fail)
          go_wp2_with fail
          exact ⟨⟨k + 1, by omega, by go_num, take_eq_stepS HT.out HXK.out HYK.out HE.out, below_trans HB.out (below_drewN _ _)⟩, by simp [intOf]; omega⟩
        | false =>
          have HE : Hid (¬ x.toList = y.toList) := by simpa [Hid] using hxy
          go_wp2_with fail
          go_quiet (fail)
          go_wp2_with fail
          go_ret
          refine ⟨ret_bool ?_, below_trans HB.out (below_drewN _ _)⟩
          symm
          rw [decide_eq_false_iff_not]
          intro e
          have h1 := HXK.out
          rw [e, HYK.out] at h1
          exact HE.out (Option.some.inj h1).symm
      · obtain rfl : k = n := by omega
        have HXY : Hid (xs = ys) := by
          have := HT.out
          rwa [List.take_of_length_le (by omega), List.take_of_length_le (by omega)] at this
        go_wp2_with fail
        go_ret
        exact ⟨ret_bool (by simp [HXY.out]), HB.out⟩
  · have hne : ((n : Int) != (m : Int)) = true := by simp; omega
    have HNE : Hid (xs ≠ ys) := by rintro rfl; exact hnm (by omega)
    clear hnm
    go_enter Try.func16, Try.ntmps16
    go_wp2_with fail
    go_ret
    exact ⟨ret_bool (by simp [HNE.out]), Below.refl _ _⟩

/-! ### insertion -/
def insN (s : Nm) : List Nm → List Nm
  | [] => [s]
  | x :: xs => if x ≤ s then x :: insN s xs else s :: x :: xs
theorem insN_perm (s : Nm) (xs : List Nm) : (insN s xs).Perm (s :: xs) := by
  induction xs with
  | nil => exact List.Perm.refl _
  | cons x xs ih =>
    unfold insN
    split
    · exact (ih.cons x).trans (List.Perm.swap _ _ _)
    · exact List.Perm.refl _
theorem insN_pairwise (s : Nm) (xs : List Nm) (h : xs.Pairwise (fun x y => x ≤ y)) : (insN s xs).Pairwise (fun x y => x ≤ y) := by
  induction xs with
  | nil => simp [insN]
  | cons x xs ih =>
    have h' := List.pairwise_cons.1 h
    unfold insN
    split
    · rename_i hz
      refine List.pairwise_cons.2 ⟨fun y hy => ?_, ih h'.2⟩
      rcases List.mem_cons.1 ((insN_perm s xs).mem_iff.1 hy) with rfl | hy
      · exact hz
      · exact h'.1 y hy
    · rename_i hz
      have hz' : s ≤ x := (List.le_total s x).resolve_right hz
      refine List.pairwise_cons.2 ⟨fun y hy => ?_, h⟩
      rcases List.mem_cons.1 hy with rfl | hy
      · exact hz'
      · exact List.le_trans hz' (h'.1 y hy)
theorem sortNm_pairwise (ns : List Nm) : (sortNm ns).Pairwise (fun x y => x ≤ y) :=
  (List.pairwise_mergeSort (le := fun x y : Nm => decide (x ≤ y)) (fun a b c h1 h2 => by simp at *; exact List.le_trans h1 h2) (fun a b => by simp; exact List.le_total a b) ns).imp (fun h => by simpa using h)
theorem sortNm_unique {xs ys : List Nm} (hp : ys.Perm xs) (hs : ys.Pairwise (fun x y => x ≤ y)) : ys = sortNm xs :=
  List.Perm.eq_of_pairwise (le := fun x y : Nm => x ≤ y) (fun _ _ _ _ h1 h2 => List.le_antisymm h1 h2) hs (sortNm_pairwise xs) (hp.trans (List.mergeSort_perm _ _).symm)
theorem insN_sort (s : Nm) (ns : List Nm) : insN s (sortNm ns) = sortNm (ns ++ [s]) :=
  sortNm_unique ((insN_perm s _).trans ((List.Perm.cons s (List.mergeSort_perm _ _)).trans (List.perm_append_singleton s ns).symm)) (insN_pairwise s _ (sortNm_pairwise ns))
theorem sortNm_nil : sortNm [] = [] := by simp [sortNm]
theorem insN_split (s : Nm) : ∀ (l : List Nm), l.Pairwise (fun x y => x ≤ y) → ∀ k, k ≤ l.length → (∀ j x, k ≤ j → l[j]? = some x → ¬ x ≤ s) → (k = 0 ∨ ∃ x, l[k - 1]? = some x ∧ x ≤ s) → insN s l = l.take k ++ s :: l.drop k
  | [], _, k, hk, _, _ => by
    have : k = 0 := by simpa using hk
    subst this; rfl
  | x :: xs, h, k, hk, h1, h2 => by
    have h' := List.pairwise_cons.1 h
    unfold insN
    cases k with
    | zero => rw [if_neg (h1 0 x (Nat.le_refl _) rfl)]; rfl
    | succ k =>
      have hx : x ≤ s := by
        rcases h2 with h2 | ⟨y, hy, hz⟩
        · omega
        · simp only [Nat.add_sub_cancel] at hy
          cases k with
          | zero => simp at hy; exact hy ▸ hz
          | succ k =>
            simp only [List.getElem?_cons_succ] at hy
            exact List.le_trans (h'.1 y (List.mem_of_getElem? hy)) hz
      rw [if_pos hx, insN_split s xs h'.2 k (by simpa using hk) (fun j y hj hy => h1 (j + 1) y (by omega) (by simpa using hy)) ?_]
      · rfl
      · rcases h2 with h2 | ⟨y, hy, hz⟩
        · omega
        · simp only [Nat.add_sub_cancel] at hy
          cases k with
          | zero => exact .inl rfl
          | succ k => exact .inr ⟨y, by simpa using hy, hz⟩

/-! ### put -/
theorem strs_set (ns : List Nm) (k : Nat) (a : ByteArray) : (strs ns).set k (.string a) = strs (ns.set k a.toList) := by
  have e : Value.string a = encStr a.toList := by
    cases a with
    | mk d => simp [ByteArray.toList_eq]
  rw [e]; simp [strs, List.map_set]
theorem set_mid {l : List Nm} {k : Nat} {y z : Nm} (hk : k ≤ l.length) : (l.take k ++ y :: l.drop k).set k z = l.take k ++ z :: l.drop k := by
  have h : (l.take k).length = k := by simp; omega
  rw [List.set_append_right _ _ (by omega), h]
  simp
theorem shift_mid {l : List Nm} {k : Nat} {a y : Nm} (ha : l[k]? = some a) : (l.take (k + 1) ++ y :: l.drop (k + 1)).set (k + 1) a = l.take k ++ a :: l.drop k := by
  have hk := (List.getElem?_eq_some_iff.1 ha).1
  rw [set_mid (by omega), List.take_add_one, ha, List.drop_eq_getElem_cons hk, (List.getElem?_eq_some_iff.1 ha).2]
  simp

/-- In put's loop. -/
structure PutI (w W : World) (base : Nat) (v : Value) (g cap n : Nat) (l : List Nm) : Prop where
  own : W.ownsRow base 9 1 (.slice (some ⟨g, 0, none⟩) n cap) n (strs l)
  gr : w.grownBy W v.ownBlock
  at_ : v.ownBlock = some g ∨ w.heap.size ≤ g
theorem PutI.set {w W : World} {base : Nat} {v : Value} {g cap n : Nat} {l : List Nm} (h : PutI w W base v g cap n l) (k : Nat) (a : ByteArray) : PutI w (W.setCell ⟨g, k, none⟩ (.string a)) base v g cap n (l.set k a.toList) := by
  obtain ⟨h1, h2⟩ := h.own.stored k (.string a)
  rw [strs_set] at h1
  refine ⟨h1, ⟨h2.os.trans h.gr.os, h2.tape.trans h.gr.tape, h2.output.trans h.gr.output, Nat.le_trans h.gr.size h2.size, fun b hb hne => ?_⟩, h.at_⟩
  refine (h2.block b (Nat.lt_of_lt_of_le hb h.gr.size) ?_).trans (h.gr.block b hb hne)
  intro e
  cases e
  rcases h.at_ with e | e
  · exact hne e.symm
  · omega
theorem PutI.cell {w W : World} {base : Nat} {v : Value} {g cap n : Nat} {l : List Nm} (h : PutI w W base v g cap n l) {k : Nat} (hk : k < n) : ∃ a : ByteArray, W.cell? ⟨g, k, none⟩ = some (.string a) ∧ l[k]? = some a.toList := by
  have hl : l.length = n := by have := h.own.1; simpa [strs] using this
  obtain ⟨x, hx⟩ : ∃ x, l[k]? = some x := ⟨_, List.getElem?_eq_getElem (by omega)⟩
  refine ⟨⟨x.toArray⟩, ?_, by simp [hx, ByteArray.toList_eq]⟩
  rw [h.own.cellAt k (by omega)]
  simp [strs, hx]

/-- v' is v with one more, in its own memory or in new. -/
structure PutS (w w' : World) (base : Nat) (v v' : Value) (n : Nat) (l : List Nm) : Prop where
  own : w'.ownsRow base 9 1 v' n (strs l)
  gr : w.grownBy w' v.ownBlock
  at_ : ∀ g, v'.ownBlock = some g → v.ownBlock = some g ∨ w.heap.size ≤ g
def PutSPost (w : World) (base : Nat) (v : Value) (n : Nat) (l : List Nm) (e : Ending) (w' : World) : Prop := ∃ v', e = .returned v' ∧ PutS w w' base v v' n l
theorem ret_eq {a b : Value} (h : a = b) : Ending.returned a = .returned b := by rw [h]
theorem grown_alloc {w W : World} {o : Obj} {r : Option Nat} (h : (w.alloc o).grownBy W r) : w.grownBy W r := World.grownBy.trans (World.grownBy_alloc w o r) h

set_option maxRecDepth 100000 in
set_option maxHeartbeats 2000000 in
theorem put06_own (w : World) (base n : Nat) (v : Value) (ns : List Nm) (s : ByteArray) (hb : base ≤ w.heap.size) (hn : n ≤ 4096) (hs : ns.Pairwise (fun x y => x ≤ y)) (h : w.ownsRow base 9 1 v n (strs ns)) :
    Calls Try.prog 42 #[v, .string s] w (PutSPost w base v (n + 1) (insN s.toList ns)) := by
  have hl : ns.length = n := by have := h.1; simpa [strs] using this
  have HO := Lib.hid h
  have HSO := Lib.hid hs
  obtain ⟨a, c, hv⟩ := own_slice h
  subst hv
  clear h hs
  go_enter Try.func42, Try.ntmps42
  go_wp2_with (at_builtin; refine wp_append rfl (.tmp 8) (.tmp 10) 27 rfl base 9 _ 1 16 Try.underlying27 infoStr rfl (by decide) (by decide) _ n (strs ns) rfl (own_below HO.out (below_alloc _ _)) _ 1 [.string s] rfl (rd_one w _ _) (by simp [Value.oneCell']) (by omega) (by simp; omega) ?_; intro v5 w5 hown5 hgr5 hat5 hnil5; obtain ⟨g, cap, hv5, _⟩ := own_some hown5 (by omega); subst hv5)
  have HI : Hid (PutI w w5 base (.slice a n c) g cap (n + 1) (ns.take n ++ s.toList :: ns.drop n)) := by
    refine ⟨?_, grown_alloc hgr5, ?_⟩
    · rw [List.take_of_length_le (by omega), List.drop_of_length_le (by omega)]
      have e : Value.string s = encStr s.toList := by
        cases s with
        | mk d => simp [ByteArray.toList_eq]
      rw [e] at hown5
      simpa [strs] using hown5
    · rcases hat5 with e | e
      · exact .inl (e ▸ rfl)
      · have : g = (w.alloc (.cells #[.string s] 9)).heap.size := Option.some.inj e
        right; rw [this]; simp
  clear hown5 hgr5 hat5 hnil5
  go_wp2_with fail
  go_loopw [5] (fun u W => ∃ (k : Nat) (y : Nm), k ≤ n ∧ u = .int .i64 k ∧ PutI w W base (.slice a n c) g cap (n + 1) (ns.take k ++ y :: ns.drop k) ∧ ∀ j x, k ≤ j → ns[j]? = some x → ¬ x ≤ s.toList) (fun u _ => (intOf u).toNat)
  case atStart => exact ⟨n, _, Nat.le_refl _, rfl, HI.out, fun j x hj hx => by have := (List.getElem?_eq_some_iff.1 hx).1; omega⟩
  case round =>
    obtain ⟨k, y, hk, rfl, hI, hall⟩ := hrel
    have HJ := Lib.hid hI
    have HA := Lib.hid hall
    obtain ⟨z, hz, _⟩ := hI.cell (k := k) (by omega)
    have hf := hI.own.frozenAt k
    have hkn : (k : Int) < (n : Int) + 1 := by omega
    clear hI hall
    cases k with
    | zero =>
      have HE : Hid (insN s.toList ns = ns.take 0 ++ s.toList :: ns.drop 0) := insN_split _ _ HSO.out 0 (by omega) HA.out (.inl rfl)
      have hz0 : wr.cell? ⟨g, 0, none⟩ = some (.string z) := hz
      rw [show ((0 : Nat) : Int) = 0 from rfl] at *
      go_wp2_with fail
      go_ret
      have hJ := HJ.out.set 0 s
      rw [set_mid (by omega), ← HE.out] at hJ
      exact ⟨_, rfl, hJ.own, hJ.gr, fun q hq => by cases hq; exact hJ.at_⟩
    | succ k =>
      obtain ⟨b, hc, hbk⟩ := HJ.out.cell (k := k) (by omega)
      rw [List.getElem?_append_left (by simp; omega), List.getElem?_take, if_pos (by omega)] at hbk
      have HBK := Lib.hid hbk
      rw [show ((k + 1 : Nat) : Int) = (k : Int) + 1 by omega] at *
      have hkn2 : (k : Int) < (n : Int) + 1 := by omega
      clear hbk
      by_cases hle : b.toList ≤ s.toList
      · have HE : Hid (insN s.toList ns = ns.take (k + 1) ++ s.toList :: ns.drop (k + 1)) := insN_split _ _ HSO.out (k + 1) (by omega) HA.out (.inr ⟨_, by simpa using HBK.out, hle⟩)
        have HLE := Lib.hid hle
        have hJ := HJ.out.set (k + 1) s
        rw [set_mid (by omega), ← HE.out] at hJ
        have HJ2 := Lib.hid hJ
        clear hJ hle
        cases h1 : Op.bytesLess b.toList s.toList with
        | true =>
          go_wp2_with fail
          go_ret
          exact ⟨_, rfl, HJ2.out.own, HJ2.out.gr, fun q hq => by cases hq; exact HJ2.out.at_⟩
        | false =>
          have h2 : (b.toList == s.toList) = true := by
            rw [bytesLess_eq] at h1
            simp only [decide_eq_false_iff_not] at h1
            have : s.toList ≤ b.toList := List.not_lt.1 h1
            simpa using List.le_antisymm HLE.out this
          go_wp2_with fail
          go_ret
          exact ⟨_, rfl, HJ2.out.own, HJ2.out.gr, fun q hq => by cases hq; exact HJ2.out.at_⟩
      · have h1 : Op.bytesLess b.toList s.toList = false := by
          rw [bytesLess_eq]
          simp only [decide_eq_false_iff_not]
          intro hlt
          exact hle (List.le_of_lt hlt)
        have h2 : (b.toList == s.toList) = false := by
          simp only [beq_eq_false_iff_ne, ne_eq]
          intro e
          exact hle (e ▸ List.le_refl _)
        have HLE := Lib.hid hle
        have hJ := HJ.out.set (k + 1) b
        rw [shift_mid HBK.out] at hJ
        have HJ2 := Lib.hid hJ
        clear hJ hle
        go_wp2_with fail
        refine ⟨⟨k, _, by omega, by go_num, HJ2.out, fun j x hj hx => ?_⟩, by simp [intOf] <;> omega⟩
        rcases Nat.lt_or_ge k j with h | h
        · exact HA.out j x (by omega) hx
        · obtain rfl : j = k := by omega
          rw [HBK.out] at hx
          exact Option.some.inj hx ▸ HLE.out
end Go.Dk
