/- Parts of the proof: Ma, Yf, Sh, Ha, Kr, Se, Sf, Si, Qn, Zf, Kb, Kc, Rg. -/
import Derived.Deep.MidRow
import Derived.Deep.DeepCutAuto
import Derived.Deep.CutBlock
import Derived.Deep.RegionLaw
import Derived.Deep.RegionHeld3
import Derived.ArgAppend
import Derived.Outline
import Derived.IntWalk
import Derived.BigQuiet
import Derived.Deep.QuietTactic
import Derived.StringKeys
import Derived.Maps.Keyed
import Derived.Lib.TrailingZeros
import Derived.Laws.Bits64b
import Derived.Shelf.Spec.TrailingZeros
import Derived.WalkKit
import Derived.StillTail
import Derived.Test.YthhokkfcdbcllaaDoorN01
import Derived.Test.YthhokkfcdbcllaaDoorN02
section
namespace Go.Dk
open Go.RowKit Go.Maps Go.MapKept
open Go.Proofs hiding intOf
theorem Tab.ptr {k : Nat} {ow : Own} {w : World} {t : Value} {rows : List ND} (h : Tab k ow w t rows) : ∃ pb, t = .pointer (some ⟨pb, 0, none⟩) := by
  obtain ⟨pb, mb, v, e, _⟩ := h; exact ⟨pb, e⟩
end Go.Dk
end

section
namespace Go.Dk
open Go.RowKit Go.Maps Go.MapKept
open Go.Proofs hiding intOf
/-- What is known when the rows done have been gone through. -/
def knownF (of : ND → Int → Int → Int) (rows : List ND) (done : List Nat) (x : Nat) : Option Int := if x ∈ done then some (val of rows x) else none
def intV (x : Int) : Value := .int .i64 x
theorem TM.look_int {w : World} {b : Nat} {f : Nat → Option Int} (h : TM Tryd.prog 3 natV intV w b f) (x : Nat) (hx : x ≤ 9223372036854775807) :
    (Instr.lookup 105 (.map (some b)) (.int .i64 (x : Int)) false).run Tryd.prog w = .ok (.int .i64 ((f x).getD 0)) w := by
  cases hf : f x with
  | none => exact h.look_none lawInt natV_inj Tryd.underlying105 (zeroInt _) (keyNat x hx) false hf
  | some v => exact h.look_some lawInt natV_inj Tryd.underlying105 (keyNat x hx) false hf
structure FoldI (of : ND → Int → Int → Int) (rows : List ND) (i mb : Nat) (w2 W : World) (k : Nat) : Prop where
  g : w2.grownBy W (some mb)
  m : TM Tryd.prog 3 natV intV W mb (knownF of rows ((below rows i).take k))
theorem grown_below {w w' : World} (h : Below w.heap.size w w') {r : Option Nat} : w.grownBy w' r := ⟨h.os, h.tape, h.output, h.size, fun k hk _ => h.block k hk⟩
theorem FoldI.below {of : ND → Int → Int → Int} {rows : List ND} {i mb : Nat} {w2 W W' : World} {k : Nat} (h : FoldI of rows i mb w2 W k) (hb : Below W.heap.size W W') : FoldI of rows i mb w2 W' k :=
  ⟨h.g.trans (grown_below hb), h.m.below hb⟩
end Go.Dk
end

section
namespace Go.Dk
open Go.RowKit Go.Maps Go.MapKept
open Go.Proofs hiding intOf
theorem PutPost.from {k : Nat} {ow : Own} {w w1 : World} {t : Value} {p : Put} {e : Ending} {w' : World} (hb : Below w.heap.size w w1) (h : PutPost k ow w1 t p e w') : PutPost k ow w t p e w' := by
  obtain ⟨he, ow', hk, ht⟩ := h
  exact ⟨he, ow', hb.kept_ow.trans hk, ht⟩
set_option maxRecDepth 100000 in
theorem not_bad (k : Nat) (ow : Own) (w : World) (t : Value) (rows : List ND) (h : Tab k ow w t rows) (a : Int) (ha : hasB rows.length a = false) : Calls Tryd.prog 22 #[t, .int .i64 a] w fun e w' => e = .returned (.tuple #[.int .i64 0, .int .i64 31]) ∧ w = w' := by
  have H := Lib.hid h
  clear h
  go_enter Tryd.func22, Tryd.ntmps22
  go_wp2_with (first | (go_at_call 23; refine (alive_yes k ow _ _ rows H.out).mono ?_; rintro e w' ⟨rfl, rfl⟩) | (go_at_call 24; refine (has_any k ow _ _ rows H.out _).mono ?_; rintro e w' ⟨rfl, rfl⟩))
  go_ret2
  exact ⟨rfl, rfl⟩
def lookE (rows : List ND) (zs : List Int) : Int := if (zs.all fun z => hasB rows.length z) = true then 0 else 31
theorem lookE_yes {rows : List ND} {zs : List Int} (h : (zs.all fun z => hasB rows.length z) = true) : lookE rows zs = 0 := by unfold lookE; rw [if_pos h]
theorem lookE_no {rows : List ND} {zs : List Int} {k : Nat} {z : Int} (h : zs[k]? = some z) (hb : hasB rows.length z = false) : lookE rows zs = 31 := by
  unfold lookE
  rw [if_neg]
  intro hall
  have := List.all_eq_true.1 hall z (List.mem_of_getElem? h)
  rw [hb] at this; cases this
theorem all_take {p : Int → Bool} {l : List Int} {k : Nat} {y : Int} (h : l[k]? = some y) : (l.take (k + 1)).all p = ((l.take k).all p && p y) := by
  rw [List.take_add_one, h]; simp
theorem nat_of_has {n : Nat} {i : Int} (h : hasB n i = true) : ∃ x : Nat, i = (x : Int) ∧ x < n := by
  unfold hasB at h; simp at h; exact ⟨i.toNat, by omega, by omega⟩
set_option maxRecDepth 100000 in
set_option maxHeartbeats 800000 in
theorem looked_any (k : Nat) (ow : Own) (w : World) (t v : Value) (rows : List ND) (zs : List Int) (h : Tab k ow w t rows) (hv : Rd w v zs.length 1 (ints zs)) (hl : zs.length ≤ 9223372036854775807) :
    Calls Tryd.prog 29 #[t, v] w fun e w' => e = .returned (.int .i64 (lookE rows zs)) ∧ Below w.heap.size w w' := by
  have H := Lib.hid h
  have HV := Lib.hid hv
  obtain ⟨va, vc, rfl⟩ := hv.slice
  have HN : Hid (hasB rows.length (-1) = false) := by simp [Hid, hasB]
  clear h hv
  go_enter Tryd.func29, Tryd.ntmps29
  go_wp2_with (go_at_call 22; refine (not_bad k ow _ _ rows H.out _ HN.out).mono ?_; rintro e w' ⟨rfl, rfl⟩)
  go_loopw [21] (fun u W => ∃ j : Nat, j ≤ zs.length ∧ u = .int .i64 (j : Int) ∧ ((zs.take j).all fun z => hasB rows.length z) = true ∧ Below w.heap.size w W) (fun u _ => zs.length - (intOf u).toNat)
  case atStart => exact ⟨0, Nat.zero_le _, rfl, by simp, Below.refl _ _⟩
  case round =>
    obtain ⟨j, hj, rfl, hall, hb⟩ := hrel
    have HA := Lib.hid hall; have HB := Lib.hid hb
    clear hall hb
    by_cases hlt : j < zs.length
    · obtain ⟨b, o, c1, z, he, hc1, hzk⟩ := ints_at (HV.out.below HB.out) hlt
      cases he
      have HZ := Lib.hid hzk
      have hji : (j : Int) < (zs.length : Int) := by omega
      clear hzk
      cases hz : hasB rows.length z with
      | true =>
        have HS := Lib.hid (all_take (p := fun z => hasB rows.length z) HZ.out)
        have HZT := Lib.hid hz
        obtain ⟨x, rfl, hx⟩ := nat_of_has hz
        have HR := Lib.hid (rowAt_get hx)
        clear hz
        go_wp2_with (go_at_call 14; refine (node_yes k ow _ _ _ (H.out.below HB.out) _ _ HR.out).mono ?_; rintro e w4 ⟨rfl, hb4⟩; have HB4 := Lib.hid (below_trans HB.out hb4); clear hb4)
        exact ⟨⟨j + 1, by omega, by go_num, by rw [HS.out, HA.out, HZT.out]; rfl, below_trans HB4.out (below_alloc _ _)⟩, by simp [intOf]; omega⟩
      | false =>
        have HE := Lib.hid (lookE_no HZ.out hz)
        go_wp2_with (go_at_call 14; refine (node_no k ow _ _ _ (H.out.below HB.out) _ hz).mono ?_; rintro e w4 ⟨rfl, hb4⟩; have HB4 := Lib.hid (below_trans HB.out hb4); clear hb4)
        go_ret
        exact ⟨ret_int HE.out.symm, below_trans HB4.out (below_alloc _ _)⟩
    · obtain rfl : j = zs.length := by omega
      have hA := HA.out
      rw [List.take_length] at hA
      have HE := Lib.hid (lookE_yes hA)
      clear hA
      go_wp2_with fail
      go_ret
      exact ⟨ret_int HE.out.symm, HB.out⟩
set_option maxRecDepth 100000 in
set_option maxHeartbeats 800000 in
theorem plain_any (ow : Own) (w : World) (t : Value) (rows : List ND) (h : Tab 1 ow w t rows) (k : Nat) (kd a b l r : Int) (nm : ByteArray) :
    Calls Tryd.prog 33 #[t, .int .i64 (k : Int), .agg #[.int .i64 kd, .string nm, .int .i64 a, .int .i64 b], .int .i64 l, .int .i64 r] w (PutPost 1 ow w t (plainP rows k ⟨kd, nm, a, b⟩ l r)) := by
  have H : Hid (∀ o, Tab 1 ow (w.alloc o) t rows) := fun o => h.below (below_alloc _ _)
  clear h
  by_cases hk : kd < 3
  · have HE : Hid (plainP rows k ⟨kd, nm, a, b⟩ l r = ⟨rows, k, 0⟩) := by unfold Hid plainP; rw [if_pos hk]
    go_enter Tryd.func33, Tryd.ntmps33
    go_wp2_with fail
    go_ret2
    rw [HE.out]
    exact ⟨rfl, ow, (below_alloc _ _).kept_ow, H.out _⟩
  · have HE : Hid (plainP rows k ⟨kd, nm, a, b⟩ l r = put rows ⟨kd, ⟨#[]⟩, l, r⟩) := by unfold Hid plainP; rw [if_neg hk]; rfl
    go_enter Tryd.func33, Tryd.ntmps33
    go_wp2_with fail
    refine (put_any 1 ow _ _ rows (H.out _) kd l r _ empty_le).mono ?_
    rintro e w1 ⟨rfl, hq⟩
    have HQ := Lib.hid hq
    clear hq
    go_wp2_with fail
    go_ret2
    rw [HE.out]
    obtain ⟨ow1, hk1, ht1⟩ := HQ.out
    exact ⟨rfl, ow1, (below_alloc _ _).kept_ow.trans hk1, ht1⟩
abbrev EnvT := Own → World → Prop
/-- What stands on blocks that are not the table's stays. -/
def EnvOk (E : EnvT) : Prop := ∀ c, (c = 1 ∨ c = 3) → ∀ ow w ow' w', E ow w → Kept c ow w ow' w' → E ow' w'
structure AnW (E : EnvT) (of : OfF) (ow : Own) (w : World) (t : Value) (rows : List ND) (id mb : Nat) (v2 : Value) (j : Nat) (ow' : Own) (W : World) (rowsj : List ND) (img : Nat → Int) : Prop where
  kp : Kept 1 ow w ow' W
  tab : Tab 1 ow' W t rowsj
  mp : TM Tryd.prog 3 natV intV W mb (imgF img ((below rows id).take j))
  st : anewGo of ((below rows id).take j) rows (fun _ => 0) = (rowsj, img, 0)
  pre : rows <+: rowsj
  nn : ∀ x, 0 ≤ img x
  zz : ∀ x, x ∉ (below rows id).take j → img x = 0
  cm : ow' mb = 3
  lm : w.heap.size ≤ mb
  own : W.ownsRow w.heap.size 3 1 v2 (below rows id).length (ints (natInts (below rows id)))
  co : ∀ g, v2.ownBlock = some g → ow' g ≠ 1
  cn : v2.ownBlock ≠ some mb
  env : E ow' W
section
variable {E : EnvT} {of : OfF} {ow ow' : Own} {w W W' : World} {t v2 : Value} {rows rowsj : List ND} {id mb j : Nat} {img : Nat → Int}
theorem own_keptC {c : Nat} {ow ow' : Own} {w w' : World} {base n : Nat} {e : TypeId} {size : Nat} {v : Value} {xs : List Value} (h : w.ownsRow base e size v n xs) (hk : Kept c ow w ow' w') (hc : ∀ g, v.ownBlock = some g → ow g ≠ c) : w'.ownsRow base e size v n xs := by
  refine ⟨h.1, ?_⟩
  rcases h.2 with hn | ⟨g, cap, cur, rfl, hb, hg, rest⟩
  · exact .inl hn
  · exact .inr ⟨g, cap, cur, rfl, hb, (hk.block g (lt_of_block hg) (hc g rfl)).trans hg, rest⟩
theorem own_belowC {w w' : World} {base n : Nat} {e : TypeId} {size : Nat} {v : Value} {xs : List Value} (h : w.ownsRow base e size v n xs) (hb : Below w.heap.size w w') : w'.ownsRow base e size v n xs :=
  h.kept (row := none) ⟨hb.os, hb.tape, hb.output, hb.size, fun j hj _ => hb.block j hj⟩ (by cases v.ownBlock <;> simp)
theorem AnW.later (hE : EnvOk E) (h : AnW E of ow w t rows id mb v2 j ow' W rowsj img) (hb : Below W.heap.size W W') : AnW E of ow w t rows id mb v2 j ow' W' rowsj img :=
  ⟨h.kp.trans hb.kept_ow, h.tab.below hb, h.mp.below hb, h.st, h.pre, h.nn, h.zz, h.cm, h.lm, own_belowC h.own hb, h.co, h.cn, hE 1 (.inl rfl) _ _ _ _ h.env hb.kept_ow⟩
theorem AnW.next (hE : EnvOk E) (h : AnW E of ow w t rows id mb v2 j ow' W rowsj img) {k : Nat} (hk : (below rows id)[j]? = some k) {ow2 : Own} {W2 W6 : World} {p : Put} (hp : pAt of rowsj k img = p) (hz : p.err = 0) (hnn : 0 ≤ p.id) (hpre : rowsj <+: p.rows)
    (hk2 : Kept 1 ow' W ow2 W2) (ht : Tab 1 ow2 W2 t p.rows) (hm : TM Tryd.prog 3 natV intV W6 mb (upd (imgF img ((below rows id).take j)) k (some p.id))) (ho : Only mb W2 W6) :
    AnW E of ow w t rows id mb v2 (j + 1) ow2 W6 p.rows (fun x => if x = k then p.id else img x) := by
  have hml := h.mp.lt
  have cm2 : ow2 mb = 3 := by rw [hk2.own mb hml]; exact h.cm
  have ko : Kept 3 ow2 W2 ow2 W6 := ho.kept cm2
  have ke : Kept 1 ow w ow2 W6 := by
    have k1 := h.kp.trans hk2
    refine ⟨ko.os.trans k1.os, ko.tape.trans k1.tape, ko.output.trans k1.output, Nat.le_trans k1.size ko.size, k1.own, fun b hb hc => ?_⟩
    exact (ho.block b (by have := h.lm; omega)).trans (k1.block b hb hc)
  have hown2 := own_keptC h.own hk2 h.co
  have he2 := hE 1 (.inl rfl) _ _ _ _ h.env hk2
  refine ⟨ke, ht.kept ko (by decide), ?_, ?_, h.pre.trans hpre, ?_, ?_, cm2, h.lm, ?_, ?_, h.cn, ?_⟩
  · have e : upd (imgF img ((below rows id).take j)) k (some p.id) = imgF (fun x => if x = k then p.id else img x) ((below rows id).take (j + 1)) := by
      funext x
      rw [takeN_snoc hk]
      unfold imgF
      by_cases e : x = k
      · subst e; rw [upd_same]; simp
      · rw [upd_other _ _ e]; simp [e]
    rw [← e]; exact hm
  · rw [takeN_snoc hk, anewGo_snoc h.st (by rw [hp]; exact hz), hp]
  · intro x
    by_cases e : x = k
    · simp only [e, if_true]; exact hnn
    · simp only [e, if_false]; exact h.nn x
  · intro x hx
    rw [takeN_snoc hk] at hx
    simp only [List.mem_append, List.mem_singleton, not_or] at hx
    simp only [hx.2, if_false]
    exact h.zz x hx.1
  · exact hown2.kept ho.grown (.inr h.cn)
  · intro g hg
    have := (h.own.lt g hg).2
    rw [hk2.own g this]; exact h.co g hg
  · exact hE 3 (.inr rfl) _ _ _ _ he2 ko
theorem AnW.get (h : AnW E of ow w t rows id mb v2 j ow' W rowsj img) (x : Nat) : (imgF img ((below rows id).take j) x).getD 0 = img x := by
  by_cases e : x ∈ (below rows id).take j
  · exact imgF_get e
  · unfold imgF; rw [if_neg e, h.zz x e]; rfl
/-- Where an image fails: the table behind it. -/
theorem AnW.fail (h : AnW E of ow w t rows id mb v2 j ow' W rowsj img) {ow2 : Own} {W2 W6 : World} {rows2 : List ND} (hk2 : Kept 1 ow' W ow2 W2) (ht : Tab 1 ow2 W2 t rows2) (ho : Only mb W2 W6) : Kept 1 ow w ow2 W6 ∧ Tab 1 ow2 W6 t rows2 := by
  have hml := h.mp.lt
  have cm2 : ow2 mb = 3 := by rw [hk2.own mb hml]; exact h.cm
  have ko : Kept 3 ow2 W2 ow2 W6 := ho.kept cm2
  have k1 := h.kp.trans hk2
  exact ⟨⟨ko.os.trans k1.os, ko.tape.trans k1.tape, ko.output.trans k1.output, Nat.le_trans k1.size ko.size, k1.own, fun b hb hc => (ho.block b (by have := h.lm; omega)).trans (k1.block b hb hc)⟩, ht.kept ko (by decide)⟩
theorem AnW.start (hE : EnvOk E) (h : Tab 1 ow w t rows) (hEw : E ow w) {w2 : World} (hb : Below w.heap.size w w2) (hown : w2.ownsRow w.heap.size 3 1 v2 (below rows id).length (ints (natInts (below rows id)))) :
    AnW E of ow w t rows id w2.heap.size v2 0 (fun b => if b < w.heap.size then ow b else if b = w2.heap.size then 3 else 0) (w2.alloc (.map #[] 0)) rows (fun _ => 0) := by
  have hb2 := below_trans hb (below_alloc w2 (.map #[] 0))
  have hr : ∀ c, Kept c ow w (fun b => if b < w.heap.size then ow b else if b = w2.heap.size then 3 else 0) (w2.alloc (.map #[] 0)) := fun c => hb2.kept_ow.recolour (fun b hb => by simp [hb])
  have hs := hb.size
  have e0 : imgF (fun _ => 0) ((below rows id).take 0) = fun _ => none := by funext x; simp [imgF]
  refine ⟨hr 1, h.kept (hr 2) (by decide), ?_, by simp [anewGo], List.prefix_refl _, fun _ => Int.le_refl _, fun _ _ => rfl, ?_, hs, own_belowC hown (below_alloc _ _), ?_, ?_, hE 1 (.inl rfl) _ _ _ _ hEw (hr 1)⟩
  · rw [e0]; exact TM.made _ _ _ _ _
  · simp only [if_true]; rw [if_neg (by omega)]
  · intro g hg
    have := hown.lt g hg
    rw [if_neg (by omega), if_neg (by omega)]; decide
  · intro e
    have := hown.lt _ e
    omega
end
theorem take_of_prefix {a b : List ND} (h : a <+: b) : b.take a.length = a := by
  obtain ⟨s, rfl⟩ := h; simp
end Go.Dk
end

section
namespace Go.Dk
open Go.RowKit Go.Maps Go.MapKept Go.Shelf
open Go.Proofs hiding intOf
/-- A list of lists of numbers that can be read. -/
def ListsR (w : World) (v : Value) (zss : List (List Int)) : Prop := ∃ xs : List Value, Rd w v zss.length 1 xs ∧ ∀ (i : Nat) (zs : List Int) (x : Value), zss[i]? = some zs → xs[i]? = some x → Rd w x zs.length 1 (ints zs) ∧ zs.length ≤ 9223372036854775807
theorem ListsR.at {w : World} {v : Value} {zss : List (List Int)} (h : ListsR w v zss) {j : Nat} (hj : j < zss.length) :
    ∃ b o c x zs, v = .slice (some ⟨b, o, none⟩) zss.length c ∧ w.cell? ⟨b, o + j, none⟩ = some x ∧ zss[j]? = some zs ∧ Rd w x zs.length 1 (ints zs) ∧ zs.length ≤ 9223372036854775807 := by
  obtain ⟨xs, hr, hx⟩ := h
  have hl : xs.length = zss.length := by have := hr.len; simpa using this
  obtain ⟨b, o, c, rfl, hc⟩ := hr.some (by omega)
  have h1 : zss[j]? = some zss[j] := List.getElem?_eq_getElem hj
  have h2 : xs[j]? = some (xs[j]'(by omega)) := List.getElem?_eq_getElem _
  have h3 := hx j _ _ h1 h2
  exact ⟨b, o, c, _, _, rfl, hc j _ h2, h1, h3.1, h3.2⟩
theorem ListsR.below {w w' : World} {v : Value} {zss : List (List Int)} (h : ListsR w v zss) (hb : Below w.heap.size w w') : ListsR w' v zss := by
  obtain ⟨xs, hr, hx⟩ := h
  exact ⟨xs, hr.below hb, fun i zs x h1 h2 => ⟨(hx i zs x h1 h2).1.below hb, (hx i zs x h1 h2).2⟩⟩
theorem flatten_no {rows : List ND} {zss : List (List Int)} {zs : List Int} {z : Int} {j k : Nat} (h1 : zss[j]? = some zs) (h2 : zs[k]? = some z) (hb : hasB rows.length z = false) : lookE rows zss.flatten = 31 := by
  have hm : z ∈ zss.flatten := List.mem_flatten.2 ⟨zs, List.mem_of_getElem? h1, List.mem_of_getElem? h2⟩
  obtain ⟨i, hi⟩ := List.getElem?_of_mem hm
  exact lookE_no hi hb
theorem flat_take {zss : List (List Int)} {zs : List Int} {j : Nat} (h : zss[j]? = some zs) : (zss.take (j + 1)).flatten = (zss.take j).flatten ++ zs := by
  rw [List.take_add_one, h]; simp
set_option maxRecDepth 100000 in
set_option maxHeartbeats 1600000 in
/-- Look: every number of every list is a row. -/
theorem lookH_any (k : Nat) (ow : Own) (w : World) (t v : Value) (rows : List ND) (zss : List (List Int)) (h : Tab k ow w t rows) (hv : ListsR w v zss) (hl : zss.length ≤ 9223372036854775807) :
    Calls Tryd.prog 12 #[t, v] w fun e w' => e = .returned (.int .i64 (lookE rows zss.flatten)) ∧ Below w.heap.size w w' := by
  have H := Lib.hid h
  have HV := Lib.hid hv
  obtain ⟨va, vc, rfl⟩ : ∃ va vc, v = .slice va zss.length vc := by obtain ⟨xs, hr, _⟩ := hv; exact hr.slice
  have HN : Hid (hasB rows.length (-1) = false) := by simp [Hid, hasB]
  clear h hv
  go_enter Tryd.func12, Tryd.ntmps12
  go_wp2_with (go_at_call 22; refine (not_bad k ow _ _ rows H.out _ HN.out).mono ?_; rintro e w' ⟨rfl, rfl⟩)
  go_loopw [23] (fun u W => ∃ j : Nat, j ≤ zss.length ∧ u = .int .i64 (j : Int) ∧ ((zss.take j).flatten.all fun z => hasB rows.length z) = true ∧ Below w.heap.size w W) (fun u _ => zss.length - (intOf u).toNat)
  case atStart => exact ⟨0, Nat.zero_le _, rfl, by simp, Below.refl _ _⟩
  case round =>
    obtain ⟨j, hj, rfl, hall, hb⟩ := hrel
    have HA := Lib.hid hall; have HB := Lib.hid hb
    clear hall hb
    by_cases hlt : j < zss.length
    · obtain ⟨b, o, c1, x, zs, he, hc1, hzk, hrd, hlen⟩ := (HV.out.below HB.out).at hlt
      cases he
      have HZ := Lib.hid hzk; have HRD := Lib.hid hrd
      have hji : (j : Int) < (zss.length : Int) := by omega
      obtain ⟨xa, xc, rfl⟩ := hrd.slice
      have HF := Lib.hid (flat_take hzk)
      clear hzk hrd
      go_wp2_with fail
      obtain ⟨wo, rfl⟩ : ∃ wo : World, wo = wr := ⟨_, rfl⟩
      go_loopw [29] (fun u W => ∃ i : Nat, i ≤ zs.length ∧ u = .int .i64 (i : Int) ∧ ((zs.take i).all fun z => hasB rows.length z) = true ∧ Below wo.heap.size wo W) (fun u _ => zs.length - (intOf u).toNat)
      case atStart => exact ⟨0, Nat.zero_le _, rfl, by simp, Below.refl _ _⟩
      case round =>
        obtain ⟨i, hi, rfl, hall, hb⟩ := hrel
        have HA2 := Lib.hid hall; have HB2 := Lib.hid hb
        clear hall hb
        by_cases hlt2 : i < zs.length
        · obtain ⟨b2, o2, c2, z, he, hc2, hzi⟩ := ints_at (HRD.out.below HB2.out) hlt2
          cases he
          have HZI := Lib.hid hzi
          have hii : (i : Int) < (zs.length : Int) := by omega
          clear hzi
          cases hz : hasB rows.length z with
          | true =>
            have HS := Lib.hid (all_take (p := fun z => hasB rows.length z) HZI.out)
            have HZT := Lib.hid hz
            obtain ⟨x, rfl, hx⟩ := nat_of_has hz
            have HR := Lib.hid (rowAt_get hx)
            clear hz
            go_wp2_with (go_at_call 14; refine (node_yes k ow _ _ _ (H.out.below (below_trans HB.out HB2.out)) _ _ HR.out).mono ?_; rintro e w4 ⟨rfl, hb4⟩; have HB4 := Lib.hid (below_trans HB2.out hb4); clear hb4)
            exact ⟨⟨i + 1, by omega, by go_num, by rw [HS.out, HA2.out, HZT.out]; rfl, below_trans HB4.out (below_alloc _ _)⟩, by simp [intOf]; omega⟩
          | false =>
            have HE := Lib.hid (flatten_no (rows := rows) HZ.out HZI.out hz)
            go_wp2_with (go_at_call 14; refine (node_no k ow _ _ _ (H.out.below (below_trans HB.out HB2.out)) _ hz).mono ?_; rintro e w4 ⟨rfl, hb4⟩; have HB4 := Lib.hid (below_trans HB.out (below_trans HB2.out hb4)); clear hb4)
            go_ret
            exact ⟨ret_int HE.out.symm, below_trans HB4.out (below_alloc _ _)⟩
        · obtain rfl : i = zs.length := by omega
          have hA := HA2.out
          rw [List.take_length] at hA
          have HAA : Hid (((zss.take (j + 1)).flatten.all fun z => hasB rows.length z) = true) := by
            unfold Hid; rw [HF.out, List.all_append, HA.out, hA]; rfl
          clear hA
          go_wp2_with fail
          exact ⟨⟨j + 1, by omega, by go_num, HAA.out, below_trans HB.out HB2.out⟩, by simp [intOf]; omega⟩
    · obtain rfl : j = zss.length := by omega
      have hA := HA.out
      rw [List.take_length] at hA
      have HE := Lib.hid (lookE_yes hA)
      clear hA
      go_wp2_with fail
      go_ret
      exact ⟨ret_int HE.out.symm, HB.out⟩
end Go.Dk
end

section
namespace Go.Dk
structure KM where
  W : Type
  le : W → W → Prop
  refl : ∀ w, le w w
  trans : ∀ {u v w}, le u v → le v w → le u w
  tr : W → ByteArray → Prop
  mono : ∀ {v w s}, le v w → tr v s → tr w s
def frc (M : KM) : M.W → Fm → Prop
  | w, .atom s => M.tr w s
  | _, .bot => False
  | w, .and a b => frc M w a ∧ frc M w b
  | w, .or a b => frc M w a ∨ frc M w b
  | w, .imp a b => ∀ v, M.le w v → frc M v a → frc M v b
theorem frc_mono {M : KM} {v w : M.W} (h : M.le v w) : ∀ {f : Fm}, frc M v f → frc M w f
  | .atom _, hf => M.mono h hf
  | .bot, hf => hf
  | .and _ _, hf => ⟨frc_mono h hf.1, frc_mono h hf.2⟩
  | .or _ _, hf => hf.elim (fun x => .inl (frc_mono h x)) (fun x => .inr (frc_mono h x))
  | .imp _ _, hf => fun u hu ha => hf u (M.trans h hu) ha
abbrev FS := Fm → Prop
def forcesAll (M : KM) (w : M.W) (Γ : FS) : Prop := ∀ f, Γ f → frc M w f
def Valid (Γ : FS) (g : Fm) : Prop := ∀ (M : KM) (w : M.W), forcesAll M w Γ → frc M w g
def Refut (Γ : FS) (g : Fm) : Prop := ∃ (M : KM) (w : M.W), forcesAll M w Γ ∧ ¬ frc M w g
/-- The left side without one formula, and with others. -/
def wo (Γ : FS) (m : Fm) : FS := fun f => Γ f ∧ f ≠ m
def wi (Γ : FS) (a : Fm) : FS := fun f => Γ f ∨ f = a
theorem forces_wi {M : KM} {w : M.W} {Γ : FS} {a : Fm} : forcesAll M w (wi Γ a) ↔ forcesAll M w Γ ∧ frc M w a :=
  ⟨fun h => ⟨fun f hf => h f (.inl hf), h a (.inr rfl)⟩, fun h f hf => hf.elim (h.1 f) (fun e => e ▸ h.2)⟩
theorem forces_wo {M : KM} {w : M.W} {Γ : FS} {m : Fm} (hm : Γ m) : forcesAll M w Γ ↔ forcesAll M w (wo Γ m) ∧ frc M w m :=
  ⟨fun h => ⟨fun f hf => h f hf.1, h m hm⟩, fun h f hf => Classical.byCases (fun e : f = m => e ▸ h.2) (fun e => h.1 f ⟨hf, e⟩)⟩
/-- A rule with one premise that says the same. -/
theorem rule_same {Γ Δ : FS} {g : Fm} (h : ∀ (M : KM) (w : M.W), forcesAll M w Γ ↔ forcesAll M w Δ) : (Valid Δ g → Valid Γ g) ∧ (Refut Δ g → Refut Γ g) :=
  ⟨fun hv M w hw => hv M w ((h M w).1 hw), fun ⟨M, w, h1, h2⟩ => ⟨M, w, (h M w).2 h1, h2⟩⟩
theorem valid_bot {Γ : FS} {g : Fm} (h : Γ .bot) : Valid Γ g := fun _ _ hw => (hw _ h).elim
theorem valid_id {Γ : FS} {g : Fm} (h : Γ g) : Valid Γ g := fun _ _ hw => hw _ h
theorem rule_andL {Γ : FS} {a b g : Fm} (h : Γ (.and a b)) : (Valid (wi (wi (wo Γ (.and a b)) a) b) g → Valid Γ g) ∧ (Refut (wi (wi (wo Γ (.and a b)) a) b) g → Refut Γ g) :=
  rule_same fun M w => by rw [forces_wi, forces_wi, forces_wo h]; simp only [frc, and_assoc]
theorem rule_impAtom {Γ : FS} {s : ByteArray} {b g : Fm} (h : Γ (.imp (.atom s) b)) (hs : Γ (.atom s)) : (Valid (wi (wo Γ (.imp (.atom s) b)) b) g → Valid Γ g) ∧ (Refut (wi (wo Γ (.imp (.atom s) b)) b) g → Refut Γ g) :=
  rule_same fun M w => by
    rw [forces_wi, forces_wo h]
    refine and_congr_right fun h1 => ?_
    have ha : frc M w (.atom s) := h1 _ ⟨hs, by simp⟩
    exact ⟨fun hi => hi w (M.refl w) ha, fun hb v hv _ => frc_mono hv hb⟩
theorem rule_impBot {Γ : FS} {b g : Fm} (h : Γ (.imp .bot b)) : (Valid (wo Γ (.imp .bot b)) g → Valid Γ g) ∧ (Refut (wo Γ (.imp .bot b)) g → Refut Γ g) :=
  rule_same fun M w => by
    rw [forces_wo h]
    exact ⟨fun h1 => h1.1, fun h1 => ⟨h1, fun v _ hb => hb.elim⟩⟩
theorem rule_impAnd {Γ : FS} {c d b g : Fm} (h : Γ (.imp (.and c d) b)) : (Valid (wi (wo Γ (.imp (.and c d) b)) (.imp c (.imp d b))) g → Valid Γ g) ∧ (Refut (wi (wo Γ (.imp (.and c d) b)) (.imp c (.imp d b))) g → Refut Γ g) :=
  rule_same fun M w => by
    rw [forces_wi, forces_wo h]
    refine and_congr_right fun _ => ?_
    exact ⟨fun hi v hv hc u hu hd => hi u (M.trans hv hu) ⟨frc_mono hu hc, hd⟩, fun hi v hv hcd => hi v hv hcd.1 v (M.refl v) hcd.2⟩
theorem rule_impOr {Γ : FS} {c d b g : Fm} (h : Γ (.imp (.or c d) b)) : (Valid (wi (wi (wo Γ (.imp (.or c d) b)) (.imp c b)) (.imp d b)) g → Valid Γ g) ∧ (Refut (wi (wi (wo Γ (.imp (.or c d) b)) (.imp c b)) (.imp d b)) g → Refut Γ g) :=
  rule_same fun M w => by
    rw [forces_wi, forces_wi, forces_wo h, and_assoc]
    refine and_congr_right fun _ => ?_
    exact ⟨fun hi => ⟨fun v hv hc => hi v hv (.inl hc), fun v hv hd => hi v hv (.inr hd)⟩, fun hi v hv hcd => hcd.elim (hi.1 v hv) (hi.2 v hv)⟩
theorem rule_impR {Γ : FS} {a b : Fm} : (Valid (wi Γ a) b → Valid Γ (.imp a b)) ∧ (Refut (wi Γ a) b → Refut Γ (.imp a b)) :=
  ⟨fun hv M _w hw v hwv ha => hv M v (forces_wi.2 ⟨fun f hf => frc_mono hwv (hw f hf), ha⟩),
   fun ⟨M, w, h1, h2⟩ => ⟨M, w, (forces_wi.1 h1).1, fun hi => h2 (hi w (M.refl w) (forces_wi.1 h1).2)⟩⟩
theorem rule_andR {Γ : FS} {a b : Fm} : (Valid Γ a → Valid Γ b → Valid Γ (.and a b)) ∧ (Refut Γ a → Refut Γ (.and a b)) ∧ (Refut Γ b → Refut Γ (.and a b)) :=
  ⟨fun h1 h2 M w hw => ⟨h1 M w hw, h2 M w hw⟩, fun ⟨M, w, h1, h2⟩ => ⟨M, w, h1, fun h => h2 h.1⟩, fun ⟨M, w, h1, h2⟩ => ⟨M, w, h1, fun h => h2 h.2⟩⟩
theorem rule_orL {Γ : FS} {a b g : Fm} (h : Γ (.or a b)) : (Valid (wi (wo Γ (.or a b)) a) g → Valid (wi (wo Γ (.or a b)) b) g → Valid Γ g) ∧ (Refut (wi (wo Γ (.or a b)) a) g → Refut Γ g) ∧ (Refut (wi (wo Γ (.or a b)) b) g → Refut Γ g) := by
  refine ⟨fun h1 h2 M w hw => ?_, fun ⟨M, w, h1, h2⟩ => ⟨M, w, ?_, h2⟩, fun ⟨M, w, h1, h2⟩ => ⟨M, w, ?_, h2⟩⟩
  · have := (forces_wo h).1 hw
    rcases this.2 with ha | hb
    · exact h1 M w (forces_wi.2 ⟨this.1, ha⟩)
    · exact h2 M w (forces_wi.2 ⟨this.1, hb⟩)
  · have := forces_wi.1 h1; exact (forces_wo h).2 ⟨this.1, .inl this.2⟩
  · have := forces_wi.1 h1; exact (forces_wo h).2 ⟨this.1, .inr this.2⟩
theorem rule_orR {Γ : FS} {a b : Fm} : (Valid Γ a → Valid Γ (.or a b)) ∧ (Valid Γ b → Valid Γ (.or a b)) := ⟨fun h M w hw => .inl (h M w hw), fun h M w hw => .inr (h M w hw)⟩
theorem rule_impImp {Γ : FS} {c d b g : Fm} (h : Γ (.imp (.imp c d) b)) :
    (Valid (wi (wo Γ (.imp (.imp c d) b)) (.imp d b)) (.imp c d) → Valid (wi (wo Γ (.imp (.imp c d) b)) b) g → Valid Γ g) ∧ (Refut (wi (wo Γ (.imp (.imp c d) b)) b) g → Refut Γ g) := by
  refine ⟨fun h1 h2 M w hw => ?_, fun ⟨M, w, h1, h2⟩ => ⟨M, w, ?_, h2⟩⟩
  · have hm := (forces_wo h).1 hw
    have hdb : frc M w (.imp d b) := fun v hv hd => hm.2 v hv fun u hu _ => frc_mono hu hd
    have hcd := h1 M w (forces_wi.2 ⟨hm.1, hdb⟩)
    exact h2 M w (forces_wi.2 ⟨hm.1, hm.2 w (M.refl w) hcd⟩)
  · have := forces_wi.1 h1
    exact (forces_wo h).2 ⟨this.1, fun v hv _ => frc_mono hv this.2⟩
/-- A world below some worlds of some models. -/
def glue {ι : Type} (Ms : ι → KM) (ws : ∀ i, (Ms i).W) (at0 : ByteArray → Prop) (h : ∀ s, at0 s → ∀ i, (Ms i).tr (ws i) s) : KM where
  W := Option (Σ i, (Ms i).W)
  le := fun a b => match a, b with
    | none, none => True
    | none, some ⟨i, v⟩ => (Ms i).le (ws i) v
    | some _, none => False
    | some ⟨i, u⟩, some ⟨j, v⟩ => ∃ e : i = j, (Ms j).le (e ▸ u) v
  refl := fun a => match a with
    | none => trivial
    | some ⟨i, u⟩ => ⟨rfl, (Ms i).refl u⟩
  trans := fun {a b c} h1 h2 => match a, b, c, h1, h2 with
    | none, none, none, _, _ => trivial
    | none, none, some _, _, h2 => h2
    | none, some ⟨i, u⟩, some ⟨j, v⟩, h1, ⟨e, h2⟩ => by subst e; exact (Ms i).trans h1 h2
    | some ⟨i, u⟩, some ⟨j, v⟩, some ⟨k, w⟩, ⟨e1, h1⟩, ⟨e2, h2⟩ => by subst e1; subst e2; exact ⟨rfl, (Ms i).trans h1 h2⟩
  tr := fun a s => match a with
    | none => at0 s
    | some ⟨i, u⟩ => (Ms i).tr u s
  mono := fun {a b s} h1 h2 => match a, b, h1, h2 with
    | none, none, _, h2 => h2
    | none, some ⟨i, u⟩, h1, h2 => (Ms i).mono h1 (h s h2 i)
    | some ⟨i, u⟩, some ⟨j, v⟩, ⟨e, h1⟩, h2 => by subst e; exact (Ms i).mono h1 h2
section
variable {ι : Type} {Ms : ι → KM} {ws : ∀ i, (Ms i).W} {at0 : ByteArray → Prop} {h : ∀ s, at0 s → ∀ i, (Ms i).tr (ws i) s}
theorem glue_same (i : ι) : ∀ (f : Fm) (u : (Ms i).W), frc (glue Ms ws at0 h) (some ⟨i, u⟩) f ↔ frc (Ms i) u f
  | .atom _, _ => Iff.rfl
  | .bot, _ => Iff.rfl
  | .and a b, u => and_congr (glue_same i a u) (glue_same i b u)
  | .or a b, u => or_congr (glue_same i a u) (glue_same i b u)
  | .imp a b, u => by
    constructor
    · intro hf v hv ha
      exact (glue_same i b v).1 (hf (some ⟨i, v⟩) ⟨rfl, hv⟩ ((glue_same i a v).2 ha))
    · intro hf v hv ha
      match v, hv, ha with
      | some ⟨j, v⟩, ⟨e, hv⟩, ha =>
        subst e
        exact (glue_same i b v).2 (hf v hv ((glue_same i a v).1 ha))
/-- The new world forces an implication, just if what stands above does and it itself does not part. -/
theorem glue_imp (a b : Fm) : frc (glue Ms ws at0 h) none (.imp a b) ↔ (frc (glue Ms ws at0 h) none a → frc (glue Ms ws at0 h) none b) ∧ ∀ i, frc (Ms i) (ws i) (.imp a b) := by
  constructor
  · intro hf
    exact ⟨hf none trivial, fun i v hv ha => (glue_same i b v).1 (hf (some ⟨i, v⟩) hv ((glue_same i a v).2 ha))⟩
  · rintro ⟨h1, h2⟩ v hv ha
    match v, hv, ha with
    | none, _, ha => exact h1 ha
    | some ⟨i, v⟩, hv, ha => exact (glue_same i b v).2 (h2 i v hv ((glue_same i a v).1 ha))
theorem glue_up {f : Fm} (hf : frc (glue Ms ws at0 h) none f) (i : ι) : frc (Ms i) (ws i) f :=
  (glue_same i f (ws i)).1 (frc_mono (M := glue Ms ws at0 h) (v := none) (w := some ⟨i, ws i⟩) ((Ms i).refl (ws i)) hf)
end
/-- A left side that no rule takes apart but the choices. -/
structure Stuck (Γ : FS) (g : Fm) : Prop where
  left : ∀ f, Γ f → (∃ s, f = .atom s) ∨ (∃ s b, f = .imp (.atom s) b ∧ ¬ Γ (.atom s)) ∨ ∃ c d b, f = .imp (.imp c d) b
  goal : (∃ s, g = .atom s ∧ ¬ Γ (.atom s)) ∨ g = .bot ∨ ∃ a b, g = .or a b
theorem stuck_refuted {Γ : FS} {g : Fm} (hs : Stuck Γ g) (h1 : ∀ a b, g = .or a b → Refut Γ a ∧ Refut Γ b) (h2 : ∀ c d b, Γ (.imp (.imp c d) b) → Refut (wi (wo Γ (.imp (.imp c d) b)) (.imp d b)) (.imp c d)) : Refut Γ g := by
  -- one model for each choice
  let Ok (f : Fm) : Prop := (∃ a b, g = .or a b ∧ (f = a ∨ f = b)) ∨ ∃ c d b, f = .imp (.imp c d) b ∧ Γ f
  -- in each of them all of Γ is forced, and the choice's own goal is not
  have key : ∀ f, Ok f → ∃ (M : KM) (w : M.W), forcesAll M w Γ ∧ (∀ a b, g = .or a b → f = a ∨ f = b → ¬ frc M w f) ∧ (∀ c d b, f = .imp (.imp c d) b → Γ f → ¬ (∃ a b, g = .or a b ∧ (f = a ∨ f = b)) → ¬ frc M w (.imp c d)) := by
    intro f hf
    by_cases hor : ∃ a b, g = .or a b ∧ (f = a ∨ f = b)
    · obtain ⟨a, b, hg, hab⟩ := hor
      obtain ⟨ra, rb⟩ := h1 a b hg
      rcases hab with rfl | rfl
      · obtain ⟨M, w, f1, f2⟩ := ra
        exact ⟨M, w, f1, fun _ _ _ _ => f2, fun _ _ _ _ _ hn => absurd ⟨_, _, hg, .inl rfl⟩ hn⟩
      · obtain ⟨M, w, f1, f2⟩ := rb
        exact ⟨M, w, f1, fun _ _ _ _ => f2, fun _ _ _ _ _ hn => absurd ⟨_, _, hg, .inr rfl⟩ hn⟩
    · rcases hf with h | ⟨c, d, b, rfl, hΓ⟩
      · exact absurd h hor
      · obtain ⟨M, w, f1, f2⟩ := h2 c d b hΓ
        have : ∃ v, M.le w v ∧ frc M v c ∧ ¬ frc M v d := by
          apply Classical.byContradiction
          intro hn
          refine f2 fun v hv hc => Classical.byContradiction fun hd => hn ⟨v, hv, hc, hd⟩
        obtain ⟨v, hv, hc, hd⟩ := this
        obtain ⟨g1, g2⟩ := forces_wi.1 f1
        refine ⟨M, v, (forces_wo hΓ).2 ⟨fun f hf => frc_mono hv (g1 f hf), fun u hu hcd => ?_⟩, fun a b hg hab => absurd ⟨a, b, hg, hab⟩ hor, fun c' d' b' e _ _ hcd => ?_⟩
        · exact g2 u (M.trans hv hu) (hcd u (M.refl u) (frc_mono hu hc))
        · simp only [Fm.imp.injEq] at e
          obtain ⟨⟨rfl, rfl⟩, rfl⟩ := e
          exact hd (hcd v (M.refl v) hc)
  let ι := { f : Fm // Ok f }
  have key' : ∀ i : ι, ∃ p : (Σ M : KM, M.W), forcesAll p.1 p.2 Γ ∧ (∀ a b, g = .or a b → i.1 = a ∨ i.1 = b → ¬ frc p.1 p.2 i.1) ∧ (∀ c d b, i.1 = .imp (.imp c d) b → Γ i.1 → ¬ (∃ a b, g = .or a b ∧ (i.1 = a ∨ i.1 = b)) → ¬ frc p.1 p.2 (.imp c d)) := fun i => by
    obtain ⟨M, w, h⟩ := key i.1 i.2; exact ⟨⟨M, w⟩, h⟩
  obtain ⟨P, hP⟩ := Classical.axiomOfChoice key'
  have hat : ∀ s, Γ (.atom s) → ∀ i : ι, (P i).1.tr (P i).2 s := fun s hs i => (hP i).1 _ hs
  refine ⟨glue (fun i => (P i).1) (fun i => (P i).2) (fun s => Γ (.atom s)) hat, none, fun f hf => ?_, fun hg => ?_⟩
  · rcases hs.left f hf with ⟨s, rfl⟩ | ⟨s, b, rfl, hn⟩ | ⟨c, d, b, rfl⟩
    · exact hf
    · exact (glue_imp _ _).2 ⟨fun ha => absurd ha hn, fun i => (hP i).1 _ hf⟩
    · refine (glue_imp _ _).2 ⟨fun hcd => ?_, fun i => (hP i).1 _ hf⟩
      exfalso
      let i : ι := ⟨_, .inr ⟨c, d, b, rfl, hf⟩⟩
      have hup := glue_up hcd i
      by_cases hor : ∃ a' b', g = .or a' b' ∧ (Fm.imp (.imp c d) b = a' ∨ Fm.imp (.imp c d) b = b')
      · obtain ⟨a', b', hg', hab⟩ := hor
        exact (hP i).2.1 a' b' hg' hab ((hP i).1 _ hf)
      · exact (hP i).2.2 c d b rfl hf hor hup
  · rcases hs.goal with ⟨s, rfl, hn⟩ | rfl | ⟨a, b, rfl⟩
    · exact hn hg
    · exact hg
    · rcases hg with ha | hb
      · exact (hP ⟨a, .inl ⟨a, b, rfl, .inl rfl⟩⟩).2.1 a b rfl (.inl rfl) (glue_up ha _)
      · exact (hP ⟨b, .inl ⟨a, b, rfl, .inr rfl⟩⟩).2.1 a b rfl (.inr rfl) (glue_up hb _)
end Go.Dk
end

section
namespace Go.Dk
/-- A sequent: the numbers on the left side as bits of one number. -/
structure SQ where
  left : Nat
  goal : Nat
deriving DecidableEq
structure SS where
  seq : SQ
  proved : Bool
  rule : Int
  main : Nat
  kids : List Nat
def withB (s : Nat) (n : Nat) : Nat := s ||| (1 <<< n)
def dropB (s : Nat) (n : Nat) : Nat := if s.testBit n then s ^^^ (1 <<< n) else s
theorem testBit_with (s n m : Nat) : (withB s n).testBit m = (s.testBit m || decide (m = n)) := by
  unfold withB
  rw [Nat.testBit_or, Nat.one_shiftLeft, Nat.testBit_two_pow]
  congr 1
  exact decide_eq_decide.2 ⟨Eq.symm, Eq.symm⟩
theorem testBit_drop (s n m : Nat) : (dropB s n).testBit m = (s.testBit m && decide (m ≠ n)) := by
  unfold dropB
  split
  · rename_i h
    rw [Nat.testBit_xor, Nat.one_shiftLeft, Nat.testBit_two_pow]
    by_cases e : m = n
    · subst e; simp [h]
    · have : ¬ n = m := fun h => e h.symm
      simp [e, this]
  · rename_i h
    by_cases e : m = n
    · subst e; simp [h]
    · simp [e]
/-- By which rule a formula on the left is taken apart; 0: by none. -/
def onP (rows : List ND) (s : SQ) (main : Nat) : Int :=
  let x := rowAt rows main
  if x.kind = 2 then 1 else if x.kind = 3 then 3 else if x.kind = 4 then 10 else if x.kind = 5 then
    let y := rowAt rows x.l.toNat
    if y.kind = 1 then (if s.left.testBit x.l.toNat then 4 else 0) else if y.kind = 2 then 5 else if y.kind = 3 then 6 else if y.kind = 4 then 7 else if y.kind = 5 then 13 else 0
  else 0
/-- The least formula on the left that one of some rules takes apart. -/
def leastP (rows : List ND) (s : SQ) (p : Int → Bool) : Option (Int × Nat) :=
  ((List.range rows.length).find? fun i => s.left.testBit i && p (onP rows s i)).map fun i => (onP rows s i, i)
def applyP (rows : List ND) (s : SQ) : Int × Nat :=
  match leastP rows s (fun k => k == 1) with
  | some x => x
  | none =>
    if s.left.testBit s.goal then (2, s.goal) else
    match leastP rows s (fun k => decide (3 ≤ k) && decide (k ≤ 7)) with
    | some x => x
    | none =>
      if (rowAt rows s.goal).kind = 5 then (8, s.goal) else
      if (rowAt rows s.goal).kind = 3 then (9, s.goal) else
      match leastP rows s (fun k => k == 10) with
      | some x => x
      | none => (14, 0)
def choicesP (rows : List ND) (s : SQ) : List (Int × Nat) :=
  (if (rowAt rows s.goal).kind = 4 then [(11, s.goal), (12, s.goal)] else []) ++ (((List.range rows.length).filter fun i => s.left.testBit i && onP rows s i == 13).map fun i => (13, i))
/-- Premises: the table's rows behind it, an error, the sequents. -/
structure Prem where
  rows : List ND
  err : Int
  seqs : List SQ
def impN (a b : Int) : ND := ⟨5, ByteArray.empty, a, b⟩
/-- One implication put, and what then comes. -/
def putK (rows0 rows : List ND) (a b : Int) (k : List ND → Nat → Prem) : Prem :=
  let p := put rows (impN a b)
  if p.err ≠ 0 then ⟨rows0, p.err, []⟩ else k p.rows p.id.toNat
def premisesP (rows : List ND) (s : SQ) (k : Int) (main : Nat) : Prem :=
  let x := rowAt rows main
  let y := rowAt rows x.l.toNat
  let rest := dropB s.left main
  if k = 3 then ⟨rows, 0, [⟨withB (withB rest x.l.toNat) x.r.toNat, s.goal⟩]⟩
  else if k = 4 then ⟨rows, 0, [⟨withB rest x.r.toNat, s.goal⟩]⟩
  else if k = 5 then ⟨rows, 0, [⟨rest, s.goal⟩]⟩
  else if k = 6 then putK rows rows y.r x.r fun rows1 f => putK rows rows1 y.l f fun rows2 g => ⟨rows2, 0, [⟨withB rest g, s.goal⟩]⟩
  else if k = 7 then putK rows rows y.l x.r fun rows1 f => putK rows rows1 y.r x.r fun rows2 g => ⟨rows2, 0, [⟨withB (withB rest f) g, s.goal⟩]⟩
  else if k = 8 then ⟨rows, 0, [⟨withB s.left x.l.toNat, x.r.toNat⟩]⟩
  else if k = 9 then ⟨rows, 0, [⟨s.left, x.l.toNat⟩, ⟨s.left, x.r.toNat⟩]⟩
  else if k = 10 then ⟨rows, 0, [⟨withB rest x.l.toNat, s.goal⟩, ⟨withB rest x.r.toNat, s.goal⟩]⟩
  else if k = 11 then ⟨rows, 0, [⟨s.left, x.l.toNat⟩]⟩
  else if k = 12 then ⟨rows, 0, [⟨s.left, x.r.toNat⟩]⟩
  else if k = 13 then putK rows rows y.r x.r fun rows1 f => ⟨rows1, 0, [⟨withB rest f, x.l.toNat⟩, ⟨withB rest x.r.toNat, s.goal⟩]⟩
  else ⟨rows, 0, []⟩
/-- A search on its way. -/
structure SR where
  rows : List ND
  steps : List SS
  left : Nat
structure SA where
  st : SR
  err : Int
  at_ : Nat
def provedAt (st : SR) (i : Nat) : Bool := ((st.steps[i]?).map (·.proved)).getD false
def endS (st : SR) (x : SS) : SA := ⟨⟨st.rows, st.steps ++ [x], st.left⟩, 0, st.steps.length⟩
/-- The premises one behind the other. -/
def kidsF (dec : SR → SQ → SA) (s : SQ) (k : Int) (main : Nat) : List SQ → SR → List Nat → SA
  | [], st, kids => endS st ⟨s, true, k, main, kids⟩
  | p :: t, st, kids =>
    if (dec st p).err ≠ 0 then ⟨(dec st p).st, (dec st p).err, 0⟩
    else if provedAt (dec st p).st (dec st p).at_ then kidsF dec s k main t (dec st p).st (kids ++ [(dec st p).at_]) else endS (dec st p).st ⟨s, false, k, main, [(dec st p).at_]⟩
/-- The choices one behind the other. -/
def chooseF (dec : SR → SQ → SA) (s : SQ) : List (Int × Nat) → SR → List Nat → SA
  | [], st, stuck => endS st ⟨s, false, 14, 0, stuck⟩
  | c :: t, st, stuck =>
    let p := premisesP st.rows s c.1 c.2
    if p.err ≠ 0 then ⟨st, p.err, 0⟩
    else
      match p.seqs with
      | [] => endS ⟨p.rows, st.steps, st.left⟩ ⟨s, true, c.1, c.2, []⟩
      | q :: more =>
        let r := dec ⟨p.rows, st.steps, st.left⟩ q
        if r.err ≠ 0 then ⟨r.st, r.err, 0⟩
        else if provedAt r.st r.at_ then
          match more with
          | [] => endS r.st ⟨s, true, c.1, c.2, [r.at_]⟩
          | q2 :: _ =>
            let r2 := dec r.st q2
            if r2.err ≠ 0 then ⟨r2.st, r2.err, 0⟩
            else if provedAt r2.st r2.at_ then endS r2.st ⟨s, true, c.1, c.2, [r.at_, r2.at_]⟩ else endS r2.st ⟨s, false, c.1, c.2, [r2.at_]⟩
        else chooseF dec s t r.st (stuck ++ [r.at_])
end Go.Dk
end

section
namespace Go.Dk
structure Wf (rows : List ND) (s : SQ) : Prop where
  left : ∀ i, s.left.testBit i = true → i < rows.length
  goal : s.goal < rows.length
def gam (rows : List ND) (l : Nat) : FS := fun f => ∃ i, l.testBit i = true ∧ tree rows i = f
def ValidS (rows : List ND) (s : SQ) : Prop := Valid (gam rows s.left) (tree rows s.goal)
def RefutS (rows : List ND) (s : SQ) : Prop := Refut (gam rows s.left) (tree rows s.goal)
theorem Wf.ext {rows rows' : List ND} {s : SQ} (h : Wf rows s) (hp : rows <+: rows') : Wf rows' s :=
  ⟨fun i hi => Nat.lt_of_lt_of_le (h.left i hi) (prefix_length hp), Nat.lt_of_lt_of_le h.goal (prefix_length hp)⟩
theorem gam_ext {rows rows' : List ND} {l : Nat} (h : ∀ i, l.testBit i = true → i < rows.length) (hp : rows <+: rows') : gam rows' l = gam rows l := by
  funext f
  apply propext
  constructor
  · rintro ⟨i, hi, rfl⟩; exact ⟨i, hi, (tree_prefix hp (h i hi)).symm⟩
  · rintro ⟨i, hi, rfl⟩; exact ⟨i, hi, tree_prefix hp (h i hi)⟩
theorem valid_ext {rows rows' : List ND} {s : SQ} (h : Wf rows s) (hp : rows <+: rows') : ValidS rows' s ↔ ValidS rows s := by
  unfold ValidS; rw [gam_ext h.left hp, tree_prefix hp h.goal]
theorem refut_ext {rows rows' : List ND} {s : SQ} (h : Wf rows s) (hp : rows <+: rows') : RefutS rows' s ↔ RefutS rows s := by
  unfold RefutS; rw [gam_ext h.left hp, tree_prefix hp h.goal]
theorem gam_with (rows : List ND) (l n : Nat) : gam rows (withB l n) = wi (gam rows l) (tree rows n) := by
  funext f
  apply propext
  unfold gam wi
  constructor
  · rintro ⟨i, hi, rfl⟩
    rw [testBit_with] at hi
    simp only [Bool.or_eq_true, decide_eq_true_eq] at hi
    rcases hi with hi | rfl
    · exact .inl ⟨i, hi, rfl⟩
    · exact .inr rfl
  · rintro (⟨i, hi, rfl⟩ | rfl)
    · exact ⟨i, by rw [testBit_with, hi]; rfl, rfl⟩
    · exact ⟨n, by rw [testBit_with]; simp, rfl⟩
theorem gam_drop {rows : List ND} (ok : Ok rows) {l n : Nat} (h : ∀ i, l.testBit i = true → i < rows.length) (hn : n < rows.length) : gam rows (dropB l n) = wo (gam rows l) (tree rows n) := by
  funext f
  apply propext
  unfold gam wo
  constructor
  · rintro ⟨i, hi, rfl⟩
    rw [testBit_drop] at hi
    simp only [Bool.and_eq_true, decide_eq_true_eq] at hi
    exact ⟨⟨i, hi.1, rfl⟩, fun e => hi.2 (tree_inj ok (h i hi.1) hn e)⟩
  · rintro ⟨⟨i, hi, rfl⟩, hne⟩
    exact ⟨i, by rw [testBit_drop, hi]; simp; rintro rfl; exact hne rfl, rfl⟩
theorem with_lt {l n m : Nat} (h : ∀ i, l.testBit i = true → i < m) (hn : n < m) : ∀ i, (withB l n).testBit i = true → i < m := by
  intro i hi
  rw [testBit_with] at hi
  simp only [Bool.or_eq_true, decide_eq_true_eq] at hi
  rcases hi with hi | rfl
  · exact h i hi
  · exact hn
theorem drop_lt {l n m : Nat} (h : ∀ i, l.testBit i = true → i < m) : ∀ i, (dropB l n).testBit i = true → i < m := by
  intro i hi
  rw [testBit_drop] at hi
  simp only [Bool.and_eq_true] at hi
  exact h i hi.1
/-- A rule's premises decide. -/
structure RuleInv (rows : List ND) (s : SQ) (prems : List SQ) : Prop where
  wf : ∀ p ∈ prems, Wf rows p
  sound : (∀ p ∈ prems, ValidS rows p) → ValidS rows s
  back : ∀ p ∈ prems, RefutS rows p → RefutS rows s
theorem RuleInv.one {rows : List ND} {s p : SQ} (w : Wf rows p) (h : (ValidS rows p → ValidS rows s) ∧ (RefutS rows p → RefutS rows s)) : RuleInv rows s [p] :=
  ⟨fun q hq => by simp only [List.mem_singleton] at hq; subst hq; exact w, fun hv => h.1 (hv p (by simp)), fun q hq => by simp only [List.mem_singleton] at hq; subst hq; exact h.2⟩
theorem RuleInv.two {rows : List ND} {s p q : SQ} (w : Wf rows p) (w2 : Wf rows q) (h : (ValidS rows p → ValidS rows q → ValidS rows s) ∧ (RefutS rows p → RefutS rows s) ∧ (RefutS rows q → RefutS rows s)) : RuleInv rows s [p, q] := by
  refine ⟨fun x hx => ?_, fun hv => h.1 (hv p (by simp)) (hv q (by simp)), fun x hx => ?_⟩ <;> simp only [List.mem_cons, List.not_mem_nil, or_false] at hx
  · rcases hx with rfl | rfl
    · exact w
    · exact w2
  · rcases hx with rfl | rfl
    · exact h.2.1
    · exact h.2.2
/-- An implication put: its number, its tree. -/
theorem putK_ok {rows : List ND} (ok : Ok rows) {a b : Nat} (ha : a < rows.length) (hb : b < rows.length) {rows0 : List ND} {k : List ND → Nat → Prem} (he : (putK rows0 rows a b k).err = 0) :
    ∃ (rows1 : List ND) (f : Nat), putK rows0 rows a b k = k rows1 f ∧ Ok rows1 ∧ rows <+: rows1 ∧ f < rows1.length ∧ tree rows1 f = .imp (tree rows a) (tree rows b) := by
  unfold putK at he ⊢
  simp only at he ⊢
  by_cases hz : (put rows (impN a b)).err = 0
  · rw [if_neg (by simpa using hz)] at he ⊢
    obtain ⟨o1, o2, i, o3, o4, o5⟩ := imgOk_two ok (.inr (.inr rfl)) ha hb hz
    refine ⟨_, _, rfl, o1, o2, ?_, ?_⟩
    · show ((put rows ⟨5, ByteArray.empty, a, b⟩).id).toNat < _
      rw [o3]; simp only [Int.toNat_natCast]; exact o4
    · show tree (put rows ⟨5, ByteArray.empty, a, b⟩).rows ((put rows ⟨5, ByteArray.empty, a, b⟩).id).toNat = _
      rw [o3]; simp only [Int.toNat_natCast]; rw [o5]; simp [treeOf]
  · rw [if_pos hz] at he; exact absurd he hz
/-- What is known of a formula on the left by its rule. -/
theorem on_row {rows : List ND} (ok : Ok rows) {s : SQ} {main : Nat} (hm : main < rows.length) {k : Int} (hk : onP rows s main = k) (h0 : k ≠ 0) :
    (k = 1 ∧ tree rows main = .bot) ∨
    (∃ l r : Nat, l < main ∧ r < main ∧ rowAt rows main = ⟨3, ByteArray.empty, l, r⟩ ∧ k = 3 ∧ tree rows main = .and (tree rows l) (tree rows r)) ∨
    (∃ l r : Nat, l < main ∧ r < main ∧ rowAt rows main = ⟨4, ByteArray.empty, l, r⟩ ∧ k = 10 ∧ tree rows main = .or (tree rows l) (tree rows r)) ∨
    ∃ l r : Nat, l < main ∧ r < main ∧ rowAt rows main = ⟨5, ByteArray.empty, l, r⟩ ∧ tree rows main = .imp (tree rows l) (tree rows r) ∧
      ((k = 4 ∧ s.left.testBit l = true ∧ ∃ a, tree rows l = .atom a) ∨ (k = 5 ∧ tree rows l = .bot) ∨
        ∃ x y : Nat, x < l ∧ y < l ∧ ((k = 6 ∧ rowAt rows l = ⟨3, ByteArray.empty, x, y⟩ ∧ tree rows l = .and (tree rows x) (tree rows y)) ∨ (k = 7 ∧ rowAt rows l = ⟨4, ByteArray.empty, x, y⟩ ∧ tree rows l = .or (tree rows x) (tree rows y)) ∨
          (k = 13 ∧ rowAt rows l = ⟨5, ByteArray.empty, x, y⟩ ∧ tree rows l = .imp (tree rows x) (tree rows y)))) := by
  have hrow := rowAt_get hm
  unfold onP at hk
  simp only at hk
  generalize hN : rowAt rows main = n at *
  rcases tree_row ok hrow with ⟨a, rfl, ht, hw⟩ | ⟨rfl, ht⟩ | ⟨x, y, hx, hy, ht⟩
  · simp at hk; exact absurd hk.symm h0
  · simp at hk; exact .inl ⟨hk.symm, ht⟩
  · rcases ht with ⟨rfl, ht⟩ | ⟨rfl, ht⟩ | ⟨rfl, ht⟩
    · simp at hk; exact .inr (.inl ⟨x, y, hx, hy, rfl, hk.symm, ht⟩)
    · simp at hk; exact .inr (.inr (.inl ⟨x, y, hx, hy, rfl, hk.symm, ht⟩))
    · simp only [show ¬ (5 : Int) = 2 by decide, show ¬ (5 : Int) = 3 by decide, show ¬ (5 : Int) = 4 by decide, if_false, if_true, Int.toNat_natCast] at hk
      refine .inr (.inr (.inr ⟨x, y, hx, hy, rfl, ht, ?_⟩))
      have hrl := rowAt_get (rows := rows) (i := x) (by omega)
      rcases tree_row ok hrl with ⟨a, e2, ht2, hw⟩ | ⟨e2, ht2⟩ | ⟨u, v, hu, hv, ht2⟩
      · simp [e2] at hk
        split at hk
        · rename_i hb; exact .inl ⟨hk.symm, hb, a, ht2⟩
        · exact absurd hk.symm h0
      · simp [e2] at hk; exact .inr (.inl ⟨hk.symm, ht2⟩)
      · right; right
        refine ⟨u, v, hu, hv, ?_⟩
        rcases ht2 with ⟨e2, ht2⟩ | ⟨e2, ht2⟩ | ⟨e2, ht2⟩
        · simp [e2] at hk; exact .inl ⟨hk.symm, e2, ht2⟩
        · simp [e2] at hk; exact .inr (.inl ⟨hk.symm, e2, ht2⟩)
        · simp [e2] at hk; exact .inr (.inr ⟨hk.symm, e2, ht2⟩)
structure PremOk (rows : List ND) (s : SQ) (p : Prem) : Prop where
  ok : Ok p.rows
  pre : rows <+: p.rows
  inv : RuleInv p.rows s p.seqs
theorem premOk {rows rows' : List ND} {s : SQ} {l : List SQ} (ok : Ok rows') (hp : rows <+: rows') (h : RuleInv rows' s l) : PremOk rows s ⟨rows', 0, l⟩ := ⟨ok, hp, h⟩
section
variable {rows : List ND} (ok : Ok rows) {s : SQ} (wf : Wf rows s)
include ok wf
/-- The rules on the left that are no choice. -/
theorem left_ok {main : Nat} (hb : s.left.testBit main = true) {k : Int} (hk : onP rows s main = k) (h0 : k ≠ 0) (h13 : k ≠ 13) (he : (premisesP rows s k main).err = 0) : PremOk rows s (premisesP rows s k main) := by
  have hm := wf.left main hb
  have hg : gam rows s.left (tree rows main) := ⟨main, hb, rfl⟩
  have hd := gam_drop ok wf.left hm
  have dl : ∀ i, (dropB s.left main).testBit i = true → i < rows.length := drop_lt wf.left
  rcases on_row ok hm hk h0 with ⟨rfl, ht⟩ | ⟨l, r, hl, hr, hn, rfl, ht⟩ | ⟨l, r, hl, hr, hn, rfl, ht⟩ | ⟨l, r, hl, hr, hn, ht, hc⟩
  · refine ⟨ok, List.prefix_refl _, ⟨by simp [premisesP], fun _ => ?_, by simp [premisesP]⟩⟩
    exact valid_bot (ht ▸ hg)
  · simp only [premisesP, if_true, hn, Int.toNat_natCast]
    rw [ht] at hg hd
    have hR := rule_andL (g := tree rows s.goal) hg
    rw [← hd, ← gam_with, ← gam_with] at hR
    exact premOk ok (List.prefix_refl _) (.one ⟨with_lt (with_lt dl (by omega)) (by omega), wf.goal⟩ hR)
  · simp only [premisesP, if_true, hn, Int.toNat_natCast, show ¬ (10 : Int) = 3 by decide, show ¬ (10 : Int) = 4 by decide, show ¬ (10 : Int) = 5 by decide, show ¬ (10 : Int) = 6 by decide, show ¬ (10 : Int) = 7 by decide, show ¬ (10 : Int) = 8 by decide, show ¬ (10 : Int) = 9 by decide, if_false]
    rw [ht] at hg hd
    have hR := rule_orL (g := tree rows s.goal) hg
    rw [← hd, ← gam_with, ← gam_with] at hR
    exact premOk ok (List.prefix_refl _) (.two ⟨with_lt dl (by omega), wf.goal⟩ ⟨with_lt dl (by omega), wf.goal⟩ hR)
  · rw [ht] at hg hd
    rcases hc with ⟨rfl, hbl, a, hta⟩ | ⟨rfl, htl⟩ | ⟨x, y, hx, hy, ⟨rfl, hnl, htl⟩ | ⟨rfl, hnl, htl⟩ | ⟨rfl, _⟩⟩
    · simp only [premisesP, if_true, hn, Int.toNat_natCast, show ¬ (4 : Int) = 3 by decide, if_false]
      rw [hta] at hg hd
      have hR := rule_impAtom (g := tree rows s.goal) hg ⟨l, hbl, hta⟩
      rw [← hd, ← gam_with] at hR
      exact premOk ok (List.prefix_refl _) (.one ⟨with_lt dl (by omega), wf.goal⟩ hR)
    · simp only [premisesP, if_true, show ¬ (5 : Int) = 3 by decide, show ¬ (5 : Int) = 4 by decide, if_false]
      rw [htl] at hg hd
      have hR := rule_impBot (g := tree rows s.goal) hg
      rw [← hd] at hR
      exact premOk ok (List.prefix_refl _) (.one ⟨dl, wf.goal⟩ hR)
    · simp only [premisesP, if_true, hn, hnl, Int.toNat_natCast, show ¬ (6 : Int) = 3 by decide, show ¬ (6 : Int) = 4 by decide, show ¬ (6 : Int) = 5 by decide, if_false] at he ⊢
      obtain ⟨rows1, f, e1, o1, p1, f1, t1⟩ := putK_ok ok (a := y) (b := r) (by omega) (by omega) he
      rw [e1] at he ⊢
      have x1 : x < rows1.length := Nat.lt_of_lt_of_le (by omega) (prefix_length p1)
      obtain ⟨rows2, g, e2, o2, p2, g2, t2⟩ := putK_ok o1 (a := x) (b := f) x1 f1 he
      rw [e2]
      have p12 := p1.trans p2
      rw [htl] at hg hd
      have hR := rule_impAnd (g := tree rows s.goal) hg
      have tg : tree rows2 g = .imp (tree rows x) (.imp (tree rows y) (tree rows r)) := by rw [t2, t1, tree_prefix p1 (by omega)]
      rw [← hd, ← tg, ← gam_ext dl p12, ← gam_with, ← gam_ext wf.left p12, ← tree_prefix p12 wf.goal] at hR
      exact premOk o2 (p12) (.one ⟨with_lt (fun i hi => Nat.lt_of_lt_of_le (dl i hi) (prefix_length p12)) g2, Nat.lt_of_lt_of_le wf.goal (prefix_length p12)⟩ hR)
    · simp only [premisesP, if_true, hn, hnl, Int.toNat_natCast, show ¬ (7 : Int) = 3 by decide, show ¬ (7 : Int) = 4 by decide, show ¬ (7 : Int) = 5 by decide, show ¬ (7 : Int) = 6 by decide, if_false] at he ⊢
      obtain ⟨rows1, f, e1, o1, p1, f1, t1⟩ := putK_ok ok (a := x) (b := r) (by omega) (by omega) he
      rw [e1] at he ⊢
      obtain ⟨rows2, g, e2, o2, p2, g2, t2⟩ := putK_ok o1 (a := y) (b := r) (Nat.lt_of_lt_of_le (by omega) (prefix_length p1)) (Nat.lt_of_lt_of_le (by omega) (prefix_length p1)) he
      rw [e2]
      have p12 := p1.trans p2
      rw [htl] at hg hd
      have hR := rule_impOr (g := tree rows s.goal) hg
      have tf : tree rows2 f = .imp (tree rows x) (tree rows r) := by rw [tree_prefix p2 f1, t1]
      have tg : tree rows2 g = .imp (tree rows y) (tree rows r) := by rw [t2, tree_prefix p1 (by omega), tree_prefix p1 (by omega)]
      rw [← hd, ← tf, ← tg, ← gam_ext dl p12, ← gam_with, ← gam_with, ← gam_ext wf.left p12, ← tree_prefix p12 wf.goal] at hR
      exact premOk o2 (p12) (.one ⟨with_lt (with_lt (fun i hi => Nat.lt_of_lt_of_le (dl i hi) (prefix_length p12)) (Nat.lt_of_lt_of_le f1 (prefix_length p2))) g2, Nat.lt_of_lt_of_le wf.goal (prefix_length p12)⟩ hR)
    · exact absurd rfl h13
theorem id_ok (h : s.left.testBit s.goal = true) : PremOk rows s (premisesP rows s 2 s.goal) :=
  (fun _ => ⟨ok, List.prefix_refl _, ⟨by simp [premisesP], fun _ => valid_id ⟨_, h, rfl⟩, by simp [premisesP]⟩⟩ : Wf rows s → PremOk rows s (premisesP rows s 2 s.goal)) wf
theorem impR_ok (h : (rowAt rows s.goal).kind = 5) : PremOk rows s (premisesP rows s 8 s.goal) := by
  have hrow := rowAt_get wf.goal
  rcases tree_row ok hrow with ⟨a, e, _⟩ | ⟨e, _⟩ | ⟨l, r, hl, hr, ⟨e, _⟩ | ⟨e, _⟩ | ⟨e, ht⟩⟩ <;> (rw [e] at h; simp only at h)
  all_goals first | omega | skip
  simp only [premisesP, e, Int.toNat_natCast, show ¬ (8 : Int) = 3 by decide, show ¬ (8 : Int) = 4 by decide, show ¬ (8 : Int) = 5 by decide, show ¬ (8 : Int) = 6 by decide, show ¬ (8 : Int) = 7 by decide, if_false, if_true]
  have hgl := wf.goal
  have hR := rule_impR (Γ := gam rows s.left) (a := tree rows l) (b := tree rows r)
  rw [← ht, ← gam_with] at hR
  exact premOk ok (List.prefix_refl _) (.one ⟨with_lt wf.left (by omega), by (try simp only); omega⟩ hR)
theorem andR_ok (h : (rowAt rows s.goal).kind = 3) : PremOk rows s (premisesP rows s 9 s.goal) := by
  have hrow := rowAt_get wf.goal
  rcases tree_row ok hrow with ⟨a, e, _⟩ | ⟨e, _⟩ | ⟨l, r, hl, hr, ⟨e, ht⟩ | ⟨e, _⟩ | ⟨e, _⟩⟩ <;> (rw [e] at h; simp only at h)
  all_goals first | omega | skip
  simp only [premisesP, e, Int.toNat_natCast, show ¬ (9 : Int) = 3 by decide, show ¬ (9 : Int) = 4 by decide, show ¬ (9 : Int) = 5 by decide, show ¬ (9 : Int) = 6 by decide, show ¬ (9 : Int) = 7 by decide, show ¬ (9 : Int) = 8 by decide, if_false, if_true]
  have hgl := wf.goal
  have hR := rule_andR (Γ := gam rows s.left) (a := tree rows l) (b := tree rows r)
  rw [← ht] at hR
  exact premOk ok (List.prefix_refl _) (.two ⟨wf.left, by (try simp only); omega⟩ ⟨wf.left, by (try simp only); omega⟩ hR)
end
theorem least_some {rows : List ND} {s : SQ} {p : Int → Bool} {x : Int × Nat} (h : leastP rows s p = some x) : s.left.testBit x.2 = true ∧ onP rows s x.2 = x.1 ∧ p x.1 = true := by
  unfold leastP at h
  obtain ⟨i, hi, rfl⟩ := Option.map_eq_some_iff.1 h
  have := List.find?_some hi
  simp only [Bool.and_eq_true] at this
  exact ⟨this.1, rfl, this.2⟩
theorem least_none {rows : List ND} {s : SQ} (wf : Wf rows s) {p : Int → Bool} (h : leastP rows s p = none) {i : Nat} (hi : s.left.testBit i = true) : p (onP rows s i) = false := by
  unfold leastP at h
  have := List.find?_eq_none.1 (Option.map_eq_none_iff.1 h) i (List.mem_range.2 (wf.left i hi))
  simpa [hi] using this
/-- The rule that is applied. -/
theorem apply_ok {rows : List ND} (ok : Ok rows) {s : SQ} (wf : Wf rows s) (h14 : (applyP rows s).1 ≠ 14) (he : (premisesP rows s (applyP rows s).1 (applyP rows s).2).err = 0) : PremOk rows s (premisesP rows s (applyP rows s).1 (applyP rows s).2) := by
  unfold applyP at h14 he ⊢
  cases h1 : leastP rows s (fun k => k == 1) with
  | some x =>
    simp only [h1] at h14 he ⊢
    obtain ⟨a, b, c⟩ := least_some h1
    simp only [beq_iff_eq] at c
    exact left_ok ok wf a b (by omega) (by omega) he
  | none =>
    simp only [h1] at h14 he ⊢
    by_cases h2 : s.left.testBit s.goal = true
    · rw [if_pos h2]; exact id_ok ok wf h2
    · rw [if_neg h2] at h14 he ⊢
      cases h3 : leastP rows s (fun k => decide (3 ≤ k) && decide (k ≤ 7)) with
      | some x =>
        simp only [h3] at h14 he ⊢
        obtain ⟨a, b, c⟩ := least_some h3
        simp only [Bool.and_eq_true, decide_eq_true_eq] at c
        exact left_ok ok wf a b (by omega) (by omega) he
      | none =>
        simp only [h3] at h14 he ⊢
        by_cases h4 : (rowAt rows s.goal).kind = 5
        · rw [if_pos h4]; exact impR_ok ok wf h4
        · rw [if_neg h4] at h14 he ⊢
          by_cases h5 : (rowAt rows s.goal).kind = 3
          · rw [if_pos h5]; exact andR_ok ok wf h5
          · rw [if_neg h5] at h14 he ⊢
            cases h6 : leastP rows s (fun k => k == 10) with
            | some x =>
              simp only [h6] at h14 he ⊢
              obtain ⟨a, b, c⟩ := least_some h6
              simp only [beq_iff_eq] at c
              exact left_ok ok wf a b (by omega) (by omega) he
            | none => simp only [h6] at h14; exact absurd rfl h14
/-- Where no rule applies: open. -/
theorem apply_stuck {rows : List ND} (ok : Ok rows) {s : SQ} (wf : Wf rows s) (h : (applyP rows s).1 = 14) : Stuck (gam rows s.left) (tree rows s.goal) := by
  have hon : ∀ i, s.left.testBit i = true → onP rows s i ≠ 14 := fun i hi e => by
    rcases on_row ok (wf.left i hi) e (by omega) with ⟨a, _⟩ | ⟨_, _, _, _, _, a, _⟩ | ⟨_, _, _, _, _, a, _⟩ | ⟨_, _, _, _, _, _, ⟨a, _⟩ | ⟨a, _⟩ | ⟨_, _, _, _, ⟨a, _⟩ | ⟨a, _⟩ | ⟨a, _⟩⟩⟩ <;> omega
  unfold applyP at h
  cases h1 : leastP rows s (fun k => k == 1) with
  | some x => simp only [h1] at h; obtain ⟨a, b, c⟩ := least_some h1; simp only [beq_iff_eq] at c; omega
  | none =>
    simp only [h1] at h
    by_cases h2 : s.left.testBit s.goal = true
    · rw [if_pos h2] at h; simp only at h; omega
    · rw [if_neg h2] at h
      cases h3 : leastP rows s (fun k => decide (3 ≤ k) && decide (k ≤ 7)) with
      | some x => simp only [h3] at h; obtain ⟨a, b, c⟩ := least_some h3; simp only [Bool.and_eq_true, decide_eq_true_eq] at c; omega
      | none =>
        simp only [h3] at h
        by_cases h4 : (rowAt rows s.goal).kind = 5
        · rw [if_pos h4] at h; simp only at h; omega
        · rw [if_neg h4] at h
          by_cases h5 : (rowAt rows s.goal).kind = 3
          · rw [if_pos h5] at h; simp only at h; omega
          · rw [if_neg h5] at h
            cases h6 : leastP rows s (fun k => k == 10) with
            | some x => simp only [h6] at h; obtain ⟨a, b, c⟩ := least_some h6; simp only [beq_iff_eq] at c; omega
            | none =>
              constructor
              · rintro f ⟨i, hi, rfl⟩
                have g1 := least_none wf h1 hi
                have g3 := least_none wf h3 hi
                have g6 := least_none wf h6 hi
                simp only [beq_eq_false_iff_ne, Bool.and_eq_false_iff, decide_eq_false_iff_not] at g1 g3 g6
                have hil := wf.left i hi
                by_cases h0 : onP rows s i = 0
                · -- an atom, or an implication of an atom that does not stand there
                  have hrow := rowAt_get hil
                  unfold onP at h0
                  simp only at h0
                  rcases tree_row ok hrow with ⟨a, e, ht, _⟩ | ⟨e, ht⟩ | ⟨l, r, hl, hr, ⟨e, ht⟩ | ⟨e, ht⟩ | ⟨e, ht⟩⟩
                  · exact .inl ⟨a, ht⟩
                  · rw [e] at h0; simp at h0
                  · rw [e] at h0; simp at h0
                  · rw [e] at h0; simp at h0
                  · rw [e] at h0
                    simp only [show ¬ (5 : Int) = 2 by decide, show ¬ (5 : Int) = 3 by decide, show ¬ (5 : Int) = 4 by decide, if_false, if_true, Int.toNat_natCast] at h0
                    have hrl := rowAt_get (rows := rows) (i := l) (by omega)
                    rcases tree_row ok hrl with ⟨a, e2, ht2, _⟩ | ⟨e2, ht2⟩ | ⟨u, v, hu, hv, ⟨e2, ht2⟩ | ⟨e2, ht2⟩ | ⟨e2, ht2⟩⟩
                    · simp [e2] at h0
                      refine .inr (.inl ⟨a, tree rows r, by rw [ht, ht2], ?_⟩)
                      rintro ⟨j, hj, hja⟩
                      have := tree_inj ok (wf.left j hj) (i := j) (j := l) (by omega) (by rw [hja, ht2])
                      subst this
                      rw [hj] at h0; cases h0
                    · simp [e2] at h0
                    · simp [e2] at h0
                    · simp [e2] at h0
                    · simp [e2] at h0
                · rcases on_row ok hil rfl h0 with ⟨a, _⟩ | ⟨_, _, _, _, _, a, _⟩ | ⟨_, _, _, _, _, a, _⟩ | ⟨l, r, hl, hr, hn, ht, ⟨a, _⟩ | ⟨a, _⟩ | ⟨x, y, hx, hy, ⟨a, _⟩ | ⟨a, _⟩ | ⟨a, _, ht2⟩⟩⟩
                  · omega
                  · omega
                  · omega
                  · omega
                  · omega
                  · omega
                  · omega
                  · exact .inr (.inr ⟨_, _, _, by rw [ht, ht2]⟩)
              · have hrow := rowAt_get wf.goal
                rcases tree_row ok hrow with ⟨a, e, ht, _⟩ | ⟨e, ht⟩ | ⟨l, r, hl, hr, ⟨e, ht⟩ | ⟨e, ht⟩ | ⟨e, ht⟩⟩
                · refine .inl ⟨a, ht, ?_⟩
                  rintro ⟨j, hj, hja⟩
                  have := tree_inj ok (wf.left j hj) wf.goal (by rw [hja, ht])
                  subst this
                  exact h2 hj
                · exact .inr (.inl ht)
                · rw [e] at h5; exact absurd rfl h5
                · exact .inr (.inr ⟨_, _, ht⟩)
                · rw [e] at h4; exact absurd rfl h4
end Go.Dk
end

section
namespace Go.Dk
/-- A choice of an open sequent. -/
def IsC (rows : List ND) (s : SQ) (c : Int × Nat) : Prop :=
  ((c.1 = 11 ∨ c.1 = 12) ∧ c.2 = s.goal ∧ (rowAt rows s.goal).kind = 4) ∨ (c.1 = 13 ∧ s.left.testBit c.2 = true ∧ onP rows s c.2 = 13)
theorem isC_of {rows : List ND} {s : SQ} {c : Int × Nat} (h : c ∈ choicesP rows s) : IsC rows s c := by
  unfold choicesP at h
  rcases List.mem_append.1 h with h | h
  · by_cases h4 : (rowAt rows s.goal).kind = 4
    · rw [if_pos h4] at h
      simp only [List.mem_cons, List.not_mem_nil, or_false] at h
      rcases h with rfl | rfl
      · exact .inl ⟨.inl rfl, rfl, h4⟩
      · exact .inl ⟨.inr rfl, rfl, h4⟩
    · rw [if_neg h4] at h; cases h
  · obtain ⟨i, hi, rfl⟩ := List.mem_map.1 h
    have h2 := (List.mem_filter.1 hi).2
    simp only [Bool.and_eq_true, beq_iff_eq] at h2
    exact .inr ⟨rfl, h2.1, h2.2⟩
/-- What a choice's failure says. -/
def FailC (rows : List ND) (s : SQ) (c : Int × Nat) : Prop :=
  (c.1 = 11 → Refut (gam rows s.left) (tree rows (rowAt rows s.goal).l.toNat)) ∧ (c.1 = 12 → Refut (gam rows s.left) (tree rows (rowAt rows s.goal).r.toNat)) ∧
    (c.1 = 13 → ∀ C D B, tree rows c.2 = .imp (.imp C D) B → Refut (wi (wo (gam rows s.left) (.imp (.imp C D) B)) (.imp D B)) (.imp C D))
theorem onP_ext {rows rows' : List ND} (ok : Ok rows) {s : SQ} {i : Nat} (hi : i < rows.length) (hp : rows <+: rows') : onP rows' s i = onP rows s i := by
  unfold onP
  simp only
  rw [rowAt_prefix hp hi]
  by_cases h5 : (rowAt rows i).kind = 5
  · have := ok.parts (rowAt_get hi) (by omega)
    rw [rowAt_prefix hp (by omega)]
  · simp only [h5, if_false]
theorem IsC.ext {rows rows' : List ND} (ok : Ok rows) {s : SQ} (wf : Wf rows s) {c : Int × Nat} (h : IsC rows s c) (hp : rows <+: rows') : IsC rows' s c := by
  rcases h with ⟨a, b, k⟩ | ⟨a, b, k⟩
  · exact .inl ⟨a, b, by rw [rowAt_prefix hp wf.goal]; exact k⟩
  · exact .inr ⟨a, b, by rw [onP_ext ok (wf.left _ b) hp]; exact k⟩
theorem or_parts {rows : List ND} (ok : Ok rows) {g : Nat} (hg : g < rows.length) (h4 : (rowAt rows g).kind = 4) : ∃ l r : Nat, l < g ∧ r < g ∧ rowAt rows g = ⟨4, ByteArray.empty, l, r⟩ ∧ tree rows g = .or (tree rows l) (tree rows r) := by
  rcases tree_row ok (rowAt_get hg) with ⟨a, e, _⟩ | ⟨e, _⟩ | ⟨x, y, hx, hy, ht⟩
  · rw [e] at h4; simp at h4
  · rw [e] at h4; simp at h4
  · rcases ht with ⟨e, ht⟩ | ⟨e, ht⟩ | ⟨e, ht⟩
    · rw [e] at h4; simp at h4
    · exact ⟨x, y, hx, hy, e, ht⟩
    · rw [e] at h4; simp at h4
theorem FailC.back {rows rows' : List ND} (ok : Ok rows) {s : SQ} (wf : Wf rows s) {c : Int × Nat} (hc : IsC rows s c) (hp : rows <+: rows') (h : FailC rows' s c) : FailC rows s c := by
  have hg := gam_ext wf.left hp
  unfold FailC at *
  rw [hg, rowAt_prefix hp wf.goal] at h
  rcases hc with ⟨h1, h2, h4⟩ | ⟨h1, h2, h3⟩
  · obtain ⟨l, r, hl, hr, e, _⟩ := or_parts ok wf.goal h4
    have hgl := wf.goal
    rw [e] at h ⊢
    simp only [Int.toNat_natCast] at h ⊢
    rw [tree_prefix hp (by omega), tree_prefix hp (by omega)] at h
    exact ⟨h.1, h.2.1, fun h13 => by omega⟩
  · have hl := wf.left _ h2
    rw [tree_prefix hp hl] at h
    exact ⟨fun e => by omega, fun e => by omega, h.2.2⟩
theorem choice_ok {rows : List ND} (ok : Ok rows) {s : SQ} (wf : Wf rows s) {c : Int × Nat} (hc : IsC rows s c) (he : (premisesP rows s c.1 c.2).err = 0) :
    Ok (premisesP rows s c.1 c.2).rows ∧ rows <+: (premisesP rows s c.1 c.2).rows ∧
    ((∃ q, (premisesP rows s c.1 c.2).seqs = [q] ∧ Wf (premisesP rows s c.1 c.2).rows q ∧ (ValidS (premisesP rows s c.1 c.2).rows q → ValidS rows s) ∧ (RefutS (premisesP rows s c.1 c.2).rows q → FailC rows s c)) ∨
     (∃ q q2, (premisesP rows s c.1 c.2).seqs = [q, q2] ∧ Wf (premisesP rows s c.1 c.2).rows q ∧ Wf (premisesP rows s c.1 c.2).rows q2 ∧ (ValidS (premisesP rows s c.1 c.2).rows q → ValidS (premisesP rows s c.1 c.2).rows q2 → ValidS rows s) ∧
        (RefutS (premisesP rows s c.1 c.2).rows q → FailC rows s c) ∧ (RefutS (premisesP rows s c.1 c.2).rows q2 → RefutS rows s))) := by
  obtain ⟨k, m⟩ := c
  rcases hc with ⟨h1, h2, h4⟩ | ⟨h1, h2, h3⟩
  · simp only at h1 h2 he ⊢
    subst h2
    obtain ⟨l, r, hl, hr, e, ht⟩ := or_parts ok wf.goal h4
    have hgl := wf.goal
    have hR := rule_orR (Γ := gam rows s.left) (a := tree rows l) (b := tree rows r)
    rw [← ht] at hR
    rcases h1 with rfl | rfl
    · have hP : premisesP rows s 11 s.goal = ⟨rows, 0, [⟨s.left, l⟩]⟩ := by simp [premisesP, e]
      rw [hP]
      exact ⟨ok, List.prefix_refl _, .inl ⟨_, rfl, ⟨wf.left, by show l < rows.length; omega⟩, hR.1, fun h => ⟨fun _ => (by rw [e]; simp only [Int.toNat_natCast]; exact h), fun h => (by simp at h), fun h => (by simp at h)⟩⟩⟩
    · have hP : premisesP rows s 12 s.goal = ⟨rows, 0, [⟨s.left, r⟩]⟩ := by simp [premisesP, e]
      rw [hP]
      exact ⟨ok, List.prefix_refl _, .inl ⟨_, rfl, ⟨wf.left, by show r < rows.length; omega⟩, hR.2, fun h => ⟨fun h => (by simp at h), fun _ => (by rw [e]; simp only [Int.toNat_natCast]; exact h), fun h => (by simp at h)⟩⟩⟩
  · simp only at h1 h2 h3 he ⊢
    subst h1
    have hm := wf.left m h2
    have dl : ∀ i, (dropB s.left m).testBit i = true → i < rows.length := drop_lt wf.left
    rcases on_row ok hm h3 (by decide) with ⟨h, _⟩ | ⟨_, _, _, _, _, h, _⟩ | ⟨_, _, _, _, _, h, _⟩ | ⟨l, r, hl, hr, hn, ht, hcc⟩
    · cases h
    · cases h
    · cases h
    · rcases hcc with ⟨h, _⟩ | ⟨h, _⟩ | ⟨x, y, hx, hy, ⟨h, _⟩ | ⟨h, _⟩ | ⟨_, hnl, htl⟩⟩
      · cases h
      · cases h
      · cases h
      · cases h
      · have hP : premisesP rows s 13 m = putK rows rows (y : Int) (r : Int) fun rows1 f => ⟨rows1, 0, [⟨withB (dropB s.left m) f, l⟩, ⟨withB (dropB s.left m) r, s.goal⟩]⟩ := by
          simp [premisesP, hn, hnl]
        rw [hP] at he ⊢
        obtain ⟨rows1, f, e1, o1, p1, f1, t1⟩ := putK_ok ok (a := y) (b := r) (by omega) (by omega) he
        rw [e1]
        have hg : gam rows s.left (.imp (.imp (tree rows x) (tree rows y)) (tree rows r)) := ⟨m, h2, by rw [ht, htl]⟩
        have hd := gam_drop ok wf.left hm
        rw [ht, htl] at hd
        have hR := rule_impImp (g := tree rows s.goal) hg
        have hl1 : l < rows1.length := Nat.lt_of_lt_of_le (by omega) (prefix_length p1)
        have hr1 : r < rows1.length := Nat.lt_of_lt_of_le (by omega) (prefix_length p1)
        have dl1 : ∀ i, (dropB s.left m).testBit i = true → i < rows1.length := fun i hi => Nat.lt_of_lt_of_le (dl i hi) (prefix_length p1)
        have g1 : gam rows1 (withB (dropB s.left m) f) = wi (wo (gam rows s.left) (.imp (.imp (tree rows x) (tree rows y)) (tree rows r))) (.imp (tree rows y) (tree rows r)) := by
          rw [gam_with, gam_ext dl p1, hd, t1]
        have g2 : gam rows1 (withB (dropB s.left m) r) = wi (wo (gam rows s.left) (.imp (.imp (tree rows x) (tree rows y)) (tree rows r))) (tree rows r) := by
          rw [gam_with, gam_ext dl p1, hd, tree_prefix p1 (by omega)]
        have t3 : tree rows1 l = .imp (tree rows x) (tree rows y) := by rw [tree_prefix p1 (by omega), htl]
        have t4 : tree rows1 s.goal = tree rows s.goal := tree_prefix p1 wf.goal
        refine ⟨o1, p1, .inr ⟨_, _, rfl, ⟨with_lt dl1 f1, hl1⟩, ⟨with_lt dl1 hr1, Nat.lt_of_lt_of_le wf.goal (prefix_length p1)⟩, fun a b => ?_, fun a => ?_, fun b => ?_⟩⟩
        · unfold ValidS at a b ⊢
          simp only at a b
          rw [g1, t3] at a
          rw [g2, t4] at b
          exact hR.1 a b
        · unfold RefutS at a
          simp only at a
          rw [g1, t3] at a
          refine ⟨fun h => by simp at h, fun h => by simp at h, fun _ C D B hB => ?_⟩
          simp only at hB
          rw [ht, htl] at hB
          cases hB
          exact a
        · unfold RefutS at b ⊢
          simp only at b
          rw [g2, t4] at b
          exact hR.2 b
theorem stuck_all {rows : List ND} (ok : Ok rows) {s : SQ} (wf : Wf rows s) (h14 : (applyP rows s).1 = 14) (hf : ∀ c ∈ choicesP rows s, FailC rows s c) : RefutS rows s := by
  refine stuck_refuted (apply_stuck ok wf h14) (fun a b hab => ?_) (fun c d b hcd => ?_)
  · have h4 : (rowAt rows s.goal).kind = 4 := by
      rw [← tree_kind ok (rowAt_get wf.goal), hab]; rfl
    obtain ⟨l, r, hl, hr, e, ht⟩ := or_parts ok wf.goal h4
    rw [hab] at ht
    cases ht
    have m1 : ((11, s.goal) : Int × Nat) ∈ choicesP rows s := by unfold choicesP; rw [if_pos h4]; simp
    have m2 : ((12, s.goal) : Int × Nat) ∈ choicesP rows s := by unfold choicesP; rw [if_pos h4]; simp
    have f1 := (hf _ m1).1 rfl
    have f2 := (hf _ m2).2.1 rfl
    rw [e] at f1 f2
    exact ⟨by simpa using f1, by simpa using f2⟩
  · obtain ⟨i, hi, ht⟩ := hcd
    have hil := wf.left i hi
    have hon : onP rows s i = 13 := by
      rcases tree_row ok (rowAt_get hil) with ⟨a, e, h, _⟩ | ⟨e, h⟩ | ⟨x, y, hx, hy, h⟩
      · rw [h] at ht; cases ht
      · rw [h] at ht; cases ht
      · rcases h with ⟨e, h⟩ | ⟨e, h⟩ | ⟨e, h⟩
        · rw [h] at ht; cases ht
        · rw [h] at ht; cases ht
        · rw [h] at ht
          injection ht with hx2 hb2
          rcases tree_row ok (rowAt_get (rows := rows) (i := x) (by omega)) with ⟨a, e2, h2, _⟩ | ⟨e2, h2⟩ | ⟨u, v, hu, hv, h2⟩
          · rw [h2] at hx2; cases hx2
          · rw [h2] at hx2; cases hx2
          · rcases h2 with ⟨e2, h2⟩ | ⟨e2, h2⟩ | ⟨e2, h2⟩
            · rw [h2] at hx2; cases hx2
            · rw [h2] at hx2; cases hx2
            · simp [onP, e, e2]
    have hmem : ((13, i) : Int × Nat) ∈ choicesP rows s := by
      unfold choicesP
      refine List.mem_append.2 (.inr (List.mem_map.2 ⟨i, List.mem_filter.2 ⟨List.mem_range.2 hil, by simp [hi, hon]⟩, rfl⟩))
    exact (hf _ hmem).2.2 rfl c d b ht
structure InvS (st : SR) : Prop where
  ok : Ok st.rows
  steps : ∀ x ∈ st.steps, Wf st.rows x.seq ∧ (x.proved = true → ValidS st.rows x.seq) ∧ (x.proved = false → RefutS st.rows x.seq)
structure GoodA (st : SR) (s : SQ) (r : SA) : Prop where
  inv : InvS r.st
  pre : st.rows <+: r.st.rows
  ans : ∃ x, r.st.steps[r.at_]? = some x ∧ x.seq = s
theorem InvS.ext {st : SR} (h : InvS st) {rows' : List ND} (ok : Ok rows') (hp : st.rows <+: rows') (l : Nat) : InvS ⟨rows', st.steps, l⟩ :=
  ⟨ok, fun x hx => by
    obtain ⟨a, b, c⟩ := h.steps x hx
    exact ⟨a.ext hp, fun h => (valid_ext a hp).2 (b h), fun h => (refut_ext a hp).2 (c h)⟩⟩
theorem GoodA.from {st st' : SR} {s : SQ} {r : SA} (h : GoodA st' s r) (hp : st.rows <+: st'.rows) : GoodA st s r := ⟨h.inv, hp.trans h.pre, h.ans⟩
theorem endS_ok {st : SR} (h : InvS st) {x : SS} (wf : Wf st.rows x.seq) (hv : x.proved = true → ValidS st.rows x.seq) (hr : x.proved = false → RefutS st.rows x.seq) : GoodA st x.seq (endS st x) := by
  refine ⟨⟨h.ok, fun y hy => ?_⟩, List.prefix_refl _, x, by simp [endS], rfl⟩
  rcases List.mem_append.1 hy with hy | hy
  · exact h.steps y hy
  · obtain rfl : y = x := by simpa using hy
    exact ⟨wf, hv, hr⟩
theorem GoodA.told {st : SR} {s : SQ} {r : SA} (h : GoodA st s r) : (provedAt r.st r.at_ = true → ValidS r.st.rows s) ∧ (provedAt r.st r.at_ = false → RefutS r.st.rows s) := by
  obtain ⟨x, hx, rfl⟩ := h.ans
  have := h.inv.steps x (List.mem_of_getElem? hx)
  unfold provedAt
  rw [hx]
  exact ⟨this.2.1, this.2.2⟩
section
variable {dec : SR → SQ → SA} (ih : ∀ st s, InvS st → Wf st.rows s → (dec st s).err = 0 → GoodA st s (dec st s))
include ih
theorem kids_ok (s : SQ) (k : Int) (main : Nat) : ∀ (todo : List SQ) (st : SR) (kids : List Nat), InvS st → Wf st.rows s → (∀ p ∈ todo, Wf st.rows p) → ((∀ p ∈ todo, ValidS st.rows p) → ValidS st.rows s) → (∀ p ∈ todo, RefutS st.rows p → RefutS st.rows s) →
    (kidsF dec s k main todo st kids).err = 0 → GoodA st s (kidsF dec s k main todo st kids) := by
  intro todo
  induction todo with
  | nil =>
    intro st kids hi wf _ hv _ _
    rw [kidsF]
    exact endS_ok (x := ⟨s, true, k, main, kids⟩) hi wf (fun _ => hv (fun p hp => by cases hp)) (fun h => by cases h)
  | cons p t ih2 =>
    intro st kids hi wf hwf hv hr he
    rw [kidsF] at he ⊢
    try simp only at he ⊢
    by_cases hz : (dec st p).err = 0
    · rw [if_neg (by simpa using hz)] at he ⊢
      have hg := ih st p hi (hwf p (by simp)) hz
      generalize dec st p = r at *
      have hp := hwf p (by simp)
      cases hpv : provedAt r.st r.at_ with
      | true =>
        rw [hpv] at he
        simp only [if_true] at he ⊢
        have hvp := (valid_ext hp hg.pre).1 (hg.told.1 hpv)
        refine (ih2 r.st _ hg.inv (wf.ext hg.pre) (fun q hq => (hwf q (by simp [hq])).ext hg.pre) (fun h => ?_) (fun q hq h => ?_) he).from hg.pre
        · refine (valid_ext wf hg.pre).2 (hv fun q hq => ?_)
          rcases List.mem_cons.1 hq with rfl | hq
          · exact hvp
          · exact (valid_ext (hwf q (by simp [hq])) hg.pre).1 (h q hq)
        · exact (refut_ext wf hg.pre).2 (hr q (by simp [hq]) ((refut_ext (hwf q (by simp [hq])) hg.pre).1 h))
      | false =>
        simp only [Bool.false_eq_true, if_false]
        have hrp := (refut_ext hp hg.pre).1 (hg.told.2 hpv)
        exact (endS_ok (x := ⟨s, false, k, main, [r.at_]⟩) hg.inv (wf.ext hg.pre) (fun h => by cases h) (fun _ => (refut_ext wf hg.pre).2 (hr p (by simp) hrp))).from hg.pre
    · rw [if_pos hz] at he
      exact absurd he hz
theorem choose_ok (s : SQ) : ∀ (todo : List (Int × Nat)) (st : SR) (stuck : List Nat), InvS st → Wf st.rows s → (∀ c ∈ todo, IsC st.rows s c) → ((∀ c ∈ todo, FailC st.rows s c) → RefutS st.rows s) →
    (chooseF dec s todo st stuck).err = 0 → GoodA st s (chooseF dec s todo st stuck) := by
  intro todo
  induction todo with
  | nil =>
    intro st stuck hi wf _ hs _
    rw [chooseF]
    exact endS_ok (x := ⟨s, false, 14, 0, stuck⟩) hi wf (fun h => by cases h) (fun _ => hs (fun c hc => by cases hc))
  | cons c t ih2 =>
    intro st stuck hi wf hc hs he
    rw [chooseF] at he ⊢
    by_cases hz : (premisesP st.rows s c.1 c.2).err = 0
    · rw [if_neg (by simpa using hz)] at he ⊢
      obtain ⟨o1, p1, hq⟩ := choice_ok hi.ok wf (hc c (by simp)) hz
      generalize premisesP st.rows s c.1 c.2 = p at *
      have hi1 := hi.ext o1 p1 st.left
      -- behind a first premise that fails
      have next : ∀ (r : SA) (q : SQ), Wf p.rows q → GoodA ⟨p.rows, st.steps, st.left⟩ q r → provedAt r.st r.at_ = false → (RefutS p.rows q → FailC st.rows s c) →
          (chooseF dec s t r.st (stuck ++ [r.at_])).err = 0 → GoodA st s (chooseF dec s t r.st (stuck ++ [r.at_])) := by
        intro r q wq hg hpv hf he
        have hp2 : st.rows <+: r.st.rows := p1.trans hg.pre
        have hfc := hf ((refut_ext wq hg.pre).1 (hg.told.2 hpv))
        refine (ih2 r.st _ hg.inv (wf.ext hp2) (fun d hd => (hc d (by simp [hd])).ext hi.ok wf hp2) (fun h => ?_) he).from hp2
        refine (refut_ext wf hp2).2 (hs fun d hd => ?_)
        rcases List.mem_cons.1 hd with rfl | hd
        · exact hfc
        · exact (h d hd).back hi.ok wf (hc d (by simp [hd])) hp2
      rcases hq with ⟨q, hq, wq, hv, hf⟩ | ⟨q, q2, hq, wq, wq2, hv, hf, hr2⟩
      · rw [hq] at he ⊢
        simp only at he ⊢
        by_cases hz1 : (dec ⟨p.rows, st.steps, st.left⟩ q).err = 0
        · rw [if_neg (by simpa using hz1)] at he ⊢
          have hg := ih _ q hi1 wq hz1
          generalize dec ⟨p.rows, st.steps, st.left⟩ q = r at *
          cases hpv : provedAt r.st r.at_ with
          | true =>
            simp only [if_true]
            have hvp := (valid_ext wq hg.pre).1 (hg.told.1 hpv)
            exact (endS_ok (x := ⟨s, true, c.1, c.2, [r.at_]⟩) hg.inv (wf.ext (p1.trans hg.pre)) (fun _ => (valid_ext wf (p1.trans hg.pre)).2 (hv hvp)) (fun h => by cases h)).from (p1.trans hg.pre)
          | false =>
            rw [hpv] at he
            simp only [Bool.false_eq_true, if_false] at he ⊢
            exact next r q wq hg hpv hf he
        · rw [if_pos hz1] at he
          exact absurd he hz1
      · rw [hq] at he ⊢
        simp only at he ⊢
        by_cases hz1 : (dec ⟨p.rows, st.steps, st.left⟩ q).err = 0
        · rw [if_neg (by simpa using hz1)] at he ⊢
          have hg := ih _ q hi1 wq hz1
          generalize dec ⟨p.rows, st.steps, st.left⟩ q = r at *
          cases hpv : provedAt r.st r.at_ with
          | true =>
            rw [hpv] at he
            simp only [if_true] at he ⊢
            have hvp := (valid_ext wq hg.pre).1 (hg.told.1 hpv)
            by_cases hz2 : (dec r.st q2).err = 0
            · rw [if_neg (by simpa using hz2)] at he ⊢
              have hg2 := ih r.st q2 hg.inv (wq2.ext hg.pre) hz2
              generalize dec r.st q2 = r2 at *
              have hp3 : st.rows <+: r2.st.rows := (p1.trans hg.pre).trans hg2.pre
              have hp4 : p.rows <+: r2.st.rows := hg.pre.trans hg2.pre
              cases hpv2 : provedAt r2.st r2.at_ with
              | true =>
                simp only [if_true]
                have hvp2 := (valid_ext wq2 hp4).1 (hg2.told.1 hpv2)
                exact (endS_ok (x := ⟨s, true, c.1, c.2, [r.at_, r2.at_]⟩) hg2.inv (wf.ext hp3) (fun _ => (valid_ext wf hp3).2 (hv hvp hvp2)) (fun h => by cases h)).from hp3
              | false =>
                simp only [Bool.false_eq_true, if_false]
                have hrp2 := (refut_ext wq2 hp4).1 (hg2.told.2 hpv2)
                exact (endS_ok (x := ⟨s, false, c.1, c.2, [r2.at_]⟩) hg2.inv (wf.ext hp3) (fun h => by cases h) (fun _ => (refut_ext wf hp3).2 (hr2 hrp2))).from hp3
            · rw [if_pos hz2] at he
              exact absurd he hz2
          | false =>
            rw [hpv] at he
            simp only [Bool.false_eq_true, if_false] at he ⊢
            exact next r q wq hg hpv hf he
        · rw [if_pos hz1] at he
          exact absurd he hz1
    · rw [if_pos hz] at he
      exact absurd he hz
end
end Go.Dk
end

section
namespace Go.Dk
/-- The last step of a sequent. -/
def findL (l : List SS) (s : SQ) : Option Nat := (l.zipIdx.reverse.find? fun p => decide (p.1.seq = s)).map (·.2)
theorem findL_snoc (l : List SS) (x : SS) (s : SQ) : findL (l ++ [x]) s = if x.seq = s then some l.length else findL l s := by
  unfold findL
  rw [List.zipIdx_append]
  simp only [List.zipIdx_cons, List.zipIdx_nil, List.reverse_append, List.reverse_cons, List.reverse_nil, List.nil_append, List.singleton_append, List.find?_cons, Nat.zero_add]
  by_cases h : x.seq = s <;> simp [h]
theorem findL_some {l : List SS} {s : SQ} {i : Nat} (h : findL l s = some i) : ∃ x, l[i]? = some x ∧ x.seq = s := by
  unfold findL at h
  obtain ⟨p, hp, rfl⟩ := Option.map_eq_some_iff.1 h
  have h1 := List.mem_of_find?_eq_some hp
  have h2 := List.find?_some hp
  rw [List.mem_reverse] at h1
  obtain ⟨_, _, h3⟩ := List.mem_zipIdx h1
  exact ⟨p.1, by simpa using List.mk_mem_zipIdx_iff_getElem?.1 h1, by simpa using h2⟩
def decideL : Nat → SR → SQ → SA
  | 0, st, s => match findL st.steps s with
    | some i => ⟨st, 0, i⟩
    | none => ⟨st, 110, 0⟩
  | fuel + 1, st, s => match findL st.steps s with
    | some i => ⟨st, 0, i⟩
    | none =>
      if st.left = 0 then ⟨st, 110, 0⟩ else
      if (applyP st.rows s).1 = 14 then chooseF (decideL fuel) s (choicesP st.rows s) ⟨st.rows, st.steps, st.left - 1⟩ []
      else if (premisesP st.rows s (applyP st.rows s).1 (applyP st.rows s).2).err ≠ 0 then ⟨⟨st.rows, st.steps, st.left - 1⟩, (premisesP st.rows s (applyP st.rows s).1 (applyP st.rows s).2).err, 0⟩
      else kidsF (decideL fuel) s (applyP st.rows s).1 (applyP st.rows s).2 (premisesP st.rows s (applyP st.rows s).1 (applyP st.rows s).2).seqs ⟨(premisesP st.rows s (applyP st.rows s).1 (applyP st.rows s).2).rows, st.steps, st.left - 1⟩ []
/-- What the search answers is so. -/
theorem decideL_ok : ∀ (fuel : Nat) (st : SR) (s : SQ), InvS st → Wf st.rows s → (decideL fuel st s).err = 0 → GoodA st s (decideL fuel st s) := by
  intro fuel
  induction fuel with
  | zero =>
    intro st s hi wf he
    rw [decideL] at he ⊢
    cases hf : findL st.steps s with
    | some i =>
      rw [hf] at he
      simp only at he ⊢
      obtain ⟨x, hx, e⟩ := findL_some hf
      exact ⟨hi, List.prefix_refl _, x, hx, e⟩
    | none => rw [hf] at he; cases he
  | succ fuel ih =>
    intro st s hi wf he
    rw [decideL] at he ⊢
    cases hf : findL st.steps s with
    | some i =>
      rw [hf] at he
      simp only at he ⊢
      obtain ⟨x, hx, e⟩ := findL_some hf
      exact ⟨hi, List.prefix_refl _, x, hx, e⟩
    | none =>
      rw [hf] at he
      simp only at he ⊢
      by_cases hl : st.left = 0
      · rw [if_pos hl] at he; cases he
      · rw [if_neg hl] at he ⊢
        have hi1 : InvS ⟨st.rows, st.steps, st.left - 1⟩ := hi.ext hi.ok (List.prefix_refl _) _
        by_cases h14 : (applyP st.rows s).1 = 14
        · rw [if_pos h14] at he ⊢
          exact (choose_ok ih s (choicesP st.rows s) ⟨st.rows, st.steps, st.left - 1⟩ [] hi1 wf (fun c hc => isC_of hc) (stuck_all hi.ok wf h14) he).from (List.prefix_refl _)
        · rw [if_neg h14] at he ⊢
          by_cases hz : (premisesP st.rows s (applyP st.rows s).1 (applyP st.rows s).2).err = 0
          · rw [if_neg (by simpa using hz)] at he ⊢
            have hP := apply_ok hi.ok wf h14 hz
            generalize premisesP st.rows s (applyP st.rows s).1 (applyP st.rows s).2 = p at *
            have hi2 := hi1.ext hP.ok hP.pre (st.left - 1)
            exact (kids_ok ih s _ _ p.seqs ⟨p.rows, st.steps, st.left - 1⟩ [] hi2 (wf.ext hP.pre) hP.inv.wf hP.inv.sound hP.inv.back he).from hP.pre
          · rw [if_pos hz] at he
            exact absurd he hz
end Go.Dk
end

section
namespace Go.Dk
/-- What may be put in. -/
structure ValidP (rows : List ND) (id : Int) (l : List HY) : Prop where
  has : hasB rows.length id = true
  forms : hyB rows l = true
  once : twiceB l = false
  words : wordsB l = true
theorem putP_valid {rows : List ND} {id : Int} {l : List HY} (h : ValidP rows id l) : putP rows id l = anewP (putOf (namedF l)) rows id.toNat := by
  unfold putP
  rw [if_neg (by simp [h.has, h.forms]), if_neg (by simp [h.once]), if_neg (by simp [h.words])]
theorem putP_err0 {rows : List ND} {id : Int} {l : List HY} (he : (putP rows id l).err = 0) : ValidP rows id l := by
  unfold putP at he
  split at he
  · cases he
  · rename_i h1
    split at he
    · cases he
    · rename_i h2
      split at he
      · cases he
      · rename_i h3
        refine ⟨?_, ?_, ?_, ?_⟩
        · cases h : hasB rows.length id
          · exact absurd (.inl h) h1
          · rfl
        · cases h : hyB rows l
          · exact absurd (.inr h) h1
          · rfl
        · simpa using h2
        · simpa using h3
theorem hyB_has {rows : List ND} {l : List HY} (h : hyB rows l = true) : ∀ s f, namedF l s = some f → hasB rows.length f = true := fun s f hf => by
  obtain ⟨x, hx, _, rfl⟩ := namedF_some hf
  exact List.all_eq_true.1 h x hx
theorem has_nat {n : Nat} {i : Int} (h : hasB n i = true) : i.toNat < n ∧ (i.toNat : Int) = i := by
  unfold hasB at h; simp at h; omega
theorem putP_img {rows : List ND} (ok : Ok rows) {id : Int} {l : List HY} (he : (putP rows id l).err = 0) : ImgOk rows (putP rows id l) (sub (sig (namedF l) rows) (tree rows id.toNat)) := by
  have hv := putP_err0 he
  rw [putP_valid hv] at he ⊢
  exact anewP_sem ok (putOf_sem ok (hyB_has hv.forms)) (has_nat hv.has).1 he
end Go.Dk
end

section
namespace Go.Dk
/-- Word i of a set. -/
def wd (m i : Nat) : Nat := (m >>> (64 * i)) % 2 ^ 64
theorem wd_lt (m i : Nat) : wd m i < 2 ^ 64 := Nat.mod_lt _ (by decide)
theorem wd_bit (m i j : Nat) : (wd m i).testBit j = (decide (j < 64) && m.testBit (64 * i + j)) := by
  unfold wd
  rw [Nat.testBit_mod_two_pow, Nat.testBit_shiftRight]
theorem wd_ext {m m' : Nat} (hm : m < 2 ^ 1024) (hm' : m' < 2 ^ 1024) (h : ∀ i, i < 16 → wd m i = wd m' i) : m = m' := by
  apply Nat.eq_of_testBit_eq
  intro j
  by_cases hj : j < 1024
  · have h1 := congrArg (fun x => x.testBit (j % 64)) (h (j / 64) (by omega))
    simp only [wd_bit] at h1
    have e : 64 * (j / 64) + j % 64 = j := Nat.div_add_mod j 64
    rw [e] at h1
    simpa [Nat.mod_lt j (show 0 < 64 by decide)] using h1
  · have pb : ∀ {x k : Nat}, x < 2 ^ k → k ≤ j → x.testBit j = false := fun hx hk => Nat.testBit_lt_two_pow (Nat.lt_of_lt_of_le hx (Nat.pow_le_pow_right (by decide) hk)); rw [pb (k := 1024) hm (Nat.le_of_not_lt hj), pb (k := 1024) hm' (Nat.le_of_not_lt hj)]
theorem lt64_bit {x j : Nat} (hx : x < 2 ^ 64) (hj : ¬ j < 64) : x.testBit j = false :=
  Nat.testBit_lt_two_pow (Nat.lt_of_lt_of_le hx (Nat.pow_le_pow_right (by decide) (by omega)))
theorem wd_or (a b i : Nat) : wd (a ||| b) i = wd a i ||| wd b i := by
  apply Nat.eq_of_testBit_eq
  intro j
  simp only [wd_bit, Nat.testBit_or]
  cases decide (j < 64) <;> simp
theorem wd_xor (a b i : Nat) : wd (a ^^^ b) i = wd a i ^^^ wd b i := by
  apply Nat.eq_of_testBit_eq
  intro j
  simp only [wd_bit, Nat.testBit_xor]
  cases decide (j < 64) <;> simp
theorem wd_and (a b i : Nat) : wd (a &&& b) i = wd a i &&& wd b i := by
  apply Nat.eq_of_testBit_eq
  intro j
  simp only [wd_bit, Nat.testBit_and]
  cases decide (j < 64) <;> simp
/-- One number's words. -/
theorem wd_one {n i : Nat} : wd (1 <<< n) i = if i = n / 64 then 1 <<< (n % 64) else 0 := by
  apply Nat.eq_of_testBit_eq
  intro j
  rw [wd_bit, Nat.one_shiftLeft, Nat.testBit_two_pow]
  have e := Nat.div_add_mod n 64
  have hm := Nat.mod_lt n (show 0 < 64 by decide)
  by_cases hi : i = n / 64
  · rw [if_pos hi, Nat.one_shiftLeft, Nat.testBit_two_pow]
    by_cases hj : j < 64
    · simp only [hj, decide_true, Bool.true_and]
      exact decide_eq_decide.2 (by subst hi; omega)
    · simp only [hj, decide_false, Bool.false_and]
      rw [eq_comm, decide_eq_false_iff_not]; omega
  · rw [if_neg hi, Nat.zero_testBit]
    by_cases hj : j < 64
    · simp only [hj, decide_true, Bool.true_and, decide_eq_false_iff_not]
      intro h
      apply hi
      omega
    · simp [hj]
/-- What is in the first alone. -/
def minusB (a b : Nat) : Nat := a ^^^ (a &&& b)
theorem testBit_minus (a b j : Nat) : (minusB a b).testBit j = (a.testBit j && !b.testBit j) := by
  unfold minusB
  rw [Nat.testBit_xor, Nat.testBit_and]
  cases a.testBit j <;> cases b.testBit j <;> rfl
theorem wd_minus (a b i : Nat) : wd (minusB a b) i = minusB (wd a i) (wd b i) := by
  unfold minusB
  rw [wd_xor, wd_and]
theorem minus_one (m n : Nat) : minusB m (1 <<< n) = dropB m n := by
  apply Nat.eq_of_testBit_eq
  intro j
  rw [testBit_minus, testBit_drop, Nat.one_shiftLeft, Nat.testBit_two_pow]
  by_cases e : n = j
  · subst e; simp
  · simp [e, Ne.symm e]
theorem one_lt {n k : Nat} (h : n < k) : 1 <<< n < 2 ^ k := by rw [Nat.one_shiftLeft]; exact Nat.pow_lt_pow_right (by decide) h
theorem minus_lt {a k : Nat} (b : Nat) (ha : a < 2 ^ k) : minusB a b < 2 ^ k := by
  refine Nat.lt_pow_two_of_testBit _ fun i hi => ?_
  rw [testBit_minus, Nat.testBit_lt_two_pow (Nat.lt_of_lt_of_le ha (Nat.pow_le_pow_right (by decide) hi))]
  rfl
/-- The words as values. -/
def bitsV (m : Nat) : List Value := (List.range 16).map fun i => .int .u64 (wd m i : Int)
theorem bitsV_len (m : Nat) : (bitsV m).length = 16 := by simp [bitsV]
theorem bitsV_at (m : Nat) {i : Nat} (h : i < 16) : (bitsV m)[i]? = some (.int .u64 (wd m i : Int)) := by simp [bitsV, h]
theorem bitsV_inj {m m' : Nat} (hm : m < 2 ^ 1024) (hm' : m' < 2 ^ 1024) (h : bitsV m = bitsV m') : m = m' := by
  refine wd_ext hm hm' fun i hi => ?_
  have h1 := congrArg (fun l => l[i]?) h
  simp only [bitsV_at m hi, bitsV_at m' hi, Option.some.injEq, Value.int.injEq, true_and] at h1
  omega
def nextN (m from_ : Nat) : Option Nat := (List.range 1024).find? fun i => decide (from_ ≤ i) && m.testBit i
theorem find_range {p : Nat → Bool} {n x : Nat} (hx : x < n) (hp : p x = true) (hl : ∀ j, j < x → p j = false) : (List.range n).find? p = some x := by
  rw [List.find?_eq_some_iff_getElem]
  refine ⟨hp, x, by simpa using hx, by simp, fun j hj => ?_⟩
  simp [hl j hj]
theorem nextN_some {m from_ x : Nat} (hx : x < 1024) (hf : from_ ≤ x) (hb : m.testBit x = true) (hl : ∀ j, from_ ≤ j → j < x → m.testBit j = false) : nextN m from_ = some x := by
  refine find_range hx (by simp [hf, hb]) fun j hj => ?_
  by_cases h : from_ ≤ j
  · simp [hl j h hj]
  · simp [h]
theorem nextN_none {m from_ : Nat} (h : ∀ j, from_ ≤ j → j < 1024 → m.testBit j = false) : nextN m from_ = none := by
  unfold nextN
  rw [List.find?_eq_none]
  intro x hx
  have hx := List.mem_range.1 hx
  by_cases hf : from_ ≤ x
  · simp [h x hf hx]
  · simp [hf]
theorem nextN_spec {m from_ x : Nat} (h : nextN m from_ = some x) : x < 1024 ∧ from_ ≤ x ∧ m.testBit x = true ∧ ∀ j, from_ ≤ j → j < x → m.testBit j = false := by
  unfold nextN at h
  rw [List.find?_eq_some_iff_getElem] at h
  obtain ⟨h1, i, hi, e, h2⟩ := h
  simp only [List.getElem_range] at e
  subst e
  simp only [Bool.and_eq_true, decide_eq_true_eq] at h1
  refine ⟨by simpa using hi, h1.1, h1.2, fun j hf hj => ?_⟩
  have := h2 j hj
  simpa [hf] using this
/-- The least bit of a word. -/
theorem ctz_bit {x : Nat} (h0 : x ≠ 0) (hx : x < 2 ^ 64) : Lib.ctz 64 x < 64 ∧ x.testBit (Lib.ctz 64 x) = true ∧ ∀ j, j < Lib.ctz 64 x → x.testBit j = false := by
  obtain ⟨m, hm, hlt⟩ := Lib.ctzFrom_spec 64 x (Nat.pos_of_ne_zero h0) hx
  have e : Lib.ctz 64 x = Lib.ctzFrom 64 x := by unfold Lib.ctz; rw [if_neg h0]
  rw [e]
  generalize Lib.ctzFrom 64 x = k at *
  refine ⟨hlt, ?_, fun j hj => ?_⟩
  · rw [hm, Nat.testBit_two_pow_mul]
    simp
  · rw [hm, Nat.testBit_two_pow_mul]
    simp; omega
/-- A word whose bits below k are struck. -/
def above (x k : Nat) : Nat := x &&& (2 ^ 64 - 2 ^ k)
theorem above_bit (x : Nat) {k j : Nat} (hk : k < 64) (hx : x < 2 ^ 64) : (above x k).testBit j = (x.testBit j && decide (k ≤ j)) := by
  unfold above
  rw [Nat.testBit_and]
  by_cases hj : j < 64
  · congr 1
    have e : 2 ^ 64 - 2 ^ k = 2 ^ k * (2 ^ (64 - k) - 1) := by
      rw [Nat.mul_sub, ← Nat.pow_add, show k + (64 - k) = 64 by omega, Nat.mul_one]
    rw [e, Nat.testBit_two_pow_mul, Nat.testBit_two_pow_sub_one]
    by_cases h : k ≤ j
    · simp [h]; omega
    · simp [h]
  · rw [lt64_bit hx hj]; simp
end Go.Dk
end

section
namespace Go.Dk
open Go.RowKit Go.Maps Go.MapKept
open Go.Proofs hiding intOf
def insideB (n : Int) : Bool := decide (0 ≤ n) && decide (n < 1024)
set_option maxRecDepth 100000 in
theorem inside_any (w : World) (n : Int) : Calls Tryd.prog 37 #[.int .i64 n] w fun e w' => e = .returned (.bool (insideB n)) ∧ w' = w := by
  by_cases h0 : 0 ≤ n
  · by_cases h1 : n < 1024
    · have HE : Hid (insideB n = true) := by simp [Hid, insideB, h0, h1]
      go_enter Tryd.func37, Tryd.ntmps37
      go_wp2
      go_ret
      exact ⟨ret_bool HE.out.symm, rfl⟩
    · have HE : Hid (insideB n = false) := by simp [Hid, insideB, h1]
      go_enter Tryd.func37, Tryd.ntmps37
      go_wp2
      go_ret
      exact ⟨ret_bool HE.out.symm, rfl⟩
  · have HE : Hid (insideB n = false) := by simp [Hid, insideB, h0]
    go_enter Tryd.func37, Tryd.ntmps37
    go_wp2
    go_ret
    exact ⟨ret_bool HE.out.symm, rfl⟩
/-- A word's bit, as Has reads it. -/
theorem has_word {m n : Nat} : (bits .and .u64 (((wd m (n / 64) : Nat) : Int) / 2 ^ (n % 64)) 1 == 1) = m.testBit n := by
  have h1 := wd_lt m (n / 64)
  have hd : wd m (n / 64) / 2 ^ (n % 64) < 18446744073709551616 := Nat.lt_of_le_of_lt (Nat.div_le_self _ _) h1
  have e1 : (((wd m (n / 64) : Nat) : Int) / 2 ^ (n % 64)) = ((wd m (n / 64) / 2 ^ (n % 64) : Nat) : Int) := by simp
  rw [e1, show (1 : Int) = ((1 : Nat) : Int) from rfl, bits_and_u64_nat _ 1 hd (by decide), Nat.and_one_is_mod]
  have h2 := wd_bit m (n / 64) (n % 64)
  rw [show 64 * (n / 64) + n % 64 = n from Nat.div_add_mod n 64] at h2
  have hlt : n % 64 < 64 := Nat.mod_lt _ (by decide)
  simp only [hlt, decide_true, Bool.true_and] at h2
  rw [← h2, Nat.testBit_eq_decide_div_mod_eq]
  generalize wd m (n / 64) / 2 ^ (n % 64) % 2 = x
  show ((x : Int) == ((1 : Nat) : Int)) = decide (x = 1)
  by_cases e : x = 1
  · simp [e]
  · have : ¬ ((x : Int) = 1) := by omega
    simp [e, this]
set_option maxRecDepth 100000 in
theorem has_in (w : World) (m n : Nat) (hn : n < 1024) : Calls Tryd.prog 62 #[.agg (bitsV m).toArray, .int .i64 (n : Int)] w fun e w' => e = .returned (.bool (m.testBit n)) ∧ Below w.heap.size w w' := by
  have hb := bitsV_at m (i := n / 64) (by omega)
  have hc : (w.alloc (.cells (bitsV m).toArray 72)).cell? ⟨w.heap.size, n / 64, none⟩ = some (.int .u64 (wd m (n / 64) : Int)) := by
    rw [World.cell?_alloc_at _ _ _ _ rfl]
    simpa using hb
  have hI : insideB (n : Int) = true := by simp [insideB]; omega
  have HI := Lib.hid (fun W => inside_any W (n : Int))
  rw [hI] at HI
  clear hI hb
  go_enter Tryd.func62, Tryd.ntmps62
  go_wp2_with (go_at_call 37; refine (HI.out _).mono ?_; rintro e w' ⟨rfl, hw⟩; rw [hw]; clear hw)
  go_ret
  exact ⟨ret_bool has_word, below_alloc _ _⟩
theorem word_or (a b : Nat) (ha : a < 2 ^ 64) (hb : b < 2 ^ 64) : bits .or .u64 (a : Int) (b : Int) = ((a ||| b : Nat) : Int) := bits_or_u64_nat a b ha hb
theorem word_andNot (a b : Nat) (ha : a < 2 ^ 64) (hb : b < 2 ^ 64) : bits .andNot .u64 (a : Int) (b : Int) = ((minusB a b : Nat) : Int) := by
  have h1 : (BitVec.ofInt 64 (a : Int)).toNat = a := by
    rw [BitVec.ofInt_natCast, BitVec.toNat_ofNat]; exact Nat.mod_eq_of_lt ha
  have h2 : (BitVec.ofInt 64 (b : Int)).toNat = b := by
    rw [BitVec.ofInt_natCast, BitVec.toNat_ofNat]; exact Nat.mod_eq_of_lt hb
  have hx := minus_lt (k := 64) b ha
  have e : a &&& (2 ^ 64 - 1 - b) = minusB a b := by
    apply Nat.eq_of_testBit_eq
    intro j
    rw [Nat.testBit_and, testBit_minus, show 2 ^ 64 - 1 - b = 2 ^ 64 - (b + 1) by omega, Nat.testBit_two_pow_sub_succ hb]
    by_cases hj : j < 64
    · simp [hj]
    · rw [lt64_bit ha hj]; simp
  show IntKind.u64.wrap ((BitVec.ofInt 64 (a : Int) &&& ~~~(BitVec.ofInt 64 (b : Int))).toNat : Int) = _
  rw [BitVec.toNat_and, BitVec.toNat_not, h1, h2, e, IntKind.wrap_u64]
  omega
theorem word_and (a b : Nat) (ha : a < 2 ^ 64) (hb : b < 2 ^ 64) : bits .and .u64 (a : Int) (b : Int) = ((a &&& b : Nat) : Int) := bits_and_u64_nat a b ha hb
set_option maxRecDepth 100000 in
theorem orFn_any (w : World) (a b : Nat) (ha : a < 2 ^ 64) (hb : b < 2 ^ 64) : Calls Tryd.prog 99 #[.int .u64 (a : Int), .int .u64 (b : Int)] w fun e w' => e = .returned (.int .u64 ((a ||| b : Nat) : Int)) ∧ w' = w := by
  have he := word_or a b ha hb
  go_enter Tryd.func99, Tryd.ntmps99
  go_wp2
  go_ret
  exact ⟨rfl, rfl⟩
set_option maxRecDepth 100000 in
theorem notFn_any (w : World) (a b : Nat) (ha : a < 2 ^ 64) (hb : b < 2 ^ 64) : Calls Tryd.prog 98 #[.int .u64 (a : Int), .int .u64 (b : Int)] w fun e w' => e = .returned (.int .u64 ((minusB a b : Nat) : Int)) ∧ w' = w := by
  have he := word_andNot a b ha hb
  go_enter Tryd.func98, Tryd.ntmps98
  go_wp2
  go_ret
  exact ⟨rfl, rfl⟩
/-- The library's table of lowest bits. -/
def TabG (w : World) : Prop := ∀ j, j < 64 → w.cell? ⟨0, j, none⟩ = some (.int .u8 (Lib.deBruijn64tab.getD j 0))
set_option maxRecDepth 100000 in
theorem tz_core (w : World) (x k idx : Nat) (hx0 : ((x : Int) == 0) = false)
    (key : IntKind.u64.wrap (bits BinOp.and IntKind.u64 (x : Int) (IntKind.u64.wrap (-(x : Int))) * 285870213051353865) / 288230376151711744 = (idx : Int))
    (hi : idx < 64) (hk : k < 64) (hcell : w.cell? ⟨0, idx, none⟩ = some (.int .u8 k)) : Calls Tryd.prog 50 #[.int .u64 (x : Int)] w fun e w' => e = .returned (.int .i64 k) ∧ w' = w := by
  go_enter Tryd.func50, Tryd.ntmps50
  go_wp2_with (simp only [key])
  go_ret
  exact ⟨rfl, rfl⟩
theorem tz_any (w : World) (hT : TabG w) (x : Nat) (h0 : x ≠ 0) (hx : x < 2 ^ 64) : Calls Tryd.prog 50 #[.int .u64 (x : Int)] w fun e w' => e = .returned (.int .i64 (Lib.ctz 64 x)) ∧ w' = w := by
  obtain ⟨hlow, hk⟩ := Lib.lowest_bit 64 x h0 hx
  obtain ⟨hi, htab⟩ := Lib.deBruijn64_at _ hk
  have hcell := hT _ hi
  rw [htab] at hcell
  exact tz_core w x _ _ (by simp; omega) (tz64_key x _ hx h0 hlow) hi hk hcell
end Go.Dk
end

section
namespace Go.Dk
open Go.RowKit
section
variable {P : Program} {ops : Array Oper} {md : Region.Mode} {C : World → Prop}
/-- f operations of the head come up, in whatever order; then L. -/
def headQ (P : Program) (md : Region.Mode) (ops : Array Oper) (C : World → Prop) (n : Nat) (L : Array Bool → Act → Prop) : Nat → Array Bool → Act → Prop
  | 0, listed, a => L listed a
  | f + 1, listed, a => Region.ready md ops listed ≠ [] ∧ ∀ i ∈ Region.ready md ops listed, i < n ∧ qOp P ops C i (headQ P md ops C n L f (listed.setIfInBounds i true)) a
theorem headQ_sound {n g : Nat} {L : Array Bool → Act → Prop} {Q : Exit → Act → World → Prop} (hL : ∀ listed a w, C w → L listed a → wpAny P md ops Q g listed a w) (f : Nat) :
    ∀ (listed : Array Bool) (a : Act) (w : World), C w → headQ P md ops C n L f listed a → wpAny P md ops Q (f + g) listed a w := by
  induction f with
  | zero => intro listed a w hw h; rw [Nat.zero_add]; exact hL _ _ _ hw h
  | succ f ih =>
    intro listed a w hw h
    rw [show f + 1 + g = (f + g) + 1 by omega]
    exact ⟨fun h0 => absurd h0 h.1, fun i hi => wpOp_of_qOp hw (fun a' w' hw' h' => ih _ a' w' hw' h') (h.2 i hi).2⟩
theorem headQ_first {n i : Nat} {oi : Oper} {v : Value} {L : Array Bool → Act → Prop} (hi : ops[i]? = some oi) (hsel : ∀ (j : Nat) (o : Oper) cs b, ops[j]? = some o → o.op ≠ .select cs b)
    (hs : Region.sinkB md ops n = true) (hc : Region.chainB md ops n = true) (hn : n < ops.size) (hin : i < n) (hdone : ∀ listed a, L listed a → ∀ j ∈ Region.ready md ops listed, n ≤ j) (f : Nat) :
    ∀ (listed : Array Bool) (a : Act), HeadInv md ops n listed →
      (∀ j oj, ops[j]? = some oj → j ≠ i → listed.getD j true = false → (∀ e ∈ oj.after, Region.binds md e = true → e.on ≠ i) → oi.apart ops oj = true) →
      i ∈ Region.ready md ops listed → YieldsIn P ops C oi v a → headQ P md ops C n L f (listed.setIfInBounds i true) (a.put oi.dst v) → headQ P md ops C n L (f + 1) listed a := by
  have inside : ∀ listed, HeadInv md ops n listed → i ∈ Region.ready md ops listed → ∀ j ∈ Region.ready md ops listed, j < n := by
    intro listed inv hr j hj
    apply Classical.byContradiction
    intro h
    exact tail_waits hs hc hn inv _ i rfl hin (mem_ready.1 hr).1 j (by omega) hj
  induction f with
  | zero =>
    intro listed a inv _ hr hy H
    refine ⟨List.ne_nil_of_mem hr, fun j hj => ⟨inside _ inv hr j hj, ?_⟩⟩
    by_cases e : j = i
    · subst e; exact hy.qOp hi H
    · have h1 := hdone _ _ H j (ready_mono hj e)
      have h2 := inside _ inv hr j hj
      omega
  | succ f ih =>
    intro listed a inv hfree hr hy H
    refine ⟨List.ne_nil_of_mem hr, fun j hj => ⟨inside _ inv hr j hj, ?_⟩⟩
    by_cases e : j = i
    · subst e; exact hy.qOp hi H
    · obtain ⟨hjun, oj, hoj, hall⟩ := mem_ready.1 hj
      have hnot : ∀ d ∈ oj.after, Region.binds md d = true → d.on ≠ i := fun d hd hb he => by
        have h1 := hall d hd hb
        rw [he, getD_both (mem_ready.1 hr).1] at h1
        cases h1
      refine qOp_mono (fun a' h3 => ih (listed.setIfInBounds j true) a' (inv.set hj (inside _ inv hr j hj)) (fun k ok hk hki hun hno => hfree k ok hk hki ?_ hno) (ready_mono hr (Ne.symm e)) h3.1 ?_)
        (qOp_put hoj (hfree j oj hoj e hjun hnot) (fun cs b => hsel i oi cs b hi) (fun cs b => hsel j oj cs b hoj) hy (H.2 j (ready_mono hj e)).2)
      · by_cases ejk : j = k
        · subst ejk; exact hjun
        · rwa [getD_set_ne true ejk] at hun
      · rw [Array.setIfInBounds_comm _ _ e]; exact h3.2
theorem headQ_lex {n g : Nat} {R : Act → Prop} (hsel : Region.noSelect ops = true) (hs : Region.sinkB md ops n = true) (hc : Region.chainB md ops n = true) (hn : n < ops.size) (l : List Oper) :
    ∀ (k : Nat) (listed : Array Bool) (a : Act), (∀ j, j < l.length → l[j]? = ops[k + j]?) → k + l.length = n → HeadInv md ops n listed → Region.lexHead md ops g l.length k listed = true → wpQuiet P ops C R l a →
      headQ P md ops C n (fun listed' a' => Region.seqB md ops g n listed' = true ∧ R a') l.length listed a := by
  induction l with
  | nil =>
    intro k listed a _ hk _ hB h
    obtain rfl : k = n := by simpa using hk
    exact ⟨by simpa [Region.lexHead] using hB, h⟩
  | cons o l ih =>
    intro k listed a hl hk inv hB h
    have h0 : ops[k]? = some o := by simpa using (hl 0 (by simp)).symm
    simp only [List.length_cons, Region.lexHead, Bool.and_eq_true] at hB hk
    have hr : k ∈ Region.ready md ops listed := by simpa using hB.1.1
    have hq : qOp P ops C k (wpQuiet P ops C R l) a := by unfold qOp; simp only [h0]; exact h
    obtain ⟨v, hy, hK⟩ := yieldsIn_of_qOp h0 hq
    exact headQ_first h0 (Region.noSelect_spec hsel) hs hc hn (by omega) (fun _ _ hL => seqB_ready hL.1) l.length listed a inv (Region.free_spec h0 hB.1.2) hr hy
      (ih (k + 1) _ _ (fun j hj => by have := hl (j + 1) (by simp; omega); simpa [Nat.add_assoc, Nat.add_comm 1 j] using this) (by omega) (inv.set hr (by omega)) hB.2 hK)
/-- A head in a class of worlds, then a tail in its one order. -/
theorem wp_region_tail {id : Nat} {Q : Exit → Act → World → Prop} {a : Act} {w : World} {l : List Oper} (n : Nat) (hm : P.follows .mixedOrders = true) (hB : Region.lexTailB .any l.toArray n = true) (hC : C w.drew)
    (h : wpQuiet P l.toArray C (fun a' => ∀ w', C w' → wpList P l.toArray Q (l.drop n) a' w') (l.take n) a) : (Code.region id l.toArray true).wp P Q a w := by
  simp only [Region.lexTailB, Bool.and_eq_true, decide_eq_true_eq] at hB
  obtain ⟨⟨⟨⟨hsel, hn⟩, hs⟩, hc⟩, hlex⟩ := hB
  have hn' : n < l.length := by simpa using hn
  have htl : (l.take n).length = n := by simp; omega
  have hdl : (l.drop n).length = l.toArray.size - n := by simp
  have inv0 : HeadInv .any l.toArray n (Array.replicate l.toArray.size false) :=
    ⟨by simp, fun j oj _ hl => (by rw [getD_replicate_false] at hl; cases hl), fun t _ ht => getD_in (by simpa using ht) (getD_replicate_false _ _)⟩
  have H := headQ_lex (P := P) (C := C) (md := .any) (g := l.toArray.size - n) hsel hs hc hn (l.take n) 0 _ a (fun j hj => by
    have hj' : j < n := by rw [htl] at hj; exact hj
    simp [hj']) (by simpa using htl) inv0 (by rw [htl]; exact hlex) h
  refine wp_region_any hm ?_
  have G := headQ_sound (Q := Q) (g := l.toArray.size - n) (fun listed a' w' hw' hL => by
    have := wpAny_of_seq (md := .any) (Q' := Q) (l.drop n) n listed a' w' (fun j => by simp [List.getElem?_drop]) (by rw [hdl]; exact hL.1) (hL.2 w' hw')
    rwa [hdl] at this) _ _ _ _ hC H
  rw [htl, show n + (l.toArray.size - n) = l.toArray.size by omega] at G
  exact G
/-- The same over a family of worlds. -/
theorem wp_tailW {I : Type} {W : I → World} {id : Nat} {Q : Exit → Act → World → Prop} {a : Act} {w : World} {l : List Oper} (n : Nat) (hm : P.follows .mixedOrders = true) (hB : Region.lexTailB .any l.toArray n = true) (hC : ∃ i, w.drew = W i)
    (h : wpQuiet P l.toArray (fun w' => ∃ i, w' = W i) (fun a' => ∀ w', (∃ i, w' = W i) → wpList P l.toArray Q (l.drop n) a' w') (l.take n) a) : (Code.region id l.toArray true).wp P Q a w :=
  wp_region_tail (C := fun w' => ∃ i, w' = W i) n hm hB hC h
end
/-- The later worlds, as a family. -/
structure Later (w : World) (I : Type) (W : I → World) : Prop where
  in_ : ∀ w', Below w.heap.size w w' → ∃ i, w' = W i
  bel : ∀ i, Below w.heap.size w (W i)
theorem later (w : World) : ∃ (I : Type) (_ : Nonempty I) (W : I → World), Later w I W := ⟨{ w' : World // Below w.heap.size w w' }, ⟨⟨w, Below.refl _ _⟩⟩, fun i => i.1, ⟨fun w' h => ⟨⟨w', h⟩, rfl⟩, fun i => i.2⟩⟩
theorem Later.drew {w : World} {I : Type} {W : I → World} (h : Later w I W) : ∃ i, w.drew = W i := h.in_ _ (below_drewN w 1)
theorem Later.cell {w : World} {I : Type} {W : I → World} (h : Later w I W) {a : Addr} {v : Value} (c : w.cell? a = some v) (i : I) : (W i).cell? a = some v := ((h.bel i).cell (World.block_lt_of_cell? w _ c)).trans c
theorem Later.call_same {P : Program} {I : Type} {W : I → World} {f : FuncId} {args : Array Value} {v : Value} {i : I} (c : Calls P f args (W i) fun e w' => e = .returned v ∧ W i = w') :
    Calls P f args (W i) fun e w' => e = .returned v ∧ ∃ j, w' = W j :=
  c.mono fun _ _ ⟨he, hb⟩ => ⟨he, i, hb.symm⟩
end Go.Dk
namespace Go.Dk
open Go.RowKit
section
variable {P : Program} {ops : Array Oper} {md : Region.Mode} {C : World → Prop}
def sinkM (md : Region.Mode) (ops : Array Oper) (m n : Nat) : Bool :=
  (List.range n).all fun i => decide (i < m) || (List.range (n + 1)).any fun j => decide (i < j) && Region.waitsFor md ops j i
theorem waits_m {m n : Nat} {listed : Array Bool} (hs : sinkM md ops m n = true) (hc : Region.chainB md ops n = true) (_hn : n < ops.size) (inv : HeadInv md ops n listed) :
    ∀ (d i : Nat), n - i = d → m ≤ i → i < n → listed.getD i true = false → ∀ t, n ≤ t → t ∉ Region.ready md ops listed := by
  intro d
  induction d using Nat.strongRecOn with
  | _ d ih =>
    intro i hd hm hi hun t ht hr
    obtain ⟨_, ot, hot, hall⟩ := mem_ready.1 hr
    have htlt : t < ops.size := (Array.getElem?_eq_some_iff.1 hot).1
    by_cases htn : t = n
    · have h1 := List.all_eq_true.1 hs i (List.mem_range.2 hi)
      simp only [Bool.or_eq_true, decide_eq_true_eq] at h1
      have h1 := h1.resolve_left (by omega)
      obtain ⟨j, hj, hj2⟩ := List.any_eq_true.1 h1
      simp only [Bool.and_eq_true, decide_eq_true_eq] at hj2
      have hjn := List.mem_range.1 hj
      obtain ⟨oj, hoj, e, he, hb, heq⟩ := Region.waitsFor_spec hj2.2
      have hif := getD_both hun
      by_cases hjt : j = t
      · subst hjt
        rw [hot] at hoj; cases hoj
        have := hall e he hb
        rw [heq, hif] at this; cases this
      · have hjun : listed.getD j true = false := by
          cases hL : listed.getD j false with
          | false => exact getD_in (by rw [inv.size]; omega) hL
          | true =>
            have := inv.closed j oj hoj hL e he hb
            rw [heq, hif] at this; cases this
        exact ih (n - j) (by omega) j rfl (by omega) (by omega) hjun t ht hr
    · have h1 := List.all_eq_true.1 hc t (List.mem_range.2 htlt)
      simp only [Bool.or_eq_true, decide_eq_true_eq] at h1
      have h1 := h1.resolve_left (by omega)
      obtain ⟨oj, hoj, e, he, hb, heq⟩ := Region.waitsFor_spec h1
      rw [hot] at hoj; cases hoj
      have h2 := hall e he hb
      have h3 := getD_both (inv.tail (t - 1) (by omega) (by omega))
      rw [heq, h3] at h2; cases h2
theorem headM_first {m n i : Nat} {oi : Oper} {v : Value} {L : Array Bool → Act → Prop} (hi : ops[i]? = some oi) (hsel : ∀ (j : Nat) (o : Oper) cs b, ops[j]? = some o → o.op ≠ .select cs b)
    (hs : sinkM md ops m n = true) (hc : Region.chainB md ops n = true) (hn : n < ops.size) (hin : i < n) (hdone : ∀ listed a, L listed a → ∀ j ∈ Region.ready md ops listed, n ≤ j) (f : Nat) :
    ∀ (listed : Array Bool) (a : Act), HeadInv md ops n listed → (∀ j, j < m → listed.getD j false = true) →
      (∀ j oj, ops[j]? = some oj → j ≠ i → listed.getD j true = false → (∀ e ∈ oj.after, Region.binds md e = true → e.on ≠ i) → oi.apart ops oj = true) →
      i ∈ Region.ready md ops listed → YieldsIn P ops C oi v a → headQ P md ops C n L f (listed.setIfInBounds i true) (a.put oi.dst v) → headQ P md ops C n L (f + 1) listed a := by
  have inside : ∀ listed, HeadInv md ops n listed → (∀ j, j < m → listed.getD j false = true) → i ∈ Region.ready md ops listed → ∀ j ∈ Region.ready md ops listed, j < n := by
    intro listed inv hpre hr j hj
    apply Classical.byContradiction
    intro h
    have hun := (mem_ready.1 hr).1
    have hmi : m ≤ i := by
      apply Classical.byContradiction
      intro hlt
      have := hpre i (by omega)
      rw [getD_both hun] at this; cases this
    exact waits_m hs hc hn inv _ i rfl hmi hin hun j (by omega) hj
  induction f with
  | zero =>
    intro listed a inv hpre _ hr hy H
    refine ⟨List.ne_nil_of_mem hr, fun j hj => ⟨inside _ inv hpre hr j hj, ?_⟩⟩
    by_cases e : j = i
    · subst e; exact hy.qOp hi H
    · have h1 := hdone _ _ H j (ready_mono hj e)
      have h2 := inside _ inv hpre hr j hj
      omega
  | succ f ih =>
    intro listed a inv hpre hfree hr hy H
    refine ⟨List.ne_nil_of_mem hr, fun j hj => ⟨inside _ inv hpre hr j hj, ?_⟩⟩
    by_cases e : j = i
    · subst e; exact hy.qOp hi H
    · obtain ⟨hjun, oj, hoj, hall⟩ := mem_ready.1 hj
      have hnot : ∀ d ∈ oj.after, Region.binds md d = true → d.on ≠ i := fun d hd hb he => by
        have h1 := hall d hd hb
        rw [he, getD_both (mem_ready.1 hr).1] at h1
        cases h1
      refine qOp_mono (fun a' h3 => ih (listed.setIfInBounds j true) a' (inv.set hj (inside _ inv hpre hr j hj)) (fun k hk => getD_set_true (hpre k hk)) (fun k ok hk hki hun hno => hfree k ok hk hki ?_ hno) (ready_mono hr (Ne.symm e)) h3.1 ?_)
        (qOp_put hoj (hfree j oj hoj e hjun hnot) (fun cs b => hsel i oi cs b hi) (fun cs b => hsel j oj cs b hoj) hy (H.2 j (ready_mono hj e)).2)
      · by_cases ejk : j = k
        · subst ejk; exact hjun
        · rwa [getD_set_ne true ejk] at hun
      · rw [Array.setIfInBounds_comm _ _ e]; exact h3.2
theorem headM_lex {m n g : Nat} {R : Act → Prop} (hsel : Region.noSelect ops = true) (hs : sinkM md ops m n = true) (hc : Region.chainB md ops n = true) (hn : n < ops.size) (l : List Oper) :
    ∀ (k : Nat) (listed : Array Bool) (a : Act), (∀ j, j < l.length → l[j]? = ops[k + j]?) → k + l.length = n → HeadInv md ops n listed → (∀ j, j < m → listed.getD j false = true) → Region.lexHead md ops g l.length k listed = true → wpQuiet P ops C R l a →
      headQ P md ops C n (fun listed' a' => Region.seqB md ops g n listed' = true ∧ R a') l.length listed a := by
  induction l with
  | nil =>
    intro k listed a _ hk _ _ hB h
    obtain rfl : k = n := by simpa using hk
    exact ⟨by simpa [Region.lexHead] using hB, h⟩
  | cons o l ih =>
    intro k listed a hl hk inv hpre hB h
    have h0 : ops[k]? = some o := by simpa using (hl 0 (by simp)).symm
    simp only [List.length_cons, Region.lexHead, Bool.and_eq_true] at hB hk
    have hr : k ∈ Region.ready md ops listed := by simpa using hB.1.1
    have hq : qOp P ops C k (wpQuiet P ops C R l) a := by unfold qOp; simp only [h0]; exact h
    obtain ⟨v, hy, hK⟩ := yieldsIn_of_qOp h0 hq
    exact headM_first h0 (Region.noSelect_spec hsel) hs hc hn (by omega) (fun _ _ hL => seqB_ready hL.1) l.length listed a inv hpre (Region.free_spec h0 hB.1.2) hr hy
      (ih (k + 1) _ _ (fun j hj => by have := hl (j + 1) (by simp; omega); simpa [Nat.add_assoc, Nat.add_comm 1 j] using this) (by omega) (inv.set hr (by omega)) (fun j hj => getD_set_true (hpre j hj)) hB.2 hK)
def tailB1 (md : Region.Mode) (ops : Array Oper) (n : Nat) : Bool :=
  Region.noSelect ops && decide (n < ops.size) && decide (1 ≤ n) && sinkM md ops 1 n && Region.chainB md ops n && (Region.ready md ops (Array.replicate ops.size false)).contains 0 && Region.free md ops (Array.replicate ops.size false) 0 &&
    Region.lexHead md ops (ops.size - n) (n - 1) 1 ((Array.replicate ops.size false).setIfInBounds 0 true)
/-- The first operation, a copy; the rest of the head in a class of worlds; the tail in its one order. -/
theorem wp_region_tail1 {id : Nat} {Q : Exit → Act → World → Prop} {a : Act} {w : World} {o0 : Oper} {l : List Oper} (n : Nat) (x : Operand) (hm : P.follows .mixedOrders = true) (hB : tailB1 .any (o0 :: l).toArray n = true) (hC : C w.drew)
    (hx : o0.op = .move x) (hg : o0.guard = none) (hQ : ∀ c a' w', Q (.panic c) (a'.put o0.dst (a.eval x)) w' → Q (.panic c) a' w')
    (h : wpQuiet P (o0 :: l).toArray C (fun a' => ∀ w', C w' → wpList P (o0 :: l).toArray Q (l.drop (n - 1)) a' w') (l.take (n - 1)) (a.put o0.dst (a.eval x))) : (Code.region id (o0 :: l).toArray true).wp P Q a w := by
  simp only [tailB1, Bool.and_eq_true, decide_eq_true_eq] at hB
  obtain ⟨⟨⟨⟨⟨⟨⟨hsel, hn⟩, h1⟩, hs⟩, hc⟩, hr0⟩, hf0⟩, hlex⟩ := hB
  have hn' : n < l.length + 1 := by simpa using hn
  have hsz : (o0 :: l).toArray.size = l.length + 1 := by simp
  have h0 : (o0 :: l).toArray[0]? = some o0 := by simp
  have htl : (l.take (n - 1)).length = n - 1 := by simp; omega
  have hdl : (l.drop (n - 1)).length = (o0 :: l).toArray.size - n := by rw [hsz, List.length_drop]; omega
  have inv0 : HeadInv .any (o0 :: l).toArray n (Array.replicate (o0 :: l).toArray.size false) :=
    ⟨by simp, fun j oj _ hl => (by rw [getD_replicate_false] at hl; cases hl), fun t _ ht => getD_in (by simpa using ht) (getD_replicate_false _ _)⟩
  have hr0' : 0 ∈ Region.ready .any (o0 :: l).toArray (Array.replicate (o0 :: l).toArray.size false) := by simpa using hr0
  have inv1 := inv0.set hr0' (by omega)
  have hpre : ∀ j, j < 1 → ((Array.replicate (o0 :: l).toArray.size false).setIfInBounds 0 true).getD j false = true := by
    intro j hj
    obtain rfl : j = 0 := by omega
    simp
  have H := headM_lex (P := P) (C := C) (md := .any) (g := (o0 :: l).toArray.size - n) hsel hs hc hn (l.take (n - 1)) 1 _ (a.put o0.dst (a.eval x)) (fun j hj => by
    have hj' : j < n - 1 := by rw [htl] at hj; exact hj
    simp [hj', Nat.add_comm 1 j]) (by omega) inv1 hpre (by rw [htl]; exact hlex) h
  refine wp_region_any hm ?_
  have G := headQ_sound (Q := Q) (g := (o0 :: l).toArray.size - n) (fun listed a' w' hw' hL => by
    have := wpAny_of_seq (md := .any) (Q' := Q) (l.drop (n - 1)) n listed a' w' (fun j => by
      have e : n + j = (n - 1 + j) + 1 := by omega
      simp [e, List.getElem?_drop]) (by rw [hdl]; exact hL.1) (hL.2 w' hw')
    rwa [hdl] at this) _ _ _ _ hC H
  have hy : Yields P (o0 :: l).toArray o0 (a.eval x) a := .inl ⟨by simp [Region.wanted, hg], fun w => by rw [BigFrame.run_move x hx]⟩
  have e2 : (o0 :: l).toArray.size = (l.take (n - 1)).length + ((o0 :: l).toArray.size - n) + 1 := by rw [htl, hsz]; omega
  have W := wpAny_first (Q := Q) h0 (Region.noSelect_spec hsel) hQ _ (Array.replicate (o0 :: l).toArray.size false) a w.drew (Region.free_spec h0 hf0) hr0' hy G
  rw [← e2] at W
  exact W
/-- The same over a family of worlds. -/
theorem wp_tailW1 {I : Type} {W : I → World} {id : Nat} {Q : Exit → Act → World → Prop} {a : Act} {w : World} {o0 : Oper} {l : List Oper} (n : Nat) (x : Operand) (hm : P.follows .mixedOrders = true) (hB : tailB1 .any (o0 :: l).toArray n = true) (hC : ∃ i, w.drew = W i)
    (hx : o0.op = .move x) (hg : o0.guard = none) (hQ : ∀ c a' w', Q (.panic c) (a'.put o0.dst (a.eval x)) w' → Q (.panic c) a' w')
    (h : wpQuiet P (o0 :: l).toArray (fun w' => ∃ i, w' = W i) (fun a' => ∀ w', (∃ i, w' = W i) → wpList P (o0 :: l).toArray Q (l.drop (n - 1)) a' w') (l.take (n - 1)) (a.put o0.dst (a.eval x))) : (Code.region id (o0 :: l).toArray true).wp P Q a w :=
  wp_region_tail1 (C := fun w' => ∃ i, w' = W i) n x hm hB hC hx hg hQ h
end
end Go.Dk
namespace Go.Dk
open Go.RowKit
section
variable {P : Program} {ops : Array Oper} {md : Region.Mode} {F : Bool → World}
/-- Operations that call nothing. -/
def plainOp : Op → Bool
  | .move _ | .assign _ | .pick _ _ _ | .load _ _ | .nilCheck _ | .fieldAddr _ _ _ | .indexAddr _ _ _ | .binOp _ _ _ _ _ | .unOp _ _ _ | .extract _ _ | .build _ _ => true
  | _ => false
theorem andThen_no {α : Type} {r : Result α} {k : α → World → Result Next} {f : FuncId} {args : Array Value} {w' : World} (h : ∀ x w, k x w ≠ .ok (.enter f args) w') : r.andThen k ≠ .ok (.enter f args) w' := by
  cases r with
  | ok x w => exact h x w
  | halt x w => intro e; cases e
theorem val_no {α : Type} (m : _root_.Go.Sem α) (g : α → Value) (w : World) (f : FuncId) (args : Array Value) (w' : World) : (m >>= fun x => pure (Next.value (g x))).run P w ≠ .ok (.enter f args) w' := by
  have : (m >>= fun x => pure (Next.value (g x))).run P w = (m.run P w).andThen fun x w => .ok (.value (g x)) w := by simp
  rw [this]
  exact andThen_no fun x w e => by cases e
theorem bind_no {α : Type} (m : _root_.Go.Sem α) (k : α → _root_.Go.Sem Next) {w : World} {f : FuncId} {args : Array Value} {w' : World} (h : ∀ x w, (k x).run P w ≠ .ok (.enter f args) w') : (m >>= k).run P w ≠ .ok (.enter f args) w' := by
  have : (m >>= k).run P w = (m.run P w).andThen fun x w => (k x).run P w := by simp
  rw [this]
  exact andThen_no h
theorem panic_no (w : World) (f : FuncId) (args : Array Value) (w' : World) : (runtimePanic .nilDeref : _root_.Go.Sem Next).run P w ≠ .ok (.enter f args) w' := by
  intro h
  simp [go_sem] at h
theorem no_enter (ρ : Operand → Value) (o : Oper) (h : plainOp o.op = true) (w : World) (f : FuncId) (args : Array Value) (w' : World) : (execOp ρ o).run P w ≠ .ok (.enter f args) w' := by
  obtain ⟨dst, op, ty, pos, aft, gd⟩ := o
  simp only at h
  cases op <;> simp only [plainOp, Bool.false_eq_true] at h <;> unfold execOp <;> simp only
  all_goals first | exact val_no _ _ _ _ _ _ | (intro e; cases e; done) | skip
  split
  · exact panic_no _ _ _ _
  · exact panic_no _ _ _ _
  · exact panic_no _ _ _ _
  · split
    · exact panic_no _ _ _ _
    · refine bind_no _ _ fun x w => bind_no _ _ fun y w => ?_
      split
      · exact bind_no _ _ fun z w e => by cases e
      · intro e; cases e
    · intro e; cases e
  · intro e; cases e
/-- Quiet over two worlds is quiet in each, where nothing is called. -/
theorem quiet_one {C : World → Prop} {o : Oper} {a : Act} {v : Value} (hp : plainOp o.op = true) {w : World} (_hw : C w) (h : o.quietAt P a C w v) : o.quietAt P a (fun x => x = w) w v := by
  unfold Oper.quietAt at *
  have hn := no_enter (P := P) a.eval o hp w
  generalize (execOp a.eval o).run P w = r at *
  cases r with
  | ok n w' =>
    cases n <;> simp only [Oper.quietUpon] at h ⊢
    case value => exact h
    case skip => exact h
    case enter f args => exact absurd rfl (hn f args w')
  | halt x w' => simp only [Oper.quietUpon] at h
theorem qOp_one {C : World → Prop} {i : Nat} {oi : Oper} (hi : ops[i]? = some oi) (hp : plainOp oi.op = true) {a : Act} {K : Act → Prop} {w : World} (hw : C w) (h : qOp P ops C i K a) : qOp P ops (fun x => x = w) i K a := by
  unfold qOp at *
  simp only [hi] at *
  split
  · rename_i hwt
    rw [if_pos hwt] at h
    obtain ⟨v, h1, h2⟩ := h
    exact ⟨v, fun w' e => by subst e; exact quiet_one hp hw (h1 _ hw), h2⟩
  · rename_i hwt
    rw [if_neg hwt] at h
    exact h
/-- The operation that makes the block. -/
def evOK (P : Program) (ops : Array Oper) (F : Bool → World) (oe : Oper) (v : Value) (a : Act) : Prop := Region.wanted oe (yielded ops a.tmps) = true ∧ (execOp a.eval oe).run P (F false) = .ok (.value v) (F true)
/-- The head: reads, in either world; the one operation e that makes the block. -/
def headE (P : Program) (md : Region.Mode) (ops : Array Oper) (F : Bool → World) (n e : Nat) (oe : Oper) (v : Value) (L : Array Bool → Act → Prop) : Nat → Array Bool → Act → Prop
  | 0, listed, a => listed.getD e false = true ∧ L listed a
  | f + 1, listed, a => Region.ready md ops listed ≠ [] ∧ ∀ i ∈ Region.ready md ops listed, i < n ∧
      ((i = e ∧ evOK P ops F oe v a ∧ headE P md ops F n e oe v L f (listed.setIfInBounds e true) (a.put oe.dst v)) ∨
       (i ≠ e ∧ (∃ oi, ops[i]? = some oi ∧ plainOp oi.op = true) ∧ qOp P ops (fun w => ∃ b, w = F b) i (headE P md ops F n e oe v L f (listed.setIfInBounds i true)) a))
theorem headE_sound {n e g : Nat} {oe : Oper} {v : Value} {L : Array Bool → Act → Prop} {Q : Exit → Act → World → Prop} (he : ops[e]? = some oe) (hL : ∀ listed a, listed.getD e false = true → L listed a → wpAny P md ops Q g listed a (F true)) (f : Nat) :
    ∀ (listed : Array Bool) (a : Act), listed.size = ops.size → headE P md ops F n e oe v L f listed a → wpAny P md ops Q (f + g) listed a (F (listed.getD e false)) := by
  have hes : e < ops.size := (Array.getElem?_eq_some_iff.1 he).1
  induction f with
  | zero => intro listed a _ h; rw [Nat.zero_add, h.1]; exact hL _ _ h.1 h.2
  | succ f ih =>
    intro listed a hs h
    rw [show f + 1 + g = (f + g) + 1 by omega]
    refine ⟨fun h0 => absurd h0 h.1, fun i hi => ?_⟩
    rcases (h.2 i hi).2 with ⟨rfl, hev, hk⟩ | ⟨hne, ⟨oi, hoi, hp⟩, hq⟩
    · have hun := getD_both (mem_ready.1 hi).1
      rw [hun]
      have := ih _ _ (by simpa using hs) hk
      rw [show (listed.setIfInBounds i true).getD i false = true by simp [hs, hes]] at this
      unfold wpOp
      simp only [he]
      rw [if_pos hev.1]
      left
      unfold Oper.wp
      rw [hev.2]
      exact this
    · refine wpOp_of_qOp (C := fun x => x = F (listed.getD e false)) rfl (fun a' w' hw' h' => ?_) (qOp_one hoi hp ⟨_, rfl⟩ hq)
      subst hw'
      have := ih _ _ (by simpa using hs) h'
      rwa [getD_set_ne false hne] at this
theorem ev_put {e : Nat} {oi oe : Oper} {v u : Value} (_he : ops[e]? = some oe) (hap : oi.apart ops oe = true) (hse : ∀ cs b, oe.op ≠ .select cs b) {a : Act} (h : evOK P ops F oe v (a.put oi.dst u)) : evOK P ops F oe v a := by
  obtain ⟨h1, h2, h3⟩ := Oper.apart_spec hap
  unfold evOK at *
  rw [wanted_put oe a oi.dst u h1, execOp_put oe hse a oi.dst u h1] at h
  exact h
theorem headE_first {n e i : Nat} {oi oe : Oper} {u v : Value} {L : Array Bool → Act → Prop} (hi : ops[i]? = some oi) (he : ops[e]? = some oe) (hie : i ≠ e) (hp : plainOp oi.op = true) (hsel : ∀ (j : Nat) (o : Oper) cs b, ops[j]? = some o → o.op ≠ .select cs b)
    (hs : Region.sinkB md ops n = true) (hc : Region.chainB md ops n = true) (hn : n < ops.size) (hin : i < n) (hdone : ∀ listed a, L listed a → ∀ j ∈ Region.ready md ops listed, n ≤ j) (f : Nat) :
    ∀ (listed : Array Bool) (a : Act), HeadInv md ops n listed →
      (∀ j oj, ops[j]? = some oj → j ≠ i → listed.getD j true = false → (∀ d ∈ oj.after, Region.binds md d = true → d.on ≠ i) → oi.apart ops oj = true) →
      i ∈ Region.ready md ops listed → YieldsIn P ops (fun w => ∃ b, w = F b) oi u a → headE P md ops F n e oe v L f (listed.setIfInBounds i true) (a.put oi.dst u) → headE P md ops F n e oe v L (f + 1) listed a := by
  have inside : ∀ listed, HeadInv md ops n listed → i ∈ Region.ready md ops listed → ∀ j ∈ Region.ready md ops listed, j < n := by
    intro listed inv hr j hj
    apply Classical.byContradiction
    intro h
    exact tail_waits hs hc hn inv _ i rfl hin (mem_ready.1 hr).1 j (by omega) hj
  induction f with
  | zero =>
    intro listed a inv _ hr hy H
    refine ⟨List.ne_nil_of_mem hr, fun j hj => ⟨inside _ inv hr j hj, ?_⟩⟩
    by_cases ej : j = i
    · subst ej; exact .inr ⟨hie, ⟨oi, hi, hp⟩, hy.qOp hi H⟩
    · have h1 := hdone _ _ H.2 j (ready_mono hj ej)
      have h2 := inside _ inv hr j hj
      omega
  | succ f ih =>
    intro listed a inv hfree hr hy H
    refine ⟨List.ne_nil_of_mem hr, fun j hj => ⟨inside _ inv hr j hj, ?_⟩⟩
    by_cases ej : j = i
    · subst ej; exact .inr ⟨hie, ⟨oi, hi, hp⟩, hy.qOp hi H⟩
    · obtain ⟨hjun, oj, hoj, hall⟩ := mem_ready.1 hj
      have hnot : ∀ d ∈ oj.after, Region.binds md d = true → d.on ≠ i := fun d hd hb he => by
        have h1 := hall d hd hb
        rw [he, getD_both (mem_ready.1 hr).1] at h1
        cases h1
      have hap := hfree j oj hoj ej hjun hnot
      have hfree' : ∀ k ok, ops[k]? = some ok → k ≠ i → (listed.setIfInBounds j true).getD k true = false → (∀ d ∈ ok.after, Region.binds md d = true → d.on ≠ i) → oi.apart ops ok = true := fun k ok hk hki hun hno => by
        refine hfree k ok hk hki ?_ hno
        by_cases ejk : j = k
        · subst ejk; exact hjun
        · rwa [getD_set_ne true ejk] at hun
      rcases (H.2 j (ready_mono hj ej)).2 with ⟨hje, hev, hk⟩ | ⟨hje, hpj, hq⟩
      · subst hje
        have ho : oj = oe := by rw [he] at hoj; exact (Option.some.inj hoj).symm
        subst ho
        obtain ⟨p1, p2, p3⟩ := Oper.apart_spec hap
        refine .inl ⟨rfl, ev_put hoj hap (fun cs b => hsel _ _ cs b hoj) hev, ih _ _ (inv.set hj (inside _ inv hr j hj)) hfree' (ready_mono hr (Ne.symm ej)) (hy.of_same (execOp_put oi (fun cs b => hsel _ _ cs b hi) a oj.dst v p3) (wanted_put oi a oj.dst v p3)) ?_⟩
        rw [Array.setIfInBounds_comm _ _ ej, ← Act.put_comm a u v p2]
        exact hk
      · refine .inr ⟨hje, hpj, qOp_mono (fun a' h3 => ih (listed.setIfInBounds j true) a' (inv.set hj (inside _ inv hr j hj)) hfree' (ready_mono hr (Ne.symm ej)) h3.1 ?_)
          (qOp_put hoj hap (fun cs b => hsel i oi cs b hi) (fun cs b => hsel j oj cs b hoj) hy hq)⟩
        rw [Array.setIfInBounds_comm _ _ ej]; exact h3.2
theorem headE_lex {n e g : Nat} {oe : Oper} {v : Value} {R : Act → Prop} (hen : e + 1 = n) (he : ops[e]? = some oe) (hsel : Region.noSelect ops = true) (hs : Region.sinkB md ops n = true) (hc : Region.chainB md ops n = true) (hn : n < ops.size) (l : List Oper) (hpl : l.all (fun o => plainOp o.op) = true) :
    ∀ (k : Nat) (listed : Array Bool) (a : Act), (∀ j, j < l.length → l[j]? = ops[k + j]?) → k + l.length = e → HeadInv md ops n listed → listed.getD e false = false → (∀ j, j < k → listed.getD j false = true) → Region.lexHead md ops g (l.length + 1) k listed = true →
      wpQuiet P ops (fun w => ∃ b, w = F b) (fun a' => evOK P ops F oe v a' ∧ R (a'.put oe.dst v)) l a →
      headE P md ops F n e oe v (fun listed' a' => Region.seqB md ops g n listed' = true ∧ R a') (l.length + 1) listed a := by
  induction l with
  | nil =>
    intro k listed a _ hk inv hun hall hB h
    obtain rfl : k = e := by simpa using hk
    simp only [List.length_nil, Region.lexHead, Bool.and_eq_true] at hB
    have hr : k ∈ Region.ready md ops listed := by simpa using hB.1.1
    have hsz := inv.size
    refine ⟨List.ne_nil_of_mem hr, fun j hj => ?_⟩
    have hjn : j < n := by
      apply Classical.byContradiction
      intro hcon
      exact tail_waits hs hc hn inv _ k rfl (by omega) (mem_ready.1 hr).1 j (by omega) hj
    have hje : j = k := by
      apply Classical.byContradiction
      intro hcon
      have := hall j (by omega)
      rw [getD_both (mem_ready.1 hj).1] at this; cases this
    refine ⟨hjn, .inl ⟨hje, h.1, ?_, ?_, h.2⟩⟩
    · have hes : k < ops.size := by omega
      simp [hsz, hes]
    · rw [← hen]; exact hB.2
  | cons o l ih =>
    intro k listed a hl hk inv hun hall hB h
    simp only [List.all_cons, Bool.and_eq_true] at hpl
    have h0 : ops[k]? = some o := by simpa using (hl 0 (by simp)).symm
    simp only [List.length_cons] at hB hk
    rw [Region.lexHead] at hB
    simp only [Bool.and_eq_true] at hB
    have hr : k ∈ Region.ready md ops listed := by simpa using hB.1.1
    have hq : qOp P ops (fun w => ∃ b, w = F b) k (wpQuiet P ops (fun w => ∃ b, w = F b) (fun a' => evOK P ops F oe v a' ∧ R (a'.put oe.dst v)) l) a := by unfold qOp; simp only [h0]; exact h
    obtain ⟨u, hy, hK⟩ := yieldsIn_of_qOp h0 hq
    have hke : k ≠ e := by omega
    exact headE_first h0 he hke hpl.1 (Region.noSelect_spec hsel) hs hc hn (by omega) (fun _ _ hL => seqB_ready hL.1) (l.length + 1) listed a inv (Region.free_spec h0 hB.1.2) hr hy
      (ih hpl.2 (k + 1) _ _ (fun j hj => by have := hl (j + 1) (by simp; omega); simpa [Nat.add_assoc, Nat.add_comm 1 j] using this) (by omega) (inv.set hr (by omega)) (by rw [getD_set_ne false hke]; exact hun) (fun j hj => by
        by_cases ejk : j = k
        · subst ejk
          have hks : j < ops.size := by omega
          simp [inv.size, hks]
        · exact getD_set_true (hall j (by omega))) hB.2 hK)
def eventB (md : Region.Mode) (ops : Array Oper) (n : Nat) : Bool :=
  Region.noSelect ops && decide (n < ops.size) && decide (1 ≤ n) && Region.sinkB md ops n && Region.chainB md ops n && (ops.toList.take (n - 1)).all (fun o => plainOp o.op) && Region.lexHead md ops (ops.size - n) n 0 (Array.replicate ops.size false)
/-- Reads; a block is made; then a tail in its one order. -/
theorem wp_eventW {id : Nat} {Q : Exit → Act → World → Prop} {a : Act} {w : World} {l : List Oper} (n : Nat) (oe : Oper) (v : Value) (hm : P.follows .mixedOrders = true) (hB : eventB .any l.toArray n = true) (he : l[n - 1]? = some oe) (hF : w.drew = F false)
    (h : wpQuiet P l.toArray (fun w' => ∃ b, w' = F b) (fun a' => evOK P l.toArray F oe v a' ∧ wpList P l.toArray Q (l.drop n) (a'.put oe.dst v) (F true)) (l.take (n - 1)) a) : (Code.region id l.toArray true).wp P Q a w := by
  simp only [eventB, Bool.and_eq_true, decide_eq_true_eq] at hB
  obtain ⟨⟨⟨⟨⟨⟨hsel, hn⟩, h1⟩, hs⟩, hc⟩, hpl⟩, hlex⟩ := hB
  have hn' : n < l.length := by simpa using hn
  have htl : (l.take (n - 1)).length = n - 1 := by simp; omega
  have hdl : (l.drop n).length = l.toArray.size - n := by simp
  have inv0 : HeadInv .any l.toArray n (Array.replicate l.toArray.size false) :=
    ⟨by simp, fun j oj _ hl => (by rw [getD_replicate_false] at hl; cases hl), fun t _ ht => getD_in (by simpa using ht) (getD_replicate_false _ _)⟩
  have he' : l.toArray[n - 1]? = some oe := by simpa using he
  have H := headE_lex (P := P) (F := F) (md := .any) (g := l.toArray.size - n) (e := n - 1) (R := fun a' => wpList P l.toArray Q (l.drop n) a' (F true)) (by omega) he' hsel hs hc hn (l.take (n - 1)) (by simpa using hpl) 0 _ a (fun j hj => by
    have hj' : j < n - 1 := by rw [htl] at hj; exact hj
    simp [hj']) (by simpa using htl) inv0 (getD_replicate_false _ _) (fun j hj => by omega) (by rw [htl, show n - 1 + 1 = n by omega]; exact hlex) h
  refine wp_region_any hm ?_
  have G := headE_sound (Q := Q) (g := l.toArray.size - n) he' (fun listed a' _ hL => by
    have := wpAny_of_seq (md := .any) (Q' := Q) (l.drop n) n listed a' (F true) (fun j => by simp [List.getElem?_drop]) (by rw [hdl]; exact hL.1) hL.2
    rwa [hdl] at this) _ _ _ (by simp) H
  rw [htl, show n - 1 + 1 + (l.toArray.size - n) = l.toArray.size by simp; omega, getD_replicate_false] at G
  rw [← hF] at G
  exact G
/-- Two worlds, as a family that tells nothing of itself. -/
structure TwoI (w0 w1 : World) (I : Type) (W : I → World) (i0 i1 : I) : Prop where
  a0 : W i0 = w0
  a1 : W i1 = w1
  all : ∀ i, i = i0 ∨ i = i1
theorem twoI (w0 w1 : World) : ∃ (I : Type) (_ : Nonempty I) (W : I → World) (i0 i1 : I), TwoI w0 w1 I W i0 i1 := ⟨Bool, ⟨true⟩, fun b => if b then w1 else w0, false, true, rfl, rfl, fun b => by cases b <;> simp⟩
theorem TwoI.cell {w0 w1 : World} {I : Type} {W : I → World} {i0 i1 : I} (h : TwoI w0 w1 I W i0 i1) {a : Addr} {v : Value} (c0 : w0.cell? a = some v) (c1 : w1.cell? a = some v) (i : I) : (W i).cell? a = some v := by
  rcases h.all i with rfl | rfl
  · rw [h.a0]; exact c0
  · rw [h.a1]; exact c1
theorem alloc_both {w : World} {o : Obj} {I : Type} {W : I → World} {i0 i1 : I} (h : TwoI w.drew (w.drew.alloc o) I W i0 i1) {a : Addr} {v : Value} (c : w.cell? a = some v) (i : I) : (W i).cell? a = some v := by
  have c0 : w.drew.cell? a = some v := c
  exact h.cell c0 ((below_alloc w.drew o).cell (World.block_lt_of_cell? _ _ c0) |>.trans c0) i
theorem wp_eventI {I : Type} {W : I → World} {i0 i1 : I} {w1 : World} {id : Nat} {Q : Exit → Act → World → Prop} {a : Act} {w : World} {l : List Oper} (n : Nat) (oe : Oper) (v : Value) (hW : TwoI w.drew w1 I W i0 i1) (hm : P.follows .mixedOrders = true) (hB : eventB .any l.toArray n = true) (he : l[n - 1]? = some oe)
    (hev : ∀ ρ : Operand → Value, (execOp ρ oe).run P w.drew = .ok (.value v) w1) (hg : oe.guard = none)
    (h : wpQuiet P l.toArray (fun w' => ∃ i, w' = W i) (fun a' => wpList P l.toArray Q (l.drop n) (a'.put oe.dst v) w1) (l.take (n - 1)) a) : (Code.region id l.toArray true).wp P Q a w := by
  have hc : (fun w' => ∃ i, w' = W i) = (fun w' => ∃ b : Bool, w' = (fun b : Bool => W (if b then i1 else i0)) b) := by
    funext w'
    refine propext ⟨fun ⟨i, hi⟩ => ?_, fun ⟨b, hb⟩ => ⟨_, hb⟩⟩
    rcases hW.all i with rfl | rfl
    · exact ⟨false, by simpa using hi⟩
    · exact ⟨true, by simpa using hi⟩
  rw [hc] at h
  refine wp_eventW (F := fun b => W (if b then i1 else i0)) n oe v hm hB he (by simp [hW.a0]) ?_
  have hR : (fun a' => wpList P l.toArray Q (l.drop n) (a'.put oe.dst v) w1) = (fun a' => evOK P l.toArray (fun b => W (if b then i1 else i0)) oe v a' ∧ wpList P l.toArray Q (l.drop n) (a'.put oe.dst v) ((fun b => W (if b then i1 else i0)) true)) := by
    funext a'
    refine propext ⟨fun h => ⟨⟨by simp [Region.wanted, hg], by simp only [Bool.false_eq_true, if_false, if_true]; rw [hW.a0, hW.a1]; exact hev _⟩, by simpa [hW.a1] using h⟩, fun h => by simpa [hW.a1] using h.2⟩
  rw [hR] at h
  exact h
end
end Go.Dk
namespace Go.Dk
open Go.RowKit
section
variable {P : Program} {ops : Array Oper} {md : Region.Mode} {C : World → Prop}
end
end Go.Dk
end
