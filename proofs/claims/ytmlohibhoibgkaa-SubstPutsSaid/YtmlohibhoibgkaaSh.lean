/- Layer 7: looked, plain; what the loop of anew holds. -/
import Derived.Test.YtmlohibhoibgkaaSg
import Derived.Test.YtmlohibhoibgkaaYf
import Derived.StringKeys
import Derived.Maps.Keyed
namespace Go.Dk
open Go.RowKit Go.Maps Go.MapKept
open Go.Proofs hiding intOf

theorem PutPost.from {k : Nat} {ow : Own} {w w1 : World} {t : Value} {p : Put} {e : Ending} {w' : World} (hb : Below w.heap.size w w1) (h : PutPost k ow w1 t p e w') : PutPost k ow w t p e w' := by
  obtain ⟨he, ow', hk, ht⟩ := h
  exact ⟨he, ow', hb.kept_ow.trans hk, ht⟩

set_option maxRecDepth 100000 in
theorem not_bad (k : Nat) (ow : Own) (w : World) (t : Value) (rows : List ND) (h : Tab k ow w t rows) (a : Int) (ha : hasB rows.length a = false) : Calls Try.prog 56 #[t, .int .i64 a] w fun e w' => e = .returned (.tuple #[.int .i64 0, .int .i64 31]) ∧ w = w' := by
  have H := Lib.hid h
  clear h
  go_enter Try.func56, Try.ntmps56
  go_wp2_with (first | (go_at_call 42; refine (alive_yes k ow _ _ rows H.out).mono ?_; rintro e w' ⟨rfl, rfl⟩) | (go_at_call 43; refine (has_any k ow _ _ rows H.out _).mono ?_; rintro e w' ⟨rfl, rfl⟩))
  go_ret2
  exact ⟨rfl, rfl⟩

def lookE (rows : List ND) (zs : List Int) : Int := if (zs.all fun z => hasB rows.length z) = true then 0 else 31
theorem lookE_yes {rows : List ND} {zs : List Int} (h : (zs.all fun z => hasB rows.length z) = true) : lookE rows zs = 0 := by unfold lookE; rw [if_pos h]
theorem lookE_no {rows : List ND} {zs : List Int} {k : Nat} {z : Int} (h : zs[k]? = some z) (hb : hasB rows.length z = false) : lookE rows zs = 31 := by
  unfold lookE
  rw [if_neg]
  intro hall
  have := List.all_eq_true.1 hall z (List.mem_of_getElem? h)
  rw [hb] at this; cases this
theorem all_take {p : Int → Bool} {l : List Int} {k : Nat} {y : Int} (h : l[k]? = some y) : (l.take (k + 1)).all p = ((l.take k).all p && p y) := by
  rw [List.take_add_one, h]; simp
theorem nat_of_has {n : Nat} {i : Int} (h : hasB n i = true) : ∃ x : Nat, i = (x : Int) ∧ x < n := by
  unfold hasB at h; simp at h; exact ⟨i.toNat, by omega, by omega⟩

set_option maxRecDepth 100000 in
set_option maxHeartbeats 800000 in
theorem looked_any (k : Nat) (ow : Own) (w : World) (t v : Value) (rows : List ND) (zs : List Int) (h : Tab k ow w t rows) (hv : Rd w v zs.length 1 (ints zs)) (hl : zs.length ≤ 9223372036854775807) :
    Calls Try.prog 33 #[t, v] w fun e w' => e = .returned (.int .i64 (lookE rows zs)) ∧ Below w.heap.size w w' := by
  have H := Lib.hid h
  have HV := Lib.hid hv
  obtain ⟨va, vc, rfl⟩ := hv.slice
  have HN : Hid (hasB rows.length (-1) = false) := by simp [Hid, hasB]
  clear h hv
  go_enter Try.func33, Try.ntmps33
  go_wp2_with (go_at_call 56; refine (not_bad k ow _ _ rows H.out _ HN.out).mono ?_; rintro e w' ⟨rfl, rfl⟩)
  go_loopw [21] (fun u W => ∃ j : Nat, j ≤ zs.length ∧ u = .int .i64 (j : Int) ∧ ((zs.take j).all fun z => hasB rows.length z) = true ∧ Below w.heap.size w W) (fun u _ => zs.length - (intOf u).toNat)
  case atStart => exact ⟨0, Nat.zero_le _, rfl, by simp, Below.refl _ _⟩
  case round =>
    obtain ⟨j, hj, rfl, hall, hb⟩ := hrel
    have HA := Lib.hid hall; have HB := Lib.hid hb
    clear hall hb
    by_cases hlt : j < zs.length
    · obtain ⟨b, o, c1, z, he, hc1, hzk⟩ := ints_at (HV.out.below HB.out) hlt
      cases he
      have HZ := Lib.hid hzk
      have hji : (j : Int) < (zs.length : Int) := by omega
      clear hzk
      cases hz : hasB rows.length z with
      | true =>
        have HS := Lib.hid (all_take (p := fun z => hasB rows.length z) HZ.out)
        have HZT := Lib.hid hz
        obtain ⟨x, rfl, hx⟩ := nat_of_has hz
        have HR := Lib.hid (rowAt_get hx)
        clear hz
        go_wp2_with (go_at_call 15; refine (node_yes k ow _ _ _ (H.out.below HB.out) _ _ HR.out).mono ?_; rintro e w4 ⟨rfl, hb4⟩; have HB4 := Lib.hid (below_trans HB.out hb4); clear hb4)
        exact ⟨⟨j + 1, by omega, by go_num, by rw [HS.out, HA.out, HZT.out]; rfl, below_trans HB4.out (below_alloc _ _)⟩, by simp [intOf]; omega⟩
      | false =>
        have HE := Lib.hid (lookE_no HZ.out hz)
        go_wp2_with (go_at_call 15; refine (node_no k ow _ _ _ (H.out.below HB.out) _ hz).mono ?_; rintro e w4 ⟨rfl, hb4⟩; have HB4 := Lib.hid (below_trans HB.out hb4); clear hb4)
        go_ret
        exact ⟨ret_int HE.out.symm, below_trans HB4.out (below_alloc _ _)⟩
    · obtain rfl : j = zs.length := by omega
      have hA := HA.out
      rw [List.take_length] at hA
      have HE := Lib.hid (lookE_yes hA)
      clear hA
      go_wp2_with fail
      go_ret
      exact ⟨ret_int HE.out.symm, HB.out⟩

set_option maxRecDepth 100000 in
set_option maxHeartbeats 800000 in
theorem plain_any (ow : Own) (w : World) (t : Value) (rows : List ND) (h : Tab 1 ow w t rows) (k : Nat) (kd a b l r : Int) (nm : ByteArray) :
    Calls Try.prog 37 #[t, .int .i64 (k : Int), .agg #[.int .i64 kd, .string nm, .int .i64 a, .int .i64 b], .int .i64 l, .int .i64 r] w (PutPost 1 ow w t (plainP rows k ⟨kd, nm, a, b⟩ l r)) := by
  have H : Hid (∀ o, Tab 1 ow (w.alloc o) t rows) := fun o => h.below (below_alloc _ _)
  clear h
  by_cases hk : kd < 3
  · have HE : Hid (plainP rows k ⟨kd, nm, a, b⟩ l r = ⟨rows, k, 0⟩) := by unfold Hid plainP; rw [if_pos hk]
    go_enter Try.func37, Try.ntmps37
    go_wp2_with fail
    go_ret2
    rw [HE.out]
    exact ⟨rfl, ow, (below_alloc _ _).kept_ow, H.out _⟩
  · have HE : Hid (plainP rows k ⟨kd, nm, a, b⟩ l r = put rows ⟨kd, ⟨#[]⟩, l, r⟩) := by unfold Hid plainP; rw [if_neg hk]; rfl
    go_enter Try.func37, Try.ntmps37
    go_wp2_with fail
    refine (put_any 1 ow _ _ rows (H.out _) kd l r _ empty_le).mono ?_
    rintro e w1 ⟨rfl, hq⟩
    have HQ := Lib.hid hq
    clear hq
    go_wp2_with fail
    go_ret2
    rw [HE.out]
    obtain ⟨ow1, hk1, ht1⟩ := HQ.out
    exact ⟨rfl, ow1, (below_alloc _ _).kept_ow.trans hk1, ht1⟩

/-! ### anew -/
abbrev EnvT := Own → World → Prop
/-- What stands on blocks that are not the table's stays. -/
def EnvOk (E : EnvT) : Prop := ∀ c, (c = 1 ∨ c = 3) → ∀ ow w ow' w', E ow w → Kept c ow w ow' w' → E ow' w'

structure AnW (E : EnvT) (of : OfF) (ow : Own) (w : World) (t : Value) (rows : List ND) (id mb : Nat) (v2 : Value) (j : Nat) (ow' : Own) (W : World) (rowsj : List ND) (img : Nat → Int) : Prop where
  kp : Kept 1 ow w ow' W
  tab : Tab 1 ow' W t rowsj
  mp : TM Try.prog 3 natV intV W mb (imgF img ((below rows id).take j))
  st : anewGo of ((below rows id).take j) rows (fun _ => 0) = (rowsj, img, 0)
  pre : rows <+: rowsj
  nn : ∀ x, 0 ≤ img x
  zz : ∀ x, x ∉ (below rows id).take j → img x = 0
  cm : ow' mb = 3
  lm : w.heap.size ≤ mb
  own : W.ownsRow w.heap.size 3 1 v2 (below rows id).length (ints (natInts (below rows id)))
  co : ∀ g, v2.ownBlock = some g → ow' g ≠ 1
  cn : v2.ownBlock ≠ some mb
  env : E ow' W

section
variable {E : EnvT} {of : OfF} {ow ow' : Own} {w W W' : World} {t v2 : Value} {rows rowsj : List ND} {id mb j : Nat} {img : Nat → Int}
theorem own_keptC {c : Nat} {ow ow' : Own} {w w' : World} {base n : Nat} {e : TypeId} {size : Nat} {v : Value} {xs : List Value} (h : w.ownsRow base e size v n xs) (hk : Kept c ow w ow' w') (hc : ∀ g, v.ownBlock = some g → ow g ≠ c) : w'.ownsRow base e size v n xs := by
  refine ⟨h.1, ?_⟩
  rcases h.2 with hn | ⟨g, cap, cur, rfl, hb, hg, rest⟩
  · exact .inl hn
  · exact .inr ⟨g, cap, cur, rfl, hb, (hk.block g (lt_of_block hg) (hc g rfl)).trans hg, rest⟩
theorem own_belowC {w w' : World} {base n : Nat} {e : TypeId} {size : Nat} {v : Value} {xs : List Value} (h : w.ownsRow base e size v n xs) (hb : Below w.heap.size w w') : w'.ownsRow base e size v n xs :=
  h.kept (row := none) ⟨hb.os, hb.tape, hb.output, hb.size, fun j hj _ => hb.block j hj⟩ (by cases v.ownBlock <;> simp)
theorem AnW.later (hE : EnvOk E) (h : AnW E of ow w t rows id mb v2 j ow' W rowsj img) (hb : Below W.heap.size W W') : AnW E of ow w t rows id mb v2 j ow' W' rowsj img :=
  ⟨h.kp.trans hb.kept_ow, h.tab.below hb, h.mp.below hb, h.st, h.pre, h.nn, h.zz, h.cm, h.lm, own_belowC h.own hb, h.co, h.cn, hE 1 (.inl rfl) _ _ _ _ h.env hb.kept_ow⟩
theorem AnW.next (hE : EnvOk E) (h : AnW E of ow w t rows id mb v2 j ow' W rowsj img) {k : Nat} (hk : (below rows id)[j]? = some k) {ow2 : Own} {W2 W6 : World} {p : Put} (hp : pAt of rowsj k img = p) (hz : p.err = 0) (hnn : 0 ≤ p.id) (hpre : rowsj <+: p.rows)
    (hk2 : Kept 1 ow' W ow2 W2) (ht : Tab 1 ow2 W2 t p.rows) (hm : TM Try.prog 3 natV intV W6 mb (upd (imgF img ((below rows id).take j)) k (some p.id))) (ho : Only mb W2 W6) :
    AnW E of ow w t rows id mb v2 (j + 1) ow2 W6 p.rows (fun x => if x = k then p.id else img x) := by
  have hml := h.mp.lt
  have cm2 : ow2 mb = 3 := by rw [hk2.own mb hml]; exact h.cm
  have ko : Kept 3 ow2 W2 ow2 W6 := ho.kept cm2
  have ke : Kept 1 ow w ow2 W6 := by
    have k1 := h.kp.trans hk2
    refine ⟨ko.os.trans k1.os, ko.tape.trans k1.tape, ko.output.trans k1.output, Nat.le_trans k1.size ko.size, k1.own, fun b hb hc => ?_⟩
    exact (ho.block b (by have := h.lm; omega)).trans (k1.block b hb hc)
  have hown2 := own_keptC h.own hk2 h.co
  have he2 := hE 1 (.inl rfl) _ _ _ _ h.env hk2
  refine ⟨ke, ht.kept ko (by decide), ?_, ?_, h.pre.trans hpre, ?_, ?_, cm2, h.lm, ?_, ?_, h.cn, ?_⟩
  · have e : upd (imgF img ((below rows id).take j)) k (some p.id) = imgF (fun x => if x = k then p.id else img x) ((below rows id).take (j + 1)) := by
      funext x
      rw [takeN_snoc hk]
      unfold imgF
      by_cases e : x = k
      · subst e; rw [upd_same]; simp
      · rw [upd_other _ _ e]; simp [e]
    rw [← e]; exact hm
  · rw [takeN_snoc hk, anewGo_snoc h.st (by rw [hp]; exact hz), hp]
  · intro x
    by_cases e : x = k
    · simp only [e, if_true]; exact hnn
    · simp only [e, if_false]; exact h.nn x
  · intro x hx
    rw [takeN_snoc hk] at hx
    simp only [List.mem_append, List.mem_singleton, not_or] at hx
    simp only [hx.2, if_false]
    exact h.zz x hx.1
  · exact hown2.kept ho.grown (.inr h.cn)
  · intro g hg
    have := (h.own.lt g hg).2
    rw [hk2.own g this]; exact h.co g hg
  · exact hE 3 (.inr rfl) _ _ _ _ he2 ko
theorem AnW.get (h : AnW E of ow w t rows id mb v2 j ow' W rowsj img) (x : Nat) : (imgF img ((below rows id).take j) x).getD 0 = img x := by
  by_cases e : x ∈ (below rows id).take j
  · exact imgF_get e
  · unfold imgF; rw [if_neg e, h.zz x e]; rfl
/-- Where an image fails: the table behind it. -/
theorem AnW.fail (h : AnW E of ow w t rows id mb v2 j ow' W rowsj img) {ow2 : Own} {W2 W6 : World} {rows2 : List ND} (hk2 : Kept 1 ow' W ow2 W2) (ht : Tab 1 ow2 W2 t rows2) (ho : Only mb W2 W6) : Kept 1 ow w ow2 W6 ∧ Tab 1 ow2 W6 t rows2 := by
  have hml := h.mp.lt
  have cm2 : ow2 mb = 3 := by rw [hk2.own mb hml]; exact h.cm
  have ko : Kept 3 ow2 W2 ow2 W6 := ho.kept cm2
  have k1 := h.kp.trans hk2
  exact ⟨⟨ko.os.trans k1.os, ko.tape.trans k1.tape, ko.output.trans k1.output, Nat.le_trans k1.size ko.size, k1.own, fun b hb hc => (ho.block b (by have := h.lm; omega)).trans (k1.block b hb hc)⟩, ht.kept ko (by decide)⟩
theorem AnW.start (hE : EnvOk E) (h : Tab 1 ow w t rows) (hEw : E ow w) {w2 : World} (hb : Below w.heap.size w w2) (hown : w2.ownsRow w.heap.size 3 1 v2 (below rows id).length (ints (natInts (below rows id)))) :
    AnW E of ow w t rows id w2.heap.size v2 0 (fun b => if b < w.heap.size then ow b else if b = w2.heap.size then 3 else 0) (w2.alloc (.map #[] 0)) rows (fun _ => 0) := by
  have hb2 := below_trans hb (below_alloc w2 (.map #[] 0))
  have hr : ∀ c, Kept c ow w (fun b => if b < w.heap.size then ow b else if b = w2.heap.size then 3 else 0) (w2.alloc (.map #[] 0)) := fun c => hb2.kept_ow.recolour (fun b hb => by simp [hb])
  have hs := hb.size
  have e0 : imgF (fun _ => 0) ((below rows id).take 0) = fun _ => none := by funext x; simp [imgF]
  refine ⟨hr 1, h.kept (hr 2) (by decide), ?_, by simp [anewGo], List.prefix_refl _, fun _ => Int.le_refl _, fun _ _ => rfl, ?_, hs, own_belowC hown (below_alloc _ _), ?_, ?_, hE 1 (.inl rfl) _ _ _ _ hEw (hr 1)⟩
  · rw [e0]; exact TM.made _ _ _ _ _
  · simp only [if_true]; rw [if_neg (by omega)]
  · intro g hg
    have := hown.lt g hg
    rw [if_neg (by omega), if_neg (by omega)]; decide
  · intro e
    have := hown.lt _ e
    omega

end

theorem take_of_prefix {a b : List ND} (h : a <+: b) : b.take a.length = a := by
  obtain ⟨s, rfl⟩ := h; simp

end Go.Dk

