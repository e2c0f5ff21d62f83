/- play, kind by kind. Written by wip/genplay.py. -/
import Derived.Test.YthbjmmnfoeanbaaUa
import Derived.Test.YthbjmmnfoeanbaaEc
namespace Go.Dk
open Go.RowKit Go.Maps Go.MapKept
open Go.Proofs hiding intOf

/-- The cells of a boxed action. -/
structure BoxAC (w : World) (g : Nat) (x : AC) : Prop where
  c0 : w.cell? ⟨g, 0, none⟩ = some (.int .i64 x.kind)
  c1 : w.cell? ⟨g, 1, none⟩ = some (.string x.name)
  c2 : w.cell? ⟨g, 2, none⟩ = some (.int .i64 x.a)
  c3 : w.cell? ⟨g, 3, none⟩ = some (.int .i64 x.b)
  c4 : w.cell? ⟨g, 4, none⟩ = some (.int .i64 x.n.kind)
  c5 : w.cell? ⟨g, 5, none⟩ = some (.string x.n.name)
  c6 : w.cell? ⟨g, 6, none⟩ = some (.int .i64 x.n.l)
  c7 : w.cell? ⟨g, 7, none⟩ = some (.int .i64 x.n.r)
theorem boxac_new (w : World) (x : AC) (T : TypeId) : BoxAC (w.alloc (.cells #[.int .i64 x.kind, .string x.name, .int .i64 x.a, .int .i64 x.b, .int .i64 x.n.kind, .string x.n.name, .int .i64 x.n.l, .int .i64 x.n.r] T)) w.heap.size x :=
  ⟨World.cell?_alloc_at _ _ _ _ rfl, World.cell?_alloc_at _ _ _ _ rfl, World.cell?_alloc_at _ _ _ _ rfl, World.cell?_alloc_at _ _ _ _ rfl, World.cell?_alloc_at _ _ _ _ rfl, World.cell?_alloc_at _ _ _ _ rfl, World.cell?_alloc_at _ _ _ _ rfl, World.cell?_alloc_at _ _ _ _ rfl⟩
theorem cell_same {w w' : World} {g i : Nat} {v : Value} (h : w.cell? ⟨g, i, none⟩ = some v) (e : w'.heap[g]? = w.heap[g]?) : w'.cell? ⟨g, i, none⟩ = some v := by
  unfold World.cell? at *; simp only [e]; exact h
theorem BoxAC.same {w w' : World} {g : Nat} {x : AC} (h : BoxAC w g x) (e : w'.heap[g]? = w.heap[g]?) : BoxAC w' g x :=
  ⟨cell_same h.c0 e, cell_same h.c1 e, cell_same h.c2 e, cell_same h.c3 e, cell_same h.c4 e, cell_same h.c5 e, cell_same h.c6 e, cell_same h.c7 e⟩

theorem Tab.recolourLt {k k2 : Nat} {ow ow2 : Own} {w : World} {t : Value} {rows : List ND} (h : Tab k ow w t rows) (hc : ∀ b, b < w.heap.size → ow b = k → ow2 b = k2) : Tab k2 ow2 w t rows := by
  obtain ⟨pb, mb, v, rfl, h⟩ := h
  exact ⟨pb, mb, v, rfl, h.hp, h.hr, h.hm, h.ok, hc _ (lt_of_block h.hp) h.cp, hc _ h.hm.lt h.cm, fun g hg => hc _ (h.hr.lt g hg).2 (h.cr g hg)⟩
theorem RTab.recolourLt {k k2 : Nat} {ow ow2 : Own} {w : World} {t : Value} {rows : List ND} (h : RTab k ow w t rows) (hc : ∀ b, b < w.heap.size → ow b = k → ow2 b = k2) : RTab k2 ow2 w t rows := by
  obtain ⟨rb, v, rfl, h⟩ := h
  exact ⟨rb, v, rfl, h.hp, h.hr, h.ok, hc _ (lt_of_block h.hp) h.cp, fun g hg => hc _ (h.hr.lt hg) (h.cr g hg)⟩

/-- The colours as they are, new blocks 0. -/
def ow0 (w : World) (ow : Own) : Own := fun b => if b < w.heap.size then ow b else 0

/-- What play holds when it has boxed the action. -/
structure PlayI (ow : Own) (w w0 : World) (t r : Value) (xs ys : List ND) (x : AC) : Prop where
  t : Tab 1 (ow0 w ow) w0 t xs
  r : RTab 2 (ow0 w ow) w0 r ys
  b : Below w.heap.size w w0
  x : BoxAC w0 w.heap.size x
  l : w.heap.size < w0.heap.size

theorem playI {ow : Own} {w : World} {t r : Value} {xs ys : List ND} (h : Pair ow w t r xs ys) (x : AC) (T : TypeId) : PlayI ow w (w.alloc (.cells #[.int .i64 x.kind, .string x.name, .int .i64 x.a, .int .i64 x.b, .int .i64 x.n.kind, .string x.n.name, .int .i64 x.n.l, .int .i64 x.n.r] T)) t r xs ys x :=
  ⟨(h.t.recolourLt (fun b hb e => by simp [ow0, hb, e])).below (below_alloc _ _), (h.r.recolourLt (fun b hb e => by simp [ow0, hb, e])).below (below_alloc _ _), below_alloc _ _, boxac_new _ _ _, by simp⟩

theorem PlayI.next {ow ow1 : Own} {w w0 w1 : World} {t r : Value} {xs ys : List ND} {x : AC} (h : PlayI ow w w0 t r xs ys x) (k : Kept 1 (ow0 w ow) w0 ow1 w1) : RTab 2 ow1 w1 r ys ∧ BoxAC w1 w.heap.size x :=
  ⟨h.r.kept k (by decide), h.x.same (k.block _ h.l (by simp [ow0]))⟩

theorem PlayI.fin {ow ow1 ow2 : Own} {w w0 w1 w2 : World} {t r : Value} {xs ys : List ND} {p q : Put} {x : AC} {b : Bool} (h : PlayI ow w w0 t r xs ys x) (h1 : Kept 1 (ow0 w ow) w0 ow1 w1) (t1 : Tab 1 ow1 w1 t p.rows) (h2 : Kept 2 ow1 w1 ow2 w2) (r2 : RTab 2 ow2 w2 r q.rows)
    (ex : playP xs x = p.rows) (ey : playP ys x = q.rows) (hpq : xs = ys → b = true) : PlayPost ow w t r xs ys x (.returned (.bool b)) w2 := by
  have hk := (KeptIn.of_below (S := S12) (ow := ow0 w ow) h.b).trans ((h1.inn (S := S12) (.inl rfl)).trans (h2.inn (.inr rfl)))
  exact ⟨b, ow2, rfl, hpq, ⟨hk.os, hk.tape, hk.output, hk.size, fun b hb => (hk.own b hb).trans (by simp [ow0, hb]), fun b hb hn => hk.block b hb (by simpa [ow0, hb] using hn)⟩, ⟨by rw [ex]; exact t1.kept h2 (by decide), by rw [ey]; exact r2⟩⟩

set_option maxRecDepth 100000 in
set_option maxHeartbeats 800000 in
theorem play_0 (ow : Own) (w : World) (t r : Value) (xs ys : List ND) (h : Pair ow w t r xs ys) (x : AC) (hin : ACin x) (hk : x.kind = 0) : Calls Try.prog 29 #[t, r, x.val] w (PlayPost ow w t r xs ys x) := by
  have HI := Lib.hid (playI h x 52)
  obtain ⟨kd, nm, a, b, ⟨nk, nn, nl, nr⟩⟩ := x
  simp only at hk
  subst hk
  have HX : Hid (playP xs ⟨0, nm, a, b, ⟨nk, nn, nl, nr⟩⟩ = (put xs ⟨1, nm, 0, 0⟩).rows) := by simp [Hid, playP]
  have HY : Hid (playP ys ⟨0, nm, a, b, ⟨nk, nn, nl, nr⟩⟩ = (put ys ⟨1, nm, 0, 0⟩).rows) := by simp [Hid, playP]
  unfold AC.val
  clear h
  cases hid : ((put xs ⟨1, nm, 0, 0⟩).id == (put ys ⟨1, nm, 0, 0⟩).id) with
  | true =>
    have HE : Hid (xs = ys → ((put xs ⟨1, nm, 0, 0⟩).err == (put ys ⟨1, nm, 0, 0⟩).err) = true) := fun e => by rw [e]; simp
    go_enter Try.func29, Try.ntmps29
    go_wp2_with (first
      | (go_at_call 19; refine (atom_any 1 _ _ _ _ HI.out.t nm hin.nm).mono ?_; rintro e w1 hq; obtain ⟨ow1, rfl, hk1, ht1⟩ := hq.out; have HK1 := Lib.hid hk1; have HT1 := Lib.hid ht1; have hn := HI.out.next hk1; have HR := Lib.hid hn.1; have HB := Lib.hid hn.2; clear hq hk1 ht1 hn; obtain ⟨c0, c1, c2, c3, c4, c5, c6, c7⟩ := HB.out)
      | (go_at_call 84; refine (refAtom_any 2 _ _ _ _ HR.out nm hin.nm).mono ?_; rintro e w2 hq; obtain ⟨ow2, rfl, hk2, ht2⟩ := hq.out; have HK2 := Lib.hid hk2; have HT2 := Lib.hid ht2; clear hq hk2 ht2)
      | fail)
    go_ret
    exact HI.out.fin HK1.out HT1.out HK2.out HT2.out HX.out HY.out HE.out
  | false =>
    have HE : Hid (xs = ys → false = true) := fun e => by rw [e] at hid; simp at hid
    go_enter Try.func29, Try.ntmps29
    go_wp2_with (first
      | (go_at_call 19; refine (atom_any 1 _ _ _ _ HI.out.t nm hin.nm).mono ?_; rintro e w1 hq; obtain ⟨ow1, rfl, hk1, ht1⟩ := hq.out; have HK1 := Lib.hid hk1; have HT1 := Lib.hid ht1; have hn := HI.out.next hk1; have HR := Lib.hid hn.1; have HB := Lib.hid hn.2; clear hq hk1 ht1 hn; obtain ⟨c0, c1, c2, c3, c4, c5, c6, c7⟩ := HB.out)
      | (go_at_call 84; refine (refAtom_any 2 _ _ _ _ HR.out nm hin.nm).mono ?_; rintro e w2 hq; obtain ⟨ow2, rfl, hk2, ht2⟩ := hq.out; have HK2 := Lib.hid hk2; have HT2 := Lib.hid ht2; clear hq hk2 ht2)
      | fail)
    go_ret
    exact HI.out.fin HK1.out HT1.out HK2.out HT2.out HX.out HY.out HE.out

set_option maxRecDepth 100000 in
set_option maxHeartbeats 800000 in
theorem play_1 (ow : Own) (w : World) (t r : Value) (xs ys : List ND) (h : Pair ow w t r xs ys) (x : AC) (hin : ACin x) (hk : x.kind = 1) : Calls Try.prog 29 #[t, r, x.val] w (PlayPost ow w t r xs ys x) := by
  have HI := Lib.hid (playI h x 52)
  obtain ⟨kd, nm, a, b, ⟨nk, nn, nl, nr⟩⟩ := x
  simp only at hk
  subst hk
  have HX : Hid (playP xs ⟨1, nm, a, b, ⟨nk, nn, nl, nr⟩⟩ = (put xs ⟨2, ⟨#[]⟩, 0, 0⟩).rows) := by simp [Hid, playP]
  have HY : Hid (playP ys ⟨1, nm, a, b, ⟨nk, nn, nl, nr⟩⟩ = (put ys ⟨2, ⟨#[]⟩, 0, 0⟩).rows) := by simp [Hid, playP]
  unfold AC.val
  clear h
  cases hid : ((put xs ⟨2, ⟨#[]⟩, 0, 0⟩).id == (put ys ⟨2, ⟨#[]⟩, 0, 0⟩).id) with
  | true =>
    have HE : Hid (xs = ys → ((put xs ⟨2, ⟨#[]⟩, 0, 0⟩).err == (put ys ⟨2, ⟨#[]⟩, 0, 0⟩).err) = true) := fun e => by rw [e]; simp
    go_enter Try.func29, Try.ntmps29
    go_wp2_with (first
      | (go_at_call 79; refine (bot_any 1 _ _ _ _ HI.out.t).mono ?_; rintro e w1 hq; obtain ⟨ow1, rfl, hk1, ht1⟩ := hq.out; have HK1 := Lib.hid hk1; have HT1 := Lib.hid ht1; have hn := HI.out.next hk1; have HR := Lib.hid hn.1; have HB := Lib.hid hn.2; clear hq hk1 ht1 hn; obtain ⟨c0, c1, c2, c3, c4, c5, c6, c7⟩ := HB.out)
      | (go_at_call 85; refine (refBot_any 2 _ _ _ _ HR.out).mono ?_; rintro e w2 hq; obtain ⟨ow2, rfl, hk2, ht2⟩ := hq.out; have HK2 := Lib.hid hk2; have HT2 := Lib.hid ht2; clear hq hk2 ht2)
      | fail)
    go_ret
    exact HI.out.fin HK1.out HT1.out HK2.out HT2.out HX.out HY.out HE.out
  | false =>
    have HE : Hid (xs = ys → false = true) := fun e => by rw [e] at hid; simp at hid
    go_enter Try.func29, Try.ntmps29
    go_wp2_with (first
      | (go_at_call 79; refine (bot_any 1 _ _ _ _ HI.out.t).mono ?_; rintro e w1 hq; obtain ⟨ow1, rfl, hk1, ht1⟩ := hq.out; have HK1 := Lib.hid hk1; have HT1 := Lib.hid ht1; have hn := HI.out.next hk1; have HR := Lib.hid hn.1; have HB := Lib.hid hn.2; clear hq hk1 ht1 hn; obtain ⟨c0, c1, c2, c3, c4, c5, c6, c7⟩ := HB.out)
      | (go_at_call 85; refine (refBot_any 2 _ _ _ _ HR.out).mono ?_; rintro e w2 hq; obtain ⟨ow2, rfl, hk2, ht2⟩ := hq.out; have HK2 := Lib.hid hk2; have HT2 := Lib.hid ht2; clear hq hk2 ht2)
      | fail)
    go_ret
    exact HI.out.fin HK1.out HT1.out HK2.out HT2.out HX.out HY.out HE.out

set_option maxRecDepth 100000 in
set_option maxHeartbeats 800000 in
theorem play_2 (ow : Own) (w : World) (t r : Value) (xs ys : List ND) (h : Pair ow w t r xs ys) (x : AC) (hin : ACin x) (hk : x.kind = 2) : Calls Try.prog 29 #[t, r, x.val] w (PlayPost ow w t r xs ys x) := by
  have HI := Lib.hid (playI h x 52)
  obtain ⟨kd, nm, a, b, ⟨nk, nn, nl, nr⟩⟩ := x
  simp only at hk
  subst hk
  have HX : Hid (playP xs ⟨2, nm, a, b, ⟨nk, nn, nl, nr⟩⟩ = (put xs ⟨3, ⟨#[]⟩, a, b⟩).rows) := by simp [Hid, playP]
  have HY : Hid (playP ys ⟨2, nm, a, b, ⟨nk, nn, nl, nr⟩⟩ = (put ys ⟨3, ⟨#[]⟩, a, b⟩).rows) := by simp [Hid, playP]
  unfold AC.val
  clear h
  cases hid : ((put xs ⟨3, ⟨#[]⟩, a, b⟩).id == (put ys ⟨3, ⟨#[]⟩, a, b⟩).id) with
  | true =>
    have HE : Hid (xs = ys → ((put xs ⟨3, ⟨#[]⟩, a, b⟩).err == (put ys ⟨3, ⟨#[]⟩, a, b⟩).err) = true) := fun e => by rw [e]; simp
    go_enter Try.func29, Try.ntmps29
    go_wp2_with (first
      | (go_at_call 73; refine (and_any 1 _ _ _ _ HI.out.t a b).mono ?_; rintro e w1 hq; obtain ⟨ow1, rfl, hk1, ht1⟩ := hq.out; have HK1 := Lib.hid hk1; have HT1 := Lib.hid ht1; have hn := HI.out.next hk1; have HR := Lib.hid hn.1; have HB := Lib.hid hn.2; clear hq hk1 ht1 hn; obtain ⟨c0, c1, c2, c3, c4, c5, c6, c7⟩ := HB.out)
      | (go_at_call 86; refine (refTwo_any 2 _ _ _ _ HR.out 3 a b).mono ?_; rintro e w2 hq; obtain ⟨ow2, rfl, hk2, ht2⟩ := hq.out; have HK2 := Lib.hid hk2; have HT2 := Lib.hid ht2; clear hq hk2 ht2)
      | fail)
    go_ret
    exact HI.out.fin HK1.out HT1.out HK2.out HT2.out HX.out HY.out HE.out
  | false =>
    have HE : Hid (xs = ys → false = true) := fun e => by rw [e] at hid; simp at hid
    go_enter Try.func29, Try.ntmps29
    go_wp2_with (first
      | (go_at_call 73; refine (and_any 1 _ _ _ _ HI.out.t a b).mono ?_; rintro e w1 hq; obtain ⟨ow1, rfl, hk1, ht1⟩ := hq.out; have HK1 := Lib.hid hk1; have HT1 := Lib.hid ht1; have hn := HI.out.next hk1; have HR := Lib.hid hn.1; have HB := Lib.hid hn.2; clear hq hk1 ht1 hn; obtain ⟨c0, c1, c2, c3, c4, c5, c6, c7⟩ := HB.out)
      | (go_at_call 86; refine (refTwo_any 2 _ _ _ _ HR.out 3 a b).mono ?_; rintro e w2 hq; obtain ⟨ow2, rfl, hk2, ht2⟩ := hq.out; have HK2 := Lib.hid hk2; have HT2 := Lib.hid ht2; clear hq hk2 ht2)
      | fail)
    go_ret
    exact HI.out.fin HK1.out HT1.out HK2.out HT2.out HX.out HY.out HE.out

set_option maxRecDepth 100000 in
set_option maxHeartbeats 800000 in
theorem play_3 (ow : Own) (w : World) (t r : Value) (xs ys : List ND) (h : Pair ow w t r xs ys) (x : AC) (hin : ACin x) (hk : x.kind = 3) : Calls Try.prog 29 #[t, r, x.val] w (PlayPost ow w t r xs ys x) := by
  have HI := Lib.hid (playI h x 52)
  obtain ⟨kd, nm, a, b, ⟨nk, nn, nl, nr⟩⟩ := x
  simp only at hk
  subst hk
  have HX : Hid (playP xs ⟨3, nm, a, b, ⟨nk, nn, nl, nr⟩⟩ = (put xs ⟨4, ⟨#[]⟩, a, b⟩).rows) := by simp [Hid, playP]
  have HY : Hid (playP ys ⟨3, nm, a, b, ⟨nk, nn, nl, nr⟩⟩ = (put ys ⟨4, ⟨#[]⟩, a, b⟩).rows) := by simp [Hid, playP]
  unfold AC.val
  clear h
  cases hid : ((put xs ⟨4, ⟨#[]⟩, a, b⟩).id == (put ys ⟨4, ⟨#[]⟩, a, b⟩).id) with
  | true =>
    have HE : Hid (xs = ys → ((put xs ⟨4, ⟨#[]⟩, a, b⟩).err == (put ys ⟨4, ⟨#[]⟩, a, b⟩).err) = true) := fun e => by rw [e]; simp
    go_enter Try.func29, Try.ntmps29
    go_wp2_with (first
      | (go_at_call 76; refine (or_any 1 _ _ _ _ HI.out.t a b).mono ?_; rintro e w1 hq; obtain ⟨ow1, rfl, hk1, ht1⟩ := hq.out; have HK1 := Lib.hid hk1; have HT1 := Lib.hid ht1; have hn := HI.out.next hk1; have HR := Lib.hid hn.1; have HB := Lib.hid hn.2; clear hq hk1 ht1 hn; obtain ⟨c0, c1, c2, c3, c4, c5, c6, c7⟩ := HB.out)
      | (go_at_call 86; refine (refTwo_any 2 _ _ _ _ HR.out 4 a b).mono ?_; rintro e w2 hq; obtain ⟨ow2, rfl, hk2, ht2⟩ := hq.out; have HK2 := Lib.hid hk2; have HT2 := Lib.hid ht2; clear hq hk2 ht2)
      | fail)
    go_ret
    exact HI.out.fin HK1.out HT1.out HK2.out HT2.out HX.out HY.out HE.out
  | false =>
    have HE : Hid (xs = ys → false = true) := fun e => by rw [e] at hid; simp at hid
    go_enter Try.func29, Try.ntmps29
    go_wp2_with (first
      | (go_at_call 76; refine (or_any 1 _ _ _ _ HI.out.t a b).mono ?_; rintro e w1 hq; obtain ⟨ow1, rfl, hk1, ht1⟩ := hq.out; have HK1 := Lib.hid hk1; have HT1 := Lib.hid ht1; have hn := HI.out.next hk1; have HR := Lib.hid hn.1; have HB := Lib.hid hn.2; clear hq hk1 ht1 hn; obtain ⟨c0, c1, c2, c3, c4, c5, c6, c7⟩ := HB.out)
      | (go_at_call 86; refine (refTwo_any 2 _ _ _ _ HR.out 4 a b).mono ?_; rintro e w2 hq; obtain ⟨ow2, rfl, hk2, ht2⟩ := hq.out; have HK2 := Lib.hid hk2; have HT2 := Lib.hid ht2; clear hq hk2 ht2)
      | fail)
    go_ret
    exact HI.out.fin HK1.out HT1.out HK2.out HT2.out HX.out HY.out HE.out

set_option maxRecDepth 100000 in
set_option maxHeartbeats 800000 in
theorem play_4 (ow : Own) (w : World) (t r : Value) (xs ys : List ND) (h : Pair ow w t r xs ys) (x : AC) (hin : ACin x) (hk : x.kind = 4) : Calls Try.prog 29 #[t, r, x.val] w (PlayPost ow w t r xs ys x) := by
  have HI := Lib.hid (playI h x 52)
  obtain ⟨kd, nm, a, b, ⟨nk, nn, nl, nr⟩⟩ := x
  simp only at hk
  subst hk
  have HX : Hid (playP xs ⟨4, nm, a, b, ⟨nk, nn, nl, nr⟩⟩ = (put xs ⟨5, ⟨#[]⟩, a, b⟩).rows) := by simp [Hid, playP]
  have HY : Hid (playP ys ⟨4, nm, a, b, ⟨nk, nn, nl, nr⟩⟩ = (put ys ⟨5, ⟨#[]⟩, a, b⟩).rows) := by simp [Hid, playP]
  unfold AC.val
  clear h
  cases hid : ((put xs ⟨5, ⟨#[]⟩, a, b⟩).id == (put ys ⟨5, ⟨#[]⟩, a, b⟩).id) with
  | true =>
    have HE : Hid (xs = ys → ((put xs ⟨5, ⟨#[]⟩, a, b⟩).err == (put ys ⟨5, ⟨#[]⟩, a, b⟩).err) = true) := fun e => by rw [e]; simp
    go_enter Try.func29, Try.ntmps29
    go_wp2_with (first
      | (go_at_call 74; refine (imp_any 1 _ _ _ _ HI.out.t a b).mono ?_; rintro e w1 hq; obtain ⟨ow1, rfl, hk1, ht1⟩ := hq.out; have HK1 := Lib.hid hk1; have HT1 := Lib.hid ht1; have hn := HI.out.next hk1; have HR := Lib.hid hn.1; have HB := Lib.hid hn.2; clear hq hk1 ht1 hn; obtain ⟨c0, c1, c2, c3, c4, c5, c6, c7⟩ := HB.out)
      | (go_at_call 87; refine (refImp_any 2 _ _ _ _ HR.out a b).mono ?_; rintro e w2 hq; obtain ⟨ow2, rfl, hk2, ht2⟩ := hq.out; have HK2 := Lib.hid hk2; have HT2 := Lib.hid ht2; clear hq hk2 ht2)
      | fail)
    go_ret
    exact HI.out.fin HK1.out HT1.out HK2.out HT2.out HX.out HY.out HE.out
  | false =>
    have HE : Hid (xs = ys → false = true) := fun e => by rw [e] at hid; simp at hid
    go_enter Try.func29, Try.ntmps29
    go_wp2_with (first
      | (go_at_call 74; refine (imp_any 1 _ _ _ _ HI.out.t a b).mono ?_; rintro e w1 hq; obtain ⟨ow1, rfl, hk1, ht1⟩ := hq.out; have HK1 := Lib.hid hk1; have HT1 := Lib.hid ht1; have hn := HI.out.next hk1; have HR := Lib.hid hn.1; have HB := Lib.hid hn.2; clear hq hk1 ht1 hn; obtain ⟨c0, c1, c2, c3, c4, c5, c6, c7⟩ := HB.out)
      | (go_at_call 87; refine (refImp_any 2 _ _ _ _ HR.out a b).mono ?_; rintro e w2 hq; obtain ⟨ow2, rfl, hk2, ht2⟩ := hq.out; have HK2 := Lib.hid hk2; have HT2 := Lib.hid ht2; clear hq hk2 ht2)
      | fail)
    go_ret
    exact HI.out.fin HK1.out HT1.out HK2.out HT2.out HX.out HY.out HE.out

set_option maxRecDepth 100000 in
set_option maxHeartbeats 800000 in
theorem play_5 (ow : Own) (w : World) (t r : Value) (xs ys : List ND) (h : Pair ow w t r xs ys) (x : AC) (hin : ACin x) (hk : x.kind = 5) : Calls Try.prog 29 #[t, r, x.val] w (PlayPost ow w t r xs ys x) := by
  have HI := Lib.hid (playI h x 52)
  obtain ⟨kd, nm, a, b, ⟨nk, nn, nl, nr⟩⟩ := x
  simp only at hk
  subst hk
  have HX : Hid (playP xs ⟨5, nm, a, b, ⟨nk, nn, nl, nr⟩⟩ = (notP xs a).rows) := by simp [Hid, playP]
  have HY : Hid (playP ys ⟨5, nm, a, b, ⟨nk, nn, nl, nr⟩⟩ = (notP ys a).rows) := by simp [Hid, playP]
  unfold AC.val
  clear h
  cases hid : ((notP xs a).id == (notP ys a).id) with
  | true =>
    have HE : Hid (xs = ys → ((notP xs a).err == (notP ys a).err) = true) := fun e => by rw [e]; simp
    go_enter Try.func29, Try.ntmps29
    go_wp2_with (first
      | (go_at_call 75; refine (not_any 1 _ _ _ _ HI.out.t a).mono ?_; rintro e w1 hq; obtain ⟨ow1, rfl, hk1, ht1⟩ := hq.out; have HK1 := Lib.hid hk1; have HT1 := Lib.hid ht1; have hn := HI.out.next hk1; have HR := Lib.hid hn.1; have HB := Lib.hid hn.2; clear hq hk1 ht1 hn; obtain ⟨c0, c1, c2, c3, c4, c5, c6, c7⟩ := HB.out)
      | (go_at_call 88; refine (refNot_any 2 _ _ _ _ HR.out a).mono ?_; rintro e w2 hq; obtain ⟨ow2, rfl, hk2, ht2⟩ := hq.out; have HK2 := Lib.hid hk2; have HT2 := Lib.hid ht2; clear hq hk2 ht2)
      | fail)
    go_ret
    exact HI.out.fin HK1.out HT1.out HK2.out HT2.out HX.out HY.out HE.out
  | false =>
    have HE : Hid (xs = ys → false = true) := fun e => by rw [e] at hid; simp at hid
    go_enter Try.func29, Try.ntmps29
    go_wp2_with (first
      | (go_at_call 75; refine (not_any 1 _ _ _ _ HI.out.t a).mono ?_; rintro e w1 hq; obtain ⟨ow1, rfl, hk1, ht1⟩ := hq.out; have HK1 := Lib.hid hk1; have HT1 := Lib.hid ht1; have hn := HI.out.next hk1; have HR := Lib.hid hn.1; have HB := Lib.hid hn.2; clear hq hk1 ht1 hn; obtain ⟨c0, c1, c2, c3, c4, c5, c6, c7⟩ := HB.out)
      | (go_at_call 88; refine (refNot_any 2 _ _ _ _ HR.out a).mono ?_; rintro e w2 hq; obtain ⟨ow2, rfl, hk2, ht2⟩ := hq.out; have HK2 := Lib.hid hk2; have HT2 := Lib.hid ht2; clear hq hk2 ht2)
      | fail)
    go_ret
    exact HI.out.fin HK1.out HT1.out HK2.out HT2.out HX.out HY.out HE.out

set_option maxRecDepth 100000 in
set_option maxHeartbeats 800000 in
theorem play_6 (ow : Own) (w : World) (t r : Value) (xs ys : List ND) (h : Pair ow w t r xs ys) (x : AC) (hin : ACin x) (hk : x.kind = 6) : Calls Try.prog 29 #[t, r, x.val] w (PlayPost ow w t r xs ys x) := by
  have HI := Lib.hid (playI h x 52)
  obtain ⟨kd, nm, a, b, ⟨nk, nn, nl, nr⟩⟩ := x
  simp only at hk
  subst hk
  have HX : Hid (playP xs ⟨6, nm, a, b, ⟨nk, nn, nl, nr⟩⟩ = (put xs ⟨nk, nn, nl, nr⟩).rows) := by simp [Hid, playP]
  have HY : Hid (playP ys ⟨6, nm, a, b, ⟨nk, nn, nl, nr⟩⟩ = (put ys ⟨nk, nn, nl, nr⟩).rows) := by simp [Hid, playP]
  unfold AC.val
  clear h
  cases hid : ((put xs ⟨nk, nn, nl, nr⟩).id == (put ys ⟨nk, nn, nl, nr⟩).id) with
  | true =>
    have HE : Hid (xs = ys → ((put xs ⟨nk, nn, nl, nr⟩).err == (put ys ⟨nk, nn, nl, nr⟩).err) = true) := fun e => by rw [e]; simp
    go_enter Try.func29, Try.ntmps29
    go_wp2_with (first
      | (go_at_call 69; refine (put_any 1 _ _ _ _ HI.out.t nk nl nr nn hin.n.nm).mono ?_; rintro e w1 ⟨he, ow1, hk1, ht1⟩; subst he; have hq := True.intro; have HK1 := Lib.hid hk1; have HT1 := Lib.hid ht1; have hn := HI.out.next hk1; have HR := Lib.hid hn.1; have HB := Lib.hid hn.2; clear hq hk1 ht1 hn; obtain ⟨c0, c1, c2, c3, c4, c5, c6, c7⟩ := HB.out)
      | (go_at_call 78; refine (refPut_any 2 _ _ _ _ HR.out nk nl nr nn hin.n.nm).mono ?_; rintro e w2 hq; obtain ⟨ow2, rfl, hk2, ht2⟩ := hq.out; have HK2 := Lib.hid hk2; have HT2 := Lib.hid ht2; clear hq hk2 ht2)
      | fail)
    go_ret
    exact HI.out.fin HK1.out HT1.out HK2.out HT2.out HX.out HY.out HE.out
  | false =>
    have HE : Hid (xs = ys → false = true) := fun e => by rw [e] at hid; simp at hid
    go_enter Try.func29, Try.ntmps29
    go_wp2_with (first
      | (go_at_call 69; refine (put_any 1 _ _ _ _ HI.out.t nk nl nr nn hin.n.nm).mono ?_; rintro e w1 ⟨he, ow1, hk1, ht1⟩; subst he; have hq := True.intro; have HK1 := Lib.hid hk1; have HT1 := Lib.hid ht1; have hn := HI.out.next hk1; have HR := Lib.hid hn.1; have HB := Lib.hid hn.2; clear hq hk1 ht1 hn; obtain ⟨c0, c1, c2, c3, c4, c5, c6, c7⟩ := HB.out)
      | (go_at_call 78; refine (refPut_any 2 _ _ _ _ HR.out nk nl nr nn hin.n.nm).mono ?_; rintro e w2 hq; obtain ⟨ow2, rfl, hk2, ht2⟩ := hq.out; have HK2 := Lib.hid hk2; have HT2 := Lib.hid ht2; clear hq hk2 ht2)
      | fail)
    go_ret
    exact HI.out.fin HK1.out HT1.out HK2.out HT2.out HX.out HY.out HE.out

end Go.Dk
