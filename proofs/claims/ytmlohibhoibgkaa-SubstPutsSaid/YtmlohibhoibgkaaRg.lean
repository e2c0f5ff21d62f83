/- Regions that draw their order: every operation yields its value in a whole class of worlds (a call may make new blocks); then, in one forced order, a tail that may write. Over any program. -/
import Derived.WalkKit
import Derived.StillTail
import Derived.BigQuiet
import Derived.Deep.QuietTactic
import Derived.Test.YtmlohibhoibgkaaA
namespace Go.Dk
open Go.RowKit

section
variable {P : Program} {ops : Array Oper} {md : Region.Mode} {C : World → Prop}

/-- f operations of the head come up, in whatever order; then L. -/
def headQ (P : Program) (md : Region.Mode) (ops : Array Oper) (C : World → Prop) (n : Nat) (L : Array Bool → Act → Prop) : Nat → Array Bool → Act → Prop
  | 0, listed, a => L listed a
  | f + 1, listed, a => Region.ready md ops listed ≠ [] ∧ ∀ i ∈ Region.ready md ops listed, i < n ∧ qOp P ops C i (headQ P md ops C n L f (listed.setIfInBounds i true)) a

theorem headQ_sound {n g : Nat} {L : Array Bool → Act → Prop} {Q : Exit → Act → World → Prop} (hL : ∀ listed a w, C w → L listed a → wpAny P md ops Q g listed a w) (f : Nat) :
    ∀ (listed : Array Bool) (a : Act) (w : World), C w → headQ P md ops C n L f listed a → wpAny P md ops Q (f + g) listed a w := by
  induction f with
  | zero => intro listed a w hw h; rw [Nat.zero_add]; exact hL _ _ _ hw h
  | succ f ih =>
    intro listed a w hw h
    rw [show f + 1 + g = (f + g) + 1 by omega]
    exact ⟨fun h0 => absurd h0 h.1, fun i hi => wpOp_of_qOp hw (fun a' w' hw' h' => ih _ a' w' hw' h') (h.2 i hi).2⟩

theorem headQ_first {n i : Nat} {oi : Oper} {v : Value} {L : Array Bool → Act → Prop} (hi : ops[i]? = some oi) (hsel : ∀ (j : Nat) (o : Oper) cs b, ops[j]? = some o → o.op ≠ .select cs b)
    (hs : Region.sinkB md ops n = true) (hc : Region.chainB md ops n = true) (hn : n < ops.size) (hin : i < n) (hdone : ∀ listed a, L listed a → ∀ j ∈ Region.ready md ops listed, n ≤ j) (f : Nat) :
    ∀ (listed : Array Bool) (a : Act), HeadInv md ops n listed →
      (∀ j oj, ops[j]? = some oj → j ≠ i → listed.getD j true = false → (∀ e ∈ oj.after, Region.binds md e = true → e.on ≠ i) → oi.apart ops oj = true) →
      i ∈ Region.ready md ops listed → YieldsIn P ops C oi v a → headQ P md ops C n L f (listed.setIfInBounds i true) (a.put oi.dst v) → headQ P md ops C n L (f + 1) listed a := by
  have inside : ∀ listed, HeadInv md ops n listed → i ∈ Region.ready md ops listed → ∀ j ∈ Region.ready md ops listed, j < n := by
    intro listed inv hr j hj
    apply Classical.byContradiction
    intro h
    exact tail_waits hs hc hn inv _ i rfl hin (mem_ready.1 hr).1 j (by omega) hj
  induction f with
  | zero =>
    intro listed a inv _ hr hy H
    refine ⟨List.ne_nil_of_mem hr, fun j hj => ⟨inside _ inv hr j hj, ?_⟩⟩
    by_cases e : j = i
    · subst e; exact hy.qOp hi H
    · have h1 := hdone _ _ H j (ready_mono hj e)
      have h2 := inside _ inv hr j hj
      omega
  | succ f ih =>
    intro listed a inv hfree hr hy H
    refine ⟨List.ne_nil_of_mem hr, fun j hj => ⟨inside _ inv hr j hj, ?_⟩⟩
    by_cases e : j = i
    · subst e; exact hy.qOp hi H
    · obtain ⟨hjun, oj, hoj, hall⟩ := mem_ready.1 hj
      have hnot : ∀ d ∈ oj.after, Region.binds md d = true → d.on ≠ i := fun d hd hb he => by
        have h1 := hall d hd hb
        rw [he, getD_both (mem_ready.1 hr).1] at h1
        cases h1
      refine qOp_mono (fun a' h3 => ih (listed.setIfInBounds j true) a' (inv.set hj (inside _ inv hr j hj)) (fun k ok hk hki hun hno => hfree k ok hk hki ?_ hno) (ready_mono hr (Ne.symm e)) h3.1 ?_)
        (qOp_put hoj (hfree j oj hoj e hjun hnot) (fun cs b => hsel i oi cs b hi) (fun cs b => hsel j oj cs b hoj) hy (H.2 j (ready_mono hj e)).2)
      · by_cases ejk : j = k
        · subst ejk; exact hjun
        · rwa [getD_set_ne true ejk] at hun
      · rw [Array.setIfInBounds_comm _ _ e]; exact h3.2

theorem headQ_lex {n g : Nat} {R : Act → Prop} (hsel : Region.noSelect ops = true) (hs : Region.sinkB md ops n = true) (hc : Region.chainB md ops n = true) (hn : n < ops.size) (l : List Oper) :
    ∀ (k : Nat) (listed : Array Bool) (a : Act), (∀ j, j < l.length → l[j]? = ops[k + j]?) → k + l.length = n → HeadInv md ops n listed → Region.lexHead md ops g l.length k listed = true → wpQuiet P ops C R l a →
      headQ P md ops C n (fun listed' a' => Region.seqB md ops g n listed' = true ∧ R a') l.length listed a := by
  induction l with
  | nil =>
    intro k listed a _ hk _ hB h
    obtain rfl : k = n := by simpa using hk
    exact ⟨by simpa [Region.lexHead] using hB, h⟩
  | cons o l ih =>
    intro k listed a hl hk inv hB h
    have h0 : ops[k]? = some o := by simpa using (hl 0 (by simp)).symm
    simp only [List.length_cons, Region.lexHead, Bool.and_eq_true] at hB hk
    have hr : k ∈ Region.ready md ops listed := by simpa using hB.1.1
    have hq : qOp P ops C k (wpQuiet P ops C R l) a := by unfold qOp; simp only [h0]; exact h
    obtain ⟨v, hy, hK⟩ := yieldsIn_of_qOp h0 hq
    exact headQ_first h0 (Region.noSelect_spec hsel) hs hc hn (by omega) (fun _ _ hL => seqB_ready hL.1) l.length listed a inv (Region.free_spec h0 hB.1.2) hr hy
      (ih (k + 1) _ _ (fun j hj => by have := hl (j + 1) (by simp; omega); simpa [Nat.add_assoc, Nat.add_comm 1 j] using this) (by omega) (inv.set hr (by omega)) hB.2 hK)

/-- A head in a class of worlds, then a tail in its one order. -/
theorem wp_region_tail {id : Nat} {Q : Exit → Act → World → Prop} {a : Act} {w : World} {l : List Oper} (n : Nat) (hm : P.follows .mixedOrders = true) (hB : Region.lexTailB .any l.toArray n = true) (hC : C w.drew)
    (h : wpQuiet P l.toArray C (fun a' => ∀ w', C w' → wpList P l.toArray Q (l.drop n) a' w') (l.take n) a) : (Code.region id l.toArray true).wp P Q a w := by
  simp only [Region.lexTailB, Bool.and_eq_true, decide_eq_true_eq] at hB
  obtain ⟨⟨⟨⟨hsel, hn⟩, hs⟩, hc⟩, hlex⟩ := hB
  have hn' : n < l.length := by simpa using hn
  have htl : (l.take n).length = n := by simp; omega
  have hdl : (l.drop n).length = l.toArray.size - n := by simp
  have inv0 : HeadInv .any l.toArray n (Array.replicate l.toArray.size false) :=
    ⟨by simp, fun j oj _ hl => (by rw [getD_replicate_false] at hl; cases hl), fun t _ ht => getD_in (by simpa using ht) (getD_replicate_false _ _)⟩
  have H := headQ_lex (P := P) (C := C) (md := .any) (g := l.toArray.size - n) hsel hs hc hn (l.take n) 0 _ a (fun j hj => by
    have hj' : j < n := by rw [htl] at hj; exact hj
    simp [hj']) (by simpa using htl) inv0 (by rw [htl]; exact hlex) h
  refine wp_region_any hm ?_
  have G := headQ_sound (Q := Q) (g := l.toArray.size - n) (fun listed a' w' hw' hL => by
    have := wpAny_of_seq (md := .any) (Q' := Q) (l.drop n) n listed a' w' (fun j => by simp [List.getElem?_drop]) (by rw [hdl]; exact hL.1) (hL.2 w' hw')
    rwa [hdl] at this) _ _ _ _ hC H
  rw [htl, show n + (l.toArray.size - n) = l.toArray.size by omega] at G
  exact G

/-- The same over a family of worlds. -/
theorem wp_tailW {I : Type} {W : I → World} {id : Nat} {Q : Exit → Act → World → Prop} {a : Act} {w : World} {l : List Oper} (n : Nat) (hm : P.follows .mixedOrders = true) (hB : Region.lexTailB .any l.toArray n = true) (hC : ∃ i, w.drew = W i)
    (h : wpQuiet P l.toArray (fun w' => ∃ i, w' = W i) (fun a' => ∀ w', (∃ i, w' = W i) → wpList P l.toArray Q (l.drop n) a' w') (l.take n) a) : (Code.region id l.toArray true).wp P Q a w :=
  wp_region_tail (C := fun w' => ∃ i, w' = W i) n hm hB hC h
theorem wp_quietW {I : Type} {W : I → World} {id : Nat} {Q : Exit → Act → World → Prop} {a : Act} {w : World} {l : List Oper} (hm : P.follows .mixedOrders = true) (hB : Region.lexB .any l.toArray = true) (hC : ∃ i, w.drew = W i)
    (h : wpQuiet P l.toArray (fun w' => ∃ i, w' = W i) (fun a' => ∀ w', (∃ i, w' = W i) → Q .normal a' w') l a) : (Code.region id l.toArray true).wp P Q a w :=
  wp_region_quiet (C := fun w' => ∃ i, w' = W i) hm hB hC (by simpa using h)


end


/-- The later worlds, as a family. -/
structure Later (w : World) (I : Type) (W : I → World) : Prop where
  in_ : ∀ w', Below w.heap.size w w' → ∃ i, w' = W i
  bel : ∀ i, Below w.heap.size w (W i)
theorem later (w : World) : ∃ (I : Type) (_ : Nonempty I) (W : I → World), Later w I W := ⟨{ w' : World // Below w.heap.size w w' }, ⟨⟨w, Below.refl _ _⟩⟩, fun i => i.1, ⟨fun w' h => ⟨⟨w', h⟩, rfl⟩, fun i => i.2⟩⟩
theorem Later.drew {w : World} {I : Type} {W : I → World} (h : Later w I W) : ∃ i, w.drew = W i := h.in_ _ (below_drewN w 1)
theorem Later.cell {w : World} {I : Type} {W : I → World} (h : Later w I W) {a : Addr} {v : Value} (c : w.cell? a = some v) (i : I) : (W i).cell? a = some v := ((h.bel i).cell (World.block_lt_of_cell? w _ c)).trans c
theorem Later.frozen {w : World} {I : Type} {W : I → World} (h : Later w I W) {a : Addr} {b : Bool} {v : Value} (c : w.cell? a = some v) (f : w.frozen? a = b) (i : I) : (W i).frozen? a = b := ((h.bel i).frozen (World.block_lt_of_cell? w _ c)).trans f
/-- A callee that makes new blocks alone. -/
theorem Later.call {P : Program} {w : World} {I : Type} {W : I → World} (h : Later w I W) {f : FuncId} {args : Array Value} {v : Value} {i : I} (c : Calls P f args (W i) fun e w' => e = .returned v ∧ Below (W i).heap.size (W i) w') :
    Calls P f args (W i) fun e w' => e = .returned v ∧ ∃ j, w' = W j :=
  c.mono fun _ _ ⟨he, hb⟩ => ⟨he, h.in_ _ ((h.bel i).trans (hb.mono (h.bel i).size))⟩
theorem Later.call_same {P : Program} {I : Type} {W : I → World} {f : FuncId} {args : Array Value} {v : Value} {i : I} (c : Calls P f args (W i) fun e w' => e = .returned v ∧ W i = w') :
    Calls P f args (W i) fun e w' => e = .returned v ∧ ∃ j, w' = W j :=
  c.mono fun _ _ ⟨he, hb⟩ => ⟨he, i, hb.symm⟩

end Go.Dk


/- Regions that draw their order and whose first operation is a copy: it may be taken first, then the head in a class of worlds, then the tail in its one order. Over any program. -/
namespace Go.Dk
open Go.RowKit

section
variable {P : Program} {ops : Array Oper} {md : Region.Mode} {C : World → Prop}

def sinkM (md : Region.Mode) (ops : Array Oper) (m n : Nat) : Bool :=
  (List.range n).all fun i => decide (i < m) || (List.range (n + 1)).any fun j => decide (i < j) && Region.waitsFor md ops j i

theorem waits_m {m n : Nat} {listed : Array Bool} (hs : sinkM md ops m n = true) (hc : Region.chainB md ops n = true) (hn : n < ops.size) (inv : HeadInv md ops n listed) :
    ∀ (d i : Nat), n - i = d → m ≤ i → i < n → listed.getD i true = false → ∀ t, n ≤ t → t ∉ Region.ready md ops listed := by
  intro d
  induction d using Nat.strongRecOn with
  | _ d ih =>
    intro i hd hm hi hun t ht hr
    obtain ⟨_, ot, hot, hall⟩ := mem_ready.1 hr
    have htlt : t < ops.size := (Array.getElem?_eq_some_iff.1 hot).1
    by_cases htn : t = n
    · have h1 := List.all_eq_true.1 hs i (List.mem_range.2 hi)
      simp only [Bool.or_eq_true, decide_eq_true_eq] at h1
      have h1 := h1.resolve_left (by omega)
      obtain ⟨j, hj, hj2⟩ := List.any_eq_true.1 h1
      simp only [Bool.and_eq_true, decide_eq_true_eq] at hj2
      have hjn := List.mem_range.1 hj
      obtain ⟨oj, hoj, e, he, hb, heq⟩ := Region.waitsFor_spec hj2.2
      have hif := getD_both hun
      by_cases hjt : j = t
      · subst hjt
        rw [hot] at hoj; cases hoj
        have := hall e he hb
        rw [heq, hif] at this; cases this
      · have hjun : listed.getD j true = false := by
          cases hL : listed.getD j false with
          | false => exact getD_in (by rw [inv.size]; omega) hL
          | true =>
            have := inv.closed j oj hoj hL e he hb
            rw [heq, hif] at this; cases this
        exact ih (n - j) (by omega) j rfl (by omega) (by omega) hjun t ht hr
    · have h1 := List.all_eq_true.1 hc t (List.mem_range.2 htlt)
      simp only [Bool.or_eq_true, decide_eq_true_eq] at h1
      have h1 := h1.resolve_left (by omega)
      obtain ⟨oj, hoj, e, he, hb, heq⟩ := Region.waitsFor_spec h1
      rw [hot] at hoj; cases hoj
      have h2 := hall e he hb
      have h3 := getD_both (inv.tail (t - 1) (by omega) (by omega))
      rw [heq, h3] at h2; cases h2

theorem headM_first {m n i : Nat} {oi : Oper} {v : Value} {L : Array Bool → Act → Prop} (hi : ops[i]? = some oi) (hsel : ∀ (j : Nat) (o : Oper) cs b, ops[j]? = some o → o.op ≠ .select cs b)
    (hs : sinkM md ops m n = true) (hc : Region.chainB md ops n = true) (hn : n < ops.size) (hin : i < n) (hdone : ∀ listed a, L listed a → ∀ j ∈ Region.ready md ops listed, n ≤ j) (f : Nat) :
    ∀ (listed : Array Bool) (a : Act), HeadInv md ops n listed → (∀ j, j < m → listed.getD j false = true) →
      (∀ j oj, ops[j]? = some oj → j ≠ i → listed.getD j true = false → (∀ e ∈ oj.after, Region.binds md e = true → e.on ≠ i) → oi.apart ops oj = true) →
      i ∈ Region.ready md ops listed → YieldsIn P ops C oi v a → headQ P md ops C n L f (listed.setIfInBounds i true) (a.put oi.dst v) → headQ P md ops C n L (f + 1) listed a := by
  have inside : ∀ listed, HeadInv md ops n listed → (∀ j, j < m → listed.getD j false = true) → i ∈ Region.ready md ops listed → ∀ j ∈ Region.ready md ops listed, j < n := by
    intro listed inv hpre hr j hj
    apply Classical.byContradiction
    intro h
    have hun := (mem_ready.1 hr).1
    have hmi : m ≤ i := by
      apply Classical.byContradiction
      intro hlt
      have := hpre i (by omega)
      rw [getD_both hun] at this; cases this
    exact waits_m hs hc hn inv _ i rfl hmi hin hun j (by omega) hj
  induction f with
  | zero =>
    intro listed a inv hpre _ hr hy H
    refine ⟨List.ne_nil_of_mem hr, fun j hj => ⟨inside _ inv hpre hr j hj, ?_⟩⟩
    by_cases e : j = i
    · subst e; exact hy.qOp hi H
    · have h1 := hdone _ _ H j (ready_mono hj e)
      have h2 := inside _ inv hpre hr j hj
      omega
  | succ f ih =>
    intro listed a inv hpre hfree hr hy H
    refine ⟨List.ne_nil_of_mem hr, fun j hj => ⟨inside _ inv hpre hr j hj, ?_⟩⟩
    by_cases e : j = i
    · subst e; exact hy.qOp hi H
    · obtain ⟨hjun, oj, hoj, hall⟩ := mem_ready.1 hj
      have hnot : ∀ d ∈ oj.after, Region.binds md d = true → d.on ≠ i := fun d hd hb he => by
        have h1 := hall d hd hb
        rw [he, getD_both (mem_ready.1 hr).1] at h1
        cases h1
      refine qOp_mono (fun a' h3 => ih (listed.setIfInBounds j true) a' (inv.set hj (inside _ inv hpre hr j hj)) (fun k hk => getD_set_true (hpre k hk)) (fun k ok hk hki hun hno => hfree k ok hk hki ?_ hno) (ready_mono hr (Ne.symm e)) h3.1 ?_)
        (qOp_put hoj (hfree j oj hoj e hjun hnot) (fun cs b => hsel i oi cs b hi) (fun cs b => hsel j oj cs b hoj) hy (H.2 j (ready_mono hj e)).2)
      · by_cases ejk : j = k
        · subst ejk; exact hjun
        · rwa [getD_set_ne true ejk] at hun
      · rw [Array.setIfInBounds_comm _ _ e]; exact h3.2

theorem headM_lex {m n g : Nat} {R : Act → Prop} (hsel : Region.noSelect ops = true) (hs : sinkM md ops m n = true) (hc : Region.chainB md ops n = true) (hn : n < ops.size) (l : List Oper) :
    ∀ (k : Nat) (listed : Array Bool) (a : Act), (∀ j, j < l.length → l[j]? = ops[k + j]?) → k + l.length = n → HeadInv md ops n listed → (∀ j, j < m → listed.getD j false = true) → Region.lexHead md ops g l.length k listed = true → wpQuiet P ops C R l a →
      headQ P md ops C n (fun listed' a' => Region.seqB md ops g n listed' = true ∧ R a') l.length listed a := by
  induction l with
  | nil =>
    intro k listed a _ hk _ _ hB h
    obtain rfl : k = n := by simpa using hk
    exact ⟨by simpa [Region.lexHead] using hB, h⟩
  | cons o l ih =>
    intro k listed a hl hk inv hpre hB h
    have h0 : ops[k]? = some o := by simpa using (hl 0 (by simp)).symm
    simp only [List.length_cons, Region.lexHead, Bool.and_eq_true] at hB hk
    have hr : k ∈ Region.ready md ops listed := by simpa using hB.1.1
    have hq : qOp P ops C k (wpQuiet P ops C R l) a := by unfold qOp; simp only [h0]; exact h
    obtain ⟨v, hy, hK⟩ := yieldsIn_of_qOp h0 hq
    exact headM_first h0 (Region.noSelect_spec hsel) hs hc hn (by omega) (fun _ _ hL => seqB_ready hL.1) l.length listed a inv hpre (Region.free_spec h0 hB.1.2) hr hy
      (ih (k + 1) _ _ (fun j hj => by have := hl (j + 1) (by simp; omega); simpa [Nat.add_assoc, Nat.add_comm 1 j] using this) (by omega) (inv.set hr (by omega)) (fun j hj => getD_set_true (hpre j hj)) hB.2 hK)

def tailB1 (md : Region.Mode) (ops : Array Oper) (n : Nat) : Bool :=
  Region.noSelect ops && decide (n < ops.size) && decide (1 ≤ n) && sinkM md ops 1 n && Region.chainB md ops n && (Region.ready md ops (Array.replicate ops.size false)).contains 0 && Region.free md ops (Array.replicate ops.size false) 0 &&
    Region.lexHead md ops (ops.size - n) (n - 1) 1 ((Array.replicate ops.size false).setIfInBounds 0 true)

/-- The first operation, a copy; the rest of the head in a class of worlds; the tail in its one order. -/
theorem wp_region_tail1 {id : Nat} {Q : Exit → Act → World → Prop} {a : Act} {w : World} {o0 : Oper} {l : List Oper} (n : Nat) (x : Operand) (hm : P.follows .mixedOrders = true) (hB : tailB1 .any (o0 :: l).toArray n = true) (hC : C w.drew)
    (hx : o0.op = .move x) (hg : o0.guard = none) (hQ : ∀ c a' w', Q (.panic c) (a'.put o0.dst (a.eval x)) w' → Q (.panic c) a' w')
    (h : wpQuiet P (o0 :: l).toArray C (fun a' => ∀ w', C w' → wpList P (o0 :: l).toArray Q (l.drop (n - 1)) a' w') (l.take (n - 1)) (a.put o0.dst (a.eval x))) : (Code.region id (o0 :: l).toArray true).wp P Q a w := by
  simp only [tailB1, Bool.and_eq_true, decide_eq_true_eq] at hB
  obtain ⟨⟨⟨⟨⟨⟨⟨hsel, hn⟩, h1⟩, hs⟩, hc⟩, hr0⟩, hf0⟩, hlex⟩ := hB
  have hn' : n < l.length + 1 := by simpa using hn
  have hsz : (o0 :: l).toArray.size = l.length + 1 := by simp
  have h0 : (o0 :: l).toArray[0]? = some o0 := by simp
  have htl : (l.take (n - 1)).length = n - 1 := by simp; omega
  have hdl : (l.drop (n - 1)).length = (o0 :: l).toArray.size - n := by rw [hsz, List.length_drop]; omega
  have inv0 : HeadInv .any (o0 :: l).toArray n (Array.replicate (o0 :: l).toArray.size false) :=
    ⟨by simp, fun j oj _ hl => (by rw [getD_replicate_false] at hl; cases hl), fun t _ ht => getD_in (by simpa using ht) (getD_replicate_false _ _)⟩
  have hr0' : 0 ∈ Region.ready .any (o0 :: l).toArray (Array.replicate (o0 :: l).toArray.size false) := by simpa using hr0
  have inv1 := inv0.set hr0' (by omega)
  have hpre : ∀ j, j < 1 → ((Array.replicate (o0 :: l).toArray.size false).setIfInBounds 0 true).getD j false = true := by
    intro j hj
    obtain rfl : j = 0 := by omega
    simp
  have H := headM_lex (P := P) (C := C) (md := .any) (g := (o0 :: l).toArray.size - n) hsel hs hc hn (l.take (n - 1)) 1 _ (a.put o0.dst (a.eval x)) (fun j hj => by
    have hj' : j < n - 1 := by rw [htl] at hj; exact hj
    simp [hj', Nat.add_comm 1 j]) (by omega) inv1 hpre (by rw [htl]; exact hlex) h
  refine wp_region_any hm ?_
  have G := headQ_sound (Q := Q) (g := (o0 :: l).toArray.size - n) (fun listed a' w' hw' hL => by
    have := wpAny_of_seq (md := .any) (Q' := Q) (l.drop (n - 1)) n listed a' w' (fun j => by
      have e : n + j = (n - 1 + j) + 1 := by omega
      simp [e, List.getElem?_drop]) (by rw [hdl]; exact hL.1) (hL.2 w' hw')
    rwa [hdl] at this) _ _ _ _ hC H
  have hy : Yields P (o0 :: l).toArray o0 (a.eval x) a := .inl ⟨by simp [Region.wanted, hg], fun w => by rw [BigFrame.run_move x hx]⟩
  have e2 : (o0 :: l).toArray.size = (l.take (n - 1)).length + ((o0 :: l).toArray.size - n) + 1 := by rw [htl, hsz]; omega
  have W := wpAny_first (Q := Q) h0 (Region.noSelect_spec hsel) hQ _ (Array.replicate (o0 :: l).toArray.size false) a w.drew (Region.free_spec h0 hf0) hr0' hy G
  rw [← e2] at W
  exact W
/-- The same over a family of worlds. -/
theorem wp_tailW1 {I : Type} {W : I → World} {id : Nat} {Q : Exit → Act → World → Prop} {a : Act} {w : World} {o0 : Oper} {l : List Oper} (n : Nat) (x : Operand) (hm : P.follows .mixedOrders = true) (hB : tailB1 .any (o0 :: l).toArray n = true) (hC : ∃ i, w.drew = W i)
    (hx : o0.op = .move x) (hg : o0.guard = none) (hQ : ∀ c a' w', Q (.panic c) (a'.put o0.dst (a.eval x)) w' → Q (.panic c) a' w')
    (h : wpQuiet P (o0 :: l).toArray (fun w' => ∃ i, w' = W i) (fun a' => ∀ w', (∃ i, w' = W i) → wpList P (o0 :: l).toArray Q (l.drop (n - 1)) a' w') (l.take (n - 1)) (a.put o0.dst (a.eval x))) : (Code.region id (o0 :: l).toArray true).wp P Q a w :=
  wp_region_tail1 (C := fun w' => ∃ i, w' = W i) n x hm hB hC hx hg hQ h

end


end Go.Dk


/- Regions that draw their order, whose operations read, and one of which makes a new block ('x := t.N[l[i]]'): the reads yield the same ahead of it and behind it. Over any program. -/
namespace Go.Dk
open Go.RowKit

section
variable {P : Program} {ops : Array Oper} {md : Region.Mode} {F : Bool → World}

/-- Operations that call nothing. -/
def plainOp : Op → Bool
  | .move _ | .assign _ | .pick _ _ _ | .load _ _ | .nilCheck _ | .fieldAddr _ _ _ | .indexAddr _ _ _ | .binOp _ _ _ _ _ | .unOp _ _ _ | .extract _ _ | .build _ _ => true
  | _ => false
theorem andThen_no {α : Type} {r : Result α} {k : α → World → Result Next} {f : FuncId} {args : Array Value} {w' : World} (h : ∀ x w, k x w ≠ .ok (.enter f args) w') : r.andThen k ≠ .ok (.enter f args) w' := by
  cases r with
  | ok x w => exact h x w
  | halt x w => intro e; cases e
theorem val_no {α : Type} (m : Sem α) (g : α → Value) (w : World) (f : FuncId) (args : Array Value) (w' : World) : (m >>= fun x => pure (Next.value (g x))).run P w ≠ .ok (.enter f args) w' := by
  have : (m >>= fun x => pure (Next.value (g x))).run P w = (m.run P w).andThen fun x w => .ok (.value (g x)) w := by simp
  rw [this]
  exact andThen_no fun x w e => by cases e
theorem bind_no {α : Type} (m : Sem α) (k : α → Sem Next) {w : World} {f : FuncId} {args : Array Value} {w' : World} (h : ∀ x w, (k x).run P w ≠ .ok (.enter f args) w') : (m >>= k).run P w ≠ .ok (.enter f args) w' := by
  have : (m >>= k).run P w = (m.run P w).andThen fun x w => (k x).run P w := by simp
  rw [this]
  exact andThen_no h
theorem panic_no (w : World) (f : FuncId) (args : Array Value) (w' : World) : (runtimePanic .nilDeref : Sem Next).run P w ≠ .ok (.enter f args) w' := by
  intro h
  simp [go_sem] at h
theorem no_enter (ρ : Operand → Value) (o : Oper) (h : plainOp o.op = true) (w : World) (f : FuncId) (args : Array Value) (w' : World) : (execOp ρ o).run P w ≠ .ok (.enter f args) w' := by
  obtain ⟨dst, op, ty, pos, aft, gd⟩ := o
  simp only at h
  cases op <;> simp only [plainOp, Bool.false_eq_true] at h <;> unfold execOp <;> simp only
  all_goals first | exact val_no _ _ _ _ _ _ | (intro e; cases e; done) | skip
  split
  · exact panic_no _ _ _ _
  · exact panic_no _ _ _ _
  · exact panic_no _ _ _ _
  · split
    · exact panic_no _ _ _ _
    · refine bind_no _ _ fun x w => bind_no _ _ fun y w => ?_
      split
      · exact bind_no _ _ fun z w e => by cases e
      · intro e; cases e
    · intro e; cases e
  · intro e; cases e

/-- Quiet over two worlds is quiet in each, where nothing is called. -/
theorem quiet_one {C : World → Prop} {o : Oper} {a : Act} {v : Value} (hp : plainOp o.op = true) {w : World} (hw : C w) (h : o.quietAt P a C w v) : o.quietAt P a (fun x => x = w) w v := by
  unfold Oper.quietAt at *
  have hn := no_enter (P := P) a.eval o hp w
  generalize (execOp a.eval o).run P w = r at *
  cases r with
  | ok n w' =>
    cases n <;> simp only [Oper.quietUpon] at h ⊢
    case value => exact h
    case skip => exact h
    case enter f args => exact absurd rfl (hn f args w')
  | halt x w' => simp only [Oper.quietUpon] at h
theorem qOp_one {C : World → Prop} {i : Nat} {oi : Oper} (hi : ops[i]? = some oi) (hp : plainOp oi.op = true) {a : Act} {K : Act → Prop} {w : World} (hw : C w) (h : qOp P ops C i K a) : qOp P ops (fun x => x = w) i K a := by
  unfold qOp at *
  simp only [hi] at *
  split
  · rename_i hwt
    rw [if_pos hwt] at h
    obtain ⟨v, h1, h2⟩ := h
    exact ⟨v, fun w' e => by subst e; exact quiet_one hp hw (h1 _ hw), h2⟩
  · rename_i hwt
    rw [if_neg hwt] at h
    exact h

/-- The operation that makes the block. -/
def evOK (P : Program) (ops : Array Oper) (F : Bool → World) (oe : Oper) (v : Value) (a : Act) : Prop := Region.wanted oe (yielded ops a.tmps) = true ∧ (execOp a.eval oe).run P (F false) = .ok (.value v) (F true)

/-- The head: reads, in either world; the one operation e that makes the block. -/
def headE (P : Program) (md : Region.Mode) (ops : Array Oper) (F : Bool → World) (n e : Nat) (oe : Oper) (v : Value) (L : Array Bool → Act → Prop) : Nat → Array Bool → Act → Prop
  | 0, listed, a => listed.getD e false = true ∧ L listed a
  | f + 1, listed, a => Region.ready md ops listed ≠ [] ∧ ∀ i ∈ Region.ready md ops listed, i < n ∧
      ((i = e ∧ evOK P ops F oe v a ∧ headE P md ops F n e oe v L f (listed.setIfInBounds e true) (a.put oe.dst v)) ∨
       (i ≠ e ∧ (∃ oi, ops[i]? = some oi ∧ plainOp oi.op = true) ∧ qOp P ops (fun w => ∃ b, w = F b) i (headE P md ops F n e oe v L f (listed.setIfInBounds i true)) a))

theorem headE_sound {n e g : Nat} {oe : Oper} {v : Value} {L : Array Bool → Act → Prop} {Q : Exit → Act → World → Prop} (he : ops[e]? = some oe) (hL : ∀ listed a, listed.getD e false = true → L listed a → wpAny P md ops Q g listed a (F true)) (f : Nat) :
    ∀ (listed : Array Bool) (a : Act), listed.size = ops.size → headE P md ops F n e oe v L f listed a → wpAny P md ops Q (f + g) listed a (F (listed.getD e false)) := by
  have hes : e < ops.size := (Array.getElem?_eq_some_iff.1 he).1
  induction f with
  | zero => intro listed a _ h; rw [Nat.zero_add, h.1]; exact hL _ _ h.1 h.2
  | succ f ih =>
    intro listed a hs h
    rw [show f + 1 + g = (f + g) + 1 by omega]
    refine ⟨fun h0 => absurd h0 h.1, fun i hi => ?_⟩
    rcases (h.2 i hi).2 with ⟨rfl, hev, hk⟩ | ⟨hne, ⟨oi, hoi, hp⟩, hq⟩
    · have hun := getD_both (mem_ready.1 hi).1
      rw [hun]
      have := ih _ _ (by simpa using hs) hk
      rw [show (listed.setIfInBounds i true).getD i false = true by simp [hs, hes]] at this
      unfold wpOp
      simp only [he]
      rw [if_pos hev.1]
      left
      unfold Oper.wp
      rw [hev.2]
      exact this
    · refine wpOp_of_qOp (C := fun x => x = F (listed.getD e false)) rfl (fun a' w' hw' h' => ?_) (qOp_one hoi hp ⟨_, rfl⟩ hq)
      subst hw'
      have := ih _ _ (by simpa using hs) h'
      rwa [getD_set_ne false hne] at this

theorem ev_put {e : Nat} {oi oe : Oper} {v u : Value} (he : ops[e]? = some oe) (hap : oi.apart ops oe = true) (hse : ∀ cs b, oe.op ≠ .select cs b) {a : Act} (h : evOK P ops F oe v (a.put oi.dst u)) : evOK P ops F oe v a := by
  obtain ⟨h1, h2, h3⟩ := Oper.apart_spec hap
  unfold evOK at *
  rw [wanted_put oe a oi.dst u h1, execOp_put oe hse a oi.dst u h1] at h
  exact h

theorem headE_first {n e i : Nat} {oi oe : Oper} {u v : Value} {L : Array Bool → Act → Prop} (hi : ops[i]? = some oi) (he : ops[e]? = some oe) (hie : i ≠ e) (hp : plainOp oi.op = true) (hsel : ∀ (j : Nat) (o : Oper) cs b, ops[j]? = some o → o.op ≠ .select cs b)
    (hs : Region.sinkB md ops n = true) (hc : Region.chainB md ops n = true) (hn : n < ops.size) (hin : i < n) (hdone : ∀ listed a, L listed a → ∀ j ∈ Region.ready md ops listed, n ≤ j) (f : Nat) :
    ∀ (listed : Array Bool) (a : Act), HeadInv md ops n listed →
      (∀ j oj, ops[j]? = some oj → j ≠ i → listed.getD j true = false → (∀ d ∈ oj.after, Region.binds md d = true → d.on ≠ i) → oi.apart ops oj = true) →
      i ∈ Region.ready md ops listed → YieldsIn P ops (fun w => ∃ b, w = F b) oi u a → headE P md ops F n e oe v L f (listed.setIfInBounds i true) (a.put oi.dst u) → headE P md ops F n e oe v L (f + 1) listed a := by
  have inside : ∀ listed, HeadInv md ops n listed → i ∈ Region.ready md ops listed → ∀ j ∈ Region.ready md ops listed, j < n := by
    intro listed inv hr j hj
    apply Classical.byContradiction
    intro h
    exact tail_waits hs hc hn inv _ i rfl hin (mem_ready.1 hr).1 j (by omega) hj
  induction f with
  | zero =>
    intro listed a inv _ hr hy H
    refine ⟨List.ne_nil_of_mem hr, fun j hj => ⟨inside _ inv hr j hj, ?_⟩⟩
    by_cases ej : j = i
    · subst ej; exact .inr ⟨hie, ⟨oi, hi, hp⟩, hy.qOp hi H⟩
    · have h1 := hdone _ _ H.2 j (ready_mono hj ej)
      have h2 := inside _ inv hr j hj
      omega
  | succ f ih =>
    intro listed a inv hfree hr hy H
    refine ⟨List.ne_nil_of_mem hr, fun j hj => ⟨inside _ inv hr j hj, ?_⟩⟩
    by_cases ej : j = i
    · subst ej; exact .inr ⟨hie, ⟨oi, hi, hp⟩, hy.qOp hi H⟩
    · obtain ⟨hjun, oj, hoj, hall⟩ := mem_ready.1 hj
      have hnot : ∀ d ∈ oj.after, Region.binds md d = true → d.on ≠ i := fun d hd hb he => by
        have h1 := hall d hd hb
        rw [he, getD_both (mem_ready.1 hr).1] at h1
        cases h1
      have hap := hfree j oj hoj ej hjun hnot
      have hfree' : ∀ k ok, ops[k]? = some ok → k ≠ i → (listed.setIfInBounds j true).getD k true = false → (∀ d ∈ ok.after, Region.binds md d = true → d.on ≠ i) → oi.apart ops ok = true := fun k ok hk hki hun hno => by
        refine hfree k ok hk hki ?_ hno
        by_cases ejk : j = k
        · subst ejk; exact hjun
        · rwa [getD_set_ne true ejk] at hun
      rcases (H.2 j (ready_mono hj ej)).2 with ⟨hje, hev, hk⟩ | ⟨hje, hpj, hq⟩
      · subst hje
        have ho : oj = oe := by rw [he] at hoj; exact (Option.some.inj hoj).symm
        subst ho
        obtain ⟨p1, p2, p3⟩ := Oper.apart_spec hap
        refine .inl ⟨rfl, ev_put hoj hap (fun cs b => hsel _ _ cs b hoj) hev, ih _ _ (inv.set hj (inside _ inv hr j hj)) hfree' (ready_mono hr (Ne.symm ej)) (hy.of_same (execOp_put oi (fun cs b => hsel _ _ cs b hi) a oj.dst v p3) (wanted_put oi a oj.dst v p3)) ?_⟩
        rw [Array.setIfInBounds_comm _ _ ej, ← Act.put_comm a u v p2]
        exact hk
      · refine .inr ⟨hje, hpj, qOp_mono (fun a' h3 => ih (listed.setIfInBounds j true) a' (inv.set hj (inside _ inv hr j hj)) hfree' (ready_mono hr (Ne.symm ej)) h3.1 ?_)
          (qOp_put hoj hap (fun cs b => hsel i oi cs b hi) (fun cs b => hsel j oj cs b hoj) hy hq)⟩
        rw [Array.setIfInBounds_comm _ _ ej]; exact h3.2

theorem headE_lex {n e g : Nat} {oe : Oper} {v : Value} {R : Act → Prop} (hen : e + 1 = n) (he : ops[e]? = some oe) (hsel : Region.noSelect ops = true) (hs : Region.sinkB md ops n = true) (hc : Region.chainB md ops n = true) (hn : n < ops.size) (l : List Oper) (hpl : l.all (fun o => plainOp o.op) = true) :
    ∀ (k : Nat) (listed : Array Bool) (a : Act), (∀ j, j < l.length → l[j]? = ops[k + j]?) → k + l.length = e → HeadInv md ops n listed → listed.getD e false = false → (∀ j, j < k → listed.getD j false = true) → Region.lexHead md ops g (l.length + 1) k listed = true →
      wpQuiet P ops (fun w => ∃ b, w = F b) (fun a' => evOK P ops F oe v a' ∧ R (a'.put oe.dst v)) l a →
      headE P md ops F n e oe v (fun listed' a' => Region.seqB md ops g n listed' = true ∧ R a') (l.length + 1) listed a := by
  induction l with
  | nil =>
    intro k listed a _ hk inv hun hall hB h
    obtain rfl : k = e := by simpa using hk
    simp only [List.length_nil, Nat.zero_add, Region.lexHead, Bool.and_eq_true] at hB
    have hr : k ∈ Region.ready md ops listed := by simpa using hB.1.1
    have hsz := inv.size
    refine ⟨List.ne_nil_of_mem hr, fun j hj => ?_⟩
    have hjn : j < n := by
      apply Classical.byContradiction
      intro hcon
      exact tail_waits hs hc hn inv _ k rfl (by omega) (mem_ready.1 hr).1 j (by omega) hj
    have hje : j = k := by
      apply Classical.byContradiction
      intro hcon
      have := hall j (by omega)
      rw [getD_both (mem_ready.1 hj).1] at this; cases this
    refine ⟨hjn, .inl ⟨hje, h.1, ?_, ?_, h.2⟩⟩
    · have hes : k < ops.size := by omega
      simp [hsz, hes]
    · rw [← hen]; exact hB.2
  | cons o l ih =>
    intro k listed a hl hk inv hun hall hB h
    simp only [List.all_cons, Bool.and_eq_true] at hpl
    have h0 : ops[k]? = some o := by simpa using (hl 0 (by simp)).symm
    simp only [List.length_cons] at hB hk
    rw [Region.lexHead] at hB
    simp only [Bool.and_eq_true] at hB
    have hr : k ∈ Region.ready md ops listed := by simpa using hB.1.1
    have hq : qOp P ops (fun w => ∃ b, w = F b) k (wpQuiet P ops (fun w => ∃ b, w = F b) (fun a' => evOK P ops F oe v a' ∧ R (a'.put oe.dst v)) l) a := by unfold qOp; simp only [h0]; exact h
    obtain ⟨u, hy, hK⟩ := yieldsIn_of_qOp h0 hq
    have hke : k ≠ e := by omega
    exact headE_first h0 he hke hpl.1 (Region.noSelect_spec hsel) hs hc hn (by omega) (fun _ _ hL => seqB_ready hL.1) (l.length + 1) listed a inv (Region.free_spec h0 hB.1.2) hr hy
      (ih hpl.2 (k + 1) _ _ (fun j hj => by have := hl (j + 1) (by simp; omega); simpa [Nat.add_assoc, Nat.add_comm 1 j] using this) (by omega) (inv.set hr (by omega)) (by rw [getD_set_ne false hke]; exact hun) (fun j hj => by
        by_cases ejk : j = k
        · subst ejk
          have hks : j < ops.size := by omega
          simp [inv.size, hks]
        · exact getD_set_true (hall j (by omega))) hB.2 hK)

def eventB (md : Region.Mode) (ops : Array Oper) (n : Nat) : Bool :=
  Region.noSelect ops && decide (n < ops.size) && decide (1 ≤ n) && Region.sinkB md ops n && Region.chainB md ops n && (ops.toList.take (n - 1)).all (fun o => plainOp o.op) && Region.lexHead md ops (ops.size - n) n 0 (Array.replicate ops.size false)

/-- Reads; a block is made; then a tail in its one order. -/
theorem wp_eventW {id : Nat} {Q : Exit → Act → World → Prop} {a : Act} {w : World} {l : List Oper} (n : Nat) (oe : Oper) (v : Value) (hm : P.follows .mixedOrders = true) (hB : eventB .any l.toArray n = true) (he : l[n - 1]? = some oe) (hF : w.drew = F false)
    (h : wpQuiet P l.toArray (fun w' => ∃ b, w' = F b) (fun a' => evOK P l.toArray F oe v a' ∧ wpList P l.toArray Q (l.drop n) (a'.put oe.dst v) (F true)) (l.take (n - 1)) a) : (Code.region id l.toArray true).wp P Q a w := by
  simp only [eventB, Bool.and_eq_true, decide_eq_true_eq] at hB
  obtain ⟨⟨⟨⟨⟨⟨hsel, hn⟩, h1⟩, hs⟩, hc⟩, hpl⟩, hlex⟩ := hB
  have hn' : n < l.length := by simpa using hn
  have htl : (l.take (n - 1)).length = n - 1 := by simp; omega
  have hdl : (l.drop n).length = l.toArray.size - n := by simp
  have inv0 : HeadInv .any l.toArray n (Array.replicate l.toArray.size false) :=
    ⟨by simp, fun j oj _ hl => (by rw [getD_replicate_false] at hl; cases hl), fun t _ ht => getD_in (by simpa using ht) (getD_replicate_false _ _)⟩
  have he' : l.toArray[n - 1]? = some oe := by simpa using he
  have H := headE_lex (P := P) (F := F) (md := .any) (g := l.toArray.size - n) (e := n - 1) (R := fun a' => wpList P l.toArray Q (l.drop n) a' (F true)) (by omega) he' hsel hs hc hn (l.take (n - 1)) (by simpa using hpl) 0 _ a (fun j hj => by
    have hj' : j < n - 1 := by rw [htl] at hj; exact hj
    simp [hj']) (by simpa using htl) inv0 (getD_replicate_false _ _) (fun j hj => by omega) (by rw [htl, show n - 1 + 1 = n by omega]; exact hlex) h
  refine wp_region_any hm ?_
  have G := headE_sound (Q := Q) (g := l.toArray.size - n) he' (fun listed a' _ hL => by
    have := wpAny_of_seq (md := .any) (Q' := Q) (l.drop n) n listed a' (F true) (fun j => by simp [List.getElem?_drop]) (by rw [hdl]; exact hL.1) hL.2
    rwa [hdl] at this) _ _ _ (by simp) H
  rw [htl, show n - 1 + 1 + (l.toArray.size - n) = l.toArray.size by simp; omega, getD_replicate_false] at G
  rw [← hF] at G
  exact G
theorem twoW (w0 w1 : World) : ∃ F : Bool → World, F false = w0 ∧ F true = w1 := ⟨fun b => if b then w1 else w0, rfl, rfl⟩
theorem twoW_cell {F : Bool → World} {w0 w1 : World} (h0 : F false = w0) (h1 : F true = w1) {a : Addr} {v : Value} (c0 : w0.cell? a = some v) (c1 : w1.cell? a = some v) (b : Bool) : (F b).cell? a = some v := by
  cases b
  · rw [h0]; exact c0
  · rw [h1]; exact c1
/-- Two worlds, as a family that tells nothing of itself. -/
structure TwoI (w0 w1 : World) (I : Type) (W : I → World) (i0 i1 : I) : Prop where
  a0 : W i0 = w0
  a1 : W i1 = w1
  all : ∀ i, i = i0 ∨ i = i1
theorem twoI (w0 w1 : World) : ∃ (I : Type) (_ : Nonempty I) (W : I → World) (i0 i1 : I), TwoI w0 w1 I W i0 i1 := ⟨Bool, ⟨true⟩, fun b => if b then w1 else w0, false, true, rfl, rfl, fun b => by cases b <;> simp⟩
theorem TwoI.cell {w0 w1 : World} {I : Type} {W : I → World} {i0 i1 : I} (h : TwoI w0 w1 I W i0 i1) {a : Addr} {v : Value} (c0 : w0.cell? a = some v) (c1 : w1.cell? a = some v) (i : I) : (W i).cell? a = some v := by
  rcases h.all i with rfl | rfl
  · rw [h.a0]; exact c0
  · rw [h.a1]; exact c1
theorem alloc_both {w : World} {o : Obj} {I : Type} {W : I → World} {i0 i1 : I} (h : TwoI w.drew (w.drew.alloc o) I W i0 i1) {a : Addr} {v : Value} (c : w.cell? a = some v) (i : I) : (W i).cell? a = some v := by
  have c0 : w.drew.cell? a = some v := c
  exact h.cell c0 ((below_alloc w.drew o).cell (World.block_lt_of_cell? _ _ c0) |>.trans c0) i
theorem wp_eventI {I : Type} {W : I → World} {i0 i1 : I} {w1 : World} {id : Nat} {Q : Exit → Act → World → Prop} {a : Act} {w : World} {l : List Oper} (n : Nat) (oe : Oper) (v : Value) (hW : TwoI w.drew w1 I W i0 i1) (hm : P.follows .mixedOrders = true) (hB : eventB .any l.toArray n = true) (he : l[n - 1]? = some oe)
    (hev : ∀ ρ : Operand → Value, (execOp ρ oe).run P w.drew = .ok (.value v) w1) (hg : oe.guard = none)
    (h : wpQuiet P l.toArray (fun w' => ∃ i, w' = W i) (fun a' => wpList P l.toArray Q (l.drop n) (a'.put oe.dst v) w1) (l.take (n - 1)) a) : (Code.region id l.toArray true).wp P Q a w := by
  have hc : (fun w' => ∃ i, w' = W i) = (fun w' => ∃ b : Bool, w' = (fun b : Bool => W (if b then i1 else i0)) b) := by
    funext w'
    refine propext ⟨fun ⟨i, hi⟩ => ?_, fun ⟨b, hb⟩ => ⟨_, hb⟩⟩
    rcases hW.all i with rfl | rfl
    · exact ⟨false, by simpa using hi⟩
    · exact ⟨true, by simpa using hi⟩
  rw [hc] at h
  refine wp_eventW (F := fun b => W (if b then i1 else i0)) n oe v hm hB he (by simp [hW.a0]) ?_
  have hR : (fun a' => wpList P l.toArray Q (l.drop n) (a'.put oe.dst v) w1) = (fun a' => evOK P l.toArray (fun b => W (if b then i1 else i0)) oe v a' ∧ wpList P l.toArray Q (l.drop n) (a'.put oe.dst v) ((fun b => W (if b then i1 else i0)) true)) := by
    funext a'
    refine propext ⟨fun h => ⟨⟨by simp [Region.wanted, hg], by simp only [Bool.false_eq_true, if_false, if_true]; rw [hW.a0, hW.a1]; exact hev _⟩, by simpa [hW.a1] using h⟩, fun h => by simpa [hW.a1] using h.2⟩
  rw [hR] at h
  exact h

end


end Go.Dk


/- Regions that draw their order: a quiet head, one call that may write, registers behind it in whatever order. Over any program. -/
namespace Go.Dk
open Go.RowKit

section
variable {P : Program} {ops : Array Oper} {md : Region.Mode} {C : World → Prop}

/-- What stands behind number n waits for something at n or behind it. -/
def chainG (md : Region.Mode) (ops : Array Oper) (n : Nat) : Bool :=
  (List.range ops.size).all fun t => decide (t ≤ n) || (List.range t).any fun s => decide (n ≤ s) && Region.waitsFor md ops t s

theorem waits_g {n : Nat} {listed : Array Bool} (hs : Region.sinkB md ops n = true) (hc : chainG md ops n = true) (inv : HeadInv md ops n listed) :
    ∀ (d i : Nat), n - i = d → i < n → n < ops.size → listed.getD i true = false → ∀ t, n ≤ t → t ∉ Region.ready md ops listed := by
  intro d
  induction d using Nat.strongRecOn with
  | _ d ih =>
    intro i hd hi hn hun t ht hr
    obtain ⟨_, ot, hot, hall⟩ := mem_ready.1 hr
    have htlt : t < ops.size := (Array.getElem?_eq_some_iff.1 hot).1
    by_cases htn : t = n
    · have h1 := List.all_eq_true.1 hs i (List.mem_range.2 hi)
      obtain ⟨j, hj, hj2⟩ := List.any_eq_true.1 h1
      simp only [Bool.and_eq_true, decide_eq_true_eq] at hj2
      have hjn := List.mem_range.1 hj
      obtain ⟨oj, hoj, e, he, hb, heq⟩ := Region.waitsFor_spec hj2.2
      have hif := getD_both hun
      by_cases hjt : j = t
      · subst hjt
        rw [hot] at hoj; cases hoj
        have := hall e he hb
        rw [heq, hif] at this; cases this
      · have hjun : listed.getD j true = false := by
          cases hL : listed.getD j false with
          | false => exact getD_in (by rw [inv.size]; omega) hL
          | true =>
            have := inv.closed j oj hoj hL e he hb
            rw [heq, hif] at this; cases this
        exact ih (n - j) (by omega) j rfl (by omega) hn hjun t ht hr
    · have h1 := List.all_eq_true.1 hc t (List.mem_range.2 htlt)
      simp only [Bool.or_eq_true, decide_eq_true_eq] at h1
      have h1 := h1.resolve_left (by omega)
      obtain ⟨s, hs1, hs2⟩ := List.any_eq_true.1 h1
      simp only [Bool.and_eq_true, decide_eq_true_eq] at hs2
      have hst := List.mem_range.1 hs1
      obtain ⟨oj, hoj, e, he, hb, heq⟩ := Region.waitsFor_spec hs2.2
      rw [hot] at hoj; cases hoj
      have h2 := hall e he hb
      have h3 := getD_both (inv.tail s hs2.1 (by omega))
      rw [heq, h3] at h2; cases h2

theorem headG_first {n i : Nat} {oi : Oper} {v : Value} {L : Array Bool → Act → Prop} (hi : ops[i]? = some oi) (hsel : ∀ (j : Nat) (o : Oper) cs b, ops[j]? = some o → o.op ≠ .select cs b)
    (hs : Region.sinkB md ops n = true) (hc : chainG md ops n = true) (hn : n < ops.size) (hin : i < n) (hdone : ∀ listed a, L listed a → ∀ j ∈ Region.ready md ops listed, n ≤ j) (f : Nat) :
    ∀ (listed : Array Bool) (a : Act), HeadInv md ops n listed →
      (∀ j oj, ops[j]? = some oj → j ≠ i → listed.getD j true = false → (∀ e ∈ oj.after, Region.binds md e = true → e.on ≠ i) → oi.apart ops oj = true) →
      i ∈ Region.ready md ops listed → YieldsIn P ops C oi v a → headQ P md ops C n L f (listed.setIfInBounds i true) (a.put oi.dst v) → headQ P md ops C n L (f + 1) listed a := by
  have inside : ∀ listed, HeadInv md ops n listed → i ∈ Region.ready md ops listed → ∀ j ∈ Region.ready md ops listed, j < n := by
    intro listed inv hr j hj
    apply Classical.byContradiction
    intro h
    exact waits_g hs hc inv _ i rfl hin hn (mem_ready.1 hr).1 j (by omega) hj
  induction f with
  | zero =>
    intro listed a inv _ hr hy H
    refine ⟨List.ne_nil_of_mem hr, fun j hj => ⟨inside _ inv hr j hj, ?_⟩⟩
    by_cases e : j = i
    · subst e; exact hy.qOp hi H
    · have h1 := hdone _ _ H j (ready_mono hj e)
      have h2 := inside _ inv hr j hj
      omega
  | succ f ih =>
    intro listed a inv hfree hr hy H
    refine ⟨List.ne_nil_of_mem hr, fun j hj => ⟨inside _ inv hr j hj, ?_⟩⟩
    by_cases e : j = i
    · subst e; exact hy.qOp hi H
    · obtain ⟨hjun, oj, hoj, hall⟩ := mem_ready.1 hj
      have hnot : ∀ d ∈ oj.after, Region.binds md d = true → d.on ≠ i := fun d hd hb he => by
        have h1 := hall d hd hb
        rw [he, getD_both (mem_ready.1 hr).1] at h1
        cases h1
      refine qOp_mono (fun a' h3 => ih (listed.setIfInBounds j true) a' (inv.set hj (inside _ inv hr j hj)) (fun k ok hk hki hun hno => hfree k ok hk hki ?_ hno) (ready_mono hr (Ne.symm e)) h3.1 ?_)
        (qOp_put hoj (hfree j oj hoj e hjun hnot) (fun cs b => hsel i oi cs b hi) (fun cs b => hsel j oj cs b hoj) hy (H.2 j (ready_mono hj e)).2)
      · by_cases ejk : j = k
        · subst ejk; exact hjun
        · rwa [getD_set_ne true ejk] at hun
      · rw [Array.setIfInBounds_comm _ _ e]; exact h3.2

/-- The head in the text's order, then number n alone, then the rest in the text's order. -/
def lexCall (md : Region.Mode) (ops : Array Oper) (g : Nat) : Nat → Nat → Array Bool → Bool
  | 0, k, listed => decide (Region.ready md ops listed = [k]) && Region.lexFrom md ops g (k + 1) (listed.setIfInBounds k true)
  | f + 1, k, listed => (Region.ready md ops listed).contains k && Region.free md ops listed k && lexCall md ops g f (k + 1) (listed.setIfInBounds k true)

theorem headG_lex {n g : Nat} {R : Act → Prop} (hsel : Region.noSelect ops = true) (hs : Region.sinkB md ops n = true) (hc : chainG md ops n = true) (hn : n < ops.size) (l : List Oper) :
    ∀ (k : Nat) (listed : Array Bool) (a : Act), (∀ j, j < l.length → l[j]? = ops[k + j]?) → k + l.length = n → HeadInv md ops n listed → lexCall md ops g l.length k listed = true → wpQuiet P ops C R l a →
      headQ P md ops C n (fun listed' a' => lexCall md ops g 0 n listed' = true ∧ R a') l.length listed a := by
  induction l with
  | nil =>
    intro k listed a _ hk _ hB h
    obtain rfl : k = n := by simpa using hk
    exact ⟨hB, h⟩
  | cons o l ih =>
    intro k listed a hl hk inv hB h
    have h0 : ops[k]? = some o := by simpa using (hl 0 (by simp)).symm
    simp only [List.length_cons] at hB hk
    rw [lexCall] at hB
    simp only [Bool.and_eq_true] at hB
    have hr : k ∈ Region.ready md ops listed := by simpa using hB.1.1
    have hq : qOp P ops C k (wpQuiet P ops C R l) a := by unfold qOp; simp only [h0]; exact h
    obtain ⟨v, hy, hK⟩ := yieldsIn_of_qOp h0 hq
    refine headG_first h0 (Region.noSelect_spec hsel) hs hc hn (by omega) (fun listed' _ hL j hj => ?_) l.length listed a inv (Region.free_spec h0 hB.1.2) hr hy
      (ih (k + 1) _ _ (fun j hj => by have := hl (j + 1) (by simp; omega); simpa [Nat.add_assoc, Nat.add_comm 1 j] using this) (by omega) (inv.set hr (by omega)) hB.2 hK)
    have h1 := hL.1
    rw [lexCall] at h1
    simp only [Bool.and_eq_true, decide_eq_true_eq] at h1
    rw [h1.1] at hj
    have : j = n := by simpa using hj
    omega

def callB (md : Region.Mode) (ops : Array Oper) (n : Nat) : Bool :=
  Region.noSelect ops && decide (n < ops.size) && Region.sinkB md ops n && chainG md ops n && lexCall md ops (ops.size - n - 1) n 0 (Array.replicate ops.size false)

/-- A quiet head in a class of worlds; a call that may write; registers. -/
theorem wp_region_call {id : Nat} {Q : Exit → Act → World → Prop} {a : Act} {w : World} {l : List Oper} (n : Nat) (o : Oper) (f : FuncId) (hm : P.follows .mixedOrders = true) (hB : callB .any l.toArray n = true) (hC : C w.drew) (ho : l[n]? = some o) (hg : o.guard = none)
    (h : wpQuiet P l.toArray C (fun a' => ∃ args, (∀ w', (execOp a'.eval o).run P w' = .ok (.enter f args) w') ∧ ∀ w', C w' → Calls P f args w' fun e w'' => ∃ v, e = .returned v ∧ wpQuiet P l.toArray (fun x => x = w'') (fun a3 => Q .normal a3 w'') (l.drop (n + 1)) (a'.put o.dst v)) (l.take n) a) : (Code.region id l.toArray true).wp P Q a w := by
  simp only [callB, Bool.and_eq_true, decide_eq_true_eq] at hB
  obtain ⟨⟨⟨⟨hsel, hn⟩, hs⟩, hc⟩, hlex⟩ := hB
  have hn' : n < l.length := by simpa using hn
  have htl : (l.take n).length = n := by simp; omega
  have hdl : (l.drop (n + 1)).length = l.toArray.size - n - 1 := by simp; omega
  have inv0 : HeadInv .any l.toArray n (Array.replicate l.toArray.size false) :=
    ⟨by simp, fun j oj _ hl => (by rw [getD_replicate_false] at hl; cases hl), fun t _ ht => getD_in (by simpa using ht) (getD_replicate_false _ _)⟩
  have ho' : l.toArray[n]? = some o := by simpa using ho
  have H := headG_lex (P := P) (C := C) (md := .any) (g := l.toArray.size - n - 1) hsel hs hc hn (l.take n) 0 _ a (fun j hj => by
    have hj' : j < n := by rw [htl] at hj; exact hj
    simp [hj']) (by simpa using htl) inv0 (by rw [htl]; exact hlex) h
  refine wp_region_any hm ?_
  have G := headQ_sound (Q := Q) (g := (l.toArray.size - n - 1) + 1) (fun listed a' w' hw' hL => by
    obtain ⟨h1, args, hrun, hcall⟩ := hL
    rw [lexCall] at h1
    simp only [Bool.and_eq_true, decide_eq_true_eq] at h1
    refine ⟨fun h0 => (by rw [h1.1] at h0; cases h0), fun i hi => ?_⟩
    rw [h1.1] at hi
    obtain rfl : i = n := by simpa using hi
    unfold wpOp
    simp only [ho']
    rw [if_pos (by simp [Region.wanted, hg])]
    left
    unfold Oper.wp
    rw [hrun w']
    show Calls P f args w' _
    refine (hcall w' hw').mono fun e w'' hv => ?_
    obtain ⟨v, rfl, hq⟩ := hv
    show wpAny _ _ _ _ _ _ _ _
    have := wpAnyQ_lex (C := fun x => x = w'') (md := .any) hsel (l.drop (i + 1)) (i + 1) (listed.setIfInBounds i true) (a'.put o.dst v) (fun j => by simp [List.getElem?_drop]) (by rw [hdl]; exact h1.2) hq
    rw [hdl] at this
    exact wpAny_of_quiet (C := fun x => x = w'') (Q := fun a3 => Q .normal a3 w'') (fun a3 w3 e3 h3 => by rw [e3]; exact h3) _ _ _ _ rfl this) _ _ _ _ hC H
  rw [htl, show n + (l.toArray.size - n - 1 + 1) = l.toArray.size by omega] at G
  exact G
theorem wp_callW {I : Type} {W : I → World} {id : Nat} {Q : Exit → Act → World → Prop} {a : Act} {w : World} {l : List Oper} (n : Nat) (o : Oper) (f : FuncId) (hm : P.follows .mixedOrders = true) (hB : callB .any l.toArray n = true) (hC : ∃ i, w.drew = W i) (ho : l[n]? = some o) (hg : o.guard = none)
    (h : wpQuiet P l.toArray (fun w' => ∃ i, w' = W i) (fun a' => ∃ args, (∀ w', (execOp a'.eval o).run P w' = .ok (.enter f args) w') ∧ ∀ w', (∃ i, w' = W i) → Calls P f args w' fun e w'' => ∃ v, e = .returned v ∧ wpQuiet P l.toArray (fun x => x = w'') (fun a3 => Q .normal a3 w'') (l.drop (n + 1)) (a'.put o.dst v)) (l.take n) a) : (Code.region id l.toArray true).wp P Q a w :=
  wp_region_call (C := fun w' => ∃ i, w' = W i) n o f hm hB hC ho hg h

end


end Go.Dk

