/- A row of cells in a block of one's own, cut to its length or with room behind it; append onto it. -/
import Derived.Test.YtmlohibhoibgkaaA
import Derived.Deep.RegionLaw
import Derived.ArgAppend
namespace Go.Dk
open Go.RowKit Go.Maps Go.MapKept

/-- v owns the cells xs: as 'ownsRow', or cut to its length (the capacity is the length). -/
def RowW (w : World) (e : TypeId) (size : Nat) (v : Value) (n : Nat) (xs : List Value) : Prop :=
  w.ownsRow 0 e size v n xs ∨ ∃ g cur, v = .slice (some ⟨g, 0, none⟩) n n ∧ w.heap[g]? = some (.cells cur e (0, 0)) ∧ xs.length = n * size ∧ cur.toList.take (n * size) = xs ∧ n ≤ maxLen

section
variable {w : World} {e : TypeId} {size : Nat} {v : Value} {n : Nat} {xs : List Value}

theorem RowW.len (h : RowW w e size v n xs) : xs.length = n * size := by
  rcases h with h | ⟨g, cur, _, _, h, _⟩
  · exact h.1
  · exact h
theorem RowW.slice (h : RowW w e size v n xs) : ∃ a c, v = .slice a n c := by
  rcases h with h | ⟨g, cur, rfl, _⟩
  · rcases h.2 with ⟨rfl, rfl⟩ | ⟨g, cap, cur, rfl, _⟩
    · exact ⟨none, 0, rfl⟩
    · exact ⟨_, cap, rfl⟩
  · exact ⟨_, _, rfl⟩
theorem RowW.block (h : RowW w e size v n xs) {g : Nat} (hg : v.ownBlock = some g) : ∃ cur, w.heap[g]? = some (.cells cur e (0, 0)) := by
  rcases h with h | ⟨g', cur, rfl, h, _⟩
  · rcases h.2 with ⟨rfl, _⟩ | ⟨g', cap, cur, rfl, _, hh, _⟩
    · simp [Value.ownBlock] at hg
    · simp [Value.ownBlock] at hg; subst hg; exact ⟨cur, hh⟩
  · simp [Value.ownBlock] at hg; subst hg; exact ⟨cur, h⟩
theorem RowW.lt (h : RowW w e size v n xs) {g : Nat} (hg : v.ownBlock = some g) : g < w.heap.size := by
  obtain ⟨cur, hc⟩ := h.block hg; exact lt_of_block hc
theorem RowW.ne (h : RowW w e size v n xs) {b : Nat} {o : Obj} (hb : w.heap[b]? = some o) (ho : ∀ cur fr, o ≠ .cells cur e fr) : v.ownBlock ≠ some b := by
  intro hk
  obtain ⟨cur, hc⟩ := h.block hk
  rw [hb] at hc; cases hc
  exact ho _ _ rfl
theorem RowW.get (h : RowW w e size v n xs) (hn : 0 < n) : ∃ g c, v = .slice (some ⟨g, 0, none⟩) n c ∧ g < w.heap.size ∧ ∀ j u, xs[j]? = some u → w.cell? ⟨g, j, none⟩ = some u := by
  rcases h with h | ⟨g, cur, rfl, h, hl, ht, _⟩
  · obtain ⟨g, c, rfl, _, hg⟩ := h.form hn
    refine ⟨g, c, rfl, hg, fun j u hu => ?_⟩
    have := h.cells (g := g) rfl j u hu
    rwa [show (⟨g, 0, none⟩ : Addr).add j = ⟨g, j, none⟩ by unfold Addr.add; split <;> simp_all] at this
  · refine ⟨g, n, rfl, lt_of_block h, fun j u hu => ?_⟩
    rw [← ht, List.getElem?_take] at hu
    split at hu
    · exact cell_of h (by simpa using hu)
    · cases hu
theorem RowW.rd (h : RowW w e size v n xs) : Rd w v n size xs := by
  rcases Nat.eq_zero_or_pos n with h0 | h0
  · refine ⟨?_, h.len⟩
    have hx : xs = [] := List.eq_nil_of_length_eq_zero (by rw [h.len, h0]; simp)
    subst hx
    rcases h with h | ⟨g, cur, rfl, _⟩
    · rcases h.2 with ⟨rfl, _⟩ | ⟨g, cap, cur, rfl, _⟩
      · exact ⟨none, 0, by rw [h0], fun _ => ⟨h0, rfl⟩, fun _ h => by cases h⟩
      · exact ⟨_, cap, rfl, fun h => by (cases h), fun ad ha => by cases ha; exact ⟨fun _ => rfl, fun j u hu => by simp at hu⟩⟩
    · exact ⟨_, _, rfl, fun h => by (cases h), fun ad ha => by cases ha; exact ⟨fun _ => rfl, fun j u hu => by simp at hu⟩⟩
  · obtain ⟨g, c, rfl, _, hc⟩ := h.get h0
    exact ⟨⟨_, c, rfl, fun h => by (cases h), fun ad ha => by cases ha; exact ⟨fun _ => rfl, fun j u hu => by simpa using hc j u hu⟩⟩, h.len⟩
theorem RowW.same {w' : World} (h : RowW w e size v n xs) (hs : ∀ g, v.ownBlock = some g → w'.heap[g]? = w.heap[g]?) : RowW w' e size v n xs := by
  rcases h with h | ⟨g, cur, rfl, h, r⟩
  · refine .inl ⟨h.1, ?_⟩
    rcases h.2 with hn | ⟨g, cap, cur, rfl, hb, hg, r⟩
    · exact .inl hn
    · exact .inr ⟨g, cap, cur, rfl, hb, (hs g rfl).trans hg, r⟩
  · exact .inr ⟨g, cur, rfl, (hs g rfl).trans h, r⟩
theorem RowW.below {w' : World} (h : RowW w e size v n xs) (hb : Below w.heap.size w w') : RowW w' e size v n xs := h.same fun _ hg => hb.block _ (h.lt hg)
theorem RowW.alloc (h : RowW w e size v n xs) (o : Obj) : RowW (w.alloc o) e size v n xs := h.below (below_alloc w o)
/-- Cut to n' elements, the capacity too. -/
theorem RowW.cut (h : RowW w e size v n xs) {n' : Nat} (hn : n' ≤ n) (hm : n ≤ maxLen) {g c : Nat} (hv : v = .slice (some ⟨g, 0, none⟩) n c) : RowW w e size (.slice (some ⟨g, 0, none⟩) n' n') n' (xs.take (n' * size)) := by
  subst hv
  have hl := h.len
  have hle : n' * size ≤ n * size := Nat.mul_le_mul_right _ hn
  rcases h with h | ⟨g', cur, e1, h, _, ht, _⟩
  · rcases h.2 with ⟨h, _⟩ | ⟨g', cap, cur, e1, _, hh, _, _, _, ht⟩
    · cases h
    · cases e1
      exact .inr ⟨g, cur, rfl, hh, by rw [List.length_take, hl]; omega, by rw [← ht, List.take_take]; congr 1; omega, by omega⟩
  · cases e1
    exact .inr ⟨g, cur, rfl, h, by rw [List.length_take, hl]; omega, by rw [← ht, List.take_take]; congr 1; omega, by omega⟩

end


/-- append in a region that draws, onto such a row. -/
theorem step_append_roww {P : Program} {w : World} {ops : Array Oper} {o : Oper} {a : Act} {K : Act → World → Prop} {Q : Exit → Act → World → Prop} {E : Prop} (hgd : o.guard = none) (s x : Operand) (t : TypeId)
    (ho : o.op = .call { callee := .builtin .append, args := #[s, x], argTypes := #[t, t] })
    (e : TypeId) (z : Value) (size bytes : Nat) (ht : P.underlying t = some (.slice e)) (hinfo : (P.info? e).map (fun i => (i.zero, i.size, i.bytes)) = some (some z, size, bytes)) (hzs : z.cells.size = size) (hsz : 0 < size)
    (v : Value) (n : Nat) (xs : List Value) (hs : a.eval s = v) (hrow : RowW w e size v n xs)
    (ad : Addr) (m c : Nat) (news : List Value) (hx : a.eval x = .slice (some ad) m c) (hl : news.length = m * size) (hnews : ∀ j u, news[j]? = some u → w.cell? (ad.add j) = some u) (h1 : ∀ u ∈ news, u.oneCell' = true)
    (hm : 0 < m) (h63 : n + m ≤ maxLen) (hbytes : (n + m) * bytes ≤ 140737488355328)
    (h : ∀ g cap w', w'.ownsRow 0 e size (.slice (some ⟨g, 0, none⟩) (n + m) cap) (n + m) (xs ++ news) → w.grownBy w' v.ownBlock → (v.ownBlock = some g ∨ w.heap.size ≤ g) → g < w'.heap.size → K (a.put o.dst (.slice (some ⟨g, 0, none⟩) (n + m) cap)) w') :
    if Region.wanted o (yielded ops a.tmps) = true then Oper.wp P o a w K Q else E := by
  obtain ⟨i, hi, hzz⟩ := Option.map_eq_some_iff.1 hinfo
  simp only [Prod.mk.injEq] at hzz
  obtain ⟨hz0, hz1, hz2⟩ := hzz
  rcases hrow with hown | ⟨g, cur, rfl, hg, hlen, htake, hmx⟩
  · refine step_append_lies w hgd s x t ho 0 e i z size bytes ht hi hz0 hz1 hz2 hzs hsz v n xs hs hown ad m c news hx hl hnews h1 hm h63 hbytes (Nat.zero_le _) _ rfl ?_
    intro g cap w' a1 a2 a3 a4
    exact h g cap w' a1 a2 (a3.imp id (fun e => by omega)) a4
  · have hw : Region.wanted o (yielded ops a.tmps) = true := by simp [Region.wanted, hgd]
    rw [if_pos hw]
    obtain ⟨v', w', hrun, r1, r2⟩ := run_append_arg_grows (P := P) w t o.type e i z size bytes ht hi hz0 hz1 hz2 hzs hsz ⟨g, 0, none⟩ n n xs hlen (fun j u hu => by
      rw [← htake, List.getElem?_take] at hu
      split at hu
      · rw [show (⟨g, 0, none⟩ : Addr).add j = ⟨g, j, none⟩ by unfold Addr.add; split <;> simp_all]
        exact cell_of hg (by simpa using hu)
      · cases hu) ad m c news hl hnews (by omega) h63 hbytes
    obtain ⟨g', cap, rfl, hb', hlt⟩ := r1.form (by omega)
    unfold Oper.wp
    simp [execOp, ho, resolve, invoke, builtin, hs, hx, hrun, Result.andThen]
    refine h g' cap w' ⟨r1.1, ?_⟩ ⟨r2.os, r2.tape, r2.output, r2.size, fun k hk _ => r2.block k hk (by simp)⟩ (.inr hb') hlt
    rcases r1.2 with ⟨h2, _⟩ | ⟨g2, cap2, cur2, h2, _, r⟩
    · cases h2
    · exact .inr ⟨g2, cap2, cur2, h2, Nat.zero_le _, r⟩


end Go.Dk

