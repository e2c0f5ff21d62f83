/- Arguments opened: rows of a table ([]api.Node), one row (api.Node). -/
import Derived.Test.YtmlohibhoibgkaaI
import Derived.Test.YtmlohibhoibgkaaB
import Derived.Deep.Slices
import Derived.Lib.SmallJoins
import Derived.SizedLaws
import Derived.ChangeMaps5
namespace Go.Dk
open Go.RowKit Go.Maps Go.MapKept Go.ChangeShapes Go.WideShapes Go.Deep
open Go.Proofs

/-- A row as it comes in. -/
structure NDin (n : ND) : Prop where
  nm : n.name.size ≤ maxLen
  k : (Lit.int .i64 n.kind).wf = true
  l : (Lit.int .i64 n.l).wf = true
  r : (Lit.int .i64 n.r).wf = true

theorem choose_fn {α : Type} [Inhabited α] {n : Nat} {p : Nat → α → Prop} (h : ∀ i, i < n → ∃ x, p i x) : ∃ f : Nat → α, ∀ i, i < n → p i (f i) := choose_lt h

theorem flat_at {α : Type} {f : α → List Value} {s : Nat} (hf : ∀ a, (f a).length = s) : ∀ (l : List α) (j : Nat) (u : Value), (l.flatMap f)[j]? = some u → ∃ i k a, j = i * s + k ∧ k < s ∧ l[i]? = some a ∧ (f a)[k]? = some u
  | [], j, u, h => by simp at h
  | a :: l, j, u, h => by
    rw [List.flatMap_cons] at h
    by_cases hj : j < s
    · rw [List.getElem?_append_left (by rw [hf]; exact hj)] at h
      exact ⟨0, j, a, by simp, hj, rfl, h⟩
    · rw [List.getElem?_append_right (by rw [hf]; omega), hf] at h
      obtain ⟨i, k, b, e, hk, h1, h2⟩ := flat_at hf l _ u h
      exact ⟨i + 1, k, b, by rw [Nat.add_mul]; omega, hk, by simpa using h1, h2⟩

instance : Inhabited ND := ⟨⟨0, ⟨#[]⟩, 0, 0⟩⟩

section
variable {H : Type} {enc : TypeId × Value → H} {w : World} {base : Nat} {spare : Nat → Bool} {held : Bool}

set_option maxRecDepth 100000 in
theorem trod_node {fuel : Nat} {cs : List Value} {x : DataW H × List MemPlace} (h : DataW.trod enc Try.prog w base spare held fuel 36 cs = some x) : ∃ n : ND, cs = n.cells ∧ NDin n ∧ x.2 = [] := by
  obtain ⟨y0, y1, y2, y3, m, rfl, hl, h0, h1, h2, h3⟩ := Go.Joins.trod_struct4 Try.underlying36 h
  have hc : Try.prog.cellsOf 36 = 4 := by kernel_rfl
  rw [hc] at hl
  match cs, hl with
  | [c0, c1, c2, c3], _ =>
    obtain ⟨k, e0, rfl, w0⟩ := DataW.trod_int (Try.underlying34) h0
    obtain ⟨s, e1, rfl, w1⟩ := DataW.trod_string (Try.underlying9) h1
    obtain ⟨l, e2, rfl, w2⟩ := DataW.trod_int (Try.underlying3) h2
    obtain ⟨r, e3, rfl, w3⟩ := DataW.trod_int (Try.underlying3) h3
    have k1 : Try.prog.cellsOf 3 = 1 := by kernel_rfl
    have k2 : Try.prog.cellsOf 9 = 1 := by kernel_rfl
    have k3 : Try.prog.cellsOf 34 = 1 := by kernel_rfl
    simp only [k1, k2, k3] at e0 e1 e2 e3
    refine ⟨⟨k, s, l, r⟩, ?_, ⟨w1, w0, w2, w3⟩, rfl⟩
    simp at e0 e1 e2 e3
    subst e0 e1 e2 e3
    rfl

set_option maxRecDepth 100000 in
/-- A slice that comes in, whatever its elements. -/
theorem open_rows {α : Type} [Inhabited α] {te ts : TypeId} (cells : α → List Value) (In : α → Prop) (s : Nat) (hs : 0 < s) (hlen : ∀ a, (cells a).length = s) (hc : Try.prog.cellsOf te = s) (ht : Try.prog.underlying ts = some (.slice te))
    (hop : ∀ (fuel : Nat) (cs : List Value) (x : DataW H × List MemPlace), DataW.trod enc Try.prog w base spare held fuel te cs = some x → ∃ a, cs = cells a ∧ In a)
    {v : Value} {r : Go.Reach} {b0 : Nat} {d : DataW H} {p : List MemPlace} (hv : Value.okWide Try.prog w r b0 ts v) (h : DataW.Trod enc Try.prog w base spare held ts v d p) :
    ∃ rows : List α, Rd w v rows.length s (rows.flatMap cells) ∧ rows.length ≤ maxLen ∧ (∀ n ∈ rows, In n) ∧ ∀ B, (∀ m ∈ d.weights Try.prog ts, m ≤ B) → rows.length * Try.prog.bytesOf te ≤ B := by
  obtain ⟨a, len, cap, rfl⟩ := okWide_slice ht hv
  obtain ⟨fuel, hf⟩ := h
  have hfl : ∀ l : List α, (l.flatMap cells).length = l.length * s := by
    intro l
    induction l with
    | nil => simp
    | cons a t ih => rw [List.flatMap_cons, List.length_append, ih, hlen, List.length_cons, Nat.add_mul]; omega
  rcases open_slice ht hf with ⟨hcs, hdp⟩ | ⟨x, l, c, m, n, D, Pl, hcs, _, hl, hm, hmm, hx, hi⟩
  · simp [Value.cells] at hcs
    obtain ⟨rfl, rfl, rfl⟩ := hcs
    obtain ⟨rfl, rfl⟩ := Prod.mk.inj hdp
    exact ⟨[], ⟨⟨none, 0, rfl, fun _ => ⟨rfl, rfl⟩, fun _ h => by cases h⟩, by simp⟩, by simp, by simp, by simp⟩
  · simp [Value.cells] at hcs
    obtain ⟨rfl, rfl, rfl⟩ := hcs
    have hlm : len ≤ m := by rw [hmm]; split <;> omega
    obtain ⟨f, hF⟩ := choose_fn (α := α) (n := len) (p := fun i nd => w.cells? base (x.add (i * s)) s = some (cells nd) ∧ In nd) (fun i hil => by
      obtain ⟨cs', h1, h2⟩ := hi i (by omega)
      rw [hc] at h1
      obtain ⟨nd, e, hn⟩ := hop _ _ _ h2
      exact ⟨nd, by rw [← e]; exact h1, hn⟩)
    have hll : ((List.range len).map f).length = len := by simp
    refine ⟨(List.range len).map f, ⟨⟨some x, cap, by rw [hll], fun h => by (cases h), fun ad ha => ?_⟩, hfl _⟩, by rw [hll]; omega, ?_, ?_⟩
    · cases ha
      have hs' : len ≠ 0 → x.spot = none := by
        intro h0
        obtain ⟨_, _, hat⟩ := World.cells?_some (hF 0 (by omega)).1
        have := hat 0 hs
        rw [Nat.zero_mul, add_add, List.getElem?_eq_getElem (by rw [hlen]; exact hs)] at this
        obtain ⟨b, o, sp⟩ := x
        cases sp with
        | none => rfl
        | some s =>
          exfalso
          unfold Addr.add World.cell? at this
          simp at this
          split at this <;> simp at this
      refine ⟨fun h => hs' (by rwa [hll] at h), fun j u hu => ?_⟩
      obtain ⟨i, k, nd, rfl, hk, h1, h2⟩ := flat_at (s := s) hlen _ _ _ hu
      have hil : i < len := by
        have := (List.getElem?_eq_some_iff.1 h1).1
        rw [hll] at this; exact this
      rw [List.getElem?_map, List.getElem?_range hil] at h1
      simp only [Option.map_some, Option.some.injEq] at h1
      subst h1
      obtain ⟨_, _, hat⟩ := World.cells?_some (hF i hil).1
      have := hat k hk
      rw [h2, add_add] at this
      rw [← this]
      congr 1
      have hs' := hs' (by omega)
      obtain ⟨b, o, sp⟩ := x
      simp only at hs'
      subst hs'
      unfold Addr.add
      split <;> simp_all
    · intro n hn
      obtain ⟨i, hi', rfl⟩ := List.mem_map.1 hn
      exact (hF i (List.mem_range.1 hi')).2
    · intro B hB
      rw [(Prod.mk.inj hx).1] at hB
      have := hB ((((List.range len).map D).length + ((List.range (m - len)).map fun j => D (len + j)).length) * Try.prog.bytesOf te) (by simp [DataW.weights, ht])
      simp only [List.length_map, List.length_range] at this ⊢
      exact Nat.le_trans (Nat.mul_le_mul_right _ (by omega)) this

set_option maxRecDepth 100000 in
/-- A slice of rows that comes in. -/
theorem open_nodes {v : Value} {r : Go.Reach} {b0 : Nat} {d : DataW H} {p : List MemPlace} (hv : Value.okWide Try.prog w r b0 22 v) (h : DataW.Trod enc Try.prog w base spare held 22 v d p) :
    ∃ rows : List ND, Rd w v rows.length 4 (nodeCells rows) ∧ rows.length ≤ maxLen ∧ (∀ n ∈ rows, NDin n) ∧ ∀ B, (∀ m ∈ d.weights Try.prog 22, m ≤ B) → rows.length * 40 ≤ B := by
  have hby : Try.prog.bytesOf 36 = 40 := by kernel_rfl
  have := open_rows (te := 36) ND.cells NDin 4 (by decide) (fun _ => rfl) (by kernel_rfl) Try.underlying22 (fun _ _ _ h => by obtain ⟨n, e, hn, _⟩ := trod_node h; exact ⟨n, e, hn⟩) hv h
  rw [hby] at this
  exact this

/-- Numbers that come in. -/
def IntIn (z : Int) : Prop := (Lit.int .i64 z).wf = true
theorem ints_flat (zs : List Int) : zs.flatMap (fun z => [Value.int .i64 z]) = ints zs := by
  induction zs with
  | nil => rfl
  | cons a t ih => rw [List.flatMap_cons, ih]; rfl
set_option maxRecDepth 100000 in
theorem open_intsR {v : Value} {r : Go.Reach} {b0 : Nat} {d : DataW H} {p : List MemPlace} (hv : Value.okWide Try.prog w r b0 73 v) (h : DataW.Trod enc Try.prog w base spare held 73 v d p) :
    ∃ zs : List Int, Rd w v zs.length 1 (ints zs) ∧ zs.length ≤ maxLen ∧ (∀ z ∈ zs, IntIn z) ∧ ∀ B, (∀ m ∈ d.weights Try.prog 73, m ≤ B) → zs.length * 8 ≤ B := by
  have hby : Try.prog.bytesOf 3 = 8 := by kernel_rfl
  have := open_rows (te := 3) (fun z => [Value.int .i64 z]) IntIn 1 (by decide) (fun _ => rfl) (by kernel_rfl) Try.underlying73 (fun _ _ _ h => by obtain ⟨z, e, _, hw⟩ := DataW.trod_int Try.underlying3 h; exact ⟨z, e, hw⟩) hv h
  rw [hby] at this
  simp only [ints_flat] at this
  exact this

set_option maxRecDepth 100000 in
/-- One row that comes in. -/
theorem open_node {v : Value} {r : Go.Reach} {b0 : Nat} {d : DataW H} {p : List MemPlace} (hv : Value.okWide Try.prog w r b0 36 v) (h : DataW.Trod enc Try.prog w base spare held 36 v d p) :
    ∃ n : ND, v = n.val ∧ NDin n := by
  obtain ⟨cs, rfl, hs⟩ := okWide_struct Try.underlying36 hv
  obtain ⟨fuel, hf⟩ := h
  obtain ⟨n, e, hn, _⟩ := trod_node hf
  refine ⟨n, ?_, hn⟩
  unfold ND.val
  congr 1
  apply Array.toList_inj.1
  rw [← show (Value.agg cs).cells.toList = cs.toList by simp [Value.cells]]
  exact e

end


theorem sized_arg {H : Type} {P : Program} {ts : List TypeId} {ds : List (DataW H)} {j : Nat} {t : TypeId} {d : DataW H} (h : (DataW.weightsEach P ts ds).all (· ≤ reachBytes) = true) (ht : ts[j]? = some t) (hd : ds[j]? = some d) : ∀ m ∈ d.weights P t, m ≤ 140737488355328 := fun m hm => by
  have := List.all_eq_true.1 h m (DataW.weights_mem_each ht hd m hm)
  have h2 : m ≤ reachBytes := by simpa using this
  have : reachBytes ≤ 140737488355328 := by decide
  omega

end Go.Dk

