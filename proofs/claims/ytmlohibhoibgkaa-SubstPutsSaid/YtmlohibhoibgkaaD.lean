/- The tables of formulas in memory, and what each method of package formula does to them. -/
import Derived.Test.YtmlohibhoibgkaaProg
import Derived.Test.YtmlohibhoibgkaaA
import Derived.Test.YtmlohibhoibgkaaPu
import Derived.BigQuiet
import Derived.Deep.QuietTactic
import Derived.KernelRfl
import Derived.DeepKeys4
namespace Go.Dk
open Go.RowKit Go.Maps Go.MapKept
open Go.Proofs (Try.prog)
open Go.Proofs

def ND.val (n : ND) : Value := .agg #[.int .i64 n.kind, .string n.name, .int .i64 n.l, .int .i64 n.r]
def ND.cells (n : ND) : List Value := [.int .i64 n.kind, .string n.name, .int .i64 n.l, .int .i64 n.r]
def nodeCells (rows : List ND) : List Value := rows.flatMap ND.cells
def natV (i : Nat) : Value := .int .i64 (i : Int)

theorem ND.val_inj : ∀ x y : ND, x.val = y.val → x = y := by
  intro x y h
  cases x; cases y
  simp only [ND.val, Value.agg.injEq, Array.mk.injEq, List.cons.injEq, Value.int.injEq, Value.string.injEq, true_and, and_true] at h
  simp [h]

/-- A living table at its blocks: pb the struct, mb the map, v the slice of rows; k the colour of all of them. -/
structure TabAt (k : Nat) (ow : Own) (w : World) (pb mb : Nat) (v : Value) (rows : List ND) : Prop where
  hp : w.heap[pb]? = some (.cells #[v, .map (some mb)] 91 (0, 0))
  hr : w.ownsRow 0 36 4 v rows.length (nodeCells rows)
  hm : TM Try.prog 36 ND.val natV w mb (fun n => rows.idxOf? n)
  ok : Ok rows
  cp : ow pb = k
  cm : ow mb = k
  cr : ∀ g, v.ownBlock = some g → ow g = k

/-- A living table: its rows, the colour k of all its blocks. -/
def Tab (k : Nat) (ow : Own) (w : World) (t : Value) (rows : List ND) : Prop :=
  ∃ pb mb v, t = .pointer (some ⟨pb, 0, none⟩) ∧ TabAt k ow w pb mb v rows

theorem TabAt.below {k : Nat} {ow : Own} {w w' : World} {pb mb : Nat} {v : Value} {rows : List ND} (h : TabAt k ow w pb mb v rows) (hb : Below w.heap.size w w') : TabAt k ow w' pb mb v rows :=
  ⟨(hb.block pb (lt_of_block h.hp)).trans h.hp, h.hr.kept (row := none) ⟨hb.os, hb.tape, hb.output, hb.size, fun j hj _ => hb.block j hj⟩ (by cases v.ownBlock <;> simp), h.hm.below hb, h.ok, h.cp, h.cm, h.cr⟩

theorem TabAt.kept {k c : Nat} {ow ow' : Own} {w w' : World} {pb mb : Nat} {v : Value} {rows : List ND} (h : TabAt k ow w pb mb v rows) (hb : Kept c ow w ow' w') (hc : k ≠ c) : TabAt k ow' w' pb mb v rows := by
  have l1 := lt_of_block h.hp
  refine ⟨(hb.block pb l1 (by rw [h.cp]; exact hc)).trans h.hp, ?_, h.hm.kept hb (by rw [h.cm]; exact hc), h.ok, (hb.own _ l1).trans h.cp, (hb.own _ h.hm.lt).trans h.cm, ?_⟩
  · refine ⟨h.hr.1, ?_⟩
    rcases h.hr.2 with hn | ⟨g, cap, cur, rfl, hbg, hg, rest⟩
    · exact .inl hn
    · exact .inr ⟨g, cap, cur, rfl, hbg, (hb.block g (lt_of_block hg) (by rw [h.cr g rfl]; exact hc)).trans hg, rest⟩
  · intro g hg
    have := (h.hr.lt g hg).2
    exact (hb.own g this).trans (h.cr g hg)

theorem Tab.below {k : Nat} {ow : Own} {w w' : World} {t : Value} {rows : List ND} (h : Tab k ow w t rows) (hb : Below w.heap.size w w') : Tab k ow w' t rows := by
  obtain ⟨pb, mb, v, rfl, h⟩ := h
  exact ⟨pb, mb, v, rfl, h.below hb⟩
theorem Tab.kept {k c : Nat} {ow ow' : Own} {w w' : World} {t : Value} {rows : List ND} (h : Tab k ow w t rows) (hb : Kept c ow w ow' w') (hc : k ≠ c) : Tab k ow' w' t rows := by
  obtain ⟨pb, mb, v, rfl, h⟩ := h
  exact ⟨pb, mb, v, rfl, h.kept hb hc⟩
theorem Tab.ok {k : Nat} {ow : Own} {w : World} {t : Value} {rows : List ND} (h : Tab k ow w t rows) : Ok rows := by
  obtain ⟨pb, mb, v, _, h⟩ := h; exact h.ok

theorem lawNode : Keyed Try.prog 36 :=
  Keyed.of_law (deep_law_laid (by kernel_rfl) (m := 3) (by omega) (of_decide_eq_true (by kernel_rfl)) (by kernel_rfl) (by rw [Try.underlying36]))


theorem infoNode : (Try.prog.info? 36).map (fun i => (i.zero, i.size, i.bytes)) = some (some (.agg #[.int .i64 0, .string ByteArray.empty, .int .i64 0, .int .i64 0]), 4, 40) := by kernel_rfl

theorem own_slice {w : World} {base n : Nat} {e : TypeId} {size : Nat} {v : Value} {xs : List Value} (h : w.ownsRow base e size v n xs) : ∃ a c, v = .slice a n c := by
  rcases h.2 with ⟨rfl, rfl⟩ | ⟨g, cap, cur, rfl, _⟩
  · exact ⟨none, 0, rfl⟩
  · exact ⟨_, cap, rfl⟩

theorem heap_alloc_new' (w : World) (o : Obj) {n : Nat} (h : n = w.heap.size) : (w.alloc o).heap[n]? = some o := by
  subst h; exact heap_alloc_new w o

theorem bytes_nil {s : ByteArray} : s.toList = [] ↔ s.size = 0 := by
  rw [ByteArray.toList_eq]
  constructor
  · intro h
    have : s.data.toList.length = 0 := by rw [h]; rfl
    simpa using this
  · intro h
    exact List.eq_nil_of_length_eq_zero (by simpa using h)

theorem ret_bool {a b : Bool} (h : a = b) : Ending.returned (.bool a) = .returned (.bool b) := by rw [h]
theorem ret_int {k : IntKind} {a b : Int} (h : a = b) : Ending.returned (.int k a) = .returned (.int k b) := by rw [h]


end Go.Dk

