/- Names: sorted; Atoms of a living table. -/
import Derived.Test.YtfldpjacgeoegaaGreatYl
import Derived.Sort.OwnSorted
namespace Go.Dk
open Go.RowKit Go.Maps Go.MapKept Go.Sort
open Go.Proofs hiding intOf

abbrev Nm := List UInt8
def strs (ns : List Nm) : List Value := ns.map encStr
theorem strs_snoc (ns : List Nm) (s : ByteArray) : strs (ns ++ [s.data.toList]) = strs ns ++ [.string s] := by
  simp [strs, encStr]
def sortNm (ns : List Nm) : List Nm := ns.mergeSort fun x y => decide (x ≤ y)

theorem sortStrs_own (w : World) (base n : Nat) (v : Value) (ns : List Nm) (h : w.ownsRow base 9 1 v n (strs ns)) (hl : n < 4611686018427387904) :
    Calls Tryz.prog 55 #[v] w fun e w' => e = .returned (.tuple #[]) ∧ w'.ownsRow base 9 1 v n (strs (sortNm ns)) ∧ w.grownBy w' v.ownBlock := by
  have hn : ns.length = n := by have := h.1; simpa [strs] using this
  rcases h.2 with ⟨rfl, h0⟩ | ⟨g, cap, cur, rfl, hbg, hg, h1, h2, h3, h4⟩
  · subst h0
    have : ns = [] := List.eq_nil_of_length_eq_zero hn
    subst this
    refine (Tryz.slices_Sort_string_none none 0 w).mono ?_
    rintro e w' ⟨rfl, rfl⟩
    exact ⟨rfl, by simpa [sortNm] using h, ⟨rfl, rfl, rfl, Nat.le_refl _, fun _ _ _ => rfl⟩⟩
  · subst hn
    refine (Tryz.slices_Sort_string g 0 cap ns w (holds_of_block hg (by simpa [strs] using h4)) (lt_of_block hg) hl).mono ?_
    rintro e w' ⟨rfl, m, os, rfl⟩
    refine ⟨rfl, ?_, grownBy_sorted _⟩
    exact ownsRow_sorted (List.length_mergeSort _) hbg hg h1 h2 h3

/-- The names of some rows' atoms. -/
def nameL (rows : List ND) (p : Nat → Bool) (l : List Nat) : List Nm := (l.filter fun x => decide ((rowAt rows x).kind = 1) && p x).map fun x => (rowAt rows x).name.data.toList
theorem nameL_take (rows : List ND) (p : Nat → Bool) (l : List Nat) {k x : Nat} (hx : l[k]? = some x) : nameL rows p (l.take (k + 1)) = if (rowAt rows x).kind = 1 ∧ p x = true then nameL rows p (l.take k) ++ [(rowAt rows x).name.data.toList] else nameL rows p (l.take k) := by
  unfold nameL
  rw [List.take_add_one, hx]
  by_cases h1 : (rowAt rows x).kind = 1
  · by_cases h2 : p x = true
    · simp [h1, h2]
    · simp [h1, h2]
  · simp [h1]
theorem nameL_le (rows : List ND) (p : Nat → Bool) (l : List Nat) : (nameL rows p l).length ≤ l.length := by unfold nameL; simp only [List.length_map]; exact List.length_filter_le _ _
theorem nameL_perm {rows : List ND} {p : Nat → Bool} {l l' : List Nat} (h : (l.filter fun x => decide ((rowAt rows x).kind = 1) && p x).Perm (l'.filter fun x => decide ((rowAt rows x).kind = 1) && p x)) : sortNm (nameL rows p l) = sortNm (nameL rows p l') := by
  have hp : (nameL rows p l).Perm (nameL rows p l') := h.map _
  unfold sortNm
  refine List.Perm.eq_of_pairwise (le := fun x y : Nm => x ≤ y) (fun a b _ _ h1 h2 => List.le_antisymm h1 h2) ?_ ?_ ((List.mergeSort_perm _ _).trans (hp.trans (List.mergeSort_perm _ _).symm))
  · exact (List.pairwise_mergeSort (le := fun x y : Nm => decide (x ≤ y)) (fun a b c h1 h2 => by simp at *; exact List.le_trans h1 h2) (fun a b => by simp; exact List.le_total a b) _).imp (fun h => by simpa using h)
  · exact (List.pairwise_mergeSort (le := fun x y : Nm => decide (x ≤ y)) (fun a b c h1 h2 => by simp at *; exact List.le_trans h1 h2) (fun a b => by simp; exact List.le_total a b) _).imp (fun h => by simpa using h)

theorem infoStr : (Tryz.prog.info? 9).map (fun i => (i.zero, i.size, i.bytes)) = some (some (.string ByteArray.empty), 1, 16) := by kernel_rfl

/-- What Atoms tells. -/
noncomputable def atomsOf (rows : List ND) (i : Nat) : List Nm := sortNm (nameL rows (fun _ => true) (below rows i))

structure AtI (rows : List ND) (i : Nat) (w2 W : World) (base : Nat) (v : Value) (k : Nat) : Prop where
  own : W.ownsRow base 9 1 v (nameL rows (fun _ => true) ((below rows i).take k)).length (strs (nameL rows (fun _ => true) ((below rows i).take k)))
  bel : Below w2.heap.size w2 W

theorem AtI.skip {rows : List ND} {i : Nat} {w2 W W' : World} {v : Value} {k : Nat} (h : AtI rows i w2 W w2.heap.size v k) (hb : Below W.heap.size W W') (he : nameL rows (fun _ => true) ((below rows i).take (k + 1)) = nameL rows (fun _ => true) ((below rows i).take k)) : AtI rows i w2 W' w2.heap.size v (k + 1) := by
  refine ⟨?_, h.bel.trans (hb.mono h.bel.size)⟩
  rw [he]
  exact h.own.kept (row := none) ⟨hb.os, hb.tape, hb.output, hb.size, fun j hj _ => hb.block j hj⟩ (by cases v.ownBlock <;> simp)
theorem AtI.add {rows : List ND} {i : Nat} {w2 W W0 W' : World} {v v' : Value} {k : Nat} {nm : ByteArray} (h : AtI rows i w2 W w2.heap.size v k) (hb : Below W.heap.size W W0) (he : nameL rows (fun _ => true) ((below rows i).take (k + 1)) = nameL rows (fun _ => true) ((below rows i).take k) ++ [nm.data.toList])
    (hown : W'.ownsRow w2.heap.size 9 1 v' ((nameL rows (fun _ => true) ((below rows i).take k)).length + 1) (strs (nameL rows (fun _ => true) ((below rows i).take k)) ++ [.string nm])) (hg : W0.grownBy W' v.ownBlock) : AtI rows i w2 W' w2.heap.size v' (k + 1) := by
  refine ⟨?_, (h.bel.trans (hb.mono h.bel.size)).grown hg (Nat.le_trans h.bel.size hb.size) (fun q hq => (h.own.lt q hq).1)⟩
  rw [he, strs_snoc, List.length_append]
  exact hown
theorem own_below {w w' : World} {base n : Nat} {e : TypeId} {size : Nat} {v : Value} {xs : List Value} (h : w.ownsRow base e size v n xs) (hb : Below w.heap.size w w') : w'.ownsRow base e size v n xs :=
  h.kept (row := none) ⟨hb.os, hb.tape, hb.output, hb.size, fun j hj _ => hb.block j hj⟩ (by cases v.ownBlock <;> simp)

theorem own_base {w : World} {base base' n : Nat} {e : TypeId} {size : Nat} {v : Value} {xs : List Value} (h : w.ownsRow base e size v n xs) (hb : base' ≤ base) : w.ownsRow base' e size v n xs :=
  ⟨h.1, h.2.imp id (fun ⟨g, cap, cur, h1, h2, h3⟩ => ⟨g, cap, cur, h1, Nat.le_trans hb h2, h3⟩)⟩
theorem rd_one' (w : World) {b : Nat} (x : Value) (e : TypeId) (hb : b = w.heap.size) : Rd (w.alloc (.cells #[x] e)) (.slice (some ⟨b, 0, none⟩) 1 1) 1 1 [x] := hb ▸ rd_one w x e

def StrsPost (w : World) (ns : List Nm) (e : Ending) (w' : World) : Prop := ∃ v, e = .returned (.tuple #[v, .int .i64 0]) ∧ w'.ownsRow w.heap.size 9 1 v ns.length (strs ns) ∧ Below w.heap.size w w'





end Go.Dk

