/- MeasureOrder. -/
import Derived.Test.YtfldpjacgeoegaaGreatYq
namespace Go.Dk
open Go.RowKit Go.Maps Go.MapKept
open Go.Proofs hiding intOf

theorem own_lit0 (w : World) (e : TypeId) (size : Nat) : (w.alloc (.cells #[] e)).ownsRow w.heap.size e size (.slice (some ⟨w.heap.size, 0, none⟩) 0 0) 0 [] :=
  ⟨by simp, .inr ⟨w.heap.size, 0, #[], rfl, Nat.le_refl _, heap_alloc_new' w _ rfl, Nat.le_refl _, by decide, by simp, by simp⟩⟩

theorem ints_one (xs : List Int) : ∀ y ∈ ints xs, y.oneCell' = true := by
  intro y hy; obtain ⟨z, _, rfl⟩ := List.mem_map.1 hy; rfl
theorem ints_snoc7 (xs : List Int) (z : Int) : ints xs ++ [.int .i64 z] = ints (xs ++ [z]) := by simp [ints]

def OrdOk (ab ba bc ac like : Bool) : Prop := (ab = true → ba = false) ∧ (ab = true → bc = true → ac = true) ∧ (like = true → ab = false ∧ ba = false) ∧ (like = false → ab = true ∨ ba = true)
theorem ord_ok (a b c : List Int) : OrdOk (lessL a b) (lessL b a) (lessL b c) (lessL a c) (alikeL a b) := by
  refine ⟨lessL_asymm, lessL_trans, fun h => ?_, fun h => ?_⟩
  · have hp := (alikeL_iff a b).1 h
    exact ⟨lessL_perm hp, lessL_perm hp.symm⟩
  · cases h1 : lessL a b with
    | true => exact .inl rfl
    | false =>
      cases h2 : lessL b a with
      | true => exact .inr rfl
      | false => rw [(alikeL_iff a b).2 (lessL_total h1 h2)] at h; cases h



theorem sized_reach {H : Type} {P : Program} {ts : List TypeId} {ds : List (DataW H)} {j : Nat} {t : TypeId} {d : DataW H} (h : (DataW.weightsEach P ts ds).all (· ≤ reachBytes) = true) (ht : ts[j]? = some t) (hd : ds[j]? = some d) : ∀ m ∈ d.weights P t, m ≤ reachBytes := fun m hm => by
  have := List.all_eq_true.1 h m (DataW.weights_mem_each ht hd m hm)
  simpa using this

end Go.Dk

