/- The document's Ints. -/
import Derived.Test.YtmlohibhoibgkaaB
import Derived.Test.YtmlohibhoibgkaaD
import Derived.BigQuiet
import Derived.Deep.QuietTactic
namespace Go.Dk
open Go.RowKit Go.Maps Go.MapKept
open Go.Proofs hiding intOf

theorem ints_at {w : World} {v : Value} {n : Nat} {zs : List Int} (h : Rd w v n 1 (ints zs)) {k : Nat} (hk : k < n) : ∃ b o c z, v = .slice (some ⟨b, o, none⟩) n c ∧ w.cell? ⟨b, o + k, none⟩ = some (.int .i64 z) ∧ zs[k]? = some z := by
  have hl : zs.length = n := by have := h.len; simpa [ints] using this
  obtain ⟨b, o, c, rfl, hc⟩ := h.some (by omega)
  obtain ⟨z, hz⟩ : ∃ z, zs[k]? = some z := ⟨_, List.getElem?_eq_getElem (by omega)⟩
  exact ⟨b, o, c, z, rfl, hc k _ (by simp [ints, hz]), hz⟩
theorem ints_len {w : World} {v : Value} {n : Nat} {zs : List Int} (h : Rd w v n 1 (ints zs)) : zs.length = n := by have := h.len; simpa [ints] using this

theorem rd_lit (w : World) (cs : Array Value) (e : TypeId) {n size : Nat} {xs : List Value} (h : cs.toList = xs) (hl : xs.length = n * size) : Rd (w.alloc (.cells cs e)) (.slice (some ⟨w.heap.size, 0, none⟩) n n) n size xs := by
  subst h
  refine ⟨⟨_, _, rfl, fun h => by (cases h), fun ad ha => ?_⟩, hl⟩
  cases ha
  refine ⟨fun _ => rfl, fun j u hu => ?_⟩
  rw [World.cell?_alloc_at _ _ _ _ rfl]
  simpa using hu

theorem take_eq_step {zs ys : List Int} {k : Nat} {z : Int} (h : zs.take k = ys.take k) (h1 : zs[k]? = some z) (h2 : ys[k]? = some z) : zs.take (k + 1) = ys.take (k + 1) := by
  rw [List.take_add_one, List.take_add_one, h, h1, h2]




end Go.Dk

