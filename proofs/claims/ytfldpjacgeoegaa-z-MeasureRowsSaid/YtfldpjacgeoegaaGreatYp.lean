/- What layer 6 tells of the chapter's table; plain. -/
import Derived.Test.YtfldpjacgeoegaaGreatYl
import Derived.Test.YtfldpjacgeoegaaGreatYn
namespace Go.Dk

def bP : ByteArray := ⟨#[112]⟩
def bQ : ByteArray := ⟨#[113]⟩
/-- The chapter's table. -/
def R6 : List ND := [⟨1, bP, 0, 0⟩, ⟨1, bQ, 0, 0⟩, ⟨3, ByteArray.empty, 0, 1⟩, ⟨2, ByteArray.empty, 0, 0⟩, ⟨5, ByteArray.empty, 2, 3⟩, ⟨5, ByteArray.empty, 4, 0⟩]

theorem R6_from : fromE [] R6 = 0 := by decide +kernel
theorem R6_size : sizeT R6 4 = (5, 0) := by decide +kernel
theorem R6_weight : weightT R6 4 = (6, 0) := by decide +kernel
theorem R6_depth : depthT R6 5 = (3, 0) := by decide +kernel
theorem R6_grade : gradeT R6 5 = (2, 0) := by decide +kernel
theorem R6_occ : occT R6 0 5 = (2, 0, 0) := by decide +kernel
theorem below_occs {rows : List ND} (ok : Ok rows) {i : Nat} (hi : i < rows.length) : below rows i = (List.range (i + 1)).filter fun j => decide (0 < (occs rows i j).1 + (occs rows i j).2) := by
  unfold below
  refine List.filter_congr fun j _ => ?_
  rw [decide_eq_decide]
  exact (occs_iff ok hi).symm
theorem R6_below (ok : Ok R6) : below R6 5 = [0, 1, 2, 3, 4, 5] := by
  rw [below_occs ok (by decide)]
  decide +kernel
theorem sortNm_self {l : List Nm} (h : l.Pairwise (fun x y => x ≤ y)) : sortNm l = l := by
  unfold sortNm
  exact List.mergeSort_of_pairwise (h.imp (fun h => by simpa using h))
theorem R6_pos (ok : Ok R6) : posOf R6 5 = [[112], [113]] := by
  unfold posOf
  rw [R6_below ok]
  have : nameL R6 (fun x => decide (0 < (occs R6 5 x).1)) [0, 1, 2, 3, 4, 5] = [[112], [113]] := by decide +kernel
  rw [this]
  exact sortNm_self (by decide)
theorem R6_neg (ok : Ok R6) : negOf R6 5 = [] := by
  unfold negOf
  rw [R6_below ok]
  have : nameL R6 (fun x => decide (0 < (occs R6 5 x).2)) [0, 1, 2, 3, 4, 5] = [] := by decide +kernel
  rw [this]
  exact sortNm_self List.Pairwise.nil
theorem R6_within (ok : Ok R6) : withinB R6 0 5 = true := by
  unfold withinB
  rw [decide_eq_true_eq]
  refine ⟨by decide, by decide, ?_⟩
  rw [show (5 : Int).toNat = 5 from rfl, R6_below ok]
  decide
theorem fall_self {l : List Int} (h : l.Pairwise (fun x y => y ≤ x)) : fall l = l := (fall_unique (List.Perm.refl _) h).symm
theorem less_331 : lessL [3, 3, 1] [4] = true := by
  unfold lessL
  rw [fall_self (by decide), fall_self (by decide)]
  decide
theorem less_41 : lessL [4, 1] [4] = false := by
  unfold lessL
  rw [fall_self (by decide), fall_self (by decide)]
  decide

end Go.Dk

