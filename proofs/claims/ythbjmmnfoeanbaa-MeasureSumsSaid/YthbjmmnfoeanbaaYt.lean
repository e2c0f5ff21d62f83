/- MeasureSums. -/
import Derived.Test.YthbjmmnfoeanbaaYs
import Derived.Test.YthbjmmnfoeanbaaYq
namespace Go.Dk
open Go.RowKit Go.Maps Go.MapKept
open Go.Proofs hiding intOf

/-- What the first j numbers below sum up to. -/
noncomputable def cntSum (rows : List ND) (x j : Nat) : Int := (((below rows x).take j).map fun y => (occs rows x y).1 + (occs rows x y).2).sum
theorem cntSum_step (rows : List ND) (x : Nat) {j y : Nat} (h : (below rows x)[j]? = some y) : cntSum rows x (j + 1) = cntSum rows x j + ((occs rows x y).1 + (occs rows x y).2) := by
  unfold cntSum
  rw [List.take_add_one, h]
  simp
theorem cntSum_nonneg (rows : List ND) (x j : Nat) : 0 ≤ cntSum rows x j := by
  unfold cntSum
  have key : ∀ l : List Nat, 0 ≤ (l.map fun y => (occs rows x y).1 + (occs rows x y).2).sum := by
    intro l
    induction l with
    | nil => simp
    | cons a t ih => simp only [List.map_cons, List.sum_cons]; have := occs_in rows x a; omega
  exact key _
theorem cntSum_le {rows : List ND} (ok : Ok rows) {x : Nat} (hx : x < rows.length) (hw : val weightOf rows x < MC) (j : Nat) : cntSum rows x j ≤ val sizeOf rows x := by
  rw [← sum_below ok hx hw]
  conv => rhs; rw [← List.take_append_drop j (below rows x)]
  rw [List.map_append, List.sum_append]
  have key : ∀ l : List Nat, 0 ≤ (l.map fun y => (occs rows x y).1 + (occs rows x y).2).sum := by
    intro l
    induction l with
    | nil => simp
    | cons a t ih => simp only [List.map_cons, List.sum_cons]; have := occs_in rows x a; omega
  have := key ((below rows x).drop j)
  unfold cntSum
  omega
theorem cntSum_all {rows : List ND} (ok : Ok rows) {x : Nat} (hx : x < rows.length) (hw : val weightOf rows x < MC) : cntSum rows x (below rows x).length = val sizeOf rows x := by
  unfold cntSum; rw [List.take_length]; exact sum_below ok hx hw

set_option maxRecDepth 100000 in
set_option maxHeartbeats 8000000 in
theorem measureSums_any (w : World) (v0 : Value) (rows0 : List ND) (id : Int) (hn : ∀ n ∈ rows0, n.name.size ≤ maxLen) (hr : Rd w v0 rows0.length 4 (nodeCells rows0)) (hm : rows0.length ≤ maxLen) (hl : rows0.length * 40 ≤ 140737488355328) :
    Calls Try.prog 9 #[v0, .int .i64 id] w fun e w' => e = .returned (.bool true) ∧ Below w.heap.size w w' := by
  have HT := Lib.hid (tables_any w v0 rows0 hn hr hm hl)
  generalize useR rows0 = rows at HT
  obtain ⟨a, c, rfl⟩ := hr.slice
  clear hn hr hm hl
  go_enter Try.func9, Try.ntmps9
  go_wp2_with fail
  refine HT.out.mono ?_
  rintro e w1 ⟨t, r, ow, rfl, hp, hb1⟩
  have ok := hp.t.ok
  have HP := Lib.hid hp.t
  have HX := Lib.hid hb1
  have HB : Hid (Below w1.heap.size w1 w1) := Below.refl _ _
  clear HT hp hb1
  have A1 := Lib.hid (fun W h => weight_any 1 ow W t rows h id)
  have A2 := Lib.hid (fun W h => size_any 1 ow W t rows h id)
  have A3 := Lib.hid (fun W h => depth_any 1 ow W t rows h id)
  by_cases hb : hasB rows.length id = true
  · obtain ⟨x, rfl⟩ : ∃ x : Nat, id = (x : Int) := by
      unfold hasB at hb; simp at hb; exact ⟨id.toNat, by omega⟩
    have hx : x < rows.length := by unfold hasB at hb; simp at hb; omega
    have e1 : weightT rows x = (val weightOf rows x, 0) := by unfold weightT; rw [if_pos hb]; rfl
    have e2 : sizeT rows x = (val sizeOf rows x, 0) := by unfold sizeT; rw [if_pos hb]; rfl
    have e3 : depthT rows x = (val depthOf rows x, 0) := by unfold depthT; rw [if_pos hb]; rfl
    rw [e1] at A1; rw [e2] at A2; rw [e3] at A3
    clear e1 e2 e3 hb
    have bw := weight_bd ok x hx
    have bs := size_bd ok x hx
    have bd := depth_bd ok x hx
    have sw := size_weight ok x hx
    by_cases hw : val weightOf rows x < MC
    · have gw : decide (1099511627776 ≤ val weightOf rows x) = false := by unfold MC at hw; simp; omega
      have gs : decide (val weightOf rows x < val sizeOf rows x) = false := by simp; omega
      have gl : decide ((rows.length : Int) ≤ val depthOf rows x) = false := by simp; omega
      have g1 : decide (val sizeOf rows x < 1) = false := by simp; omega
      have HCL := Lib.hid (fun j => cntSum_le ok hx hw j)
      have HCA := Lib.hid (cntSum_all ok hx hw)
      have hle := ok.le
      have hll := below_le rows x
      have HWB : Hid (∀ y, Reach rows x y → y = x ∨ val weightOf rows y < val weightOf rows x) := fun y h => weight_below ok h hx hw
      have hsm : val sizeOf rows x ≤ MC := bs.2
      clear bw bd sw bs hw
      generalize val weightOf rows x = wx at *
      generalize val sizeOf rows x = sx at *
      generalize val depthOf rows x = dx at *
      go_wp2_with (first
        | (go_at_call 40; refine (num06_any _ _).mono ?_; rintro e w' ⟨rfl, rfl⟩)
        | (go_at_call 37; refine (A1.out _ (HP.out.below (by repeat (with_reducible first | exact Below.refl _ _ | exact HB.out | refine below_trans ?_ (below_alloc _ _) | refine below_trans ?_ (below_drew1 _) | refine below_trans ?_ (below_drewN _ _) | refine below_sc ?_ (by first | exact Nat.le_refl _ | (simp; done) | (simp; omega)))))).mono ?_; rintro e w2 ⟨rfl, hb2⟩; have HB := Lib.hid (below_trans (w := w1) (by repeat (with_reducible first | exact Below.refl _ _ | exact HB.out | refine below_trans ?_ (below_alloc _ _) | refine below_trans ?_ (below_drew1 _) | refine below_trans ?_ (below_drewN _ _) | refine below_sc ?_ (by first | exact Nat.le_refl _ | (simp; done) | (simp; omega)))) hb2); clear hb2)
        | (go_at_call 38; refine (A2.out _ (HP.out.below (by repeat (with_reducible first | exact Below.refl _ _ | exact HB.out | refine below_trans ?_ (below_alloc _ _) | refine below_trans ?_ (below_drew1 _) | refine below_trans ?_ (below_drewN _ _) | refine below_sc ?_ (by first | exact Nat.le_refl _ | (simp; done) | (simp; omega)))))).mono ?_; rintro e w2 ⟨rfl, hb2⟩; have HB := Lib.hid (below_trans (w := w1) (by repeat (with_reducible first | exact Below.refl _ _ | exact HB.out | refine below_trans ?_ (below_alloc _ _) | refine below_trans ?_ (below_drew1 _) | refine below_trans ?_ (below_drewN _ _) | refine below_sc ?_ (by first | exact Nat.le_refl _ | (simp; done) | (simp; omega)))) hb2); clear hb2)
        | (go_at_call 39; refine (A3.out _ (HP.out.below (by repeat (with_reducible first | exact Below.refl _ _ | exact HB.out | refine below_trans ?_ (below_alloc _ _) | refine below_trans ?_ (below_drew1 _) | refine below_trans ?_ (below_drewN _ _) | refine below_sc ?_ (by first | exact Nat.le_refl _ | (simp; done) | (simp; omega)))))).mono ?_; rintro e w2 ⟨rfl, hb2⟩; have HB := Lib.hid (below_trans (w := w1) (by repeat (with_reducible first | exact Below.refl _ _ | exact HB.out | refine below_trans ?_ (below_alloc _ _) | refine below_trans ?_ (below_drew1 _) | refine below_trans ?_ (below_drewN _ _) | refine below_sc ?_ (by first | exact Nat.le_refl _ | (simp; done) | (simp; omega)))) hb2); clear hb2)
        | (go_at_call 41; refine (len_any 1 ow _ _ rows (HP.out.below (by repeat (with_reducible first | exact Below.refl _ _ | exact HB.out | refine below_trans ?_ (below_alloc _ _) | refine below_trans ?_ (below_drew1 _) | refine below_trans ?_ (below_drewN _ _) | refine below_sc ?_ (by first | exact Nat.le_refl _ | (simp; done) | (simp; omega)))))).mono ?_; rintro e w' ⟨rfl, rfl⟩)
        | (go_at_call 42; refine (below_yes 1 ow _ _ _ (HP.out.below (by repeat (with_reducible first | exact Below.refl _ _ | exact HB.out | refine below_trans ?_ (below_alloc _ _) | refine below_trans ?_ (below_drew1 _) | refine below_trans ?_ (below_drewN _ _) | refine below_sc ?_ (by first | exact Nat.le_refl _ | (simp; done) | (simp; omega))))) x hx).mono ?_; rintro e w3 ⟨v3, rfl, hown3, hb3⟩; have HO3 := Lib.hid hown3; obtain ⟨a3, c3, hv3⟩ := own_slice hown3; subst hv3; have HB := Lib.hid (below_trans (w := w1) (by repeat (with_reducible first | exact Below.refl _ _ | exact HB.out | refine below_trans ?_ (below_alloc _ _) | refine below_trans ?_ (below_drew1 _) | refine below_trans ?_ (below_drewN _ _) | refine below_sc ?_ (by first | exact Nat.le_refl _ | (simp; done) | (simp; omega)))) hb3); clear hown3 hb3))
      have HP3 := Lib.hid (HP.out.below HB.out)
      go_loopw [15, 16] (fun s j W => ∃ k : Nat, k ≤ (below rows x).length ∧ j = .int .i64 k ∧ s = .int .i64 (cntSum rows x k) ∧ Below w3.heap.size w3 W) (fun _ j _ => (below rows x).length - (intOf j).toNat)
      case atStart => exact ⟨0, Nat.zero_le _, rfl, by simp [cntSum], Below.refl _ _⟩
      case round =>
        obtain ⟨j, hj, rfl, rfl, hI⟩ := hrel
        have HB3 := Lib.hid (below_trans HB.out hI)
        have HRD := Lib.hid ((rd_own HO3.out).below hI)
        have HBW := Lib.hid hI
        clear hI
        by_cases hlt : j < (below rows x).length
        · obtain ⟨b, o, c1, x', he, hc, hxk'⟩ := ints_at HRD.out hlt
          cases he
          obtain ⟨y, hy⟩ : ∃ y, (below rows x)[j]? = some y := ⟨_, List.getElem?_eq_getElem hlt⟩
          obtain rfl : x' = (y : Int) := by
            have : (natInts (below rows x))[j]? = some (y : Int) := by simp [natInts, hy]
            rw [this] at hxk'; exact (Option.some.inj hxk').symm
          have hmem := List.mem_of_getElem? hy
          have hre : Reach rows x y := (mem_below ok).1 hmem
          have hyx : y ≤ x := hre.le ok
          have hyl : y < rows.length := by omega
          have hby : hasB rows.length (y : Int) = true := by simp [hasB, hyl]
          have hbx : hasB rows.length (x : Int) = true := by simp [hasB, hx]
          have B1 := Lib.hid (fun W h => weight_any 1 ow W t rows h (y : Int))
          have B2 := Lib.hid (fun W h => occurs_any 1 ow W t rows h (y : Int) (x : Int))
          have B3 := Lib.hid (fun W h => within_any 1 ow W t rows h (y : Int) (x : Int))
          have e1 : weightT rows (y : Int) = (val weightOf rows y, 0) := by unfold weightT; rw [if_pos hby]; rfl
          have e2 : occT rows (y : Int) (x : Int) = ((occs rows x y).1, (occs rows x y).2, 0) := by unfold occT; rw [if_pos ⟨hby, hbx⟩]; rfl
          have e3 : withinB rows (y : Int) (x : Int) = true := by unfold withinB; rw [decide_eq_true_eq]; exact ⟨hbx, by omega, by simpa using hmem⟩
          rw [e1] at B1; rw [e2] at B2; rw [e3] at B3
          clear e1 e2 e3 hby hbx
          have ho := (occs_iff ok hx).2 hre
          have hoi := occs_in rows x y
          have hst := cntSum_step rows x hy
          have hs0 := cntSum_nonneg rows x j
          have hs1 := HCL.out (j + 1)
          unfold MC at hoi hsm
          have hwy := HWB.out y hre
          rw [hst] at hs1
          have HST : Hid (cntSum rows x (j + 1) = cntSum rows x j + (occs rows x y).1 + (occs rows x y).2) := by rw [Hid, hst]; omega
          clear hxk' hy hmem hre hst
          generalize (occs rows x y).1 = p at *
          generalize (occs rows x y).2 = n at *
          generalize cntSum rows x j = S at *
          generalize val weightOf rows y = wy at *
          have gp : decide (p + n < 1) = false := by simp; omega
          have HB : Hid (Below w3.heap.size w3 wr) := HBW
          have HN : Hid (S + p + n ≤ 1099511627776) := by unfold Hid; omega
          have HN1 : Hid (S + p ≤ 1099511627776) := by unfold Hid; omega
          have HP1 : Hid ((0 ≤ p ∧ p ≤ 1099511627776) ∧ 0 ≤ n ∧ n ≤ 1099511627776) := hoi
          by_cases hxy : y = x
          · have gx : ((y : Int) != (x : Int)) = false := by simp [hxy]
            clear hwy hxy
            go_wp2_with (first
              | (go_at_call 40; refine (num06_any _ _).mono ?_; rintro e w' ⟨rfl, rfl⟩)
              | (go_at_call 37; refine (B1.out _ (HP3.out.below (by repeat (with_reducible first | exact Below.refl _ _ | exact HB.out | refine below_trans ?_ (below_alloc _ _) | refine below_trans ?_ (below_drew1 _) | refine below_trans ?_ (below_drewN _ _) | refine below_sc ?_ (by first | exact Nat.le_refl _ | (simp; done) | (simp; omega)))))).mono ?_; rintro e w4 ⟨rfl, hb4⟩; have hc := (hb4.cell (World.block_lt_of_cell? _ _ hc)).trans hc; have HB := Lib.hid (below_trans (w := w3) (by repeat (with_reducible first | exact Below.refl _ _ | exact HB.out | refine below_trans ?_ (below_alloc _ _) | refine below_trans ?_ (below_drew1 _) | refine below_trans ?_ (below_drewN _ _) | refine below_sc ?_ (by first | exact Nat.le_refl _ | (simp; done) | (simp; omega)))) hb4); clear hb4)
              | (go_at_call 43; refine (B2.out _ (HP3.out.below (by repeat (with_reducible first | exact Below.refl _ _ | exact HB.out | refine below_trans ?_ (below_alloc _ _) | refine below_trans ?_ (below_drew1 _) | refine below_trans ?_ (below_drewN _ _) | refine below_sc ?_ (by first | exact Nat.le_refl _ | (simp; done) | (simp; omega)))))).mono ?_; rintro e w5 ⟨rfl, hb5⟩; have hc := (hb5.cell (World.block_lt_of_cell? _ _ hc)).trans hc; have HB := Lib.hid (below_trans (w := w3) (by repeat (with_reducible first | exact Below.refl _ _ | exact HB.out | refine below_trans ?_ (below_alloc _ _) | refine below_trans ?_ (below_drew1 _) | refine below_trans ?_ (below_drewN _ _) | refine below_sc ?_ (by first | exact Nat.le_refl _ | (simp; done) | (simp; omega)))) hb5); clear hb5)
              | (go_at_call 44; refine (B3.out _ (HP3.out.below (by repeat (with_reducible first | exact Below.refl _ _ | exact HB.out | refine below_trans ?_ (below_alloc _ _) | refine below_trans ?_ (below_drew1 _) | refine below_trans ?_ (below_drewN _ _) | refine below_sc ?_ (by first | exact Nat.le_refl _ | (simp; done) | (simp; omega)))))).mono ?_; rintro e w6 ⟨rfl, hb6⟩; have hc := (hb6.cell (World.block_lt_of_cell? _ _ hc)).trans hc; have HB := Lib.hid (below_trans (w := w3) (by repeat (with_reducible first | exact Below.refl _ _ | exact HB.out | refine below_trans ?_ (below_alloc _ _) | refine below_trans ?_ (below_drew1 _) | refine below_trans ?_ (below_drewN _ _) | refine below_sc ?_ (by first | exact Nat.le_refl _ | (simp; done) | (simp; omega)))) hb6); clear hb6))
            exact ⟨⟨j + 1, by omega, by go_num, by rw [HST.out], HB.out⟩, by simp [intOf]; omega⟩
          · have gx : ((y : Int) != (x : Int)) = true := by simp; omega
            have gw' : decide (wx ≤ wy) = false := by simp; omega
            clear hwy hxy
            go_wp2_with (first
              | (go_at_call 40; refine (num06_any _ _).mono ?_; rintro e w' ⟨rfl, rfl⟩)
              | (go_at_call 37; refine (B1.out _ (HP3.out.below (by repeat (with_reducible first | exact Below.refl _ _ | exact HB.out | refine below_trans ?_ (below_alloc _ _) | refine below_trans ?_ (below_drew1 _) | refine below_trans ?_ (below_drewN _ _) | refine below_sc ?_ (by first | exact Nat.le_refl _ | (simp; done) | (simp; omega)))))).mono ?_; rintro e w4 ⟨rfl, hb4⟩; have hc := (hb4.cell (World.block_lt_of_cell? _ _ hc)).trans hc; have HB := Lib.hid (below_trans (w := w3) (by repeat (with_reducible first | exact Below.refl _ _ | exact HB.out | refine below_trans ?_ (below_alloc _ _) | refine below_trans ?_ (below_drew1 _) | refine below_trans ?_ (below_drewN _ _) | refine below_sc ?_ (by first | exact Nat.le_refl _ | (simp; done) | (simp; omega)))) hb4); clear hb4)
              | (go_at_call 43; refine (B2.out _ (HP3.out.below (by repeat (with_reducible first | exact Below.refl _ _ | exact HB.out | refine below_trans ?_ (below_alloc _ _) | refine below_trans ?_ (below_drew1 _) | refine below_trans ?_ (below_drewN _ _) | refine below_sc ?_ (by first | exact Nat.le_refl _ | (simp; done) | (simp; omega)))))).mono ?_; rintro e w5 ⟨rfl, hb5⟩; have hc := (hb5.cell (World.block_lt_of_cell? _ _ hc)).trans hc; have HB := Lib.hid (below_trans (w := w3) (by repeat (with_reducible first | exact Below.refl _ _ | exact HB.out | refine below_trans ?_ (below_alloc _ _) | refine below_trans ?_ (below_drew1 _) | refine below_trans ?_ (below_drewN _ _) | refine below_sc ?_ (by first | exact Nat.le_refl _ | (simp; done) | (simp; omega)))) hb5); clear hb5)
              | (go_at_call 44; refine (B3.out _ (HP3.out.below (by repeat (with_reducible first | exact Below.refl _ _ | exact HB.out | refine below_trans ?_ (below_alloc _ _) | refine below_trans ?_ (below_drew1 _) | refine below_trans ?_ (below_drewN _ _) | refine below_sc ?_ (by first | exact Nat.le_refl _ | (simp; done) | (simp; omega)))))).mono ?_; rintro e w6 ⟨rfl, hb6⟩; have hc := (hb6.cell (World.block_lt_of_cell? _ _ hc)).trans hc; have HB := Lib.hid (below_trans (w := w3) (by repeat (with_reducible first | exact Below.refl _ _ | exact HB.out | refine below_trans ?_ (below_alloc _ _) | refine below_trans ?_ (below_drew1 _) | refine below_trans ?_ (below_drewN _ _) | refine below_sc ?_ (by first | exact Nat.le_refl _ | (simp; done) | (simp; omega)))) hb6); clear hb6))
            exact ⟨⟨j + 1, by omega, by go_num, by rw [HST.out], HB.out⟩, by simp [intOf]; omega⟩
        · obtain rfl : j = (below rows x).length := by omega
          rw [HCA.out]
          have HB := HB3
          go_wp2_with (first
            | (go_at_call 40; refine (num06_any _ _).mono ?_; rintro e w' ⟨rfl, rfl⟩)
            | (go_at_call 35; refine (heads06_any _).mono ?_; rintro e w10 ⟨rfl, hb10⟩; have HB := Lib.hid (below_trans (w := w1) (by repeat (with_reducible first | exact Below.refl _ _ | exact HB.out | refine below_trans ?_ (below_alloc _ _) | refine below_trans ?_ (below_drew1 _) | refine below_trans ?_ (below_drewN _ _) | refine below_sc ?_ (by first | exact Nat.le_refl _ | (simp; done) | (simp; omega)))) hb10); clear hb10))
          go_ret
          exact ⟨rfl, HX.out.trans (HB.out.mono HX.out.size)⟩
    · have gw : decide (1099511627776 ≤ val weightOf rows x) = true := by unfold MC at hw; simp; omega
      generalize val weightOf rows x = wx at *
      generalize val sizeOf rows x = sx at *
      generalize val depthOf rows x = dx at *
      clear bs bd sw hw bw
      go_wp2_with (first
        | (go_at_call 40; refine (num06_any _ _).mono ?_; rintro e w' ⟨rfl, rfl⟩)
        | (go_at_call 37; refine (A1.out _ (HP.out.below (by repeat (with_reducible first | exact Below.refl _ _ | exact HB.out | refine below_trans ?_ (below_alloc _ _) | refine below_trans ?_ (below_drew1 _) | refine below_trans ?_ (below_drewN _ _) | refine below_sc ?_ (by first | exact Nat.le_refl _ | (simp; done) | (simp; omega)))))).mono ?_; rintro e w2 ⟨rfl, hb2⟩; have HB := Lib.hid (below_trans (w := w1) (by repeat (with_reducible first | exact Below.refl _ _ | exact HB.out | refine below_trans ?_ (below_alloc _ _) | refine below_trans ?_ (below_drew1 _) | refine below_trans ?_ (below_drewN _ _) | refine below_sc ?_ (by first | exact Nat.le_refl _ | (simp; done) | (simp; omega)))) hb2); clear hb2)
        | (go_at_call 38; refine (A2.out _ (HP.out.below (by repeat (with_reducible first | exact Below.refl _ _ | exact HB.out | refine below_trans ?_ (below_alloc _ _) | refine below_trans ?_ (below_drew1 _) | refine below_trans ?_ (below_drewN _ _) | refine below_sc ?_ (by first | exact Nat.le_refl _ | (simp; done) | (simp; omega)))))).mono ?_; rintro e w2 ⟨rfl, hb2⟩; have HB := Lib.hid (below_trans (w := w1) (by repeat (with_reducible first | exact Below.refl _ _ | exact HB.out | refine below_trans ?_ (below_alloc _ _) | refine below_trans ?_ (below_drew1 _) | refine below_trans ?_ (below_drewN _ _) | refine below_sc ?_ (by first | exact Nat.le_refl _ | (simp; done) | (simp; omega)))) hb2); clear hb2)
        | (go_at_call 39; refine (A3.out _ (HP.out.below (by repeat (with_reducible first | exact Below.refl _ _ | exact HB.out | refine below_trans ?_ (below_alloc _ _) | refine below_trans ?_ (below_drew1 _) | refine below_trans ?_ (below_drewN _ _) | refine below_sc ?_ (by first | exact Nat.le_refl _ | (simp; done) | (simp; omega)))))).mono ?_; rintro e w2 ⟨rfl, hb2⟩; have HB := Lib.hid (below_trans (w := w1) (by repeat (with_reducible first | exact Below.refl _ _ | exact HB.out | refine below_trans ?_ (below_alloc _ _) | refine below_trans ?_ (below_drew1 _) | refine below_trans ?_ (below_drewN _ _) | refine below_sc ?_ (by first | exact Nat.le_refl _ | (simp; done) | (simp; omega)))) hb2); clear hb2)
        | (go_at_call 35; refine (heads06_any _).mono ?_; rintro e w10 ⟨rfl, hb10⟩; have HB := Lib.hid (below_trans (w := w1) (by repeat (with_reducible first | exact Below.refl _ _ | exact HB.out | refine below_trans ?_ (below_alloc _ _) | refine below_trans ?_ (below_drew1 _) | refine below_trans ?_ (below_drewN _ _) | refine below_sc ?_ (by first | exact Nat.le_refl _ | (simp; done) | (simp; omega)))) hb10); clear hb10))
      go_ret
      exact ⟨rfl, HX.out.trans (HB.out.mono HX.out.size)⟩
  · have e1 : weightT rows id = (0, 31) := by unfold weightT; rw [if_neg hb]
    have e2 : sizeT rows id = (0, 31) := by unfold sizeT; rw [if_neg hb]
    have e3 : depthT rows id = (0, 31) := by unfold depthT; rw [if_neg hb]
    rw [e1] at A1; rw [e2] at A2; rw [e3] at A3
    clear e1 e2 e3 hb
    go_wp2_with (first
      | (go_at_call 40; refine (num06_any _ _).mono ?_; rintro e w' ⟨rfl, rfl⟩)
      | (go_at_call 37; refine (A1.out _ (HP.out.below (by repeat (with_reducible first | exact Below.refl _ _ | exact HB.out | refine below_trans ?_ (below_alloc _ _) | refine below_trans ?_ (below_drew1 _) | refine below_trans ?_ (below_drewN _ _) | refine below_sc ?_ (by first | exact Nat.le_refl _ | (simp; done) | (simp; omega)))))).mono ?_; rintro e w2 ⟨rfl, hb2⟩; have HB := Lib.hid (below_trans (w := w1) (by repeat (with_reducible first | exact Below.refl _ _ | exact HB.out | refine below_trans ?_ (below_alloc _ _) | refine below_trans ?_ (below_drew1 _) | refine below_trans ?_ (below_drewN _ _) | refine below_sc ?_ (by first | exact Nat.le_refl _ | (simp; done) | (simp; omega)))) hb2); clear hb2)
      | (go_at_call 38; refine (A2.out _ (HP.out.below (by repeat (with_reducible first | exact Below.refl _ _ | exact HB.out | refine below_trans ?_ (below_alloc _ _) | refine below_trans ?_ (below_drew1 _) | refine below_trans ?_ (below_drewN _ _) | refine below_sc ?_ (by first | exact Nat.le_refl _ | (simp; done) | (simp; omega)))))).mono ?_; rintro e w2 ⟨rfl, hb2⟩; have HB := Lib.hid (below_trans (w := w1) (by repeat (with_reducible first | exact Below.refl _ _ | exact HB.out | refine below_trans ?_ (below_alloc _ _) | refine below_trans ?_ (below_drew1 _) | refine below_trans ?_ (below_drewN _ _) | refine below_sc ?_ (by first | exact Nat.le_refl _ | (simp; done) | (simp; omega)))) hb2); clear hb2)
      | (go_at_call 39; refine (A3.out _ (HP.out.below (by repeat (with_reducible first | exact Below.refl _ _ | exact HB.out | refine below_trans ?_ (below_alloc _ _) | refine below_trans ?_ (below_drew1 _) | refine below_trans ?_ (below_drewN _ _) | refine below_sc ?_ (by first | exact Nat.le_refl _ | (simp; done) | (simp; omega)))))).mono ?_; rintro e w2 ⟨rfl, hb2⟩; have HB := Lib.hid (below_trans (w := w1) (by repeat (with_reducible first | exact Below.refl _ _ | exact HB.out | refine below_trans ?_ (below_alloc _ _) | refine below_trans ?_ (below_drew1 _) | refine below_trans ?_ (below_drewN _ _) | refine below_sc ?_ (by first | exact Nat.le_refl _ | (simp; done) | (simp; omega)))) hb2); clear hb2)
      | (go_at_call 35; refine (heads06_any _).mono ?_; rintro e w10 ⟨rfl, hb10⟩; have HB := Lib.hid (below_trans (w := w1) (by repeat (with_reducible first | exact Below.refl _ _ | exact HB.out | refine below_trans ?_ (below_alloc _ _) | refine below_trans ?_ (below_drew1 _) | refine below_trans ?_ (below_drewN _ _) | refine below_sc ?_ (by first | exact Nat.le_refl _ | (simp; done) | (simp; omega)))) hb10); clear hb10))
    go_ret
    exact ⟨rfl, HX.out.trans (HB.out.mono HX.out.size)⟩
end Go.Dk
