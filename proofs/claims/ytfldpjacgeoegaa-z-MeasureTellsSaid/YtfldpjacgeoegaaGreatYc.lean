/- How often each row stands in one, positively and negatively; plain. -/
import Derived.Test.YtfldpjacgeoegaaGreatYb
namespace Go.Dk

abbrev Cnt := Nat → Int × Int
def addC (f : Cnt) (x : Nat) (p n : Int) : Cnt := fun y => if y = x then (capI ((f x).1 + p), capI ((f x).2 + n)) else f y
def stepC (n : ND) (i : Nat) (f : Cnt) : Cnt :=
  if n.kind < 3 then f
  else addC (if n.kind = 5 then addC f n.l.toNat (f i).2 (f i).1 else addC f n.l.toNat (f i).1 (f i).2) n.r.toNat (f i).1 (f i).2
def rowAt (rows : List ND) (i : Nat) : ND := rows.getD i ⟨0, ByteArray.empty, 0, 0⟩
/-- When k rows have been gone through, from row id down. -/
def occ (rows : List ND) (id : Nat) : Nat → Cnt
  | 0 => fun x => if x = id then (1, 0) else (0, 0)
  | k + 1 => stepC (rowAt rows (id - k)) (id - k) (occ rows id k)

theorem rowAt_of {rows : List ND} {i : Nat} {n : ND} (h : rows[i]? = some n) : rowAt rows i = n := by simp [rowAt, List.getD, h]
theorem rowAt_get {rows : List ND} {i : Nat} (h : i < rows.length) : rows[i]? = some (rowAt rows i) := by simp [rowAt, List.getD, List.getElem?_eq_getElem h]

structure CIn (f : Cnt) : Prop where
  lo1 : ∀ x, 0 ≤ (f x).1
  lo2 : ∀ x, 0 ≤ (f x).2
  hi1 : ∀ x, (f x).1 ≤ MC
  hi2 : ∀ x, (f x).2 ≤ MC

theorem CIn.add {f : Cnt} (h : CIn f) (x : Nat) {p n : Int} (hp : 0 ≤ p) (hn : 0 ≤ n) : CIn (addC f x p n) := by
  have a := h.lo1 x
  have b := h.lo2 x
  refine ⟨fun y => ?_, fun y => ?_, fun y => ?_, fun y => ?_⟩ <;> unfold addC <;> split
  · exact capI_lo _ _ (by omega) (by unfold MC; omega)
  · exact h.lo1 y
  · exact capI_lo _ _ (by omega) (by unfold MC; omega)
  · exact h.lo2 y
  · exact capI_le _
  · exact h.hi1 y
  · exact capI_le _
  · exact h.hi2 y
theorem CIn.step {f : Cnt} (h : CIn f) (n : ND) (i : Nat) : CIn (stepC n i f) := by
  unfold stepC
  split
  · exact h
  · split
    · exact (h.add _ (h.lo2 i) (h.lo1 i)).add _ (h.lo1 i) (h.lo2 i)
    · exact (h.add _ (h.lo1 i) (h.lo2 i)).add _ (h.lo1 i) (h.lo2 i)
theorem occ_in (rows : List ND) (id k : Nat) : CIn (occ rows id k) := by
  induction k with
  | zero =>
    refine ⟨fun y => ?_, fun y => ?_, fun y => ?_, fun y => ?_⟩ <;> simp only [occ] <;> split <;> simp [MC]
  | succ k ih => exact ih.step _ _

def tot (f : Cnt) (x : Nat) : Int := (f x).1 + (f x).2

theorem add_mono {f : Cnt} (h : CIn f) (x : Nat) {p n : Int} (hp : 0 ≤ p) (hn : 0 ≤ n) (y : Nat) : (f y).1 ≤ (addC f x p n y).1 ∧ (f y).2 ≤ (addC f x p n y).2 := by
  unfold addC
  split
  · rename_i e
    subst e
    exact ⟨capI_lo _ _ (by omega) (h.hi1 y), capI_lo _ _ (by omega) (h.hi2 y)⟩
  · exact ⟨Int.le_refl _, Int.le_refl _⟩
theorem step_mono {f : Cnt} (h : CIn f) (n : ND) (i y : Nat) : (f y).1 ≤ (stepC n i f y).1 ∧ (f y).2 ≤ (stepC n i f y).2 := by
  unfold stepC
  split
  · exact ⟨Int.le_refl _, Int.le_refl _⟩
  · split
    · have a := add_mono h n.l.toNat (h.lo2 i) (h.lo1 i) y
      have b := add_mono (h.add n.l.toNat (h.lo2 i) (h.lo1 i)) n.r.toNat (h.lo1 i) (h.lo2 i) y
      exact ⟨Int.le_trans a.1 b.1, Int.le_trans a.2 b.2⟩
    · have a := add_mono h n.l.toNat (h.lo1 i) (h.lo2 i) y
      have b := add_mono (h.add n.l.toNat (h.lo1 i) (h.lo2 i)) n.r.toNat (h.lo1 i) (h.lo2 i) y
      exact ⟨Int.le_trans a.1 b.1, Int.le_trans a.2 b.2⟩
theorem occ_mono (rows : List ND) (id : Nat) {k k' : Nat} (h : k ≤ k') (y : Nat) : (occ rows id k y).1 ≤ (occ rows id k' y).1 ∧ (occ rows id k y).2 ≤ (occ rows id k' y).2 := by
  induction k' with
  | zero =>
    have : k = 0 := by omega
    subst this; exact ⟨Int.le_refl _, Int.le_refl _⟩
  | succ k' ih =>
    by_cases e : k = k' + 1
    · subst e; exact ⟨Int.le_refl _, Int.le_refl _⟩
    · have a := ih (by omega)
      have b := step_mono (occ_in rows id k') (rowAt rows (id - k')) (id - k') y
      exact ⟨Int.le_trans a.1 b.1, Int.le_trans a.2 b.2⟩
theorem tot_mono (rows : List ND) (id : Nat) {k k' : Nat} (h : k ≤ k') (y : Nat) : tot (occ rows id k) y ≤ tot (occ rows id k') y := by
  have := occ_mono rows id h y; unfold tot; omega

/-- Nothing there, nothing added. -/
theorem add_zero {f : Cnt} (h : CIn f) (x : Nat) : addC f x 0 0 = f := by
  funext y
  unfold addC
  split
  · rename_i e
    subst e
    rw [Int.add_zero, Int.add_zero, capI_of (h.hi1 y), capI_of (h.hi2 y)]
  · rfl
theorem step_zero {f : Cnt} (h : CIn f) {n : ND} {i : Nat} (hz : tot f i = 0) : stepC n i f = f := by
  have a := h.lo1 i
  have b := h.lo2 i
  unfold tot at hz
  have e1 : (f i).1 = 0 := by omega
  have e2 : (f i).2 = 0 := by omega
  unfold stepC
  rw [e1, e2]
  split
  · rfl
  · simp only [ite_self]
    rw [add_zero h, add_zero h]
theorem step_leaf {f : Cnt} {n : ND} {i : Nat} (hk : n.kind < 3) : stepC n i f = f := by unfold stepC; rw [if_pos hk]

/-- A step changes the parts' counts alone. -/
theorem add_other {f : Cnt} {x y : Nat} {p n : Int} (h : y ≠ x) : addC f x p n y = f y := by unfold addC; rw [if_neg h]
theorem step_other {f : Cnt} {n : ND} {i y : Nat} (h1 : y ≠ n.l.toNat) (h2 : y ≠ n.r.toNat) : stepC n i f y = f y := by
  unfold stepC
  split
  · rfl
  · rw [add_other h2]
    split <;> exact add_other h1

/-- From its own turn on a row's count stays. -/
theorem occ_stays {rows : List ND} (ok : Ok rows) {id x k : Nat} (hid : id < rows.length) (hx : x ≤ id) (hk : id - x ≤ k) (hk2 : k ≤ id + 1) : occ rows id k x = occ rows id (id - x) x := by
  induction k with
  | zero =>
    have : id - x = 0 := by omega
    rw [this]
  | succ k ih =>
    by_cases e : id - x = k + 1
    · rw [e]
    · rw [← ih (by omega) (by omega)]
      by_cases hkd : 3 ≤ (rowAt rows (id - k)).kind
      · obtain ⟨p1, p2⟩ := ok.parts (rowAt_get (i := id - k) (by omega)) hkd
        exact step_other (by omega) (by omega)
      · show stepC _ _ _ x = _
        rw [step_leaf (by omega)]

/-- What is counted is reached. -/
theorem reach_snoc {rows : List ND} {i j : Nat} (h : Reach rows i j) {n : ND} (hj : rows[j]? = some n) (hk : 3 ≤ n.kind) : Reach rows i n.l.toNat ∧ Reach rows i n.r.toNat :=
  ⟨h.trans (.left hj hk (.refl _)), h.trans (.right hj hk (.refl _))⟩
theorem tot_of_zero (f : Cnt) (x : Nat) (h : f x = (0, 0)) : tot f x = 0 := by simp [tot, h]
theorem occ_reach {rows : List ND} {id k x : Nat} (hid : id < rows.length) (hk : k ≤ id + 1) (h : tot (occ rows id k) x ≠ 0) : Reach rows id x := by
  induction k generalizing x with
  | zero =>
    by_cases e : x = id
    · subst e; exact .refl _
    · exact absurd (tot_of_zero _ _ (by simp [occ, e])) h
  | succ k ih =>
    by_cases hx : tot (occ rows id k) x = 0
    · by_cases hi : tot (occ rows id k) (id - k) = 0
      · have : occ rows id (k + 1) = occ rows id k := step_zero (occ_in rows id k) hi
        rw [this] at h; exact absurd hx h
      · have hr := ih (by omega) hi
        have hn := rowAt_get (rows := rows) (i := id - k) (by omega)
        by_cases hkd : 3 ≤ (rowAt rows (id - k)).kind
        · obtain ⟨r1, r2⟩ := reach_snoc hr hn hkd
          by_cases e1 : x = (rowAt rows (id - k)).l.toNat
          · rw [e1]; exact r1
          · by_cases e2 : x = (rowAt rows (id - k)).r.toNat
            · rw [e2]; exact r2
            · have : occ rows id (k + 1) x = occ rows id k x := step_other e1 e2
              unfold tot at h hx; rw [this] at h; exact absurd hx h
        · have : occ rows id (k + 1) = occ rows id k := step_leaf (by omega)
          rw [this] at h; exact absurd hx h
    · exact ih (by omega) hx

/-- What is reached is counted. -/
theorem add_pos {f : Cnt} (h : CIn f) (x : Nat) {p n : Int} (hp : 0 ≤ p) (hn : 0 ≤ n) (ht : 0 < p + n) : 0 < tot (addC f x p n) x := by
  have a := h.lo1 x
  have b := h.lo2 x
  unfold tot addC
  rw [if_pos rfl]
  show 0 < capI _ + capI _
  unfold capI MC
  split <;> split <;> omega
theorem step_pos {f : Cnt} (h : CIn f) {n : ND} {i : Nat} (hk : 3 ≤ n.kind) (ht : 0 < tot f i) : 0 < tot (stepC n i f) n.l.toNat ∧ 0 < tot (stepC n i f) n.r.toNat := by
  unfold tot at ht
  unfold stepC
  rw [if_neg (by omega)]
  split
  · refine ⟨?_, add_pos (h.add _ (h.lo2 i) (h.lo1 i)) _ (h.lo1 i) (h.lo2 i) ht⟩
    have a := add_pos h n.l.toNat (h.lo2 i) (h.lo1 i) (by omega)
    have b := add_mono (h.add n.l.toNat (h.lo2 i) (h.lo1 i)) n.r.toNat (h.lo1 i) (h.lo2 i) n.l.toNat
    unfold tot at a ⊢; omega
  · refine ⟨?_, add_pos (h.add _ (h.lo1 i) (h.lo2 i)) _ (h.lo1 i) (h.lo2 i) ht⟩
    have a := add_pos h n.l.toNat (h.lo1 i) (h.lo2 i) (by omega)
    have b := add_mono (h.add n.l.toNat (h.lo1 i) (h.lo2 i)) n.r.toNat (h.lo1 i) (h.lo2 i) n.l.toNat
    unfold tot at a ⊢; omega
theorem reach_occ {rows : List ND} (ok : Ok rows) {id i j : Nat} (hr : Reach rows i j) (hi : i ≤ id) (ht : 0 < tot (occ rows id (id - i)) i) : 0 < tot (occ rows id (id - j)) j := by
  induction hr with
  | refl => exact ht
  | @left i j n h1 h2 h3 ih =>
    obtain ⟨p1, p2⟩ := ok.parts h1 h2
    refine ih (by omega) ?_
    have := step_pos (occ_in rows id (id - i)) h2 ht
    have e : occ rows id (id - i + 1) = stepC n i (occ rows id (id - i)) := by
      show stepC (rowAt rows (id - (id - i))) (id - (id - i)) _ = _
      rw [show id - (id - i) = i by omega, rowAt_of h1]
    rw [← e] at this
    have m := tot_mono rows id (show id - i + 1 ≤ id - n.l.toNat by omega) n.l.toNat
    omega
  | @right i j n h1 h2 h3 ih =>
    obtain ⟨p1, p2⟩ := ok.parts h1 h2
    refine ih (by omega) ?_
    have := step_pos (occ_in rows id (id - i)) h2 ht
    have e : occ rows id (id - i + 1) = stepC n i (occ rows id (id - i)) := by
      show stepC (rowAt rows (id - (id - i))) (id - (id - i)) _ = _
      rw [show id - (id - i) = i by omega, rowAt_of h1]
    rw [← e] at this
    have m := tot_mono rows id (show id - i + 1 ≤ id - n.r.toNat by omega) n.r.toNat
    omega

/-- How often a row stands in another one. -/
def occs (rows : List ND) (id x : Nat) : Int × Int := occ rows id (id + 1) x
theorem occs_in (rows : List ND) (id x : Nat) : (0 ≤ (occs rows id x).1 ∧ (occs rows id x).1 ≤ MC) ∧ 0 ≤ (occs rows id x).2 ∧ (occs rows id x).2 ≤ MC :=
  let h := occ_in rows id (id + 1); ⟨⟨h.lo1 x, h.hi1 x⟩, h.lo2 x, h.hi2 x⟩
theorem occs_iff {rows : List ND} (ok : Ok rows) {id x : Nat} (hid : id < rows.length) : 0 < (occs rows id x).1 + (occs rows id x).2 ↔ Reach rows id x := by
  constructor
  · intro h; exact occ_reach hid (Nat.le_refl _) (by unfold tot; unfold occs at h; omega)
  · intro h
    have hx := h.le ok
    have h0 : 0 < tot (occ rows id (id - id)) id := by simp [tot, occ]
    have := reach_occ ok h (Nat.le_refl _) h0
    unfold occs
    rw [occ_stays ok hid hx (by omega) (Nat.le_refl _)]
    exact this
theorem occs_zero {rows : List ND} (ok : Ok rows) {id x : Nat} (hid : id < rows.length) (h : ¬ Reach rows id x) : occs rows id x = (0, 0) := by
  have h1 := mt (occs_iff ok hid (x := x)).1 h
  obtain ⟨⟨a, _⟩, b, _⟩ := occs_in rows id x
  exact Prod.ext (by show _ = (0 : Int); omega) (by show _ = (0 : Int); omega)

/-! ### the sum -/
def sumTo (g : Nat → Int) : Nat → Int
  | 0 => 0
  | n + 1 => sumTo g n + g n
theorem sumTo_congr {g h : Nat → Int} {n : Nat} (e : ∀ x, x < n → g x = h x) : sumTo g n = sumTo h n := by
  induction n with
  | zero => rfl
  | succ n ih => simp only [sumTo]; rw [ih (fun x hx => e x (by omega)), e n (by omega)]
theorem sumTo_bump {g h : Nat → Int} {n x : Nat} {d : Int} (hx : x < n) (e : ∀ y, y < n → h y = g y + if y = x then d else 0) : sumTo h n = sumTo g n + d := by
  induction n with
  | zero => omega
  | succ n ih =>
    simp only [sumTo]
    by_cases hn : x = n
    · subst hn
      rw [e x (by omega), if_pos rfl, sumTo_congr (g := h) (h := g) (fun y hy => by rw [e y (by omega), if_neg (by omega)]; omega)]
      omega
    · rw [ih (by omega) (fun y hy => e y (by omega)), e n (by omega), if_neg (by omega)]
      omega
theorem sumTo_nonneg {g : Nat → Int} {n : Nat} (h : ∀ x, x < n → 0 ≤ g x) : 0 ≤ sumTo g n := by
  induction n with
  | zero => exact Int.le_refl _
  | succ n ih => simp only [sumTo]; have := ih (fun x hx => h x (by omega)); have := h n (by omega); omega
theorem le_sumTo {g : Nat → Int} {n x : Nat} (h : ∀ x, x < n → 0 ≤ g x) (hx : x < n) : g x ≤ sumTo g n := by
  have e := sumTo_bump (g := fun y => if y = x then 0 else g y) (h := g) (n := n) (x := x) (d := g x) hx (fun y _ => by split <;> simp_all)
  have := sumTo_nonneg (g := fun y => if y = x then 0 else g y) (n := n) (fun y hy => by split <;> first | exact Int.le_refl _ | exact h y hy)
  omega
theorem two_le_sumTo {g : Nat → Int} {n x y : Nat} (h : ∀ x, x < n → 0 ≤ g x) (hx : x < n) (hy : y < n) (hne : x ≠ y) : g x + g y ≤ sumTo g n := by
  have e := sumTo_bump (g := fun z => if z = x then 0 else g z) (h := g) (n := n) (x := x) (d := g x) hx (fun z _ => by split <;> simp_all)
  have := le_sumTo (g := fun z => if z = x then 0 else g z) (n := n) (x := y) (fun z hz => by split <;> first | exact Int.le_refl _ | exact h z hz) hy
  simp only [if_neg (Ne.symm hne)] at this
  omega

/-- Where no count ends: what the rows that still stand weigh. -/
def load (rows : List ND) (id k x : Nat) : Int := tot (occ rows id k) x * (if x + k ≤ id then val sizeOf rows x else 1)

theorem tot_nonneg {f : Cnt} (h : CIn f) (x : Nat) : 0 ≤ tot f x := by have := h.lo1 x; have := h.lo2 x; unfold tot; omega
theorem size_lt {rows : List ND} (ok : Ok rows) {id x : Nat} (hid : id < rows.length) (hw : val weightOf rows id < MC) (hr : Reach rows id x) : val sizeOf rows x < MC := by
  have hx := hr.le ok
  have h1 := size_weight ok x (by omega)
  rcases weight_below ok hr hid hw with rfl | h <;> omega

theorem load_nonneg {rows : List ND} (ok : Ok rows) {id k x : Nat} (hid : id < rows.length) (hx : x ≤ id) : 0 ≤ load rows id k x := by
  unfold load
  refine Int.mul_nonneg (tot_nonneg (occ_in rows id k) x) ?_
  split
  · have := size_bd ok x (by omega); omega
  · omega

/-- One step: a row's load goes to itself and its parts. -/
theorem load_step {rows : List ND} (ok : Ok rows) {id k : Nat} (hid : id < rows.length) (hk : k ≤ id) (hw : val weightOf rows id < MC) (hs : sumTo (load rows id k) (id + 1) = val sizeOf rows id) :
    sumTo (load rows id (k + 1)) (id + 1) = val sizeOf rows id := by
  have hn := rowAt_get (rows := rows) (i := id - k) (by omega)
  have hin := occ_in rows id k
  by_cases hz : tot (occ rows id k) (id - k) = 0
  · have e : occ rows id (k + 1) = occ rows id k := step_zero hin hz
    rw [← hs]
    refine sumTo_congr fun x hx => ?_
    unfold load
    rw [e]
    by_cases e1 : x = id - k
    · subst e1; rw [hz]; simp
    · by_cases e2 : x + k ≤ id
      · rw [if_pos e2, if_pos (by omega)]
      · rw [if_neg e2, if_neg (by omega)]
  · have hr := occ_reach hid (by omega) hz
    have hsl := size_lt ok hid hw hr
    have t0 := tot_nonneg hin (id - k)
    by_cases hkd : 3 ≤ (rowAt rows (id - k)).kind
    · obtain ⟨p1, p2⟩ := ok.parts hn hkd
      have sl := size_bd ok (rowAt rows (id - k)).l.toNat (by omega)
      have sr := size_bd ok (rowAt rows (id - k)).r.toNat (by omega)
      have hv := val_two ok hn hkd (of := sizeOf)
      rw [size_two hkd] at hv
      have hv2 : val sizeOf rows (id - k) = 1 + val sizeOf rows (rowAt rows (id - k)).l.toNat + val sizeOf rows (rowAt rows (id - k)).r.toNat := by
        rw [hv]; rw [hv] at hsl; unfold capI at hsl ⊢; split at hsl
        · omega
        · rename_i h; rw [if_neg h]
      have hi0 : load rows id k (id - k) = tot (occ rows id k) (id - k) * (1 + val sizeOf rows (rowAt rows (id - k)).l.toNat + val sizeOf rows (rowAt rows (id - k)).r.toNat) := by unfold load; rw [if_pos (by omega), hv2]
      have szid : val sizeOf rows id < MC := size_lt ok hid hw (.refl _)
      have hocc : occ rows id (k + 1) = stepC (rowAt rows (id - k)) (id - k) (occ rows id k) := rfl
      generalize hN : rowAt rows (id - k) = N at *
      generalize hl : N.l.toNat = l at *
      generalize hr' : N.r.toNat = r at *
      have hli : l < id - k := by omega
      have hri : r < id - k := by omega
      generalize hT : tot (occ rows id k) (id - k) = T at *
      have lnn : ∀ x, x < id + 1 → 0 ≤ load rows id k x := fun x hx => load_nonneg ok hid (by omega)
      have hTl : T ≤ T * (1 + val sizeOf rows l + val sizeOf rows r) := by
        have := Int.mul_le_mul_of_nonneg_left (show (1 : Int) ≤ 1 + val sizeOf rows l + val sizeOf rows r by omega) t0
        omega
      have hT3 : 3 * T ≤ T * (1 + val sizeOf rows l + val sizeOf rows r) := by
        have := Int.mul_le_mul_of_nonneg_left (show (3 : Int) ≤ 1 + val sizeOf rows l + val sizeOf rows r by omega) t0
        omega
      have room : ∀ x, x ≤ id → x < id - k → tot (occ rows id k) x + 3 * T ≤ MC := by
        intro x hx hxi
        have h2 := two_le_sumTo (g := load rows id k) (n := id + 1) (x := x) (y := id - k) lnn (by omega) (by omega) (by omega)
        rw [hs, hi0] at h2
        have h3 : tot (occ rows id k) x ≤ load rows id k x := by
          unfold load
          rw [if_pos (by omega)]
          have := size_bd ok x (by omega)
          have := Int.mul_le_mul_of_nonneg_left this.1 (tot_nonneg hin x)
          omega
        omega
      have Tdef : T = (occ rows id k (id - k)).1 + (occ rows id k (id - k)).2 := hT.symm
      have b1 := hin.lo1 (id - k)
      have b2 := hin.lo2 (id - k)
      have htot : ∀ x, tot (occ rows id (k + 1)) x = tot (occ rows id k) x + (if x = l then T else 0) + (if x = r then T else 0) := by
        intro x
        have rl := room l (by omega) hli
        have rr := room r (by omega) hri
        have l1 := hin.lo1 l
        have l2 := hin.lo2 l
        have r1 := hin.lo1 r
        have r2 := hin.lo2 r
        have x1 := hin.hi1 x
        have x2 := hin.hi2 x
        rw [hocc]
        unfold stepC
        rw [if_neg (by omega), hl, hr']
        unfold tot at rl rr ⊢
        by_cases hk5 : N.kind = 5
        · rw [if_pos hk5]
          unfold addC
          by_cases xr : x = r
          · by_cases rl' : r = l
            · subst xr; subst rl'
              simp only [if_true]
              rw [capI_of (x := (occ rows id k x).1 + (occ rows id k (id - k)).2) (by omega), capI_of (x := (occ rows id k x).2 + (occ rows id k (id - k)).1) (by omega), capI_of (by omega), capI_of (by omega)]
              omega
            · subst xr
              simp only [if_true, if_neg rl']
              rw [capI_of (by omega), capI_of (by omega)]
              omega
          · by_cases xl : x = l
            · subst xl
              simp only [if_true, if_neg xr]
              rw [capI_of (by omega), capI_of (by omega)]
              omega
            · simp only [if_neg xr, if_neg xl]
              omega
        · rw [if_neg hk5]
          unfold addC
          by_cases xr : x = r
          · by_cases rl' : r = l
            · subst xr; subst rl'
              simp only [if_true]
              rw [capI_of (x := (occ rows id k x).1 + (occ rows id k (id - k)).1) (by omega), capI_of (x := (occ rows id k x).2 + (occ rows id k (id - k)).2) (by omega), capI_of (by omega), capI_of (by omega)]
              omega
            · subst xr
              simp only [if_true, if_neg rl']
              rw [capI_of (by omega), capI_of (by omega)]
              omega
          · by_cases xl : x = l
            · subst xl
              simp only [if_true, if_neg xr]
              rw [capI_of (by omega), capI_of (by omega)]
              omega
            · simp only [if_neg xr, if_neg xl]
              omega
      -- three moves
      have m1 := sumTo_bump (g := load rows id k) (h := fun y => load rows id k y + if y = id - k then T - T * (1 + val sizeOf rows l + val sizeOf rows r) else 0) (n := id + 1) (x := id - k) (d := T - T * (1 + val sizeOf rows l + val sizeOf rows r)) (by omega) (fun _ _ => rfl)
      have m2 := sumTo_bump (g := fun y => load rows id k y + if y = id - k then T - T * (1 + val sizeOf rows l + val sizeOf rows r) else 0) (h := fun y => (load rows id k y + if y = id - k then T - T * (1 + val sizeOf rows l + val sizeOf rows r) else 0) + if y = l then T * val sizeOf rows l else 0) (n := id + 1) (x := l) (d := T * val sizeOf rows l) (by omega) (fun _ _ => rfl)
      have m3 := sumTo_bump (g := fun y => (load rows id k y + if y = id - k then T - T * (1 + val sizeOf rows l + val sizeOf rows r) else 0) + if y = l then T * val sizeOf rows l else 0) (h := load rows id (k + 1)) (n := id + 1) (x := r) (d := T * val sizeOf rows r) (by omega) ?_
      · rw [m3, m2, m1, hs]
        have : T * (1 + val sizeOf rows l + val sizeOf rows r) = T + T * val sizeOf rows l + T * val sizeOf rows r := by rw [Int.mul_add, Int.mul_add, Int.mul_one]
        omega
      · intro y hy
        show load rows id (k + 1) y = (load rows id k y + if y = id - k then T - T * (1 + val sizeOf rows l + val sizeOf rows r) else 0) + (if y = l then T * val sizeOf rows l else 0) + if y = r then T * val sizeOf rows r else 0
        have hty := htot y
        by_cases ei : y = id - k
        · have n1 : ¬ y + (k + 1) ≤ id := by omega
          have n2 : ¬ y = l := by omega
          have n3 : ¬ y = r := by omega
          rw [if_neg n2, if_neg n3] at hty
          have hl1 : load rows id (k + 1) y = T := by unfold load; rw [hty, if_neg n1, ei, hT]; omega
          rw [hl1, if_pos ei, if_neg n2, if_neg n3, ei, hi0]
          omega
        · rw [if_neg ei]
          by_cases e2 : y + k ≤ id
          · have e3 : y + (k + 1) ≤ id := by omega
            have hl0 : load rows id k y = tot (occ rows id k) y * val sizeOf rows y := by unfold load; rw [if_pos e2]
            have hl1 : load rows id (k + 1) y = tot (occ rows id (k + 1)) y * val sizeOf rows y := by unfold load; rw [if_pos e3]
            rw [hl0, hl1, hty, Int.add_mul, Int.add_mul]
            by_cases yl : y = l
            · by_cases yr : y = r
              · rw [if_pos yl, if_pos yr, if_pos yl, if_pos yr, ← yl, ← yr]; omega
              · rw [if_pos yl, if_neg yr, if_pos yl, if_neg yr, ← yl]; omega
            · by_cases yr : y = r
              · rw [if_neg yl, if_pos yr, if_neg yl, if_pos yr, ← yr]; omega
              · rw [if_neg yl, if_neg yr, if_neg yl, if_neg yr]; omega
          · have yl : y ≠ l := by omega
            have yr : y ≠ r := by omega
            have n1 : ¬ y + (k + 1) ≤ id := by omega
            rw [if_neg yl, if_neg yr] at hty ⊢
            unfold load
            rw [hty, if_neg n1, if_neg e2]
            omega
    · have e : occ rows id (k + 1) = occ rows id k := step_leaf (by omega)
      rw [← hs]
      refine sumTo_congr fun x hx => ?_
      unfold load
      rw [e]
      by_cases e1 : x = id - k
      · subst e1
        rw [if_neg (by omega), if_pos (by omega), val_one size_one hn (by omega) 0 0]
        have : (rowAt rows (id - k)).kind < 3 := by omega
        simp [sizeOf, this]
      · by_cases e2 : x + k ≤ id
        · rw [if_pos e2, if_pos (by omega)]
        · rw [if_neg e2, if_neg (by omega)]

theorem load_start {rows : List ND} (id : Nat) : sumTo (load rows id 0) (id + 1) = val sizeOf rows id := by
  have m := sumTo_bump (g := fun _ => 0) (h := load rows id 0) (n := id + 1) (x := id) (d := val sizeOf rows id) (by omega) (fun y hy => by
    unfold load tot occ
    by_cases e : y = id
    · subst e; simp
    · simp [e])
  have z : sumTo (fun _ => 0) (id + 1) = 0 := by
    have : ∀ n, sumTo (fun _ => 0) n = 0 := by intro n; induction n with
      | zero => rfl
      | succ n ih => simp [sumTo, ih]
    exact this _
  rw [m, z]; omega
theorem load_all {rows : List ND} (ok : Ok rows) {id k : Nat} (hid : id < rows.length) (hk : k ≤ id + 1) (hw : val weightOf rows id < MC) : sumTo (load rows id k) (id + 1) = val sizeOf rows id := by
  induction k with
  | zero => exact load_start id
  | succ k ih => exact load_step ok hid (by omega) hw (ih (by omega))

theorem sumTo_filter (g : Nat → Int) (p : Nat → Bool) (n : Nat) (h : ∀ x, x < n → p x = false → g x = 0) : (((List.range n).filter p).map g).sum = sumTo g n := by
  induction n with
  | zero => rfl
  | succ n ih =>
    rw [List.range_succ, List.filter_append, List.map_append, List.sum_append, ih (fun x hx => h x (by omega))]
    simp only [sumTo]
    cases hp : p n with
    | true => simp [hp]
    | false => simp [hp, h n (by omega) hp]

/-- A size is what occurs. -/
theorem sum_below {rows : List ND} (ok : Ok rows) {id : Nat} (hid : id < rows.length) (hw : val weightOf rows id < MC) : ((below rows id).map fun x => (occs rows id x).1 + (occs rows id x).2).sum = val sizeOf rows id := by
  have := load_all ok hid (Nat.le_refl _) hw
  rw [← this]
  unfold below
  rw [sumTo_filter (fun x => (occs rows id x).1 + (occs rows id x).2) _ _ (fun x _ hp => by
    simp only [decide_eq_false_iff_not] at hp
    rw [occs_zero ok hid hp]; rfl)]
  refine sumTo_congr fun x hx => ?_
  unfold load tot occs
  rw [if_neg (by omega), Int.mul_one]

end Go.Dk

