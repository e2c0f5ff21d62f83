/- SubstBack: names of atoms, walked. -/
import Derived.Test.YtmlohibhoibgkaaZg
import Derived.Test.YtmlohibhoibgkaaZi
import Derived.Test.YtmlohibhoibgkaaO
import Derived.Test.YtmlohibhoibgkaaRg
namespace Go.Dk
open Go.RowKit Go.Maps Go.MapKept
open Go.Proofs hiding intOf

def bas (l : List ByteArray) : List Value := l.map Value.string
theorem bas_at {w : World} {v : Value} {l : List ByteArray} (h : Rd w v l.length 1 (bas l)) {k : Nat} (hk : k < l.length) : ∃ b o c x, v = .slice (some ⟨b, o, none⟩) l.length c ∧ w.cell? ⟨b, o + k, none⟩ = some (.string x) ∧ l[k]? = some x := by
  obtain ⟨b, o, c, rfl, hc⟩ := h.some (by omega)
  obtain ⟨x, hx⟩ : ∃ x, l[k]? = some x := ⟨_, List.getElem?_eq_getElem hk⟩
  exact ⟨b, o, c, x, rfl, hc k _ (by simp [bas, hx]), hx⟩

def hasN (l : List ByteArray) (s : ByteArray) : Bool := l.any fun x => decide (x = s)
theorem hasN_snoc {l : List ByteArray} {j : Nat} {x : ByteArray} (hx : l[j]? = some x) (s : ByteArray) : hasN (l.take (j + 1)) s = (hasN (l.take j) s || decide (x = s)) := by
  unfold hasN; rw [List.take_add_one, hx]; simp

set_option maxRecDepth 100000 in
theorem hasN_any (w : World) (v : Value) (l : List ByteArray) (s : ByteArray) (hv : Rd w v l.length 1 (bas l)) (hl : l.length ≤ 9223372036854775807) :
    Calls Try.prog 12 #[v, .string s] w fun e w' => e = .returned (.bool (hasN l s)) ∧ w' = w := by
  have HV := Lib.hid hv
  obtain ⟨va, vc, rfl⟩ := hv.slice
  clear hv
  go_enter Try.func12, Try.ntmps12
  go_wp2_with fail
  go_loop [5] (fun i => ∃ j : Nat, j ≤ l.length ∧ i = .int .i64 (j : Int) ∧ hasN (l.take j) s = false) (fun i => l.length - (intOf i).toNat)
  case atStart => exact ⟨0, Nat.zero_le _, rfl, rfl⟩
  case round =>
    obtain ⟨j, hj, rfl, hn⟩ := hrel
    by_cases hlt : j < l.length
    · obtain ⟨b, o, c, x, e1, x0, hx⟩ := bas_at HV.out hlt
      cases e1
      have hjl : (j : Int) < (l.length : Int) := by omega
      have HS := Lib.hid (hasN_snoc hx s)
      have HX := Lib.hid hx
      rw [hn] at HS
      clear hx hn
      have HE : Hid ((x.toList == s.toList) = decide (x = s)) := by
        unfold Hid
        by_cases e : x = s
        · simp [e]
        · have : ¬ x.toList = s.toList := fun h => e (bytes_ext.1 h)
          simp [e, this]
      have HA : Hid (x ∈ l) := List.mem_of_getElem? HX.out
      go_wp2_with fail
      · rename_i hx _
        go_ret
        rw [HE.out] at hx
        have : x = s := by simpa using hx
        have hT : hasN l s = true := List.any_eq_true.2 ⟨x, HA.out, by simp [this]⟩
        exact ⟨ret_bool hT.symm, rfl⟩
      · rename_i hx
        rw [HE.out] at hx
        exact ⟨⟨j + 1, by omega, by go_num, by rw [HS.out, hx]; rfl⟩, by simp [intOf]; omega⟩
    · have HF : Hid (hasN l s = false) := by rw [List.take_of_length_le (by omega)] at hn; exact hn
      clear hn
      go_wp2_with fail
      go_ret
      exact ⟨ret_bool HF.out.symm, rfl⟩

def namesT (rows : List ND) (l : List Nat) : List ByteArray := (l.filter fun k => decide ((rowAt rows k).kind = 1)).map fun k => (rowAt rows k).name
theorem namesT_snoc {rows : List ND} {l : List Nat} {j k : Nat} (h : l[j]? = some k) : namesT rows (l.take (j + 1)) = if (rowAt rows k).kind = 1 then namesT rows (l.take j) ++ [(rowAt rows k).name] else namesT rows (l.take j) := by
  unfold namesT
  rw [List.take_add_one, h]
  by_cases hk : (rowAt rows k).kind = 1 <;> simp [hk]
theorem namesT_le (rows : List ND) (l : List Nat) : (namesT rows l).length ≤ l.length := by unfold namesT; rw [List.length_map]; exact List.length_filter_le _ _
theorem own_baseC {w : World} {base base' n : Nat} {e : TypeId} {size : Nat} {v : Value} {xs : List Value} (h : w.ownsRow base e size v n xs) (hb : base' ≤ base) : w.ownsRow base' e size v n xs :=
  ⟨h.1, h.2.imp id (fun ⟨g, cap, cur, h1, h2, h3⟩ => ⟨g, cap, cur, h1, Nat.le_trans hb h2, h3⟩)⟩
theorem infoStr' : (Try.prog.info? 9).map (fun i => (i.zero, i.size, i.bytes)) = some (some (.string ByteArray.empty), 1, 16) := by kernel_rfl

set_option maxRecDepth 100000 in
set_option maxHeartbeats 1000000 in
theorem atoms07_any (k : Nat) (ow : Own) (w : World) (t : Value) (rows : List ND) (h : RTab k ow w t rows) (i : Nat) (hi : i < rows.length) :
    Calls Try.prog 10 #[t, .int .i64 (i : Int)] w fun e w' => ∃ v, e = .returned v ∧ w'.ownsRow w.heap.size 9 1 v (namesT rows (below rows i)).length (bas (namesT rows (below rows i))) ∧ Below w.heap.size w w' := by
  have HT := Lib.hid h
  have HI : Hid (i < rows.length) := hi
  have HLB : Hid ((below rows i).length ≤ 1024) := by have := below_le rows i; have := h.ok.le; unfold Hid; omega
  have HIN : Hid (∀ x ∈ below rows i, x < rows.length) := fun x hx => by have := ((mem_below HT.out.ok).1 hx).le HT.out.ok; omega
  obtain ⟨rb, v0, rfl, _⟩ := id h
  clear h
  go_enter Try.func10, Try.ntmps10
  go_wp2_with fail
  refine (refBelow_yes k ow w _ rows HT.out i HI.out).mono ?_
  rintro e w2 ⟨v, rfl, hown, hb⟩
  obtain ⟨a, c, rfl⟩ := own_slice hown
  have HL := Lib.hid (rd_own hown)
  have HB := Lib.hid hb
  have HT2 := Lib.hid (HT.out.below hb)
  clear hown hb
  go_wp2_with fail
  generalize hEq : below rows i = bl at *
  have HEQ := Lib.hid hEq
  clear hEq
  have hbl : bl.length ≤ 1024 := HLB.out
  go_loopw [7, 8] (fun u x W => ∃ j : Nat, j ≤ bl.length ∧ x = .int .i64 (j : Int) ∧ W.ownsRow w2.heap.size 9 1 u (namesT rows (bl.take j)).length (bas (namesT rows (bl.take j))) ∧ Below w2.heap.size w2 W) (fun _ x _ => bl.length - (intOf x).toNat)
  case atStart => exact ⟨0, Nat.zero_le _, rfl, World.ownsRow_nil _ _ _ _, Below.refl _ _⟩
  case round =>
    obtain ⟨j, hj, rfl, hown, hbw⟩ := hrel
    have HO := Lib.hid hown; have HW := Lib.hid hbw
    obtain ⟨oa, oc, rfl⟩ := own_slice hown
    clear hown hbw
    by_cases hlt : j < bl.length
    · as_aux_lemma =>
      obtain ⟨b, o, c1, z, e1, z0, hz⟩ := ints_at (HL.out.below HW.out) hlt
      cases e1
      obtain ⟨x, hx, rfl⟩ : ∃ x, bl[j]? = some x ∧ z = (x : Int) := by
        have hx := List.getElem?_eq_getElem hlt
        refine ⟨_, hx, ?_⟩
        simp only [natInts, List.getElem?_map, hx, Option.map_some, Option.some.injEq] at hz
        exact hz.symm
      have HX := Lib.hid hx
      have hxl : x < rows.length := HIN.out x (List.mem_of_getElem? hx)
      have HR := Lib.hid (rowAt_get hxl)
      obtain ⟨rb', v1, ev, ht⟩ := HT2.out.below HW.out
      cases ev
      obtain ⟨g, c', hv, ⟨cp, d0, d1, d2, d3⟩⟩ := ht.row HR.out
      subst hv
      have HS := Lib.hid (namesT_snoc (rows := rows) hx)
      have HLE : Hid ((namesT rows (bl.take j)).length ≤ 1024) := by
        have h1 := namesT_le rows (bl.take j)
        rw [List.length_take] at h1
        have := HLB.out
        unfold Hid; omega
      have hji : (j : Int) < (bl.length : Int) := by omega
      have hxi : (x : Int) < (rows.length : Int) := by omega
      generalize rowAt rows x = n at *
      obtain ⟨kd, nm, l, r⟩ := n
      simp only at d0 d1 d2 d3 HS
      clear hz hx ht
      by_cases hk : kd = 1
      · subst hk
        rw [if_pos rfl] at HS
        generalize namesT rows (bl.take j) = L at *
        go_wp2
        go_quiet (fail)
        obtain ⟨I0, _, F0, L0⟩ := later (wr.drewN nq)
        have a0 := L0.cell (((below_drewN wr nq).cell (World.block_lt_of_cell? _ _ z0)).trans z0)
        have ap := L0.cell (((below_drewN wr nq).cell (World.block_lt_of_cell? _ _ cp)).trans cp)
        have a1 := L0.cell (((below_drewN wr nq).cell (World.block_lt_of_cell? _ _ d1)).trans d1)
        have HLt := Lib.hid L0
        have HW2 := Lib.hid (below_drewN wr nq)
        clear L0 z0 cp d0 d1 d2 d3
        generalize wr.drewN nq = W1 at *
        go_wp2_with fail
        refine wp_tailW1 (W := F0) 12 (.tmp 7) (by kernel_rfl) (by kernel_rfl) HLt.out.drew rfl rfl (fun _ _ _ h => h) ?_
        simp only [Nat.reduceSub, Act.eval, Act.put, List.setIfInBounds_toArray, List.set_cons_succ, List.set_cons_zero, List.take_succ_cons, List.take_zero, List.drop_succ_cons, List.drop_zero]
        repeat (go_big_quiet_step (fail))
        refine wpQuiet_nil ?_
        rintro w6 ⟨i6, rfl⟩
        have HB6 := Lib.hid (HLt.out.bel i6)
        clear a0 ap a1 HLt
        generalize F0 i6 = W6 at *
        have HBW6 := Lib.hid (below_trans HW.out (below_trans HW2.out HB6.out))
        have HO6 := Lib.hid (own_belowC HO.out (below_trans HW2.out HB6.out))
        go_wp2_with (at_builtin; refine wp_append rfl (.tmp 33) (.tmp 45) 30 rfl w2.heap.size 9 _ 1 16 Try.underlying30 infoStr' rfl (by decide) (by decide) _ L.length (bas L) rfl (own_belowC HO6.out (below_alloc _ _)) _ 1 [.string nm] rfl (rd_lit _ _ _ rfl rfl) (by simp [Value.oneCell']) (by have := HLE.out; omega) (by have := HBW6.out.size; simp; omega) ?_; intro v7 w7 hown7 hgr7 hat7 hnil7)
        have g2 : W6.grownBy w7 (Value.slice oa L.length oc).ownBlock := World.grownBy.trans (World.grownBy_alloc W6 _ _) hgr7
        refine ⟨⟨j + 1, by omega, by go_num, ?_, HBW6.out.grown g2 HBW6.out.size (fun k hk => (HO6.out.lt k hk).1)⟩, by simp [intOf]; omega⟩
        rw [HS.out, List.length_append]
        have e : bas (L ++ [nm]) = bas L ++ [.string nm] := by simp [bas]
        rw [e]
        exact hown7
      · have hk1 : (kd == 1) = false := by simpa using hk
        rw [if_neg hk] at HS
        go_wp2
        go_quiet (fail)
        go_wp2
        exact ⟨⟨j + 1, by omega, by go_num, by rw [HS.out]; exact own_belowC HO.out (below_drewN _ _), below_trans HW.out (below_drewN _ _)⟩, by simp [intOf]; omega⟩
    · obtain rfl : j = bl.length := by omega
      have hO := HO.out
      rw [List.take_length] at hO ⊢
      have HO2 := Lib.hid hO
      clear hO
      go_wp2_with fail
      go_ret
      exact ⟨.slice oa (namesT rows bl).length oc, rfl, by rw [HEQ.out]; exact own_baseC HO2.out HB.out.size, below_trans HB.out HW.out⟩

end Go.Dk

