/- Parts of the proof: Qd, Qe, Qf, Qg. -/
import Derived.Test.YthhokkfcdbcllaaDoorN01
import Derived.Test.YthhokkfcdbcllaaDoorN02
import Derived.Test.YthhokkfcdbcllaaDoorN03
import Derived.Test.YthhokkfcdbcllaaDoorN04
import Derived.Test.YthhokkfcdbcllaaDoorN05
import Derived.Test.YthhokkfcdbcllaaDoorN06
import Derived.Test.YthhokkfcdbcllaaDoorN07
import Derived.Test.YthhokkfcdbcllaaDoorN08
import Derived.Test.YthhokkfcdbcllaaDoorN09
import Derived.Test.YthhokkfcdbcllaaDoorN10
import Derived.Test.YthhokkfcdbcllaaDoorN11
section
namespace Go.Dk
open Go.RowKit Go.Maps Go.MapKept
open Go.Proofs hiding intOf
abbrev PairF := List Int → Int × Int
structure ImpsR where
  rows : List ND
  err : Int
  made : List Int
def impN2 (p : Int × Int) : ND := ⟨5, ⟨#[]⟩, p.1, p.2⟩
def impsP : List PairF → List ND → List Int → ImpsR
  | [], rows, made => ⟨rows, 0, made⟩
  | f :: fs, rows, made =>
    if (put rows (impN2 (f made))).err ≠ 0 then ⟨(put rows (impN2 (f made))).rows, (put rows (impN2 (f made))).err, []⟩
    else impsP fs (put rows (impN2 (f made))).rows (made ++ [(put rows (impN2 (f made))).id])
/-- A function value that tells an implication, out of the numbers made so far. -/
def PairOK (Wd : World → Prop) (n : Nat) (fv : Value) (f : PairF) : Prop := ∃ fid caps, fv = .func (.func fid) #[] caps ∧ (∀ args w, (callFunc fid args).run Tryd.prog w = .ok (.enter fid args) w) ∧
  ∀ W v made, Wd W → Rd W v made.length 1 (ints made) → made.length = n → Calls Tryd.prog fid (#[v] ++ caps) W fun e W' => e = .returned (.tuple #[.int .i64 (f made).1, .int .i64 (f made).2]) ∧ Below W.heap.size W W'
theorem KeptF.own {F F' : FP} {w w' : World} (h : KeptF F w F' w') {base : Nat} {e : TypeId} {size : Nat} {v : Value} {n : Nat} {xs : List Value} (ho : w.ownsRow base e size v n xs) (hn : ∀ g, v.ownBlock = some g → ¬ F g) : w'.ownsRow base e size v n xs := by
  refine ⟨ho.1, ?_⟩
  rcases ho.2 with hn' | ⟨g, cap, cur, rfl, hbg, hg, rest⟩
  · exact .inl hn'
  · exact .inr ⟨g, cap, cur, rfl, hbg, (h.block g (lt_of_block hg) (hn g rfl)).trans hg, rest⟩
/-- An own row of numbers outside the table's blocks. -/
structure OwnI (B : Nat) (F : FP) (w : World) (v : Value) (zs : List Int) : Prop where
  own : w.ownsRow B 3 1 v zs.length (ints zs)
  out : ∀ g, v.ownBlock = some g → ¬ F g
theorem OwnI.below {B : Nat} {F : FP} {w w' : World} {v : Value} {zs : List Int} (h : OwnI B F w v zs) (hb : Below w.heap.size w w') : OwnI B F w' v zs :=
  ⟨(KeptF.of_below (F := FP.none) (fun _ h => h.elim) hb).own h.own (fun _ _ h => h), h.out⟩
theorem OwnI.kept {B : Nat} {F F' : FP} {w w' : World} {v : Value} {zs : List Int} (h : OwnI B F w v zs) (hk : KeptF F w F' w') : OwnI B F' w' v zs :=
  ⟨hk.own h.own h.out, fun g hg hf => h.out g hg (hk.sub g (h.own.lt g hg).2 hf)⟩
theorem ints_append (a b : List Int) : ints (a ++ b) = ints a ++ ints b := by simp [ints]
theorem OwnI.nil (B : Nat) (F : FP) (w : World) : OwnI B F w (.slice none 0 0) [] := ⟨World.ownsRow_nil _ _ _ _, fun g hg => by simp [Value.ownBlock] at hg⟩
/-- One more. -/
theorem OwnI.append {B : Nat} {F : FP} {w w' w0 : World} {v v' : Value} {zs : List Int} {x : Int} (h : OwnI B F w v zs) (h' : w'.ownsRow B 3 1 v' (zs.length + 1) (ints zs ++ [.int .i64 x])) (hat : v'.ownBlock = v.ownBlock ∨ v'.ownBlock = some w0.heap.size) (hF : F.in_ w) (hz : w.heap.size ≤ w0.heap.size) : OwnI B F w' v' (zs ++ [x]) := by
  refine ⟨by rw [ints_append]; simpa [ints] using h', fun g hg hf => ?_⟩
  rcases hat with e | e
  · exact h.out g (e ▸ hg) hf
  · rw [e] at hg
    cases hg
    have := hF _ hf
    omega
theorem OwnI.rd {B : Nat} {F : FP} {w : World} {v : Value} {zs : List Int} (h : OwnI B F w v zs) : Rd w v zs.length 1 (ints zs) := rd_own h.own
theorem KeptF.later {F F1 : FP} {w w1 w2 : World} (h : KeptF F w F1 w1) {row : Option Nat} (g : w1.grownBy w2 row) (hr : ∀ b, row = some b → w.heap.size ≤ b) : KeptF F w F1 w2 :=
  ⟨g.os.trans h.os, g.tape.trans h.tape, g.output.trans h.output, Nat.le_trans h.size g.size, h.sub, fun b hf => Nat.lt_of_lt_of_le (h.lt b hf) g.size,
   fun b hb hn => (g.block b (Nat.lt_of_lt_of_le hb h.size) (fun e => absurd (hr b e.symm) (by omega))).trans (h.block b hb hn)⟩
theorem TabF.grown {F : FP} {w w' : World} {t : Value} {rows : List ND} (h : TabF F w t rows) {row : Option Nat} (g : w.grownBy w' row) (hr : ∀ b, row = some b → ¬ F b) : TabF F w' t rows :=
  h.kept (G := fun b => row = some b) (G' := FP.none) ⟨g.os, g.tape, g.output, g.size, fun _ _ h => h.elim, fun _ h => h.elim, fun b hb hn => g.block b hb (fun e => hn e.symm)⟩ (fun b hf e => hr b e hf)
def ImpsPost (F : FP) (w : World) (t : Value) (r : ImpsR) (e : Ending) (w' : World) : Prop :=
  ∃ v F', e = .returned (.tuple #[v, .int .i64 r.err]) ∧ KeptF F w F' w' ∧ TabF F' w' t r.rows ∧ (r.err = 0 → OwnI w.heap.size F' w' v r.made)
structure ImpsI (F : FP) (w : World) (t : Value) (fs : List PairF) (rows : List ND) (j : Nat) (v : Value) (W : World) (F' : FP) (rows' : List ND) (made : List Int) : Prop where
  kept : KeptF F w F' W
  tab : TabF F' W t rows'
  eq : impsP fs rows [] = impsP (fs.drop j) rows' made
  len : made.length = j
  own : OwnI w.heap.size F' W v made
theorem imps_bad (f : PairF) (fs : List PairF) (rows : List ND) (made : List Int) {prows : List ND} {a b pid perr : Int} (_hab : (a, b) = f made) (hp : (⟨prows, pid, perr⟩ : Put) = put rows (impN2 (f made))) (hz : ¬ perr = 0) : impsP (f :: fs) rows made = ⟨prows, perr, []⟩ := by
  unfold impsP
  rw [← hp]
  simp only
  rw [if_pos hz]
theorem imps_good (f : PairF) (fs : List PairF) (rows : List ND) (made : List Int) {prows : List ND} {a b pid : Int} (_hab : (a, b) = f made) (hp : (⟨prows, pid, 0⟩ : Put) = put rows (impN2 (f made))) : impsP (f :: fs) rows made = impsP fs prows (made ++ [pid]) := by
  conv => lhs; unfold impsP
  rw [← hp]
  simp
set_option maxRecDepth 100000 in
set_option maxHeartbeats 2000000 in
theorem imps_any (F : FP) (w : World) (t : Value) (rows : List ND) (h : TabF F w t rows) (gb : Nat) (fs : List PairF) (hn : fs.length ≤ 8) (hg : ¬ F gb)
    (hf : ∀ j (h : j < fs.length), ∃ fv, w.cell? ⟨gb, j, none⟩ = some fv ∧ PairOK (fun W => ∃ F', KeptF F w F' W) j fv fs[j]) :
    Calls Tryd.prog 73 #[t, .slice (some ⟨gb, 0, none⟩) fs.length fs.length] w (ImpsPost F w t (impsP fs rows [])) := by
  have H0 : Hid (ImpsI F w t fs rows 0 (.slice none 0 0) w F rows []) := ⟨KeptF.refl h.in_, h, rfl, rfl, OwnI.nil _ _ _⟩
  have HF := Lib.hid hf; have HG := Lib.hid hg
  clear hf h hg
  go_enter Tryd.func73, Tryd.ntmps73
  go_wp2
  go_loopw [6, 15] (fun v i W => ∃ j F' rows' made, j ≤ fs.length ∧ i = .int .i64 (j : Int) ∧ ImpsI F w t fs rows j v W F' rows' made) (fun _ i _ => fs.length - (intOf i).toNat)
  case atStart => exact ⟨0, F, rows, [], by omega, rfl, H0.out⟩
  case round =>
    obtain ⟨j, F', rows', made, hj, rfl, hI⟩ := hrel
    have HI := Lib.hid hI
    clear hI
    by_cases hlt : j < fs.length
    · obtain ⟨fv, hc, fid, caps, rfl, hent, hp⟩ := HF.out j hlt
      have hc2 : wr.cell? ⟨gb, j, none⟩ = some (.func (.func fid) #[] caps) := HI.out.kept.cell hc HG.out
      obtain ⟨f, hfj⟩ : ∃ f, f = fs[j] := ⟨_, rfl⟩
      rw [← hfj] at hp
      have HD : Hid (fs.drop j = f :: fs.drop (j + 1)) := by rw [hfj]; exact List.drop_eq_getElem_cons hlt
      have HP := Lib.hid (hp wr _ made ⟨F', HI.out.kept⟩ HI.out.own.rd HI.out.len)
      obtain ⟨p, hpp⟩ : ∃ p, p = put rows' (impN2 (f made)) := ⟨_, rfl⟩
      have HPP := Lib.hid hpp
      have HM : Hid (∀ W, Below wr.heap.size wr W → Calls Tryd.prog 36 #[t, .int .i64 (f made).1, .int .i64 (f made).2] W (PutF F' W t p)) := fun W hb => by
        rw [hpp]; exact imp_F (HI.out.tab.below hb) _ _
      have hgb : gb < w.heap.size := World.block_lt_of_cell? _ _ hc
      have hji : (j : Int) < (fs.length : Int) := by omega
      clear hc hp hfj hpp
      obtain ⟨⟨a, b⟩, hab⟩ : ∃ ab, ab = f made := ⟨_, rfl⟩
      rw [← hab] at HP HM
      have HAB := Lib.hid hab
      clear hab
      obtain ⟨prows, pid, perr⟩ := p
      by_cases hz : perr = 0
      · subst hz
        have hmj := HI.out.len
        have HZ1 : Hid (made.length ≤ 8) := by show made.length ≤ 8; omega
        clear hmj
        go_wp2_with (first
          | (refine HP.out.mono ?_; rintro e W1 ⟨rfl, hb1⟩; have HB1 := Lib.hid hb1; clear hb1)
          | (go_at_call 36; refine (HM.out _ HB1.out).mono ?_; rintro e W2 ⟨rfl, F2, hk2, ht2⟩; have HK2 := Lib.hid hk2; have HT2 := Lib.hid ht2; have HO2 := Lib.hid ((HI.out.own.below HB1.out).kept hk2); have HL2 := Lib.hid ((HI.out.kept.trans (KeptF.of_below HI.out.tab.in_ HB1.out)).trans hk2); clear hk2 ht2)
          | (at_builtin; refine wp_append rfl (.tmp 35) (.tmp 37) 22 rfl w.heap.size 3 _ 1 8 Tryd.underlying22 infoInt rfl (by decide) (by decide) _ made.length (ints made) rfl ((HO2.out.below (below_alloc W2 _)).own) _ 1 [.int .i64 pid] rfl (rd_one W2 _ _) (by simp [Value.oneCell']) (by have := HZ1.out; omega) (by have := HL2.out.size; simp; omega) ?_; intro v5 w5 hown5 hgr5 hat5 hnil5; have HO5 := Lib.hid hown5; have HG5 := Lib.hid hgr5; have HA5 := Lib.hid hat5; clear hown5 hgr5 hat5 hnil5))
        have HX5 : Hid (∀ b, u6.ownBlock = some b → w.heap.size ≤ b) := fun b hb => (HI.out.own.own.lt b hb).1
        have K1 := (HL2.out.trans (KeptF.of_below HT2.out.in_ (below_alloc W2 (.cells #[.int .i64 pid] 3)))).later HG5.out HX5.out
        have T1 := (HT2.out.below (below_alloc W2 (.cells #[.int .i64 pid] 3))).grown HG5.out HO2.out.out
        have O1 := HO2.out.append HO5.out HA5.out HT2.out.in_ (by simp)
        exact ⟨⟨j + 1, F2, prows, made ++ [pid], by omega, by go_num, K1, T1, by rw [HI.out.eq, HD.out, imps_good _ _ _ _ HAB.out HPP.out], by rw [List.length_append, HI.out.len]; rfl, O1⟩, by simp [intOf]; omega⟩
      · have hz2 : (perr != 0) = true := by simpa using hz
        have HZ := Lib.hid hz
        clear hz
        go_wp2_with (first
          | (refine HP.out.mono ?_; rintro e W1 ⟨rfl, hb1⟩; have HB1 := Lib.hid hb1; clear hb1)
          | (go_at_call 36; refine (HM.out _ HB1.out).mono ?_; rintro e W2 ⟨rfl, F2, hk2, ht2⟩; have HK2 := Lib.hid hk2; have HT2 := Lib.hid ht2; clear hk2 ht2))
        go_ret2
        have he : impsP fs rows [] = ⟨prows, perr, []⟩ := by rw [HI.out.eq, HD.out, imps_bad _ _ _ _ HAB.out HPP.out HZ.out]
        rw [he]
        exact ⟨.slice none 0 0, F2, rfl, (HI.out.kept.trans (KeptF.of_below HI.out.tab.in_ HB1.out)).trans HK2.out, HT2.out, fun h => absurd h HZ.out⟩
    · obtain rfl : j = fs.length := by omega
      go_wp2_with fail
      go_ret2
      have he : impsP fs rows [] = ⟨rows', 0, made⟩ := by rw [HI.out.eq, List.drop_length]; rfl
      rw [he]
      exact ⟨_, F', rfl, HI.out.kept, HI.out.tab, fun _ => HI.out.own⟩
end Go.Dk
end

section
namespace Go.Dk
open Go.RowKit Go.Maps Go.MapKept
open Go.Proofs hiding intOf
/-- A made slice of sequents. -/
def SeqsV (B : Nat) (F : FP) (w : World) (v : Value) (l : List SQ) : Prop :=
  (l = [] ∧ v = .slice none 0 0) ∨ ∃ b, l ≠ [] ∧ v = .slice (some ⟨b, 0, none⟩) l.length l.length ∧ B ≤ b ∧ ¬ F b ∧ BoxB w b (l.flatMap fun s => seqL s.left s.goal) 81
def PremRaw (F : FP) (w : World) (t : Value) (rows : List ND) (p : Prem) (e : Ending) (w' : World) : Prop :=
  ∃ v F', e = .returned (.tuple #[v, .int .i64 p.err]) ∧ KeptF F w F' w' ∧ (p.err = 0 → TabF F' w' t p.rows ∧ SeqsV w.heap.size F' w' v p.seqs) ∧
    (p.err ≠ 0 → v = .slice none 0 0 ∧ p.rows = rows ∧ ∃ rows1, rows <+: rows1 ∧ TabF F' w' t rows1)
theorem BoxB.keptF {F F' : FP} {W W' : World} {b : Nat} {xs : List Value} {T : TypeId} (h : BoxB W b xs T) (hk : KeptF F W F' W') (hn : ¬ F b) : BoxB W' b xs T := hk.box h hn
def PremErr (F : FP) (w : World) (t : Value) (rows1 : List ND) (er : Int) (e : Ending) (w' : World) : Prop :=
  ∃ F', e = .returned (.tuple #[.slice none 0 0, .int .i64 er]) ∧ KeptF F w F' w' ∧ TabF F' w' t rows1
def PremYes (F : FP) (w : World) (t : Value) (rows1 : List ND) (l : List SQ) (e : Ending) (w' : World) : Prop :=
  ∃ v F', e = .returned (.tuple #[v, .int .i64 0]) ∧ KeptF F w F' w' ∧ TabF F' w' t rows1 ∧ SeqsV w.heap.size F' w' v l
theorem OwnI.form {B : Nat} {F : FP} {w : World} {v : Value} {zs : List Int} (h : OwnI B F w v zs) (h0 : 0 < zs.length) : ∃ g c, v = .slice (some ⟨g, 0, none⟩) zs.length c ∧ ¬ F g ∧ ∀ j x, zs[j]? = some x → w.cell? ⟨g, j, none⟩ = some (.int .i64 x) := by
  obtain ⟨g, c, rfl, _, hc⟩ := own_some h.own h0
  exact ⟨g, c, rfl, h.out g rfl, fun j x hj => hc j _ (by simp [ints, hj])⟩
/-- pair, its two boxes without their numbers. -/
def PairPost (w : World) (a b : Int) (e : Ending) (w' : World) : Prop :=
  ∃ p q, e = .returned (.func (.func 90) #[] #[.pointer (some ⟨p, 0, none⟩), .pointer (some ⟨q, 0, none⟩)]) ∧ w.heap.size ≤ p ∧ w.heap.size ≤ q ∧ w'.cell? ⟨p, 0, none⟩ = some (.int .i64 a) ∧ w'.cell? ⟨q, 0, none⟩ = some (.int .i64 b) ∧ Below w.heap.size w w'
theorem pair_b (w : World) (a b : Int) : Calls Tryd.prog 74 #[.int .i64 a, .int .i64 b] w (PairPost w a b) := by
  refine (pair_any w a b).mono ?_
  rintro e w' ⟨rfl, rfl⟩
  refine ⟨w.heap.size, w.heap.size + 1, rfl, Nat.le_refl _, Nat.le_succ _, cell_past (below_alloc _ _) (cell_new1 rfl), cell_new1 (by simp), below_trans (below_alloc _ _) (below_alloc _ _)⟩
theorem pairOK {F : FP} {W : World} {p q n : Nat} {a b : Int} (c1 : W.cell? ⟨p, 0, none⟩ = some (.int .i64 a)) (c2 : W.cell? ⟨q, 0, none⟩ = some (.int .i64 b)) (hp : ¬ F p) (hq : ¬ F q) :
    PairOK (fun W' => ∃ F', KeptF F W F' W') n (.func (.func 90) #[] #[.pointer (some ⟨p, 0, none⟩), .pointer (some ⟨q, 0, none⟩)]) (fun _ => (a, b)) := by
  refine ⟨_, _, rfl, enters_of Tryd.func90 (by kernel_rfl) rfl, ?_⟩
  rintro W' v made ⟨F', hk⟩ _ _
  exact pair1_any W' v a b p q (hk.cell c1 hp) (hk.cell c2 hq)
theorem prem_end {F F1 : FP} {w W W' : World} {t : Value} {rows1 : List ND} {l : List SQ} {n : Nat} {cs : Array Value} (hk : KeptF F w F1 W) (ht : TabF F1 W t rows1) (hb : Below W.heap.size W W') (hn : l.length = n) (hc : cs = (l.flatMap fun s => seqL s.left s.goal).toArray) (h0 : l ≠ [] := by simp) :
    PremYes F w t rows1 l (.returned (.tuple #[.slice (some ⟨W'.heap.size, 0, none⟩) n n, .int .i64 0])) (W'.alloc (.cells cs 81)) := by
  subst hn hc
  have hb2 := below_trans hb (below_alloc W' (.cells (l.flatMap fun s => seqL s.left s.goal).toArray 81))
  refine ⟨_, F1, rfl, hk.trans (KeptF.of_below ht.in_ hb2), ht.below hb2, .inr ⟨_, h0, rfl, Nat.le_trans hk.size hb.size, fun hf => ?_, BoxB.new W' _ _⟩⟩
  have := ht.in_ _ hf
  have := hb.size
  omega
set_option maxRecDepth 100000 in
theorem prem1_any (w : World) (y : Nat) (a b : Int) (g o c : Nat) (c1 : w.cell? ⟨y, 2, none⟩ = some (.int .i64 a)) (c2 : w.cell? ⟨g, o, none⟩ = some (.int .i64 b)) :
    Calls Tryd.prog 75 #[.slice (some ⟨g, o, none⟩) 1 c, .pointer (some ⟨y, 0, none⟩)] w fun e w' => e = .returned (.tuple #[.int .i64 a, .int .i64 b]) ∧ Below w.heap.size w w' := by
  go_enter Tryd.func75, Tryd.ntmps75
  go_wp2_with fail
  go_quiet (fail)
  go_wp2_with fail
  exact bodyPost_ret (v := .tuple #[.int .i64 a, .int .i64 b]) (by simp [results, Tryd.results75, go_sem]) rfl ⟨rfl, below_drewN w nq⟩
theorem prem1OK {F : FP} {W : World} {y : Nat} {a : Int} (c1 : W.cell? ⟨y, 2, none⟩ = some (.int .i64 a)) (hy : ¬ F y) :
    PairOK (fun W' => ∃ F', KeptF F W F' W') 1 (.func (.func 75) #[] #[.pointer (some ⟨y, 0, none⟩)]) (fun made => (a, made.headD 0)) := by
  refine ⟨_, _, rfl, enters_of Tryd.func75 (by kernel_rfl) rfl, ?_⟩
  rintro W' v made ⟨F', hk⟩ hr hl
  obtain ⟨x, rfl⟩ : ∃ x, made = [x] := by
    match made, hl with
    | [x], _ => exact ⟨x, rfl⟩
  obtain ⟨⟨a', c', rfl, h1, h2⟩, _⟩ := hr
  cases a' with
  | none => exact absurd (h1 rfl).1 (by simp)
  | some ad =>
    have h3 := (h2 ad rfl).2 0 (.int .i64 x) rfl
    have h4 := (h2 ad rfl).1 (by simp)
    obtain ⟨g, o, sp⟩ := ad
    simp only at h3 h4
    subst h4
    exact prem1_any W' y a x g o c' (hk.cell c1 hy) (by simpa using h3)
end Go.Dk
end

section
namespace Go.Dk
open Go.RowKit Go.Maps Go.MapKept
open Go.Proofs hiding intOf
set_option maxRecDepth 100000 in
set_option maxHeartbeats 2000000 in
theorem prem13e_F (F : FP) (w : World) (t : Value) (rows : List ND) (hF : TabF F w t rows) (s : SQ) (main : Nat) (hm : main < rows.length) (kd : Int) (nm : ByteArray) (l r : Nat) (hx : rowAt rows main = ⟨kd, nm, (l : Int), (r : Int)⟩) (hr : r < 1024)
    (kd2 : Int) (nm2 : ByteArray) (l2 r2 : Int) (hy : nodeAt rows (l : Int) = ⟨kd2, nm2, l2, r2⟩) (rows1 : List ND) (er : Int) (her : er ≠ 0) (hR : impsP [fun _ => (r2, (r : Int))] rows [] = ⟨rows1, er, []⟩) :
    Calls Tryd.prog 55 #[t, .agg (seqL s.left s.goal).toArray, .int .i64 13, .int .i64 (main : Int)] w (PremErr F w t rows1 er) := by
  have HB0 := Lib.hid (below_alloc w (.cells (seqL s.left s.goal).toArray 81))
  have HQ0 := Lib.hid (BoxB.new w (seqL s.left s.goal) 81)
  have HN1 := Lib.hid (rnode_is 0 _ w t rows (hF.col 0) main hm _ hx)
  have HR := Lib.hid hr
  clear hr
  have HN2 : Hid (∀ W, Below w.heap.size w W → Calls Tryd.prog 66 #[t, .int .i64 (l : Int)] W fun e w' => e = .returned (.agg (ND.mk kd2 nm2 l2 r2).cells.toArray) ∧ Below W.heap.size W w') := fun W hb => hy ▸ rnode_any 0 _ W t rows ((hF.col 0).below hb) (l : Int)
  have HM : Hid (main < 1024) := Nat.lt_of_lt_of_le hm hF.ok.le
  have HI : Hid (∀ W gb, TabF F W t rows → ¬ F gb → (∀ j (h : j < ([fun _ => (r2, (r : Int))] : List PairF).length), ∃ fv, W.cell? ⟨gb, j, none⟩ = some fv ∧ PairOK (fun W' => ∃ F', KeptF F W F' W') j fv ([fun _ => (r2, (r : Int))] : List PairF)[j]) → Calls Tryd.prog 73 #[t, .slice (some ⟨gb, 0, none⟩) 1 1] W (ImpsPost F W t ⟨rows1, er, []⟩)) := fun W gb ht hg hf => by
    have := imps_any F W t rows ht gb [fun _ => (r2, (r : Int))] (by simp) hg hf
    rw [hR] at this
    exact this
  have hz2 : (er != 0) = true := by simpa using her
  clear her
  have HT := Lib.hid hF
  simp only at HN1
  clear hF hx hy hm hR
  go_enter Tryd.func55, Tryd.ntmps55
  go_wp2_with (first
    | (go_at_call 66; refine (HN1.out _ HB0.out).mono ?_; rintro e W1 ⟨rfl, hb1⟩; have HB1 := Lib.hid (below_trans HB0.out hb1); have HQ1 := Lib.hid (HQ0.out.below hb1); clear hb1 HN1)
    | (refine wp_storeRow rNode (.tmp 10) (.tmp 21) rfl rfl rfl (ys := (ND.mk kd nm (l : Int) (r : Int)).cells) rfl (BoxB.new W1 zeroN.cells 45) rfl rfl (cells_one _) ?_; intro W2 hb2 ho2; have c2 := hb2.cell (i := 2) rfl; have HX2 := Lib.hid hb2; have HB12 := Lib.hid ((below_alloc W1 _).trans (ho2.below (Nat.le_refl _))); have HB2 := Lib.hid (HB1.out.trans (HB12.out.mono HB1.out.size)); have HQ2 := Lib.hid (HQ1.out.below HB12.out); clear hb2 ho2; simp only at c2)
    | (go_at_call 66; refine (HN2.out _ HB2.out).mono ?_; rintro e W3 ⟨rfl, hb3⟩; have HB3 := Lib.hid (below_trans HB2.out hb3); have HQ3 := Lib.hid (HQ2.out.below hb3); have HX3 := Lib.hid (HX2.out.below hb3); clear hb3 c2)
    | (refine wp_storeRow rNode (.tmp 11) (.tmp 25) rfl rfl rfl (ys := (ND.mk kd2 nm2 l2 r2).cells) rfl (BoxB.new W3 zeroN.cells 45) rfl rfl (cells_one _) ?_; intro W4 hb4 ho4; have HY4 := Lib.hid hb4; have HB34 := Lib.hid ((below_alloc W3 _).trans (ho4.below (Nat.le_refl _))); have HB4 := Lib.hid (HB3.out.trans (HB34.out.mono HB3.out.size)); have HQ4 := Lib.hid (HQ3.out.below HB34.out); have HX4 := Lib.hid (HX3.out.below HB34.out); clear hb4 ho4)
    | (refine wp_loadSeq (.tmp 5) rfl rfl rfl HQ4.out ?_)
    | (refine wp_storeSeq (.tmp 12) (.tmp 26) rfl rfl rfl rfl (BoxB.new W4 (seqL 0 0) 81) (seqL_len _ _) ?_; intro W5 hb5 ho5; have HR5 := Lib.hid hb5; have HB45 := Lib.hid ((below_alloc W4 _).trans (ho5.below (Nat.le_refl _))); have HB5 := Lib.hid (HB4.out.trans (HB45.out.mono HB4.out.size)); have HQ5 := Lib.hid (HQ4.out.below HB45.out); have HX5 := Lib.hid (HX4.out.below HB45.out); have HY5 := Lib.hid (HY4.out.below HB45.out); have HZ4 := Lib.hid HB4.out.size; have HZ5 := Lib.hid HB45.out.size; clear hb5 ho5)
    | (refine wp_loadLeft (.tmp 27) rfl rfl rfl HQ5.out ?_)
    | (go_at_call 71; refine (drop_any W5 s.left main HM.out).mono ?_; rintro e W6 ⟨rfl, hb6⟩; have HB6 := Lib.hid (HB5.out.trans (hb6.mono HB5.out.size)); have HR6 := Lib.hid (HR5.out.below hb6); have HQ6 := Lib.hid (HQ5.out.below hb6); have HX6 := Lib.hid (HX5.out.below hb6); have HY6 := Lib.hid (HY5.out.below hb6); clear hb6)
    | (refine wp_storeLeft (.tmp 31) (.tmp 30) rfl rfl rfl rfl HR6.out ?_; intro W7 hb7 ho7; have HR7 := Lib.hid hb7; have HX7 := Lib.hid (HX6.out.only ho7 (Nat.ne_of_lt HX4.out.lt)); have HQ7 := Lib.hid (HQ6.out.only ho7 (Nat.ne_of_lt HQ4.out.lt)); have HY7 := Lib.hid (HY6.out.only ho7 (Nat.ne_of_lt HY4.out.lt)); have d3 := HY7.out.cell (i := 3) rfl; have d2 := HY7.out.cell (i := 2) rfl; have c7 := HX7.out.cell (i := 3) rfl; have c6 := HX7.out.cell (i := 2) rfl; have HB7 := Lib.hid (HB6.out.trans (ho7.below HZ4.out)); clear hb7 ho7; simp only at c7 c6 d2 d3)
    | (go_at_call 74; refine (pair_b W7 r2 (r : Int)).mono ?_; rintro e W8 ⟨p, q, rfl, hp, hq, cp, cq, hb8⟩; have HPB := Lib.hid hp; have HQB := Lib.hid hq; have HCP := Lib.hid cp; have HCQ := Lib.hid cq; have HB8 := Lib.hid hb8; have HT8 := Lib.hid (HT.out.below (below_trans HB7.out hb8)); clear hp hq cp cq hb8)
    | (go_at_call 73; refine (HI.out _ W8.heap.size (HT8.out.below (below_alloc _ _)) (fun hf => by have := HT8.out.in_ _ hf; omega) (fun j hj => by obtain rfl : j = 0 := (by simpa using hj); exact ⟨_, cell_new1 rfl, pairOK (cell_past (below_alloc _ _) HCP.out) (cell_past (below_alloc _ _) HCQ.out) (fun hf => by have := HT.out.in_ _ hf; have := HB7.out.size; have := HPB.out; omega) (fun hf => by have := HT.out.in_ _ hf; have := HB7.out.size; have := HQB.out; omega)⟩)).mono ?_; rintro e W9 ⟨v9, F9, rfl, hk9, ht9, ho9⟩; have HK9 := Lib.hid hk9; have HT9 := Lib.hid ht9; have HO9 := Lib.hid ho9; clear hk9 ht9 ho9))
  go_ret2
  exact ⟨F9, rfl, ((KeptF.of_below HT.out.in_ (below_trans (below_trans HB7.out HB8.out) (below_alloc _ _))).trans HK9.out), HT9.out⟩
attribute [local go_sem ↓] load_fold
attribute [local go_sem] load_seqV
set_option maxRecDepth 100000 in
set_option maxHeartbeats 2000000 in
theorem prem13_F (F : FP) (w : World) (t : Value) (rows : List ND) (hF : TabF F w t rows) (s : SQ) (main : Nat) (hm : main < rows.length) (kd : Int) (nm : ByteArray) (l r : Nat) (hx : rowAt rows main = ⟨kd, nm, (l : Int), (r : Int)⟩) (hr : r < 1024)
    (kd2 : Int) (nm2 : ByteArray) (l2 r2 : Int) (hy : nodeAt rows (l : Int) = ⟨kd2, nm2, l2, r2⟩) (rows1 : List ND) (i : Nat) (hi : i < 1024) (hR : impsP [fun _ => (r2, (r : Int))] rows [] = ⟨rows1, 0, [(i : Int)]⟩) :
    Calls Tryd.prog 55 #[t, .agg (seqL s.left s.goal).toArray, .int .i64 13, .int .i64 (main : Int)] w (PremYes F w t rows1 [⟨withB (dropB s.left main) i, l⟩, ⟨withB (dropB s.left main) r, s.goal⟩]) := by
  have HB0 := Lib.hid (below_alloc w (.cells (seqL s.left s.goal).toArray 81))
  have HQ0 := Lib.hid (BoxB.new w (seqL s.left s.goal) 81)
  have HN1 := Lib.hid (rnode_is 0 _ w t rows (hF.col 0) main hm _ hx)
  have HR := Lib.hid hr
  clear hr
  have HN2 : Hid (∀ W, Below w.heap.size w W → Calls Tryd.prog 66 #[t, .int .i64 (l : Int)] W fun e w' => e = .returned (.agg (ND.mk kd2 nm2 l2 r2).cells.toArray) ∧ Below W.heap.size W w') := fun W hb => hy ▸ rnode_any 0 _ W t rows ((hF.col 0).below hb) (l : Int)
  have HM : Hid (main < 1024) := Nat.lt_of_lt_of_le hm hF.ok.le
  have HI : Hid (∀ W gb, TabF F W t rows → ¬ F gb → (∀ j (h : j < ([fun _ => (r2, (r : Int))] : List PairF).length), ∃ fv, W.cell? ⟨gb, j, none⟩ = some fv ∧ PairOK (fun W' => ∃ F', KeptF F W F' W') j fv ([fun _ => (r2, (r : Int))] : List PairF)[j]) → Calls Tryd.prog 73 #[t, .slice (some ⟨gb, 0, none⟩) 1 1] W (ImpsPost F W t ⟨rows1, 0, [(i : Int)]⟩)) := fun W gb ht hg hf => by
    have := imps_any F W t rows ht gb [fun _ => (r2, (r : Int))] (by simp) hg hf
    rw [hR] at this
    exact this
  have HII := Lib.hid hi
  clear hi
  have HT := Lib.hid hF
  simp only at HN1
  clear hF hx hy hm hR
  go_enter Tryd.func55, Tryd.ntmps55
  go_wp2_with (first
    | (go_at_call 66; refine (HN1.out _ HB0.out).mono ?_; rintro e W1 ⟨rfl, hb1⟩; have HB1 := Lib.hid (below_trans HB0.out hb1); have HQ1 := Lib.hid (HQ0.out.below hb1); clear hb1 HN1)
    | (refine wp_storeRow rNode (.tmp 10) (.tmp 21) rfl rfl rfl (ys := (ND.mk kd nm (l : Int) (r : Int)).cells) rfl (BoxB.new W1 zeroN.cells 45) rfl rfl (cells_one _) ?_; intro W2 hb2 ho2; have c2 := hb2.cell (i := 2) rfl; have HX2 := Lib.hid hb2; have HB12 := Lib.hid ((below_alloc W1 _).trans (ho2.below (Nat.le_refl _))); have HB2 := Lib.hid (HB1.out.trans (HB12.out.mono HB1.out.size)); have HQ2 := Lib.hid (HQ1.out.below HB12.out); clear hb2 ho2; simp only at c2)
    | (go_at_call 66; refine (HN2.out _ HB2.out).mono ?_; rintro e W3 ⟨rfl, hb3⟩; have HB3 := Lib.hid (below_trans HB2.out hb3); have HQ3 := Lib.hid (HQ2.out.below hb3); have HX3 := Lib.hid (HX2.out.below hb3); clear hb3 c2)
    | (refine wp_storeRow rNode (.tmp 11) (.tmp 25) rfl rfl rfl (ys := (ND.mk kd2 nm2 l2 r2).cells) rfl (BoxB.new W3 zeroN.cells 45) rfl rfl (cells_one _) ?_; intro W4 hb4 ho4; have HY4 := Lib.hid hb4; have HB34 := Lib.hid ((below_alloc W3 _).trans (ho4.below (Nat.le_refl _))); have HB4 := Lib.hid (HB3.out.trans (HB34.out.mono HB3.out.size)); have HQ4 := Lib.hid (HQ3.out.below HB34.out); have HX4 := Lib.hid (HX3.out.below HB34.out); clear hb4 ho4)
    | (refine wp_loadSeq (.tmp 5) rfl rfl rfl HQ4.out ?_)
    | (refine wp_storeSeq (.tmp 12) (.tmp 26) rfl rfl rfl rfl (BoxB.new W4 (seqL 0 0) 81) (seqL_len _ _) ?_; intro W5 hb5 ho5; have HR5 := Lib.hid hb5; have HB45 := Lib.hid ((below_alloc W4 _).trans (ho5.below (Nat.le_refl _))); have HB5 := Lib.hid (HB4.out.trans (HB45.out.mono HB4.out.size)); have HQ5 := Lib.hid (HQ4.out.below HB45.out); have HX5 := Lib.hid (HX4.out.below HB45.out); have HY5 := Lib.hid (HY4.out.below HB45.out); have HZ4 := Lib.hid HB4.out.size; have HZ5 := Lib.hid HB45.out.size; clear hb5 ho5)
    | (refine wp_loadLeft (.tmp 27) rfl rfl rfl HQ5.out ?_)
    | (go_at_call 71; refine (drop_any W5 s.left main HM.out).mono ?_; rintro e W6 ⟨rfl, hb6⟩; have HB6 := Lib.hid (HB5.out.trans (hb6.mono HB5.out.size)); have HR6 := Lib.hid (HR5.out.below hb6); have HQ6 := Lib.hid (HQ5.out.below hb6); have HX6 := Lib.hid (HX5.out.below hb6); have HY6 := Lib.hid (HY5.out.below hb6); clear hb6)
    | (refine wp_storeLeft (.tmp 31) (.tmp 30) rfl rfl rfl rfl HR6.out ?_; intro W7 hb7 ho7; have HR7 := Lib.hid hb7; have HX7 := Lib.hid (HX6.out.only ho7 (Nat.ne_of_lt HX4.out.lt)); have HQ7 := Lib.hid (HQ6.out.only ho7 (Nat.ne_of_lt HQ4.out.lt)); have HY7 := Lib.hid (HY6.out.only ho7 (Nat.ne_of_lt HY4.out.lt)); have d3 := HY7.out.cell (i := 3) rfl; have d2 := HY7.out.cell (i := 2) rfl; have c7 := HX7.out.cell (i := 3) rfl; have c6 := HX7.out.cell (i := 2) rfl; have HB7 := Lib.hid (HB6.out.trans (ho7.below HZ4.out)); clear hb7 ho7; simp only at c7 c6 d2 d3)
    | (go_at_call 74; refine (pair_b W7 r2 (r : Int)).mono ?_; rintro e W8 ⟨p, q, rfl, hp, hq, cp, cq, hb8⟩; have HPB := Lib.hid hp; have HQB := Lib.hid hq; have HCP := Lib.hid cp; have HCQ := Lib.hid cq; have HB8 := Lib.hid hb8; have HT8 := Lib.hid (HT.out.below (below_trans HB7.out hb8)); clear hp hq cp cq hb8)
    | (go_at_call 73; refine (HI.out _ W8.heap.size (HT8.out.below (below_alloc _ _)) (fun hf => by have := HT8.out.in_ _ hf; omega) (fun j hj => by obtain rfl : j = 0 := (by simpa using hj); exact ⟨_, cell_new1 rfl, pairOK (cell_past (below_alloc _ _) HCP.out) (cell_past (below_alloc _ _) HCQ.out) (fun hf => by have := HT.out.in_ _ hf; have := HB7.out.size; have := HPB.out; omega) (fun hf => by have := HT.out.in_ _ hf; have := HB7.out.size; have := HQB.out; omega)⟩)).mono ?_; rintro e W9 ⟨v9, F9, rfl, hk9, ht9, ho9⟩; have HKW := Lib.hid ((KeptF.of_below HT.out.in_ (below_trans (below_trans HB7.out HB8.out) (below_alloc _ _))).trans hk9); have HR9 := Lib.hid (((HR7.out.below HB8.out).below (below_alloc _ _)).keptF hk9 (fun hf => by have := HT.out.in_ _ hf; have := HB4.out.size; omega)); have HX9 := Lib.hid (((HX7.out.below HB8.out).below (below_alloc _ _)).keptF hk9 (fun hf => by have := HT.out.in_ _ hf; have := HB1.out.size; omega)); have HK9 := Lib.hid hk9; have HT9 := Lib.hid ht9; have HO9 := Lib.hid ho9; obtain ⟨g, c, rfl, hg, hcg⟩ := (ho9 rfl).form (by simp); have HCG := Lib.hid (hcg 0 _ rfl); have HNG := Lib.hid hg; clear hk9 ht9 ho9 hg hcg))
  have HK : Hid (∀ W', Below W9.heap.size W9 W' → Aft W9 W') := fun W' hb => hb
  have hld : ∀ W', Aft W9 W' → Loadable 81 W' (.pointer (some ⟨W4.heap.size, 0, none⟩)) := fun W' hb => (loadV_is (HR9.out.below hb).loads).1
  have hlv : ∀ W', Aft W9 W' → loadV 81 W' (.pointer (some ⟨W4.heap.size, 0, none⟩)) = _ := fun W' hb => (loadV_is (HR9.out.below hb).loads).2
  have hcl0 : ∀ W', Aft W9 W' → W'.cell? ⟨W1.heap.size, 2, none⟩ = some (.int .i64 (l : Int)) := fun W' hb => (HX9.out.below hb).cell (i := 2) rfl
  have hcl1 : ∀ W', Aft W9 W' → W'.cell? ⟨W1.heap.size, 3, none⟩ = some (.int .i64 (r : Int)) := fun W' hb => (HX9.out.below hb).cell (i := 3) rfl
  have HD := Lib.hid (below_drewN W9 1)
  have HW1 : Hid (∀ W : World, W.cell? ⟨g, 0, none⟩ = some (.int .i64 (i : Int)) → Calls Tryd.prog 72 #[.agg (seqL (dropB s.left main) s.goal).toArray, .slice (some ⟨g, 0, none⟩) 1 c] W fun e w' => e = .returned (.agg (seqL (withB (dropB s.left main) i) s.goal).toArray) ∧ Below W.heap.size W w') := fun W hj => by
    have := with_any W (dropB s.left main) s.goal g 0 c [i] (by simp) (by simpa using HII.out) (cell_j hj)
    rw [maskOf_one] at this
    exact this
  have HW2 : Hid (∀ (W : World) (g : Nat), W.cell? ⟨g, 0, none⟩ = some (.int .i64 (r : Int)) → Calls Tryd.prog 72 #[.agg (seqL (dropB s.left main) s.goal).toArray, .slice (some ⟨g, 0, none⟩) 1 1] W fun e w' => e = .returned (.agg (seqL (withB (dropB s.left main) r) s.goal).toArray) ∧ Below W.heap.size W w') := fun W g hj => by
    have := with_any W (dropB s.left main) s.goal g 0 1 [r] (by simp) (by simpa using HR.out) (cell_j hj)
    rw [maskOf_one] at this
    exact this
  have hfs : ∀ (l : List (Value × Nat)) (cs : Array Value), (List.foldl (fun (cs : Array Value) (x : Value × Nat) => cs.setIfInBounds x.2 x.1) cs l).size = cs.size := fold_size
  clear c6 c7 d2 d3
  as_aux_lemma =>
    go_region_held3 (fun W' => Aft W9 W')
      (((refine HK.out _ ?_; repeat (with_reducible first | exact HB12.out | exact HB11.out | exact HB10.out | exact Below.refl _ _ | exact HD.out | refine below_trans ?_ (below_alloc _ _) | refine below_trans ?_ (below_dr _)))))
      (first
        | (go_at_call 72; refine (HW1.out _ (by repeat (first | (with_reducible refine cell_dr ?_) | ((with_reducible refine cell_new1 ?_); first | rfl | (simp; done)) | (with_reducible refine cell_past (below_alloc _ _) ?_) | exact cell_past HD.out HCG.out | exact HCG.out))).mono ?_; clear HW1; rintro e W10 ⟨rfl, hb10⟩; have HB10 : Hid (Below W9.heap.size W9 W10) := below_trans (by repeat (with_reducible first | exact Below.refl _ _ | exact HD.out | refine below_trans ?_ (below_alloc _ _) | refine below_trans ?_ (below_dr _))) hb10; have HBB10 := Lib.hid hb10; clear hb10)
        | (go_at_call 76; refine (to_any _ (withB (dropB s.left main) i) s.goal (l : Int)).mono ?_; rintro e W11 ⟨rfl, hb11⟩; have HB11 : Hid (Below W9.heap.size W9 W11) := below_trans (by repeat (with_reducible first | exact Below.refl _ _ | exact HD.out | exact HB10.out | refine below_trans ?_ (below_alloc _ _) | refine below_trans ?_ (below_dr _))) hb11; have HBB11 := Lib.hid hb11; have hsl := seqL_len (withB (dropB s.left main) i) (l : Int); clear hb11)
        | (go_at_call 72; refine (HW2.out _ _ (by repeat (first | (with_reducible refine cell_dr ?_) | ((with_reducible refine cell_new1 ?_); first | rfl | (simp; done)) | (with_reducible refine cell_past (below_alloc _ _) ?_) | (with_reducible refine cell_past HBB11.out ?_) | (with_reducible refine cell_past HBB10.out ?_)))).mono ?_; rintro e W12 ⟨rfl, hb12⟩; have HB12 : Hid (Below W9.heap.size W9 W12) := below_trans (by repeat (with_reducible first | exact Below.refl _ _ | exact HD.out | exact HB11.out | refine below_trans ?_ (below_alloc _ _) | refine below_trans ?_ (below_dr _))) hb12; have hsl2 := seqL_len (withB (dropB s.left main) r) s.goal; clear hb12))
    all_goals
      as_aux_lemma =>
      go_wp2_with fail
      rw [fold_seq2 _ _ _ _ _ rfl]
      refine bodyPost_ret (v := .tuple #[.slice (some ⟨W12.heap.size, 0, none⟩) 2 2, .int .i64 0]) (by simp [results, Tryd.results55, go_sem]) rfl ?_
      exact prem_end HKW.out HT9.out HB12.out rfl (by simp [-List.flatMap_toArray])
end Go.Dk
end

section
namespace Go.Dk
open Go.RowKit Go.Maps Go.MapKept
open Go.Proofs hiding intOf
def AftK (F : FP) (W W' : World) : Prop := ∃ F', KeptF F W F' W'
theorem cell_two0 {W : World} {u v : Value} {T : TypeId} : (W.alloc (.cells #[u, v] T)).cell? ⟨W.heap.size, 0, none⟩ = some u := World.cell?_alloc_at _ _ _ _ rfl
theorem cell_two1 {W : World} {u v : Value} {T : TypeId} : (W.alloc (.cells #[u, v] T)).cell? ⟨W.heap.size, 1, none⟩ = some v := World.cell?_alloc_at _ _ _ _ rfl
theorem two_fs {W : World} {F : FP} {f1 f2 : Value} {T : TypeId} {g1 g2 : PairF} (h1 : PairOK (fun W' => ∃ F', KeptF F (W.alloc (.cells #[f1, f2] T)) F' W') 0 f1 g1) (h2 : PairOK (fun W' => ∃ F', KeptF F (W.alloc (.cells #[f1, f2] T)) F' W') 1 f2 g2) :
    ∀ j (h : j < ([g1, g2] : List PairF).length), ∃ fv, (W.alloc (.cells #[f1, f2] T)).cell? ⟨W.heap.size, j, none⟩ = some fv ∧ PairOK (fun W' => ∃ F', KeptF F (W.alloc (.cells #[f1, f2] T)) F' W') j fv ([g1, g2] : List PairF)[j] := fun j hj => by
  match j, hj with
  | 0, _ => exact ⟨f1, cell_two0, h1⟩
  | 1, _ => exact ⟨f2, cell_two1, h2⟩
  | j + 2, hj => exact absurd hj (by simp)
theorem two_ij {W : World} {g i j : Nat} (h1 : W.cell? ⟨g, 0, none⟩ = some (.int .i64 (i : Int))) (h2 : W.cell? ⟨g, 1, none⟩ = some (.int .i64 (j : Int))) : ∀ k (h : k < [i, j].length), W.cell? ⟨g, 0 + k, none⟩ = some (.int .i64 (([i, j][k] : Nat) : Int)) := fun k hk => by
  match k, hk with
  | 0, _ => exact h1
  | 1, _ => exact h2
  | k + 2, hk => exact absurd hk (by simp)
theorem notF {F : FP} {w W W' : World} {p : Nat} (hF : F.in_ w) (h1 : Below w.heap.size w W) (h2 : Below W.heap.size W W') (hp : W'.heap.size ≤ p) : ¬ F p := fun hf => by
  have := hF _ hf
  have := h1.size
  have := h2.size
  omega
set_option maxRecDepth 100000 in
set_option maxHeartbeats 2000000 in
theorem prem7e_F (F : FP) (w : World) (t : Value) (rows : List ND) (hF : TabF F w t rows) (s : SQ) (main : Nat) (hm : main < rows.length) (kd : Int) (nm : ByteArray) (l r : Nat) (hx : rowAt rows main = ⟨kd, nm, (l : Int), (r : Int)⟩) (hr : r < 1024)
    (kd2 : Int) (nm2 : ByteArray) (l2 r2 : Int) (hy : nodeAt rows (l : Int) = ⟨kd2, nm2, l2, r2⟩) (rows1 : List ND) (er : Int) (her : er ≠ 0) (hR : impsP [fun _ => (l2, (r : Int)), fun _ => (r2, (r : Int))] rows [] = ⟨rows1, er, []⟩) :
    Calls Tryd.prog 55 #[t, .agg (seqL s.left s.goal).toArray, .int .i64 7, .int .i64 (main : Int)] w (PremErr F w t rows1 er) := by
  have HB0 := Lib.hid (below_alloc w (.cells (seqL s.left s.goal).toArray 81))
  have HQ0 := Lib.hid (BoxB.new w (seqL s.left s.goal) 81)
  have HN1 := Lib.hid (rnode_is 0 _ w t rows (hF.col 0) main hm _ hx)
  have HR := Lib.hid hr
  clear hr
  have HN2 : Hid (∀ W, Below w.heap.size w W → Calls Tryd.prog 66 #[t, .int .i64 (l : Int)] W fun e w' => e = .returned (.agg (ND.mk kd2 nm2 l2 r2).cells.toArray) ∧ Below W.heap.size W w') := fun W hb => hy ▸ rnode_any 0 _ W t rows ((hF.col 0).below hb) (l : Int)
  have HM : Hid (main < 1024) := Nat.lt_of_lt_of_le hm hF.ok.le
  have HI : Hid (∀ W gb, TabF F W t rows → ¬ F gb → (∀ j (h : j < ([fun _ => (l2, (r : Int)), fun _ => (r2, (r : Int))] : List PairF).length), ∃ fv, W.cell? ⟨gb, j, none⟩ = some fv ∧ PairOK (fun W' => ∃ F', KeptF F W F' W') j fv ([fun _ => (l2, (r : Int)), fun _ => (r2, (r : Int))] : List PairF)[j]) → Calls Tryd.prog 73 #[t, .slice (some ⟨gb, 0, none⟩) 2 2] W (ImpsPost F W t ⟨rows1, er, []⟩)) := fun W gb ht hg hf => by
    have := imps_any F W t rows ht gb [fun _ => (l2, (r : Int)), fun _ => (r2, (r : Int))] (by simp) hg hf
    rw [hR] at this
    exact this
  have hz2 : (er != 0) = true := by simpa using her
  clear her
  have HT := Lib.hid hF
  simp only at HN1
  clear hF hx hy hm hR
  go_enter Tryd.func55, Tryd.ntmps55
  go_wp2_with (first
    | (go_at_call 66; refine (HN1.out _ HB0.out).mono ?_; rintro e W1 ⟨rfl, hb1⟩; have HB1 := Lib.hid (below_trans HB0.out hb1); have HQ1 := Lib.hid (HQ0.out.below hb1); clear hb1 HN1)
    | (refine wp_storeRow rNode (.tmp 10) (.tmp 21) rfl rfl rfl (ys := (ND.mk kd nm (l : Int) (r : Int)).cells) rfl (BoxB.new W1 zeroN.cells 45) rfl rfl (cells_one _) ?_; intro W2 hb2 ho2; have c2 := hb2.cell (i := 2) rfl; have HX2 := Lib.hid hb2; have HB12 := Lib.hid ((below_alloc W1 _).trans (ho2.below (Nat.le_refl _))); have HB2 := Lib.hid (HB1.out.trans (HB12.out.mono HB1.out.size)); have HQ2 := Lib.hid (HQ1.out.below HB12.out); clear hb2 ho2; simp only at c2)
    | (go_at_call 66; refine (HN2.out _ HB2.out).mono ?_; rintro e W3 ⟨rfl, hb3⟩; have HB3 := Lib.hid (below_trans HB2.out hb3); have HQ3 := Lib.hid (HQ2.out.below hb3); have HX3 := Lib.hid (HX2.out.below hb3); clear hb3 c2)
    | (refine wp_storeRow rNode (.tmp 11) (.tmp 25) rfl rfl rfl (ys := (ND.mk kd2 nm2 l2 r2).cells) rfl (BoxB.new W3 zeroN.cells 45) rfl rfl (cells_one _) ?_; intro W4 hb4 ho4; have HY4 := Lib.hid hb4; have HB34 := Lib.hid ((below_alloc W3 _).trans (ho4.below (Nat.le_refl _))); have HB4 := Lib.hid (HB3.out.trans (HB34.out.mono HB3.out.size)); have HQ4 := Lib.hid (HQ3.out.below HB34.out); have HX4 := Lib.hid (HX3.out.below HB34.out); clear hb4 ho4)
    | (refine wp_loadSeq (.tmp 5) rfl rfl rfl HQ4.out ?_)
    | (refine wp_storeSeq (.tmp 12) (.tmp 26) rfl rfl rfl rfl (BoxB.new W4 (seqL 0 0) 81) (seqL_len _ _) ?_; intro W5 hb5 ho5; have HR5 := Lib.hid hb5; have HB45 := Lib.hid ((below_alloc W4 _).trans (ho5.below (Nat.le_refl _))); have HB5 := Lib.hid (HB4.out.trans (HB45.out.mono HB4.out.size)); have HQ5 := Lib.hid (HQ4.out.below HB45.out); have HX5 := Lib.hid (HX4.out.below HB45.out); have HY5 := Lib.hid (HY4.out.below HB45.out); have HZ4 := Lib.hid HB4.out.size; have HZ5 := Lib.hid HB45.out.size; clear hb5 ho5)
    | (refine wp_loadLeft (.tmp 27) rfl rfl rfl HQ5.out ?_)
    | (go_at_call 71; refine (drop_any W5 s.left main HM.out).mono ?_; rintro e W6 ⟨rfl, hb6⟩; have HB6 := Lib.hid (HB5.out.trans (hb6.mono HB5.out.size)); have HR6 := Lib.hid (HR5.out.below hb6); have HQ6 := Lib.hid (HQ5.out.below hb6); have HX6 := Lib.hid (HX5.out.below hb6); have HY6 := Lib.hid (HY5.out.below hb6); clear hb6)
    | (refine wp_storeLeft (.tmp 31) (.tmp 30) rfl rfl rfl rfl HR6.out ?_; intro W7 hb7 ho7; have HR7 := Lib.hid hb7; have HX7 := Lib.hid (HX6.out.only ho7 (Nat.ne_of_lt HX4.out.lt)); have HQ7 := Lib.hid (HQ6.out.only ho7 (Nat.ne_of_lt HQ4.out.lt)); have HY7 := Lib.hid (HY6.out.only ho7 (Nat.ne_of_lt HY4.out.lt)); have d3 := HY7.out.cell (i := 3) rfl; have d2 := HY7.out.cell (i := 2) rfl; have c7 := HX7.out.cell (i := 3) rfl; have c6 := HX7.out.cell (i := 2) rfl; have HB7 := Lib.hid (HB6.out.trans (ho7.below HZ4.out)); clear hb7 ho7; simp only at c7 c6 d2 d3))
  have HK : Hid (∀ W', Below W7.heap.size W7 W' → AftK F W7 W') := fun W' hb => ⟨F, KeptF.of_below (HT.out.below HB7.out).in_ hb⟩
  have hw1 := HB1.out.size; have hw4 := HB34.out.size; have hw3 := HB3.out.size
  have HNX : Hid (¬ F W1.heap.size) := fun hf => by have := HT.out.in_ _ hf; omega
  have HNY : Hid (¬ F W3.heap.size) := fun hf => by have := HT.out.in_ _ hf; omega
  clear hw1 hw4 hw3
  have hcl0 : ∀ W', AftK F W7 W' → W'.cell? ⟨W3.heap.size, 2, none⟩ = some (.int .i64 l2) := fun W' ⟨F', hk⟩ => hk.cell d2 HNY.out
  have hcl1 : ∀ W', AftK F W7 W' → W'.cell? ⟨W3.heap.size, 3, none⟩ = some (.int .i64 r2) := fun W' ⟨F', hk⟩ => hk.cell d3 HNY.out
  have hcl2 : ∀ W', AftK F W7 W' → W'.cell? ⟨W1.heap.size, 3, none⟩ = some (.int .i64 (r : Int)) := fun W' ⟨F', hk⟩ => hk.cell c7 HNX.out
  have HD := Lib.hid (below_drewN W7 1)
  have HP1 : Hid (∀ W, Calls Tryd.prog 74 #[.int .i64 l2, .int .i64 (r : Int)] W (PairPost W l2 (r : Int))) := fun W => pair_b W _ _
  have HP2 : Hid (∀ W, Calls Tryd.prog 74 #[.int .i64 r2, .int .i64 (r : Int)] W (PairPost W r2 (r : Int))) := fun W => pair_b W _ _
  clear c6 c7 d2 d3
  go_region_held3 (fun W' => AftK F W7 W')
    ((first | exact HKI.out | (refine HK.out _ ?_; repeat (with_reducible first | exact HB9.out | exact HB8.out | exact Below.refl _ _ | exact HD.out | refine below_trans ?_ (below_alloc _ _) | refine below_trans ?_ (below_dr _)))))
    (first
      | (go_at_call 74; refine (HP1.out _).mono ?_; clear HP1; rintro e W8 ⟨p, q, rfl, hp, hq, cp, cq, hb8⟩; have HPB := Lib.hid hp; have HQB := Lib.hid hq; have HCP := Lib.hid cp; have HCQ := Lib.hid cq; have HB8 : Hid (Below W7.heap.size W7 W8) := below_trans HD.out hb8; clear hp hq cp cq hb8)
      | (go_at_call 74; refine (HP2.out W8).mono ?_; clear HP2; rintro e W9 ⟨p2, q2, rfl, hp, hq, cp, cq, hb9⟩; have HPB2 := Lib.hid hp; have HQB2 := Lib.hid hq; have HCP2 := Lib.hid cp; have HCQ2 := Lib.hid cq; have HCP1 := Lib.hid (cell_past hb9 HCP.out); have HCQ1 := Lib.hid (cell_past hb9 HCQ.out); have HB9 : Hid (Below W7.heap.size W7 W9) := below_trans HB8.out hb9; have HT9 := Lib.hid (HT.out.below (below_trans HB7.out HB9.out)); clear hp hq cp cq hb9)
      | (go_at_call 73; refine (HI.out _ W9.heap.size (HT9.out.below (below_alloc _ _)) (fun hf => by have := HT9.out.in_ _ hf; omega) (two_fs (pairOK (cell_past (below_alloc _ _) HCP1.out) (cell_past (below_alloc _ _) HCQ1.out) (notF HT.out.in_ HB7.out HD.out HPB.out) (notF HT.out.in_ HB7.out HD.out HQB.out)) (pairOK (cell_past (below_alloc _ _) HCP2.out) (cell_past (below_alloc _ _) HCQ2.out) (notF HT.out.in_ HB7.out HB8.out HPB2.out) (notF HT.out.in_ HB7.out HB8.out HQB2.out)))).mono ?_; rintro e W10 ⟨v9, F9, rfl, hk9, ht9, ho9⟩; have HKJ := Lib.hid ((KeptF.of_below (HT.out.below HB7.out).in_ (below_trans HB9.out (below_alloc _ _))).trans hk9); have HKI : Hid (AftK F W7 W10) := ⟨F9, HKJ.out⟩; have HT10 := Lib.hid ht9; have HO9 := Lib.hid ho9; clear hk9 ht9 ho9))
  go_wp2_with fail
  go_ret2
  exact ⟨F9, rfl, (KeptF.of_below HT.out.in_ HB7.out).trans HKJ.out, HT10.out⟩
set_option maxRecDepth 100000 in
set_option maxHeartbeats 2000000 in
theorem prem7_F (F : FP) (w : World) (t : Value) (rows : List ND) (hF : TabF F w t rows) (s : SQ) (main : Nat) (hm : main < rows.length) (kd : Int) (nm : ByteArray) (l r : Nat) (hx : rowAt rows main = ⟨kd, nm, (l : Int), (r : Int)⟩) (hr : r < 1024)
    (kd2 : Int) (nm2 : ByteArray) (l2 r2 : Int) (hy : nodeAt rows (l : Int) = ⟨kd2, nm2, l2, r2⟩) (rows1 : List ND) (i j : Nat) (hi : i < 1024) (hj : j < 1024) (hR : impsP [fun _ => (l2, (r : Int)), fun _ => (r2, (r : Int))] rows [] = ⟨rows1, 0, [(i : Int), (j : Int)]⟩) :
    Calls Tryd.prog 55 #[t, .agg (seqL s.left s.goal).toArray, .int .i64 7, .int .i64 (main : Int)] w (PremYes F w t rows1 [⟨withB (withB (dropB s.left main) i) j, s.goal⟩]) := by
  have HB0 := Lib.hid (below_alloc w (.cells (seqL s.left s.goal).toArray 81))
  have HQ0 := Lib.hid (BoxB.new w (seqL s.left s.goal) 81)
  have HN1 := Lib.hid (rnode_is 0 _ w t rows (hF.col 0) main hm _ hx)
  have HR := Lib.hid hr
  clear hr
  have HN2 : Hid (∀ W, Below w.heap.size w W → Calls Tryd.prog 66 #[t, .int .i64 (l : Int)] W fun e w' => e = .returned (.agg (ND.mk kd2 nm2 l2 r2).cells.toArray) ∧ Below W.heap.size W w') := fun W hb => hy ▸ rnode_any 0 _ W t rows ((hF.col 0).below hb) (l : Int)
  have HM : Hid (main < 1024) := Nat.lt_of_lt_of_le hm hF.ok.le
  have HI : Hid (∀ W gb, TabF F W t rows → ¬ F gb → (∀ j (h : j < ([fun _ => (l2, (r : Int)), fun _ => (r2, (r : Int))] : List PairF).length), ∃ fv, W.cell? ⟨gb, j, none⟩ = some fv ∧ PairOK (fun W' => ∃ F', KeptF F W F' W') j fv ([fun _ => (l2, (r : Int)), fun _ => (r2, (r : Int))] : List PairF)[j]) → Calls Tryd.prog 73 #[t, .slice (some ⟨gb, 0, none⟩) 2 2] W (ImpsPost F W t ⟨rows1, 0, [(i : Int), (j : Int)]⟩)) := fun W gb ht hg hf => by
    have := imps_any F W t rows ht gb [fun _ => (l2, (r : Int)), fun _ => (r2, (r : Int))] (by simp) hg hf
    rw [hR] at this
    exact this
  have HII := Lib.hid hi
  have HJJ := Lib.hid hj
  clear hi hj
  have HT := Lib.hid hF
  simp only at HN1
  clear hF hx hy hm hR
  go_enter Tryd.func55, Tryd.ntmps55
  go_wp2_with (first
    | (go_at_call 66; refine (HN1.out _ HB0.out).mono ?_; rintro e W1 ⟨rfl, hb1⟩; have HB1 := Lib.hid (below_trans HB0.out hb1); have HQ1 := Lib.hid (HQ0.out.below hb1); clear hb1 HN1)
    | (refine wp_storeRow rNode (.tmp 10) (.tmp 21) rfl rfl rfl (ys := (ND.mk kd nm (l : Int) (r : Int)).cells) rfl (BoxB.new W1 zeroN.cells 45) rfl rfl (cells_one _) ?_; intro W2 hb2 ho2; have c2 := hb2.cell (i := 2) rfl; have HX2 := Lib.hid hb2; have HB12 := Lib.hid ((below_alloc W1 _).trans (ho2.below (Nat.le_refl _))); have HB2 := Lib.hid (HB1.out.trans (HB12.out.mono HB1.out.size)); have HQ2 := Lib.hid (HQ1.out.below HB12.out); clear hb2 ho2; simp only at c2)
    | (go_at_call 66; refine (HN2.out _ HB2.out).mono ?_; rintro e W3 ⟨rfl, hb3⟩; have HB3 := Lib.hid (below_trans HB2.out hb3); have HQ3 := Lib.hid (HQ2.out.below hb3); have HX3 := Lib.hid (HX2.out.below hb3); clear hb3 c2)
    | (refine wp_storeRow rNode (.tmp 11) (.tmp 25) rfl rfl rfl (ys := (ND.mk kd2 nm2 l2 r2).cells) rfl (BoxB.new W3 zeroN.cells 45) rfl rfl (cells_one _) ?_; intro W4 hb4 ho4; have HY4 := Lib.hid hb4; have HB34 := Lib.hid ((below_alloc W3 _).trans (ho4.below (Nat.le_refl _))); have HB4 := Lib.hid (HB3.out.trans (HB34.out.mono HB3.out.size)); have HQ4 := Lib.hid (HQ3.out.below HB34.out); have HX4 := Lib.hid (HX3.out.below HB34.out); clear hb4 ho4)
    | (refine wp_loadSeq (.tmp 5) rfl rfl rfl HQ4.out ?_)
    | (refine wp_storeSeq (.tmp 12) (.tmp 26) rfl rfl rfl rfl (BoxB.new W4 (seqL 0 0) 81) (seqL_len _ _) ?_; intro W5 hb5 ho5; have HR5 := Lib.hid hb5; have HB45 := Lib.hid ((below_alloc W4 _).trans (ho5.below (Nat.le_refl _))); have HB5 := Lib.hid (HB4.out.trans (HB45.out.mono HB4.out.size)); have HQ5 := Lib.hid (HQ4.out.below HB45.out); have HX5 := Lib.hid (HX4.out.below HB45.out); have HY5 := Lib.hid (HY4.out.below HB45.out); have HZ4 := Lib.hid HB4.out.size; have HZ5 := Lib.hid HB45.out.size; clear hb5 ho5)
    | (refine wp_loadLeft (.tmp 27) rfl rfl rfl HQ5.out ?_)
    | (go_at_call 71; refine (drop_any W5 s.left main HM.out).mono ?_; rintro e W6 ⟨rfl, hb6⟩; have HB6 := Lib.hid (HB5.out.trans (hb6.mono HB5.out.size)); have HR6 := Lib.hid (HR5.out.below hb6); have HQ6 := Lib.hid (HQ5.out.below hb6); have HX6 := Lib.hid (HX5.out.below hb6); have HY6 := Lib.hid (HY5.out.below hb6); clear hb6)
    | (refine wp_storeLeft (.tmp 31) (.tmp 30) rfl rfl rfl rfl HR6.out ?_; intro W7 hb7 ho7; have HR7 := Lib.hid hb7; have HX7 := Lib.hid (HX6.out.only ho7 (Nat.ne_of_lt HX4.out.lt)); have HQ7 := Lib.hid (HQ6.out.only ho7 (Nat.ne_of_lt HQ4.out.lt)); have HY7 := Lib.hid (HY6.out.only ho7 (Nat.ne_of_lt HY4.out.lt)); have d3 := HY7.out.cell (i := 3) rfl; have d2 := HY7.out.cell (i := 2) rfl; have c7 := HX7.out.cell (i := 3) rfl; have c6 := HX7.out.cell (i := 2) rfl; have HB7 := Lib.hid (HB6.out.trans (ho7.below HZ4.out)); clear hb7 ho7; simp only at c7 c6 d2 d3))
  have HK : Hid (∀ W', Below W7.heap.size W7 W' → AftK F W7 W') := fun W' hb => ⟨F, KeptF.of_below (HT.out.below HB7.out).in_ hb⟩
  have hw1 := HB1.out.size; have hw4 := HB34.out.size; have hw3 := HB3.out.size
  have HNX : Hid (¬ F W1.heap.size) := fun hf => by have := HT.out.in_ _ hf; omega
  have HNY : Hid (¬ F W3.heap.size) := fun hf => by have := HT.out.in_ _ hf; omega
  clear hw1 hw4 hw3
  have hcl0 : ∀ W', AftK F W7 W' → W'.cell? ⟨W3.heap.size, 2, none⟩ = some (.int .i64 l2) := fun W' ⟨F', hk⟩ => hk.cell d2 HNY.out
  have hcl1 : ∀ W', AftK F W7 W' → W'.cell? ⟨W3.heap.size, 3, none⟩ = some (.int .i64 r2) := fun W' ⟨F', hk⟩ => hk.cell d3 HNY.out
  have hcl2 : ∀ W', AftK F W7 W' → W'.cell? ⟨W1.heap.size, 3, none⟩ = some (.int .i64 (r : Int)) := fun W' ⟨F', hk⟩ => hk.cell c7 HNX.out
  have HD := Lib.hid (below_drewN W7 1)
  have HP1 : Hid (∀ W, Calls Tryd.prog 74 #[.int .i64 l2, .int .i64 (r : Int)] W (PairPost W l2 (r : Int))) := fun W => pair_b W _ _
  have HP2 : Hid (∀ W, Calls Tryd.prog 74 #[.int .i64 r2, .int .i64 (r : Int)] W (PairPost W r2 (r : Int))) := fun W => pair_b W _ _
  clear c6 c7 d2 d3
  go_region_held3 (fun W' => AftK F W7 W')
    ((first | exact HKI.out | (refine HK.out _ ?_; repeat (with_reducible first | exact HB9.out | exact HB8.out | exact Below.refl _ _ | exact HD.out | refine below_trans ?_ (below_alloc _ _) | refine below_trans ?_ (below_dr _)))))
    (first
      | (go_at_call 74; refine (HP1.out _).mono ?_; clear HP1; rintro e W8 ⟨p, q, rfl, hp, hq, cp, cq, hb8⟩; have HPB := Lib.hid hp; have HQB := Lib.hid hq; have HCP := Lib.hid cp; have HCQ := Lib.hid cq; have HB8 : Hid (Below W7.heap.size W7 W8) := below_trans HD.out hb8; clear hp hq cp cq hb8)
      | (go_at_call 74; refine (HP2.out W8).mono ?_; clear HP2; rintro e W9 ⟨p2, q2, rfl, hp, hq, cp, cq, hb9⟩; have HPB2 := Lib.hid hp; have HQB2 := Lib.hid hq; have HCP2 := Lib.hid cp; have HCQ2 := Lib.hid cq; have HCP1 := Lib.hid (cell_past hb9 HCP.out); have HCQ1 := Lib.hid (cell_past hb9 HCQ.out); have HB9 : Hid (Below W7.heap.size W7 W9) := below_trans HB8.out hb9; have HT9 := Lib.hid (HT.out.below (below_trans HB7.out HB9.out)); clear hp hq cp cq hb9)
      | (go_at_call 73; refine (HI.out _ W9.heap.size (HT9.out.below (below_alloc _ _)) (fun hf => by have := HT9.out.in_ _ hf; omega) (two_fs (pairOK (cell_past (below_alloc _ _) HCP1.out) (cell_past (below_alloc _ _) HCQ1.out) (notF HT.out.in_ HB7.out HD.out HPB.out) (notF HT.out.in_ HB7.out HD.out HQB.out)) (pairOK (cell_past (below_alloc _ _) HCP2.out) (cell_past (below_alloc _ _) HCQ2.out) (notF HT.out.in_ HB7.out HB8.out HPB2.out) (notF HT.out.in_ HB7.out HB8.out HQB2.out)))).mono ?_; rintro e W10 ⟨v9, F9, rfl, hk9, ht9, ho9⟩; have HKJ := Lib.hid ((KeptF.of_below (HT.out.below HB7.out).in_ (below_trans HB9.out (below_alloc _ _))).trans hk9); have HKI : Hid (AftK F W7 W10) := ⟨F9, HKJ.out⟩; have HT10 := Lib.hid ht9; have HO9 := Lib.hid ho9; obtain ⟨g, c, rfl, hg, hcg⟩ := (ho9 rfl).form (by simp); have HCG := Lib.hid (hcg 0 _ rfl); have HCG2 := Lib.hid (hcg 1 _ rfl); clear hk9 ht9 ho9 hg hcg))
  have HR10 := Lib.hid (HR7.out.keptF HKJ.out (fun hf => by have := HT.out.in_ _ hf; have := HB4.out.size; omega))
  clear hcl0 hcl1 hcl2
  go_wp2_with (first
    | (refine wp_loadSeq (.tmp 12) rfl rfl rfl HR10.out ?_)
    | (go_at_call 72; refine (with_any W10 (dropB s.left main) s.goal g 0 c [i, j] (by simp) (fun n hn => by simp at hn; rcases hn with rfl | rfl; exact HII.out; exact HJJ.out) (two_ij HCG.out HCG2.out)).mono ?_; rintro e W11 ⟨rfl, hb11⟩; rw [mask_two]; have HB11 := Lib.hid hb11; have hsl := seqL_len (withB (withB (dropB s.left main) i) j) s.goal; clear hb11))
  rw [fold_seq]
  refine bodyPost_ret (v := .tuple #[.slice (some ⟨W11.heap.size, 0, none⟩) 1 1, .int .i64 0]) (by simp [results, Tryd.results55, go_sem]) rfl ?_
  exact prem_end ((KeptF.of_below HT.out.in_ HB7.out).trans HKJ.out) HT10.out HB11.out rfl (by simp)
end Go.Dk
end
