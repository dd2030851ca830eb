/- Contract: Example of the laws of decks. -/
import Derived.Test.YtafkifjebimdaaaGreatJAO
import Derived.Test.YtafkifjebimdaaaGreatJAP
import Derived.OwnWalk
set_option linter.all false
namespace Go.Proofs.YtafkifjebimdaaaGreat
open Go Go.RowKit Go.Proofs
set_option maxRecDepth 100000
set_option maxHeartbeats 8000000
theorem Tryz.seS : (Tryz.prog.info? 79).map (·.size) = some 3 := by kernel_rfl
theorem Tryz.seZ : ((Tryz.prog.info? 79).bind (·.zero)).isSome = true := by kernel_rfl
theorem Tryz.shS : (Tryz.prog.info? 131).map (·.size) = some 3 := by kernel_rfl
theorem Tryz.shZ : ((Tryz.prog.info? 131).bind (·.zero)).isSome = true := by kernel_rfl
theorem Tryz.spS : (Tryz.prog.info? 28).map (·.size) = some 2 := by kernel_rfl
theorem Tryz.spZ : ((Tryz.prog.info? 28).bind (·.zero)).isSome = true := by kernel_rfl
def exSl : List Value := [.agg #[.int .i64 300, .int .i64 60, .int .i64 28], .agg #[.int .i64 150, .int .i64 200, .int .i64 25]]
def exHl : List Value := [.agg #[.int .i64 0, .int .i64 12, .int .i64 2], .agg #[.int .i64 4, .int .i64 20, .int .i64 2]]
def exUl : List Value := [.agg #[.int .i64 6, .int .i64 6]]
theorem exSl_eq : (exSl.flatMap fun v => v.cells.toList) = (List.range (2 * 3)).map fun q => iV exDk.S (q / 3) (q % 3) := by rfl
theorem exHl_eq : (exHl.flatMap fun v => v.cells.toList) = (List.range (2 * 3)).map fun q => iV exDk.H (q / 3) (q % 3) := by rfl
theorem exUl_eq : (exUl.flatMap fun v => v.cells.toList) = (List.range (1 * 2)).map fun q => iV exDk.U (q / 2) (q % 2) := by rfl
theorem exSl_sz : ∀ v ∈ exSl, v.cells.size = 3 := by
  intro v hv; simp only [exSl, List.mem_cons, List.not_mem_nil, or_false] at hv; rcases hv with rfl | rfl <;> rfl
theorem exHl_sz : ∀ v ∈ exHl, v.cells.size = 3 := by
  intro v hv; simp only [exHl, List.mem_cons, List.not_mem_nil, or_false] at hv; rcases hv with rfl | rfl <;> rfl
theorem exUl_sz : ∀ v ∈ exUl, v.cells.size = 2 := by
  intro v hv; simp only [exUl, List.mem_cons, List.not_mem_nil, or_false] at hv; subst hv; rfl
theorem wpl_mk {ops : Array Oper} {rest : List Oper} {o : Oper} {a : Act} {w : World} {Q : Exit → Act → World → Prop} (hgd : o.guard = none) (l c : Operand) (ho : o.op = .makeSlice 35 l c) (hl : a.eval l = .int .i64 10) (hc : a.eval c = .int .i64 10)
    (h : ∀ w', Below w.heap.size w w' → w.heap.size < w'.heap.size → SlAt w' (.slice (some ⟨w.heap.size, 0, none⟩) 10 10) 10 1 (lV exMo.R) → wpList Tryz.prog ops Q rest (a.put o.dst (.slice (some ⟨w.heap.size, 0, none⟩) 10 10)) w') : wpList Tryz.prog ops Q (o :: rest) a w := by
  have hI := Tryz.intI
  cases hi : Tryz.prog.info? 3 with
  | none => rw [hi] at hI; cases hI
  | some i =>
    rw [hi] at hI
    simp only [Option.map_some, Option.some.injEq, Prod.mk.injEq] at hI
    obtain ⟨i1, i2, i3⟩ := hI
    refine wpList_make_full w hgd l c 35 ho w.heap.size 3 i (.int .i64 0) 1 Tryz.intsU hi i1 i2 .i64 .i64 10 10 10 hl hc rfl rfl (by rw [i3]; omega) (by decide) (Nat.le_refl _) (fun w' h1 h2 => ?_)
    have e : (madeCells (Value.cells (.int .i64 0)) (10 * 1)).toList = (List.range (10 * 1)).map fun q => lV exMo.R (q / 1) (q % 1) := by kernel_rfl
    rw [e] at h1
    obtain ⟨A', c', e2, q1, q2, q3⟩ := RecsAt.of_owns (V := lV exMo.R) (by omega) h1
    exact h w' (below_of_none h2) (owns_lt h1 rfl) ⟨A', c', e2, q1, q2, q3⟩
theorem res_cc3 {P : Program} {w : World} {fn : Func} {p q r : Tmp} {ty ty' ty2 : TypeId} (h : fn.results = #[.cell p ty, .cell q ty', .cell r ty2]) (tmps : Array Value) (g g' g2 : Nat) (cs cs' cs2 : Array Value) (n n' n2 : Nat) (hp : tmps.getD p undef = .pointer (some ⟨g, 0, none⟩)) (hq : tmps.getD q undef = .pointer (some ⟨g', 0, none⟩)) (hr2 : tmps.getD r undef = .pointer (some ⟨g2, 0, none⟩))
    (hB : w.heap[g]? = some (.cells cs ty (0, 0))) (hr : RowTy P ty n) (hn : cs.size = n) (hB' : w.heap[g']? = some (.cells cs' ty' (0, 0))) (hr' : RowTy P ty' n') (hn' : cs'.size = n') (hB2 : w.heap[g2]? = some (.cells cs2 ty2 (0, 0))) (hr3 : RowTy P ty2 n2) (hn2 : cs2.size = n2) : (results fn tmps).run P w = .ok (.tuple #[.agg cs, .agg cs', .agg cs2]) w := by
  have hp' : tmps[p]?.getD undef = .pointer (some ⟨g, 0, none⟩) := by simpa using hp
  have hq' : tmps[q]?.getD undef = .pointer (some ⟨g', 0, none⟩) := by simpa using hq
  have hr' : tmps[r]?.getD undef = .pointer (some ⟨g2, 0, none⟩) := by simpa using hr2
  simp [results, h, hp', hq', hr', asAddr, run_row hB hr hn, run_row hB' ‹RowTy P ty' n'› hn', run_row hB2 hr3 hn2]
theorem Tryz.sizeApp : (Tryz.prog.info? 43).map (·.size) = some 10 := by kernel_rfl
def eG (h : Nat) (c0 c1 : Array Value) : Nat → World → World → Prop
  | 5, a, b => b = a.setRow h c0
  | 6, a, b => b = a.setRow (h + 1) c1
  | _, a, b => b = a
def eJ (h : Nat) (W w : World) : Prop := w.os = W.os ∧ w.tape = W.tape ∧ w.output = W.output ∧ w.heap.size = W.heap.size ∧ ∀ k, k ≠ h → k ≠ h + 1 → w.heap[k]? = W.heap[k]?
def eI (h : Nat) : Nat → World → Prop
  | 5, w => Blk w h 26 #[.int .i64 0, .int .i64 0, .int .i64 0, .slice none 0 0, .int .i64 0, .int .i64 0, .int .i64 0, .int .i64 0, .slice none 0 0, .slice none 0 0]
  | 6, w => Blk w (h + 1) 37 #[.slice none 0 0, .slice none 0 0, .slice none 0 0]
  | _, _ => True
theorem eG_size {h : Nat} {c0 c1 : Array Value} (i : Nat) (a b : World) (g : eG h c0 c1 i a b) : a.heap.size ≤ b.heap.size := by
  unfold eG at g
  split at g <;> subst g <;> simp [World.setRow]
theorem eJ_row {h g : Nat} {W a : World} {cs : Array Value} (j : eJ h W a) (hg : g = h ∨ g = h + 1) : eJ h W (a.setRow g cs) :=
  ⟨j.1, j.2.1, j.2.2.1, by simpa [World.setRow] using j.2.2.2.1, fun k h1 h2 => (setRow_other a g k cs (by omega)).trans (j.2.2.2.2 k h1 h2)⟩
theorem eG_J {h : Nat} {c0 c1 : Array Value} {W : World} (i : Nat) (a b : World) (g : eG h c0 c1 i a b) (j : eJ h W a) : eJ h W b := by
  unfold eG at g
  split at g <;> subst g
  · exact eJ_row j (Or.inl rfl)
  · exact eJ_row j (Or.inr rfl)
  · exact j
theorem eG_I {ops : Array Oper} {h : Nat} {c0 c1 : Array Value} (k j : Nat) (a b : World) (hkj : k ≠ j) (_ : k ∉ depsOf ops j) (g : eG h c0 c1 j a b) (i : eI h k a) : eI h k b := by
  unfold eG at g
  split at g <;> subst g
  · unfold eI at *
    split <;> first | (rename_i hx; exact absurd rfl hkj) | exact absurd rfl hkj | exact wblk_setRow_ne i (by omega) | trivial
  · unfold eI at *
    split <;> first | exact absurd rfl hkj | exact wblk_setRow_ne i (by omega) | trivial
  · exact i
def eR (h : Nat) (c0 c1 c2 c3 c4 : Array Value) : Nat → Value → World → Prop
  | 0, v, _ => v = .agg c0
  | 1, v, _ => v = .agg c1
  | 2, v, _ => v = .agg c2
  | 3, v, _ => v = .agg c3
  | 4, v, _ => v = .agg c4
  | 5, v, w => Blk w h 26 c0
  | 6, v, w => Blk w (h + 1) 37 c1
  | _, _, _ => True
theorem eG_R {h : Nat} {c0 c1 c2 c3 c4 : Array Value} (k j : Nat) (v : Value) (a b : World) (hkj : k ≠ j) (g : eG h c0 c1 j a b) (r : eR h c0 c1 c2 c3 c4 k v a) : eR h c0 c1 c2 c3 c4 k v b := by
  unfold eG at g
  split at g <;> subst g
  · unfold eR at *
    split at r <;> first | exact r | exact absurd rfl hkj | exact wblk_setRow_ne r (by omega)
  · unfold eR at *
    split at r <;> first | exact r | exact absurd rfl hkj | exact wblk_setRow_ne r (by omega)
  · exact r
theorem slAt_blk {w : World} {g n : Nat} {T : TypeId} {cs : Array Value} {P : Nat → Int} (h : Blk w g T cs) (hs : g < w.heap.size) (hn : n ≤ 9223372036854775807) (hc : ∀ i, i < n → cs[i]? = some (.int .i64 (P i))) : SlAt w (.slice (some ⟨g, 0, none⟩) n n) n 1 (lV P) :=
  ⟨_, n, rfl, Nat.le_refl _, hn, fun _ => ⟨g, 0, rfl, hs, fun i hi j hj => by
    have : j = 0 := by omega
    subst this
    have e := hc i hi
    rw [Nat.zero_add, Nat.mul_one, Nat.add_zero]
    exact (h.cell i).trans e⟩⟩
theorem dExample_c (w : World) :
   Calls Tryz.prog 27 #[] w fun e w' => ∃ vA vB vC vP vR vV, e = .returned (.tuple #[.agg #[.int .i64 20, .int .i64 9000, .int .i64 40, vA, .int .i64 3, .int .i64 3, .int .i64 2, .int .i64 3, vB, vC], .agg #[vP, vR, vV], .agg #[.int .i64 18, .int .i64 8000, .int .i64 35, .int .i64 3000, .int .i64 400, .bool false, .bool false, .int .i64 0, .int .i64 90, .int .i64 100]]) ∧ Below w.heap.size w w' ∧ DekAt w' vA vB vC exDk ∧ MovAt w' vP vR vV exMo := by
  go_enter Tryz.func27, Tryz.ntmps27
  go_wp2_with (fail)
  have bR0 : Blk (((w.alloc (.cells #[.int .i64 0, .int .i64 0, .int .i64 0, .slice none 0 0, .int .i64 0, .int .i64 0, .int .i64 0, .int .i64 0, .slice none 0 0, .slice none 0 0] 26)).alloc (.cells #[.slice none 0 0, .slice none 0 0, .slice none 0 0] 37)).alloc (.cells #[.int .i64 0, .int .i64 0, .int .i64 0, .int .i64 0, .int .i64 0, .bool false, .bool false, .int .i64 0, .int .i64 0, .int .i64 0] 43)) (w.heap.size) 26 #[.int .i64 0, .int .i64 0, .int .i64 0, .slice none 0 0, .int .i64 0, .int .i64 0, .int .i64 0, .int .i64 0, .slice none 0 0, .slice none 0 0] := (by repeat (first | (refine Blk.newAt _ _ _ ?_; first | rfl | (simp; done)) | refine Blk.alloc ?_ _))
  have bR1 : Blk (((w.alloc (.cells #[.int .i64 0, .int .i64 0, .int .i64 0, .slice none 0 0, .int .i64 0, .int .i64 0, .int .i64 0, .int .i64 0, .slice none 0 0, .slice none 0 0] 26)).alloc (.cells #[.slice none 0 0, .slice none 0 0, .slice none 0 0] 37)).alloc (.cells #[.int .i64 0, .int .i64 0, .int .i64 0, .int .i64 0, .int .i64 0, .bool false, .bool false, .int .i64 0, .int .i64 0, .int .i64 0] 43)) (w.heap.size + 1) 37 #[.slice none 0 0, .slice none 0 0, .slice none 0 0] := (by repeat (first | (refine Blk.newAt _ _ _ ?_; first | rfl | (simp; done)) | refine Blk.alloc ?_ _))
  have bR2 : Blk (((w.alloc (.cells #[.int .i64 0, .int .i64 0, .int .i64 0, .slice none 0 0, .int .i64 0, .int .i64 0, .int .i64 0, .int .i64 0, .slice none 0 0, .slice none 0 0] 26)).alloc (.cells #[.slice none 0 0, .slice none 0 0, .slice none 0 0] 37)).alloc (.cells #[.int .i64 0, .int .i64 0, .int .i64 0, .int .i64 0, .int .i64 0, .bool false, .bool false, .int .i64 0, .int .i64 0, .int .i64 0] 43)) (w.heap.size + 1 + 1) 43 #[.int .i64 0, .int .i64 0, .int .i64 0, .int .i64 0, .int .i64 0, .bool false, .bool false, .int .i64 0, .int .i64 0, .int .i64 0] := (by repeat (first | (refine Blk.newAt _ _ _ ?_; first | rfl | (simp; done)) | refine Blk.alloc ?_ _))
  have bHB : Below w.heap.size w (((w.alloc (.cells #[.int .i64 0, .int .i64 0, .int .i64 0, .slice none 0 0, .int .i64 0, .int .i64 0, .int .i64 0, .int .i64 0, .slice none 0 0, .slice none 0 0] 26)).alloc (.cells #[.slice none 0 0, .slice none 0 0, .slice none 0 0] 37)).alloc (.cells #[.int .i64 0, .int .i64 0, .int .i64 0, .int .i64 0, .int .i64 0, .bool false, .bool false, .int .i64 0, .int .i64 0, .int .i64 0] 43)) := (by repeat' (first | exact Below.refl _ _ | assumption | refine Below.drew ?_ | refine bdn ?_ _ | refine bal ?_ _ | refine Below.setCell ?_ (by first | (simp; done) | omega | (simp; omega)) _))
  generalize (((w.alloc (.cells #[.int .i64 0, .int .i64 0, .int .i64 0, .slice none 0 0, .int .i64 0, .int .i64 0, .int .i64 0, .int .i64 0, .slice none 0 0, .slice none 0 0] 26)).alloc (.cells #[.slice none 0 0, .slice none 0 0, .slice none 0 0] 37)).alloc (.cells #[.int .i64 0, .int .i64 0, .int .i64 0, .int .i64 0, .int .i64 0, .bool false, .bool false, .int .i64 0, .int .i64 0, .int .i64 0] 43)) = W at *
  have zW := bR2.lt
  have R0 := Lib.hid bR0
  have R1 := Lib.hid bR1
  have R2 := Lib.hid bR2
  have HB := Lib.hid bHB
  clear bR0 bR1 bR2 bHB
  refine (wExample_c _).mono ?_
  rintro e w1 ⟨vF, vS, rfl, hb1, hA⟩
  have nR0 := Lib.hid (R0.out.below hb1)
  have nR1 := Lib.hid (R1.out.below hb1)
  have nR2 := Lib.hid (R2.out.below hb1)
  have nHB := Lib.hid (bthen HB.out hb1)
  clear R0 R1 R2 HB hb1
  have R0 := nR0
  have R1 := nR1
  have R2 := nR2
  have HB := nHB
  clear nR0 nR1 nR2 nHB
  have z1 := Lib.hid R2.out.lt
  obtain ⟨⟨A, cF, rfl, -, -, -⟩, ⟨A2, cS, rfl, -, -, -⟩⟩ := hA
  have tok1 : True := trivial
  go_wp2_with (first | (have _t := tok1; refine wpList_store_row rfl 34 (.tmp 3) (.tmp 9) rfl w1.heap.size #[.int .i64 2, .int .i64 0, .int .i64 60, .int .i64 0, .int .i64 10000, .int .i64 0, .int .i64 3000, .bool true, .bool true, .int .i64 5, .int .i64 1000, .int .i64 200, .slice A exM.n cF, .slice A2 exM.m cS] rfl rfl 34 #[.int .i64 0, .int .i64 0, .int .i64 0, .int .i64 0, .int .i64 0, .int .i64 0, .int .i64 0, .bool false, .bool false, .int .i64 0, .int .i64 0, .int .i64 0, .slice none 0 0, .slice none 0 0] ?_ Tryz.sizeMet rfl (oneM exM A A2 _ _ _ _) ?_; (focus exact (Blk.new w1 34 #[.int .i64 0, .int .i64 0, .int .i64 0, .int .i64 0, .int .i64 0, .int .i64 0, .int .i64 0, .bool false, .bool false, .int .i64 0, .int .i64 0, .int .i64 0, .slice none 0 0, .slice none 0 0]).alloc (.cells #[.int .i64 0, .int .i64 0, .int .i64 0, .bool false, .bool false] 41)); simp only [Act.put]; clear tok1; have hbx : Below w1.heap.size w1 (((w1.alloc (.cells #[.int .i64 0, .int .i64 0, .int .i64 0, .int .i64 0, .int .i64 0, .int .i64 0, .int .i64 0, .bool false, .bool false, .int .i64 0, .int .i64 0, .int .i64 0, .slice none 0 0, .slice none 0 0] 34)).alloc (.cells #[.int .i64 0, .int .i64 0, .int .i64 0, .bool false, .bool false] 41)).setRow w1.heap.size #[.int .i64 2, .int .i64 0, .int .i64 60, .int .i64 0, .int .i64 10000, .int .i64 0, .int .i64 3000, .bool true, .bool true, .int .i64 5, .int .i64 1000, .int .i64 200, .slice A exM.n cF, .slice A2 exM.m cS]) := below_row (bal (bal (Below.refl _ _) _) _) (Nat.le_refl _) _; have ZA := Lib.hid (wblk_setRow_ne (us := #[.int .i64 2, .int .i64 0, .int .i64 60, .int .i64 0, .int .i64 10000, .int .i64 0, .int .i64 3000, .bool true, .bool true, .int .i64 5, .int .i64 1000, .int .i64 200, .slice A exM.n cF, .slice A2 exM.m cS]) (g := w1.heap.size) (Blk.newA (g := w1.heap.size + 1) (w1.alloc (.cells #[.int .i64 0, .int .i64 0, .int .i64 0, .int .i64 0, .int .i64 0, .int .i64 0, .int .i64 0, .bool false, .bool false, .int .i64 0, .int .i64 0, .int .i64 0, .slice none 0 0, .slice none 0 0] 34)) 41 #[.int .i64 0, .int .i64 0, .int .i64 0, .bool false, .bool false] (by simp)) (by omega)); have HX := Lib.hid hbx; clear hbx; have tok2 : True := trivial) | (have _t := tok2; refine wpList_store_row rfl 41 (.tmp 4) (.tmp 10) rfl (w1.heap.size + 1) #[.int .i64 35, .int .i64 3000, .int .i64 400, .bool false, .bool false] rfl rfl 41 #[.int .i64 0, .int .i64 0, .int .i64 0, .bool false, .bool false] ZA.out Tryz.sizeMin rfl (one5 _ _ _ _ _) ?_; simp only [Act.put]; clear tok2; have hby := below_row HX.out (show w1.heap.size ≤ w1.heap.size + 1 by omega) #[.int .i64 35, .int .i64 3000, .int .i64 400, .bool false, .bool false]; have ZA2 := Lib.hid (wblk_setRow (cs := #[.int .i64 35, .int .i64 3000, .int .i64 400, .bool false, .bool false]) ZA.out); have P0 := Lib.hid (R0.out.below hby); have P1 := Lib.hid (R1.out.below hby); have P2 := Lib.hid (R2.out.below hby); have HB2 := Lib.hid (bthen HB.out hby); clear ZA HX hby HB R0 R1 R2; generalize World.setRow _ _ _ = W2 at *; have tok3 : True := trivial) | (have _t := tok3; refine wpl_recs rfl 22 79 2 _ 3 exSl (iV exDk.S) rfl Tryz.seU Tryz.seS Tryz.seZ rfl (by omega) (by omega) (by omega) exSl_sz (by rfl) exSl_eq ?_))
  have HB := HB2
  clear HB2
  intro g1 w2 hb2 hg1 hr1
  clear tok3
  have hP := P2.out.lt
  have N1 := Lib.hid (show SlN (w.heap.size + 1 + 1 + 1) w2 (.slice (some ⟨g1, 0, none⟩) 2 2) 2 3 (iV exDk.S) from ⟨⟨_, 2, rfl, Nat.le_refl _, by omega, hr1⟩, fun b hb => by cases hb; show _ ≤ g1; omega⟩)
  clear hg1 hr1 hP
  have nP0 := Lib.hid (P0.out.below hb2)
  have nP1 := Lib.hid (P1.out.below hb2)
  have nP2 := Lib.hid (P2.out.below hb2)
  have nZA2 := Lib.hid (ZA2.out.below hb2)
  have nHB := Lib.hid (bthen HB.out hb2)
  clear P0 P1 P2 ZA2 HB hb2
  have P0 := nP0
  have P1 := nP1
  have P2 := nP2
  have ZA2 := nZA2
  have HB := nHB
  clear nP0 nP1 nP2 nZA2 nHB
  have tok4 : True := trivial
  go_wp2_with (first | (have _t := tok4; refine wpl_recs rfl 23 131 2 _ 3 exHl (iV exDk.H) rfl Tryz.shU Tryz.shS Tryz.shZ rfl (by omega) (by omega) (by omega) exHl_sz (by rfl) exHl_eq ?_))
  intro g2 w3 hb3 hg2 hr2
  clear tok4
  have hP := P2.out.lt
  have N2 := Lib.hid (show SlN (w.heap.size + 1 + 1 + 1) w3 (.slice (some ⟨g2, 0, none⟩) 2 2) 2 3 (iV exDk.H) from ⟨⟨_, 2, rfl, Nat.le_refl _, by omega, hr2⟩, fun b hb => by cases hb; show _ ≤ g2; omega⟩)
  have N1b := Lib.hid (N1.out.below hb3)
  clear hg2 hr2 hP N1
  have nP0 := Lib.hid (P0.out.below hb3)
  have nP1 := Lib.hid (P1.out.below hb3)
  have nP2 := Lib.hid (P2.out.below hb3)
  have nZA2 := Lib.hid (ZA2.out.below hb3)
  have nHB := Lib.hid (bthen HB.out hb3)
  clear P0 P1 P2 ZA2 HB hb3
  have P0 := nP0
  have P1 := nP1
  have P2 := nP2
  have ZA2 := nZA2
  have HB := nHB
  clear nP0 nP1 nP2 nZA2 nHB
  have tok5 : True := trivial
  go_wp2_with (first | (have _t := tok5; refine wpl_recs rfl 24 28 1 _ 2 exUl (iV exDk.U) rfl Tryz.spU2 Tryz.spS Tryz.spZ rfl (by omega) (by omega) (by omega) exUl_sz (by rfl) exUl_eq ?_))
  intro g3 w4 hb4 hg3 hr3
  clear tok5
  have hP := P2.out.lt
  have N3 := Lib.hid (show SlN (w.heap.size + 1 + 1 + 1) w4 (.slice (some ⟨g3, 0, none⟩) 1 1) 1 2 (iV exDk.U) from ⟨⟨_, 1, rfl, Nat.le_refl _, by omega, hr3⟩, fun b hb => by cases hb; show _ ≤ g3; omega⟩)
  have N1c := Lib.hid (N1b.out.below hb4)
  have N2b := Lib.hid (N2.out.below hb4)
  clear hg3 hr3 hP N1b N2
  have nP0 := Lib.hid (P0.out.below hb4)
  have nP1 := Lib.hid (P1.out.below hb4)
  have nP2 := Lib.hid (P2.out.below hb4)
  have nZA2 := Lib.hid (ZA2.out.below hb4)
  have nHB := Lib.hid (bthen HB.out hb4)
  clear P0 P1 P2 ZA2 HB hb4
  have P0 := nP0
  have P1 := nP1
  have P2 := nP2
  have ZA2 := nZA2
  have HB := nHB
  clear nP0 nP1 nP2 nZA2 nHB
  have z4 := Lib.hid P2.out.lt
  have tok6 : True := trivial
  go_wp2_with (first | (refine wpl_buildw rfl 26 _ rfl #[.int .i64 20, .int .i64 9000, .int .i64 40, .slice (some ⟨g1, 0, none⟩) 2 2, .int .i64 3, .int .i64 3, .int .i64 2, .int .i64 3, .slice (some ⟨g2, 0, none⟩) 2 2, .slice (some ⟨g3, 0, none⟩) 1 1] (by kernel_rfl) ?_; simp only [Act.put]) | (have _t := tok6; refine wpl_store_newW rfl 26 (.tmp 5) (.tmp 19) rfl #[.int .i64 20, .int .i64 9000, .int .i64 40, .slice (some ⟨g1, 0, none⟩) 2 2, .int .i64 3, .int .i64 3, .int .i64 2, .int .i64 3, .slice (some ⟨g2, 0, none⟩) 2 2, .slice (some ⟨g3, 0, none⟩) 1 1] _ _ rfl ?_ rfl Tryz.sizeDek rfl (by simp [Value.oneCell']) ?_; (focus (simp; done)); simp only [Act.put]; clear tok6; have tok7 : True := trivial) | (have _t := tok7; refine wpl_mk rfl _ _ rfl rfl rfl ?_))
  intro w5 hb5 hs5 hv5
  clear tok7
  have hz5 := hb5.size
  simp only [World.size_alloc] at hz5
  have HD := Lib.hid (Blk.under ((Blk.new w4 26 #[.int .i64 20, .int .i64 9000, .int .i64 40, .slice (some ⟨g1, 0, none⟩) 2 2, .int .i64 3, .int .i64 3, .int .i64 2, .int .i64 3, .slice (some ⟨g2, 0, none⟩) 2 2, .slice (some ⟨g3, 0, none⟩) 1 1]).alloc (.cells #[.int .i64 0, .int .i64 1, .int .i64 4, .int .i64 0, .int .i64 0, .int .i64 1, .int .i64 1, .int .i64 0, .int .i64 0, .int .i64 0] 3)) hb5 (by omega))
  have HP := Lib.hid (Blk.under (Blk.newA (g := w4.heap.size + 1) (w4.alloc (.cells #[.int .i64 20, .int .i64 9000, .int .i64 40, .slice (some ⟨g1, 0, none⟩) 2 2, .int .i64 3, .int .i64 3, .int .i64 2, .int .i64 3, .slice (some ⟨g2, 0, none⟩) 2 2, .slice (some ⟨g3, 0, none⟩) 1 1] 26)) 3 #[.int .i64 0, .int .i64 1, .int .i64 4, .int .i64 0, .int .i64 0, .int .i64 1, .int .i64 1, .int .i64 0, .int .i64 0, .int .i64 0] (by simp)) hb5 (by omega))
  have hbx := (bal (bal (Below.refl w4.heap.size w4) (.cells #[.int .i64 20, .int .i64 9000, .int .i64 40, .slice (some ⟨g1, 0, none⟩) 2 2, .int .i64 3, .int .i64 3, .int .i64 2, .int .i64 3, .slice (some ⟨g2, 0, none⟩) 2 2, .slice (some ⟨g3, 0, none⟩) 1 1] 26)) (.cells #[.int .i64 0, .int .i64 1, .int .i64 4, .int .i64 0, .int .i64 0, .int .i64 1, .int .i64 1, .int .i64 0, .int .i64 0, .int .i64 0] 3)).trans (hb5.mono (by omega))
  have N1d := Lib.hid (N1c.out.below hbx)
  have N2c := Lib.hid (N2b.out.below hbx)
  have N3b := Lib.hid (N3.out.below hbx)
  have HV5 := Lib.hid hv5
  clear N1c N2b N3 hv5 hb5
  have nP0 := Lib.hid (P0.out.below hbx)
  have nP1 := Lib.hid (P1.out.below hbx)
  have nP2 := Lib.hid (P2.out.below hbx)
  have nZA2 := Lib.hid (ZA2.out.below hbx)
  have nHB := Lib.hid (bthen HB.out hbx)
  clear P0 P1 P2 ZA2 HB hbx
  have P0 := nP0
  have P1 := nP1
  have P2 := nP2
  have ZA2 := nZA2
  have HB := nHB
  clear nP0 nP1 nP2 nZA2 nHB
  have z5 := Lib.hid P2.out.lt
  go_wp2_with (fail)
  have hby : Below w5.heap.size w5 ((w5.alloc (.cells #[.int .i64 0, .int .i64 1, .int .i64 2, .int .i64 2, .int .i64 5, .int .i64 6, .int .i64 6, .int .i64 7, .int .i64 7, .int .i64 8] 3)).alloc (.cells #[.slice (some ⟨w4.heap.size + 1, 0, none⟩) 10 10, .slice (some ⟨w4.heap.size + 1 + 1, 0, none⟩) 10 10, .slice (some ⟨w5.heap.size, 0, none⟩) 10 10] 37)) := bal (bal (Below.refl _ _) _) _
  have HD2 := Lib.hid (HD.out.below hby)
  have HP2 := Lib.hid (HP.out.below hby)
  have HH2 := Lib.hid ((Blk.new w5 3 #[.int .i64 0, .int .i64 1, .int .i64 2, .int .i64 2, .int .i64 5, .int .i64 6, .int .i64 6, .int .i64 7, .int .i64 7, .int .i64 8]).alloc (.cells #[.slice (some ⟨w4.heap.size + 1, 0, none⟩) 10 10, .slice (some ⟨w4.heap.size + 1 + 1, 0, none⟩) 10 10, .slice (some ⟨w5.heap.size, 0, none⟩) 10 10] 37))
  have HM2 := Lib.hid (Blk.newA (g := w5.heap.size + 1) (w5.alloc (.cells #[.int .i64 0, .int .i64 1, .int .i64 2, .int .i64 2, .int .i64 5, .int .i64 6, .int .i64 6, .int .i64 7, .int .i64 7, .int .i64 8] 3)) 37 #[.slice (some ⟨w4.heap.size + 1, 0, none⟩) 10 10, .slice (some ⟨w4.heap.size + 1 + 1, 0, none⟩) 10 10, .slice (some ⟨w5.heap.size, 0, none⟩) 10 10] (by simp))
  have N1e := Lib.hid (N1d.out.below hby)
  have N2d := Lib.hid (N2c.out.below hby)
  have N3c := Lib.hid (N3b.out.below hby)
  have HV6 := Lib.hid (HV5.out.below hby)
  clear N1d N2c N3b HV5 HD HP
  have nP0 := Lib.hid (P0.out.below hby)
  have nP1 := Lib.hid (P1.out.below hby)
  have nP2 := Lib.hid (P2.out.below hby)
  have nZA2 := Lib.hid (ZA2.out.below hby)
  have nHB := Lib.hid (bthen HB.out hby)
  clear P0 P1 P2 ZA2 HB hby
  have P0 := nP0
  have P1 := nP1
  have P2 := nP2
  have ZA2 := nZA2
  have HB := nHB
  clear nP0 nP1 nP2 nZA2 nHB
  generalize (w5.alloc (.cells #[.int .i64 0, .int .i64 1, .int .i64 2, .int .i64 2, .int .i64 5, .int .i64 6, .int .i64 6, .int .i64 7, .int .i64 7, .int .i64 8] 3)).alloc (.cells #[.slice (some ⟨w4.heap.size + 1, 0, none⟩) 10 10, .slice (some ⟨w4.heap.size + 1 + 1, 0, none⟩) 10 10, .slice (some ⟨w5.heap.size, 0, none⟩) 10 10] 37) = W6 at *
  have z0 := P0.out.lt
  have z1 := z1.out
  have z4 := z4.out
  have z5 := z5.out
  have hDn : w4.heap.size ≠ w.heap.size ∧ w4.heap.size ≠ w.heap.size + 1 := ⟨by omega, by omega⟩
  have HJD := Lib.hid (fun (a : World) (h : eJ w.heap.size W6.drew a) => (show Blk a w4.heap.size 26 #[.int .i64 20, .int .i64 9000, .int .i64 40, .slice (some ⟨g1, 0, none⟩) 2 2, .int .i64 3, .int .i64 3, .int .i64 2, .int .i64 3, .slice (some ⟨g2, 0, none⟩) 2 2, .slice (some ⟨g3, 0, none⟩) 1 1] from (h.2.2.2.2 _ hDn.1 hDn.2).trans HD2.out))
  have HJM := Lib.hid (fun (a : World) (h : eJ w.heap.size W6.drew a) => (show Blk a (w5.heap.size + 1) 37 #[.slice (some ⟨w4.heap.size + 1, 0, none⟩) 10 10, .slice (some ⟨w4.heap.size + 1 + 1, 0, none⟩) 10 10, .slice (some ⟨w5.heap.size, 0, none⟩) 10 10] from (h.2.2.2.2 _ (by omega) (by omega)).trans HM2.out))
  have HJZ := Lib.hid (fun (a : World) (h : eJ w.heap.size W6.drew a) => (show Blk a (w1.heap.size + 1) 41 #[.int .i64 35, .int .i64 3000, .int .i64 400, .bool false, .bool false] from (h.2.2.2.2 _ (by omega) (by omega)).trans ZA2.out))
  refine wp_region_specH (eG w.heap.size #[.int .i64 20, .int .i64 9000, .int .i64 40, .slice (some ⟨g1, 0, none⟩) 2 2, .int .i64 3, .int .i64 3, .int .i64 2, .int .i64 3, .slice (some ⟨g2, 0, none⟩) 2 2, .slice (some ⟨g3, 0, none⟩) 1 1] #[.slice (some ⟨w4.heap.size + 1, 0, none⟩) 10 10, .slice (some ⟨w4.heap.size + 1 + 1, 0, none⟩) 10 10, .slice (some ⟨w5.heap.size, 0, none⟩) 10 10]) (eJ w.heap.size W6.drew) (eI w.heap.size) eG_size eG_J eG_I ⟨rfl, rfl, rfl, rfl, fun _ _ _ => rfl⟩ (fun i => (by unfold eI; split <;> first | exact P0.out | exact P1.out | trivial)) 7 (eR w.heap.size #[.int .i64 20, .int .i64 9000, .int .i64 40, .slice (some ⟨g1, 0, none⟩) 2 2, .int .i64 3, .int .i64 3, .int .i64 2, .int .i64 3, .slice (some ⟨g2, 0, none⟩) 2 2, .slice (some ⟨g3, 0, none⟩) 1 1] #[.slice (some ⟨w4.heap.size + 1, 0, none⟩) 10 10, .slice (some ⟨w4.heap.size + 1 + 1, 0, none⟩) 10 10, .slice (some ⟨w5.heap.size, 0, none⟩) 10 10] #[.int .i64 35, .int .i64 3000, .int .i64 400, .bool false, .bool false] #[.int .i64 90, .int .i64 100] #[.int .i64 18, .int .i64 8000, .int .i64 35, .int .i64 3000, .int .i64 400, .bool false, .bool false, .int .i64 0, .int .i64 90, .int .i64 100]) (fun _ => false) (by kernel_rfl) (by kernel_rfl) eG_R ?hoph284 ?htailh284
  case hoph284 =>
    simp only [List.take_succ_cons, List.take_zero, allOps]
    refine ⟨?_, ?_, ?_, ?_, ?_, ?_, ?_, trivial⟩
    all_goals intro u A w1 hA hj hi hd
    all_goals simp only [putAll, dstOf, List.getElem?_toArray, List.getElem?_cons_succ, List.getElem?_cons_zero, Option.bind_some, Option.bind, Act.put, List.setIfInBounds_toArray, List.set_cons_succ, List.set_cons_zero] at hA; subst hA
    · clear hd
      go_wp2_with (refine wpl_row rfl 26 _ rfl _ rfl _ 10 (HJD.out _ hj) Tryz.rowDek rfl ?_; simp only [Act.put])
      exact ⟨_, rfl, rfl, rfl, fun h => absurd h (by decide)⟩
    · clear hd
      go_wp2_with (refine wpl_row rfl 37 _ rfl _ rfl _ 3 (HJM.out _ hj) Tryz.rowMov rfl ?_; simp only [Act.put])
      exact ⟨_, rfl, rfl, rfl, fun h => absurd h (by decide)⟩
    · clear hd
      go_wp2_with (refine wpl_row rfl 41 _ rfl _ rfl _ 5 (HJZ.out _ hj) Tryz.rowMin rfl ?_; simp only [Act.put])
      exact ⟨_, rfl, rfl, rfl, fun h => absurd h (by decide)⟩
    · clear hd
      go_wp2
      exact ⟨_, rfl, rfl, rfl, fun h => absurd h (by decide)⟩
    · have d2 : u 2 = _ := hd 2 (by omega) (by kernel_rfl)
      have d3 : u 3 = _ := hd 3 (by omega) (by kernel_rfl)
      clear hd
      try rw [d2, d3]
      clear d2 d3
      go_wp2
      exact ⟨_, rfl, rfl, rfl, fun h => absurd h (by decide)⟩
    · have d0 : u 0 = _ := hd 0 (by omega) (by kernel_rfl)
      clear hd
      try rw [d0]
      clear d0
      refine wpList_store_row rfl 26 _ _ rfl w.heap.size #[.int .i64 20, .int .i64 9000, .int .i64 40, .slice (some ⟨g1, 0, none⟩) 2 2, .int .i64 3, .int .i64 3, .int .i64 2, .int .i64 3, .slice (some ⟨g2, 0, none⟩) 2 2, .slice (some ⟨g3, 0, none⟩) 1 1] rfl rfl 26 #[.int .i64 0, .int .i64 0, .int .i64 0, .slice none 0 0, .int .i64 0, .int .i64 0, .int .i64 0, .int .i64 0, .slice none 0 0, .slice none 0 0] (show Blk w1 w.heap.size 26 #[.int .i64 0, .int .i64 0, .int .i64 0, .slice none 0 0, .int .i64 0, .int .i64 0, .int .i64 0, .int .i64 0, .slice none 0 0, .slice none 0 0] from hi) Tryz.sizeDek rfl (by simp [Value.oneCell']) ?_
      exact ⟨_, rfl, rfl, wblk_setRow (show Blk w1 w.heap.size 26 #[.int .i64 0, .int .i64 0, .int .i64 0, .slice none 0 0, .int .i64 0, .int .i64 0, .int .i64 0, .int .i64 0, .slice none 0 0, .slice none 0 0] from hi), fun h => absurd h (by decide)⟩
    · have d0 : u 0 = _ := hd 0 (by omega) (by kernel_rfl)
      have d1 : u 1 = _ := hd 1 (by omega) (by kernel_rfl)
      clear hd
      try rw [d0, d1]
      clear d0 d1
      refine wpList_store_row rfl 37 _ _ rfl (w.heap.size + 1) #[.slice (some ⟨w4.heap.size + 1, 0, none⟩) 10 10, .slice (some ⟨w4.heap.size + 1 + 1, 0, none⟩) 10 10, .slice (some ⟨w5.heap.size, 0, none⟩) 10 10] rfl rfl 37 #[.slice none 0 0, .slice none 0 0, .slice none 0 0] (show Blk w1 (w.heap.size + 1) 37 #[.slice none 0 0, .slice none 0 0, .slice none 0 0] from hi) Tryz.sizeMov rfl (by simp [Value.oneCell']) ?_
      exact ⟨_, rfl, rfl, wblk_setRow (show Blk w1 (w.heap.size + 1) 37 #[.slice none 0 0, .slice none 0 0, .slice none 0 0] from hi), fun h => absurd h (by decide)⟩
  case htailh284 =>
    intro u A w1 hA hj hd hf
    simp only [putAll, dstOf, List.getElem?_toArray, List.getElem?_cons_succ, List.getElem?_cons_zero, Option.bind_some, Option.bind, Act.put, List.setIfInBounds_toArray, List.set_cons_succ, List.set_cons_zero] at hA; subst hA
    have e0 : u 0 = _ := hd 0 (by omega)
    have e1 : u 1 = _ := hd 1 (by omega)
    have e2 : u 2 = _ := hd 2 (by omega)
    have e3 : u 3 = _ := hd 3 (by omega)
    have e4 : u 4 = _ := hd 4 (by omega)
    have p5 := hd 5 (by omega)
    have p6 := hd 6 (by omega)
    first | rw [e0, e1, e2, e3, e4] | simp only [e0, e1, e2, e3, e4]
    clear e0 e1 e2 e3 e4
    clear hd hf
    have BP := HP2.out
    have BH := HH2.out
    have f6 : ∀ b, w.heap.size + 1 + 1 + 1 ≤ b → (w1.setRow (w.heap.size + 1 + 1) #[.int .i64 18, .int .i64 8000, .int .i64 35, .int .i64 3000, .int .i64 400, .bool false, .bool false, .int .i64 0, .int .i64 90, .int .i64 100]).heap[b]? = W6.heap[b]? := fun b hb => (setRow_other w1 _ b _ (by omega)).trans (hj.2.2.2.2 b (by omega) (by omega))
    have s6 : W6.heap.size ≤ (w1.setRow (w.heap.size + 1 + 1) #[.int .i64 18, .int .i64 8000, .int .i64 35, .int .i64 3000, .int .i64 400, .bool false, .bool false, .int .i64 0, .int .i64 90, .int .i64 100]).heap.size := by
      have := hj.2.2.2.1
      simp only [World.setRow, Array.size_modify]
      exact Nat.le_of_eq this.symm
    have hPa : Blk w1 (w.heap.size + 1 + 1) 43 #[.int .i64 0, .int .i64 0, .int .i64 0, .int .i64 0, .int .i64 0, .bool false, .bool false, .int .i64 0, .int .i64 0, .int .i64 0] := (hj.2.2.2.2 _ (by omega) (by omega)).trans P2.out
    have hP2 := Lib.hid hPa
    have hP0 := Lib.hid (show Blk w1 w.heap.size 26 _ from p5)
    have hP1 := Lib.hid (show Blk w1 (w.heap.size + 1) 37 _ from p6)
    have S1 := Lib.hid (N1e.out.1.frame s6 (fun b hb => f6 b (N1e.out.2 b hb)))
    have S2 := Lib.hid (N2d.out.1.frame s6 (fun b hb => f6 b (N2d.out.2 b hb)))
    have S3 := Lib.hid (N3c.out.1.frame s6 (fun b hb => f6 b (N3c.out.2 b hb)))
    have S4 := Lib.hid (HV6.out.frame s6 (fun b hb => f6 b (by simp only [Value.ownBlock, Option.some.injEq] at hb; omega)))
    have S5 := Lib.hid ((slAt_blk (n := 10) (P := exMo.P) BP BP.lt (by omega) (fun i hi => by rcases i with _ | _ | _ | _ | _ | _ | _ | _ | _ | _ | i <;> first | rfl | omega)).frame s6 (fun b hb => f6 b (by simp only [Value.ownBlock, Option.some.injEq] at hb; omega)))
    have S6 := Lib.hid ((slAt_blk (n := 10) (P := exMo.V) BH BH.lt (by omega) (fun i hi => by rcases i with _ | _ | _ | _ | _ | _ | _ | _ | _ | _ | i <;> first | rfl | omega)).frame s6 (fun b hb => f6 b (by simp only [Value.ownBlock, Option.some.injEq] at hb; omega)))
    have HB7 := Lib.hid (show Below w.heap.size w (w1.setRow (w.heap.size + 1 + 1) #[.int .i64 18, .int .i64 8000, .int .i64 35, .int .i64 3000, .int .i64 400, .bool false, .bool false, .int .i64 0, .int .i64 90, .int .i64 100]) from below_row (HB.out.trans ⟨hj.1, hj.2.1, hj.2.2.1, Nat.le_of_eq hj.2.2.2.1.symm, fun k hk => hj.2.2.2.2 k (by omega) (by omega)⟩) (by omega) _)
    clear BP BH f6 s6 hPa p5 p6
    dsimp only [List.drop]
    refine wpList_store_row rfl 43 _ _ rfl (w.heap.size + 1 + 1) #[.int .i64 18, .int .i64 8000, .int .i64 35, .int .i64 3000, .int .i64 400, .bool false, .bool false, .int .i64 0, .int .i64 90, .int .i64 100] rfl rfl 43 #[.int .i64 0, .int .i64 0, .int .i64 0, .int .i64 0, .int .i64 0, .bool false, .bool false, .int .i64 0, .int .i64 0, .int .i64 0] hP2.out Tryz.sizeApp rfl (by simp [Value.oneCell']) ?_
    go_wp2_with (fail)
    exact bodyPost_ret (res_cc3 rfl _ _ _ _ _ _ _ 10 3 10 rfl rfl rfl (wblk_setRow_ne hP0.out (by omega)) Tryz.rowDek rfl (wblk_setRow_ne hP1.out (by omega)) Tryz.rowMov rfl (wblk_setRow hP2.out) Tryz.rowApp rfl) rfl ⟨_, _, _, _, _, _, rfl, HB7.out, ⟨S1.out, S2.out, S3.out⟩, ⟨S5.out, S4.out, S6.out⟩⟩
end Go.Proofs.YtafkifjebimdaaaGreat
