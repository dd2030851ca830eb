/- Texts joined: JAK. -/
import Derived.Test.YtafkifjebimdaaaGreatJAJ
set_option linter.all false
namespace Go.Proofs.YtafkifjebimdaaaGreat
open Go Go.RowKit Go.Proofs
set_option maxRecDepth 100000
set_option maxHeartbeats 8000000

theorem RecsAt.frame {w w' : World} {A : Option Addr} {n k : Nat} {V : Nat → Nat → Value} (h : RecsAt w A n k V) (hs : w.heap.size ≤ w'.heap.size) (hf : 0 < n → ∀ b off, A = some ⟨b, off, none⟩ → w'.heap[b]? = w.heap[b]?) : RecsAt w' A n k V := by
  intro hn
  obtain ⟨b, off, rfl, hb, hc⟩ := h hn
  refine ⟨b, off, rfl, by omega, fun i hi j hj => ?_⟩
  rw [← hc i hi j hj]
  exact World.cell?_of_block (w := w) (hf hn b off rfl)
theorem wpl_cp {ty sl : TypeId} {k : Nat} {V : Nat → Nat → Value} {ops : Array Oper} {rest : List Oper} {o : Oper} {a : Act} {w : World} {Q : Exit → Act → World → Prop} (hgd : o.guard = none) (s x : Operand)
    (hu : Tryz.prog.underlying sl = some (.slice ty)) (hi : (Tryz.prog.info? ty).map (fun i => (i.zero.map (·.cells.size), i.size, decide (i.bytes ≤ 200))) = some (some k, k, true)) (hk : 0 < k) (h1 : ∀ i j, (V i j).oneCell' = true)
    (ho : o.op = .call { callee := .builtin .append, args := #[s, x], argTypes := #[sl, sl] }) (g : Nat) (hs : a.eval s = .slice (some ⟨g, 0, none⟩) 0 0) (hgb : w.heap[g]? = some (.cells #[] ty (0, 0)))
    (A : Option Addr) (n c : Nat) (hx : a.eval x = .slice A n c) (hr : RecsAt w A n k V) (hn : n ≤ 50)
    (h : ∀ v' w', Hid (∃ A' c', v' = .slice A' n c' ∧ n ≤ c' ∧ c' ≤ 9223372036854775807 ∧ RecsAt w' A' n k V ∧ ∀ b, some b = v'.ownBlock → g ≤ b) → Hid (Below w.heap.size w w') → wpList Tryz.prog ops Q rest (a.put o.dst v') w') : wpList Tryz.prog ops Q (o :: rest) a w := by
  cases hI : Tryz.prog.info? ty with
  | none => rw [hI] at hi; cases hi
  | some i =>
    rw [hI] at hi
    simp only [Option.map_some, Option.some.injEq, Prod.mk.injEq, decide_eq_true_eq] at hi
    obtain ⟨i1, i2, i3⟩ := hi
    cases hz : i.zero with
    | none => rw [hz] at i1; cases i1
    | some z =>
      rw [hz] at i1
      simp only [Option.map_some, Option.some.injEq] at i1
      have hb : n * i.bytes ≤ 50 * 200 := Nat.mul_le_mul hn i3
      refine wpl_append_newk hgd s x sl ho ty i z k i.bytes hu hI hz i2 rfl i1 hk g hs hgb g (Nat.le_refl _) A n c hx _ hr.cells (fun q _ => h1 _ _) (by unfold maxLen; omega) (by omega) (fun v' w' ho' hbl => ?_)
      obtain ⟨A', c', e, q1, q2, q3⟩ := RecsAt.of_owns (V := V) hk ho'
      exact h v' w' ⟨A', c', e, q1, q2, q3, fun b hb => owns_base ho' hb⟩ hbl
theorem fcV_one (D : Nat → Nat → Int) (B : Nat → Nat → Bool) (i j : Nat) : (fcV D B i j).oneCell' = true := by unfold fcV; split <;> rfl
theorem siV_one (E : Nat → Nat → Int) (C : Nat → Nat → Bool) (i j : Nat) : (siV E C i j).oneCell' = true := by unfold siV; split <;> rfl
theorem Tryz.fcU : Tryz.prog.underlying 31 = some (.slice 133) := by kernel_rfl
theorem Tryz.siU : Tryz.prog.underlying 32 = some (.slice 135) := by kernel_rfl
theorem Tryz.fcI : (Tryz.prog.info? 133).map (fun i => (i.zero.map (·.cells.size), i.size, decide (i.bytes ≤ 200))) = some (some 12, 12, true) := by kernel_rfl
theorem Tryz.siI : (Tryz.prog.info? 135).map (fun i => (i.zero.map (·.cells.size), i.size, decide (i.bytes ≤ 200))) = some (some 7, 7, true) := by kernel_rfl

def MetD.far (M : MetD) : Bool := decide (50 < M.n) || decide (30 < M.m)
theorem wFar_c (M : MetD) (vF vS : Value) (w : World) (hA : MetAt w vF vS M) :
   Calls Tryz.prog 26 #[.agg #[.int .i64 M.places, .int .i64 M.any.a0, .int .i64 M.any.a1, .int .i64 M.any.a2, .int .i64 M.any.a3, .int .i64 M.any.a4, .int .i64 M.any.a5, .bool M.any.i, .bool M.any.s, .int .i64 M.mw, .int .i64 M.ms, .int .i64 M.mc, vF, vS]] w fun e w' => e = .returned (.bool M.far) ∧ Below w.heap.size w w' := by
  obtain ⟨⟨A, cF, rfl, hF1, hF2, -⟩, ⟨A2, cS, rfl, hS1, hS2, -⟩⟩ := hA
  unfold MetD.far
  by_cases h1 : 50 < M.n
  · have h1z : (50 : Int) < (M.n : Int) := by omega
    rw [show decide (50 < M.n) = true from decide_eq_true h1, Bool.true_or]
    go_enter Tryz.func26, Tryz.ntmps26
    go_wp2
    go_ret
    exact ⟨rfl, (by repeat' (first | exact Below.refl _ _ | assumption | refine Below.drew ?_ | refine bdn ?_ _ | refine bal ?_ _ | refine Below.setCell ?_ (by first | (simp; done) | omega | (simp; omega)) _))⟩
  · have h1z : ¬ (50 : Int) < (M.n : Int) := by omega
    rw [show decide (50 < M.n) = false from decide_eq_false h1, Bool.false_or]
    by_cases h2 : 30 < M.m
    · have h2z : (30 : Int) < (M.m : Int) := by omega
      rw [show decide (30 < M.m) = true from decide_eq_true h2]
      go_enter Tryz.func26, Tryz.ntmps26
      go_wp2
      go_ret
      exact ⟨rfl, (by repeat' (first | exact Below.refl _ _ | assumption | refine Below.drew ?_ | refine bdn ?_ _ | refine bal ?_ _ | refine Below.setCell ?_ (by first | (simp; done) | omega | (simp; omega)) _))⟩
    · have h2z : ¬ (30 : Int) < (M.m : Int) := by omega
      rw [show decide (30 < M.m) = false from decide_eq_false h2]
      go_enter Tryz.func26, Tryz.ntmps26
      go_wp2
      go_ret
      exact ⟨rfl, (by repeat' (first | exact Below.refl _ _ | assumption | refine Below.drew ?_ | refine bdn ?_ _ | refine bal ?_ _ | refine Below.setCell ?_ (by first | (simp; done) | omega | (simp; omega)) _))⟩
theorem Tryz.sizeMet : (Tryz.prog.info? 34).map (·.size) = some 14 := by kernel_rfl
theorem oneM (M : MetD) (A A' : Option Addr) (n c n' c' : Nat) : (#[.int .i64 M.places, .int .i64 M.any.a0, .int .i64 M.any.a1, .int .i64 M.any.a2, .int .i64 M.any.a3, .int .i64 M.any.a4, .int .i64 M.any.a5, .bool M.any.i, .bool M.any.s, .int .i64 M.mw, .int .i64 M.ms, .int .i64 M.mc, .slice A n c, .slice A' n' c'] : Array Value).all (·.oneCell') = true := by simp [Value.oneCell']
theorem wCopy_c (M : MetD) (vF vS : Value) (w : World) (hA : MetAt w vF vS M) (hn : M.far = false) :
   Calls Tryz.prog 30 #[.agg #[.int .i64 M.places, .int .i64 M.any.a0, .int .i64 M.any.a1, .int .i64 M.any.a2, .int .i64 M.any.a3, .int .i64 M.any.a4, .int .i64 M.any.a5, .bool M.any.i, .bool M.any.s, .int .i64 M.mw, .int .i64 M.ms, .int .i64 M.mc, vF, vS]] w fun e w' => ∃ vF' vS', e = .returned (.agg #[.int .i64 M.places, .int .i64 M.any.a0, .int .i64 M.any.a1, .int .i64 M.any.a2, .int .i64 M.any.a3, .int .i64 M.any.a4, .int .i64 M.any.a5, .bool M.any.i, .bool M.any.s, .int .i64 M.mw, .int .i64 M.ms, .int .i64 M.mc, vF', vS']) ∧ Below w.heap.size w w' ∧ MetAt w' vF' vS' M ∧ (∀ b, some b = vF'.ownBlock → w.heap.size ≤ b) ∧ ∀ b, some b = vS'.ownBlock → w.heap.size ≤ b := by
  unfold MetD.far at hn
  simp only [Bool.or_eq_false_iff, decide_eq_false_iff_not] at hn
  have hn1 : M.n ≤ 50 := by omega
  have hn2 : M.m ≤ 50 := by omega
  have HA := Lib.hid hA
  obtain ⟨⟨A, cF, rfl, hF1, hF2, hrF⟩, ⟨A2, cS, rfl, hS1, hS2, hrS⟩⟩ := hA
  have HF := Lib.hid hrF
  have HS := Lib.hid hrS
  clear hn hrF hrS
  go_enter Tryz.func30, Tryz.ntmps30
  go_wp2_with (first | (at_builtin; refine wpl_cp rfl _ _ Tryz.fcU Tryz.fcI (by omega) (fcV_one M.D M.B) rfl _ rfl (Blk.newA _ _ _ (by simp)) A M.n cF rfl (HF.out.below (by repeat' (first | exact Below.refl _ _ | assumption | refine Below.drew ?_ | refine bdn ?_ _ | refine bal ?_ _ | refine Below.setCell ?_ (by first | (simp; done) | omega | (simp; omega)) _))) hn1 ?_))
  intro v1 w1 hq hbh
  have hb1 := hbh.out
  obtain ⟨A3, c3, rfl, q1, q2, q3, q4⟩ := hq.out
  clear hbh hq
  have HX := Lib.hid (Blk.under ((((Blk.newA (g := w.heap.size) w 34 #[.int .i64 M.places, .int .i64 M.any.a0, .int .i64 M.any.a1, .int .i64 M.any.a2, .int .i64 M.any.a3, .int .i64 M.any.a4, .int .i64 M.any.a5, .bool M.any.i, .bool M.any.s, .int .i64 M.mw, .int .i64 M.ms, .int .i64 M.mc, .slice A M.n cF, .slice A2 M.m cS] rfl).alloc _).alloc _).alloc _) hb1 (by omega))
  have HR := Lib.hid (Blk.under (((Blk.newA (g := w.heap.size + 1) (w.alloc _) 34 #[.int .i64 0, .int .i64 0, .int .i64 0, .int .i64 0, .int .i64 0, .int .i64 0, .int .i64 0, .bool false, .bool false, .int .i64 0, .int .i64 0, .int .i64 0, .slice none 0 0, .slice none 0 0] (by simp)).alloc _).alloc _) hb1 (by omega))
  have HO := Lib.hid (Blk.under ((Blk.newA (g := w.heap.size + 1 + 1) ((w.alloc _).alloc _) 34 #[.int .i64 M.places, .int .i64 M.any.a0, .int .i64 M.any.a1, .int .i64 M.any.a2, .int .i64 M.any.a3, .int .i64 M.any.a4, .int .i64 M.any.a5, .bool M.any.i, .bool M.any.s, .int .i64 M.mw, .int .i64 M.ms, .int .i64 M.mc, .slice A M.n cF, .slice A2 M.m cS] (by simp)).alloc _) hb1 (by omega))
  have HB := Lib.hid ((show Below w.heap.size w _ from (by repeat' (first | exact Below.refl _ _ | assumption | refine Below.drew ?_ | refine bdn ?_ _ | refine bal ?_ _ | refine Below.setCell ?_ (by first | (simp; done) | omega | (simp; omega)) _))).trans (hb1.mono (by omega)))
  have hz1 : w.heap.size + 1 + 1 + 1 + 1 ≤ w1.heap.size := by have := hb1.size; simpa using this
  have Q3 := Lib.hid q3
  clear q3 hb1
  have x13 := HX.out.cell 13
  have o12 := HO.out.cell 12
  have f12 := HO.out.frozen 12
  simp only [List.getElem?_toArray, List.getElem?_cons_succ, List.getElem?_cons_zero] at x13 o12
  have hz2 : w.heap.size < w1.heap.size := by omega
  have hz3 : w.heap.size + 1 < w1.heap.size := by omega
  have hz4 : w.heap.size + 1 + 1 < w1.heap.size := by omega
  have HS1 := Lib.hid (HS.out.below HB.out)
  have Q4 := Lib.hid q4
  have HZ := Lib.hid hz1
  clear q4 hz1
  have W1 := Lib.hid (RecsAt.frame (w' := w1.setCell ⟨w.heap.size + 1 + 1, 12, none⟩ (.slice A3 M.n c3)) Q3.out (by simp [World.setCell]) (fun _ b off e => Below.heap_setCell _ _ _ _ (by have := Q4.out b (by rw [e]; rfl); show b ≠ w.heap.size + 1 + 1; omega)))
  have HS2 := Lib.hid (RecsAt.frame (w' := w1.setCell ⟨w.heap.size + 1 + 1, 12, none⟩ (.slice A3 M.n c3)) HS1.out (by simp [World.setCell]) (fun h0 b off e => Below.heap_setCell _ _ _ _ (by
    obtain ⟨b', off', e', hlt, -⟩ := HS.out h0
    rw [e] at e'
    simp only [Option.some.injEq, Addr.mk.injEq] at e'
    show b ≠ w.heap.size + 1 + 1
    omega)))
  go_wp2_with (first | (at_builtin; refine wpl_cp rfl _ _ Tryz.siU Tryz.siI (by omega) (siV_one M.E M.C) rfl _ rfl (Blk.newA _ _ _ (by simp [World.setCell])) A2 M.m cS rfl (HS2.out.below (bal (Below.refl _ _) _)) hn2 ?_))
  intro v2 w2 hq2 hbh2
  have hb2 := hbh2.out
  obtain ⟨A5, c5, rfl, p1, p2, p3, p4⟩ := hq2.out
  clear hbh2 hq2 x13 o12 f12 HX HS HS1 HS2 HF
  have hsz : (w1.setCell ⟨w.heap.size + 1 + 1, 12, none⟩ (.slice A3 M.n c3)).heap.size = w1.heap.size := by simp [World.setCell]
  have HO2 := Lib.hid (((HO.out.set_ 12 (.slice A3 M.n c3)).alloc (.cells #[] 135)).under hb2 (by simp [World.setCell] at *; omega))
  have HR2 := Lib.hid (((HR.out.far' (f := w.heap.size + 1 + 1) (by omega) (i := 12) (.slice A3 M.n c3)).alloc (.cells #[] 135)).under hb2 (by simp [World.setCell] at *; omega))
  have HB2 := Lib.hid ((bal (bset HB.out (g := w.heap.size + 1 + 1) (by omega) (i := 12) (.slice A3 M.n c3)) (.cells #[] 135)).trans (hb2.mono (by simp [World.setCell] at *; omega)))
  have hz5 : w1.heap.size ≤ w2.heap.size := by have := hb2.size; simp [World.setCell] at this; omega
  have R3 := Lib.hid ((W1.out.below (bal (Below.refl _ _) (.cells #[] 135))).below (hb2.mono (by simp [World.setCell])))
  have P3 := Lib.hid p3
  have P4 := Lib.hid (show ∀ b, some b = (Value.slice A5 M.m c5).ownBlock → w1.heap.size ≤ b from p4)
  have o13 := HO2.out.cell 13
  have f13 := HO2.out.frozen 13
  have HO3 := Lib.hid (show Blk (w2.setCell ⟨w.heap.size + 1 + 1, 13, none⟩ (.slice A5 M.m c5)) (w.heap.size + 1 + 1) 34 #[.int .i64 M.places, .int .i64 M.any.a0, .int .i64 M.any.a1, .int .i64 M.any.a2, .int .i64 M.any.a3, .int .i64 M.any.a4, .int .i64 M.any.a5, .bool M.any.i, .bool M.any.s, .int .i64 M.mw, .int .i64 M.ms, .int .i64 M.mc, .slice A3 M.n c3, .slice A5 M.m c5] from HO2.out.set_ 13 (.slice A5 M.m c5))
  have HR3 := Lib.hid (HR2.out.far' (f := w.heap.size + 1 + 1) (by omega) (i := 13) (.slice A5 M.m c5))
  simp only [List.setIfInBounds_toArray, List.set_cons_succ, List.set_cons_zero, List.getElem?_toArray, List.getElem?_cons_succ, List.getElem?_cons_zero] at o13
  clear hb2 p3 p4 W1 HO HR HB HO2 HR2 hsz Q3
  go_wp2_with (first | (refine wpl_row rfl 34 _ rfl _ rfl #[.int .i64 M.places, .int .i64 M.any.a0, .int .i64 M.any.a1, .int .i64 M.any.a2, .int .i64 M.any.a3, .int .i64 M.any.a4, .int .i64 M.any.a5, .bool M.any.i, .bool M.any.s, .int .i64 M.mw, .int .i64 M.ms, .int .i64 M.mc, .slice A3 M.n c3, .slice A5 M.m c5] 14 HO3.out Tryz.rowMet rfl ?_; simp only [Act.put]) | (refine wpList_store_row rfl 34 _ _ rfl (w.heap.size + 1) #[.int .i64 M.places, .int .i64 M.any.a0, .int .i64 M.any.a1, .int .i64 M.any.a2, .int .i64 M.any.a3, .int .i64 M.any.a4, .int .i64 M.any.a5, .bool M.any.i, .bool M.any.s, .int .i64 M.mw, .int .i64 M.ms, .int .i64 M.mc, .slice A3 M.n c3, .slice A5 M.m c5] rfl rfl 34 #[.int .i64 0, .int .i64 0, .int .i64 0, .int .i64 0, .int .i64 0, .int .i64 0, .int .i64 0, .bool false, .bool false, .int .i64 0, .int .i64 0, .int .i64 0, .slice none 0 0, .slice none 0 0] HR3.out Tryz.sizeMet rfl (oneM M A3 A5 M.n c3 M.m c5) ?_; simp only [Act.put]))
  have fr : ∀ b, w.heap.size + 1 + 1 + 1 ≤ b → ((w2.setCell ⟨w.heap.size + 1 + 1, 13, none⟩ (.slice A5 M.m c5)).setRow (w.heap.size + 1) #[.int .i64 M.places, .int .i64 M.any.a0, .int .i64 M.any.a1, .int .i64 M.any.a2, .int .i64 M.any.a3, .int .i64 M.any.a4, .int .i64 M.any.a5, .bool M.any.i, .bool M.any.s, .int .i64 M.mw, .int .i64 M.ms, .int .i64 M.mc, .slice A3 M.n c3, .slice A5 M.m c5]).heap[b]? = w2.heap[b]? := fun b hb => by
    rw [setRow_other _ _ _ _ (by omega)]
    exact Below.heap_setCell _ _ _ _ (by show b ≠ w.heap.size + 1 + 1; omega)
  refine bodyPost_ret (res_c rfl _ _ _ 14 rfl (setRow_heap _ _ _ _ _ _ HR3.out) Tryz.rowMet rfl) rfl ⟨_, _, rfl, rowBelow (bset HB2.out (by omega) _) (by omega) _, ⟨⟨A3, c3, rfl, q1, q2, ?_⟩, ⟨A5, c5, rfl, p1, p2, ?_⟩⟩, fun b hb => by have := Q4.out b hb; omega, fun b hb => by have := P4.out b hb; omega⟩
  · exact R3.out.frame (by simp [World.setRow, World.setCell]) (fun _ b off e => fr b (by have := Q4.out b (by rw [e]; rfl); omega))
  · exact P3.out.frame (by simp [World.setRow, World.setCell]) (fun _ b off e => fr b (by have := P4.out b (by rw [e]; rfl); omega))

/-- A met under a store into a block that it does not lie in. -/
theorem MetAt.setRow {w : World} {vF vS : Value} {M : MetD} (h : MetAt w vF vS M) {g : Nat} (h1 : ∀ b, some b = vF.ownBlock → b ≠ g) (h2 : ∀ b, some b = vS.ownBlock → b ≠ g) (us : Array Value) : MetAt (w.setRow g us) vF vS M := by
  obtain ⟨⟨A, c, rfl, q1, q2, q3⟩, ⟨A', c', rfl, k1, k2, k3⟩⟩ := h
  exact ⟨⟨A, c, rfl, q1, q2, q3.frame (by simp [World.setRow]) (fun _ b off e => setRow_other _ _ _ _ (h1 b (by rw [e]; rfl)))⟩, ⟨A', c', rfl, k1, k2, k3.frame (by simp [World.setRow]) (fun _ b off e => setRow_other _ _ _ _ (h2 b (by rw [e]; rfl)))⟩⟩
end Go.Proofs.YtafkifjebimdaaaGreat

namespace Go.Proofs.YtafkifjebimdaaaGreat
open Go Go.RowKit Go.Proofs
set_option maxRecDepth 100000
set_option maxHeartbeats 8000000

end Go.Proofs.YtafkifjebimdaaaGreat

namespace Go.Proofs.YtafkifjebimdaaaGreat
open Go Go.RowKit Go.Proofs
set_option maxRecDepth 100000

def spC (l : List (Int × Int)) : List Value := l.flatMap fun p => [.int .i64 p.1, .int .i64 p.2]
theorem spC_snoc (l : List (Int × Int)) (p : Int × Int) : spC (l ++ [p]) = spC l ++ [.int .i64 p.1, .int .i64 p.2] := by simp [spC, List.flatMap_append]
end Go.Proofs.YtafkifjebimdaaaGreat

namespace Go.Proofs.YtafkifjebimdaaaGreat
open Go Go.RowKit Go.Proofs
set_option maxRecDepth 100000
set_option maxHeartbeats 4000000

end Go.Proofs.YtafkifjebimdaaaGreat

namespace Go.Proofs.YtafkifjebimdaaaGreat
open Go Go.RowKit Go.Proofs
set_option maxRecDepth 100000
set_option maxHeartbeats 8000000

theorem Tryz.spI : (Tryz.prog.info? 28).map (fun i => (i.zero.map (·.cells.size), i.size, decide (i.bytes ≤ 200))) = some (some 2, 2, true) := by kernel_rfl
theorem Tryz.spU : Tryz.prog.underlying 24 = some (.slice 28) := by kernel_rfl
theorem wpl_appS {ops : Array Oper} {rest : List Oper} {o : Oper} {a : Act} {w : World} {Q : Exit → Act → World → Prop} (hgd : o.guard = none) (s x : Operand)
    (ho : o.op = .call { callee := .builtin .append, args := #[s, x], argTypes := #[24, 24] }) (base : Nat) (v : Value) (l : List (Int × Int)) (hs : a.eval s = v) (hown : w.ownsRow base 28 2 v l.length (spC l))
    (g : Nat) (p : Int × Int) (hx : a.eval x = .slice (some ⟨g, 0, none⟩) 1 1) (hc0 : w.cell? ⟨g, 0, none⟩ = some (.int .i64 p.1)) (hc1 : w.cell? ⟨g, 1, none⟩ = some (.int .i64 p.2)) (h40 : l.length ≤ 3000) (hbase : base ≤ w.heap.size)
    (h : ∀ v' w', w'.ownsRow base 28 2 v' (l ++ [p]).length (spC (l ++ [p])) → w.grownBy w' v.ownBlock → v' ≠ .slice none 0 0 → wpList Tryz.prog ops Q rest (a.put o.dst v') w') : wpList Tryz.prog ops Q (o :: rest) a w := by
  have hi := Tryz.spI
  cases hI : Tryz.prog.info? 28 with
  | none => rw [hI] at hi; cases hi
  | some i =>
    rw [hI] at hi
    simp only [Option.map_some, Option.some.injEq, Prod.mk.injEq, decide_eq_true_eq] at hi
    obtain ⟨i1, i2, i3⟩ := hi
    cases hz : i.zero with
    | none => rw [hz] at i1; cases i1
    | some z =>
      rw [hz] at i1
      simp only [Option.map_some, Option.some.injEq] at i1
      have hb : (l.length + 1) * i.bytes ≤ 3001 * 200 := Nat.mul_le_mul (by omega) i3
      refine wpList_append_own w hgd s x 24 ho base 28 i z 2 i.bytes Tryz.spU hI hz i2 rfl i1 (by decide) v l.length (spC l) hs hown ⟨g, 0, none⟩ 1 1 [.int .i64 p.1, .int .i64 p.2] hx rfl ?_ ?_ (by unfold maxLen; omega) (by omega) hbase ?_
      · intro j u hj
        match j, hj with
        | 0, hj =>
          have : u = .int .i64 p.1 := by simpa using hj.symm
          subst this
          exact hc0
        | 1, hj =>
          have : u = .int .i64 p.2 := by simpa using hj.symm
          subst this
          exact hc1
      · intro u hu
        simp only [List.mem_cons, List.not_mem_nil, or_false] at hu
        rcases hu with rfl | rfl <;> rfl
      · intro v' w' h1 h2 h3
        refine h v' w' (by rw [spC_snoc]; simpa using h1) h2 (fun e => ?_)
        have := (h3.1 e).2
        omega
/-- What the loop of Windows keeps. -/
structure WiK (M : MetD) (vF vS : Value) (lw ls lc : Int) (li lt : Bool) (w : World) (l : List (Int × Int)) (v : Value) (wr : World) : Prop where
  k : FiK M vF vS lw ls lc li lt w wr
  o : wr.ownsRow (w.heap.size + 2) 28 2 v l.length (spC l)
  n : v = .slice none 0 0 ↔ l = []
  z : w.heap.size + 2 ≤ wr.heap.size
theorem WiK.grow {M : MetD} {vF vS : Value} {lw ls lc : Int} {li lt : Bool} {w wr w2 : World} {l : List (Int × Int)} {v : Value} (h : WiK M vF vS lw ls lc li lt w l v wr) (hb : Below wr.heap.size wr w2) : WiK M vF vS lw ls lc li lt w l v w2 :=
  ⟨h.k.grow hb, ownsRow_below h.o hb, h.n, Nat.le_trans h.z hb.size⟩
theorem FiK.under {M : MetD} {vF vS : Value} {lw ls lc : Int} {li lt : Bool} {w wr w2 : World} (h : FiK M vF vS lw ls lc li lt w wr) (hb : Below (w.heap.size + 2) wr w2) : FiK M vF vS lw ls lc li lt w w2 :=
  ⟨h.b.trans (hb.mono (by omega)), h.m.under hb (by omega), h.l.under hb (by omega)⟩
theorem WiK.take {M : MetD} {vF vS : Value} {lw ls lc : Int} {li lt : Bool} {w wr w2 : World} {l : List (Int × Int)} {v v' : Value} {p : Int × Int} (h : WiK M vF vS lw ls lc li lt w l v wr) (h1 : w2.ownsRow (w.heap.size + 2) 28 2 v' (l ++ [p]).length (spC (l ++ [p])))
    (h2 : wr.grownBy w2 v.ownBlock) (h3 : v' ≠ .slice none 0 0) : WiK M vF vS lw ls lc li lt w (l ++ [p]) v' w2 :=
  ⟨h.k.under (below_grown h2 h.z (fun b hb => owns_base h.o hb)), h1, by simp [h3], Nat.le_trans h.z h2.size⟩
end Go.Proofs.YtafkifjebimdaaaGreat
