/- Texts joined: KV. -/
import Derived.Test.YtfcjblnebaemgaaGreatBas
import Derived.Test.YtfcjblnebaemgaaGreatKU
import Derived.Test.YtfcjblnebaemgaaGreatWfD
import Derived.Test.YtfcjblnebaemgaaGreatWfC
set_option linter.all false
namespace Go.Proofs.YtfcjblnebaemgaaGreat
open Go Go.RowKit Go.Proofs

section
variable {P : Program} {ops : Array Oper} {rest : List Oper} {o : Oper} {a : Act} {w : World}
theorem wpl_row_g {Q : Exit → Act → World → Prop} (hgd : Region.wanted o (yielded ops a.tmps) = true) (ty : TypeId) (x : Operand) (ho : o.op = .load ty x)
    (g : Nat) (hx : a.eval x = .pointer (some ⟨g, 0, none⟩)) (cs : Array Value) (n : Nat) (hB : w.heap[g]? = some (.cells cs ty (0, 0)))
    (hr : RowTy P ty n) (hn : cs.size = n)
    (h : wpList P ops Q rest (a.put o.dst (.agg cs)) w) : wpList P ops Q (o :: rest) a w := by
  obtain ⟨hu, hi⟩ := hr
  cases hd : P.underlying ty with
  | none => rw [hd] at hu; cases hu
  | some d =>
    rw [hd] at hu
    refine wpList_step fun K hK => ?_
    simp only [hgd, if_true]
    unfold Oper.wp execOp
    simp only [ho, hx, Instr.loadAt, Instr.sureAddr, Sem.run_bind, Sem.run_pure, Result.andThen_ok, run_loadVar_row w g ty ty cs (0, 0) d hB hd (by cases d <;> first | rfl | (simp at hu)) (by rw [hi, hn]), Oper.upon]
    exact hK _ _ h
end
end Go.Proofs.YtfcjblnebaemgaaGreat

namespace Go.Proofs.YtfcjblnebaemgaaGreat
open Go Go.RowKit Go.Proofs
set_option maxRecDepth 100000
set_option maxHeartbeats 8000000

theorem real_all {M : MetD} {p f : Int} {G : Nat → Nat → Int} {H : Nat → Nat → Bool} : ∀ (k i : Nat), (realR M p f G H k i).2 = true → ∀ j : Nat, i ≤ j → j < i + k → hasB (M.may p (f + j)) (G j 0) (G j 1) (G j 2) (H j 3) (H j 4) = true
  | 0, i, _, j, h1, h2 => by omega
  | k + 1, i, h, j, h1, h2 => by
    unfold realR at h
    split at h
    · rename_i hc
      simp only [Bool.and_eq_true] at hc
      by_cases e : j = i
      · subst e; exact hc.1
      · exact real_all k (i + 1) h j (by omega) (by omega)
    · cases h
theorem hasB_iff {x : Sk} {a b c : Int} {i s : Bool} : hasB x a b c i s = true ↔ (x.a0 ≤ a ∧ a ≤ x.a1) ∧ (x.a2 ≤ b ∧ b ≤ x.a3) ∧ (x.a4 ≤ c ∧ c ≤ x.a5) ∧ (i = true → x.i = true) ∧ (s = true → x.s = true) := by
  unfold hasB
  simp only [Bool.and_eq_true, inB_iff]
  cases i <;> cases s <;> cases x.i <;> cases x.s <;> simp
theorem has_worst {x : Sk} {a b c : Int} {i s : Bool} {lw ls lc : Int} {li lt : Bool} (h : hasB x a b c i s = true) (ho : openB x lw ls lc li lt = true) : flyB a b c i s lw ls lc li lt = true := by
  rw [hasB_iff] at h
  unfold openB at ho
  rw [flyB_iff] at *
  exact ⟨by omega, by omega, by omega, fun e => ho.2.2.2.1 (h.2.2.2.1 e), fun e => ho.2.2.2.2 (h.2.2.2.2 e)⟩
theorem has_best {x : Sk} {a b c : Int} {i s : Bool} {lw ls lc : Int} {li lt : Bool} (h : hasB x a b c i s = true) (hf : flyB a b c i s lw ls lc li lt = true) : perhB x lw ls lc li lt = true := by
  rw [hasB_iff] at h
  unfold perhB
  rw [flyB_iff] at hf ⊢
  exact ⟨by omega, by omega, by omega, (fun e => nomatch e), (fun e => nomatch e)⟩
theorem atE_up {M : MetD} {p f : Int} {k : Nat} (h : atE M p f = 0) (h2 : f + k ≤ 2000) : atE M p (f + k) = 0 := by
  have h0 := (atE_ok h).2.1
  unfold atE at *
  cases hb : M.bad
  · rw [hb, if_neg (by decide)] at h
    rw [if_neg (by decide)]
    cases b1 : inB p 0 (M.places - 1)
    · rw [b1] at h; cases h
    · rw [inB_iff.2 (show 0 ≤ f + (k : Int) ∧ f + (k : Int) ≤ 2000 by omega)]; rfl
  · rw [hb] at h; cases h
theorem realE_ok {M : MetD} {p f : Int} {n : Nat} {G : Nat → Nat → Int} (h : realE M p f n G = 0) : atE M p f = 0 ∧ f + n - 1 ≤ 2000 := by
  unfold realE at h
  by_cases h1 : atE M p f = 0
  · rw [if_pos h1] at h
    by_cases h2 : 2000 < f + (n : Int) - 1
    · rw [if_pos h2] at h; cases h
    · exact ⟨h1, by omega⟩
  · rw [if_neg h1] at h; exact absurd h h1
theorem every_law {M : MetD} {p f lw ls lc : Int} {li lt : Bool} {n : Nat} {G : Nat → Nat → Int} {H : Nat → Nat → Bool} (ho : opE M lw ls lc p f = 0) (hr : realE M p f n G = 0) (hv : (realV M p f n G H).2 = true) (k : Nat) (hk : k < n) :
    f + k ≤ 2000 ∧ 0 ≤ f ∧ opE M lw ls lc p (f + k) = 0 ∧ (openV M lw ls lc li lt p (f + k) = true → flyB (G k 0) (G k 1) (G k 2) (H k 3) (H k 4) lw ls lc li lt = true) ∧ (flyB (G k 0) (G k 1) (G k 2) (H k 3) (H k 4) lw ls lc li lt = true → perhV M lw ls lc li lt p (f + k) = true) := by
  obtain ⟨r1, r2⟩ := realE_ok hr
  have h0 := (atE_ok r1).2.1
  have e : opE M lw ls lc p (f + k) = 0 := opE_mk (opE_split ho).1 (atE_up r1 (by omega))
  unfold realV at hv
  rw [if_pos hr] at hv
  have hh := real_all n 0 hv k (Nat.zero_le _) (by omega)
  unfold openV perhV
  rw [e]
  refine ⟨by omega, h0, rfl, fun h => has_worst hh (by simpa using h), fun h => by rw [has_best hh h]; rfl⟩
theorem Tryz.weU : Tryz.prog.underlying 41 = some (.slice 60) := by kernel_rfl
theorem Tryz.weI : (Tryz.prog.info? 60).map (fun i => (i.zero.map (·.cells.size), i.size, decide (i.bytes ≤ 200))) = some (some 5, 5, true) := by kernel_rfl
theorem weV_one (G : Nat → Nat → Int) (H : Nat → Nat → Bool) (i j : Nat) : (weV G H i j).oneCell' = true := by unfold weV; split <;> rfl
theorem wpl_cpw {ty sl : TypeId} {k : Nat} {V : Nat → Nat → Value} {ops : Array Oper} {rest : List Oper} {o : Oper} {a : Act} {w : World} {Q : Exit → Act → World → Prop} (hgd : o.guard = none) (s x : Operand)
    (hu : Tryz.prog.underlying sl = some (.slice ty)) (hi : (Tryz.prog.info? ty).map (fun i => (i.zero.map (·.cells.size), i.size, decide (i.bytes ≤ 200))) = some (some k, k, true)) (hk : 0 < k) (h1 : ∀ i j, (V i j).oneCell' = true)
    (ho : o.op = .call { callee := .builtin .append, args := #[s, x], argTypes := #[sl, sl] }) (g : Nat) (hs : a.eval s = .slice (some ⟨g, 0, none⟩) 0 0) (hgb : w.heap[g]? = some (.cells #[] ty (0, 0)))
    (A : Option Addr) (n c : Nat) (hx : a.eval x = .slice A n c) (hr : RecsAt w A n k V) (hn : n ≤ 100)
    (h : ∀ v' w', Hid (∃ A' c', v' = .slice A' n c' ∧ n ≤ c' ∧ c' ≤ 9223372036854775807 ∧ RecsAt w' A' n k V ∧ ∀ b, some b = v'.ownBlock → g ≤ b) → Hid (Below w.heap.size w w') → wpList Tryz.prog ops Q rest (a.put o.dst v') w') : wpList Tryz.prog ops Q (o :: rest) a w := by
  cases hI : Tryz.prog.info? ty with
  | none => rw [hI] at hi; cases hi
  | some i =>
    rw [hI] at hi
    simp only [Option.map_some, Option.some.injEq, Prod.mk.injEq, decide_eq_true_eq] at hi
    obtain ⟨i1, i2, i3⟩ := hi
    cases hz : i.zero with
    | none => rw [hz] at i1; cases i1
    | some z =>
      rw [hz] at i1
      simp only [Option.map_some, Option.some.injEq] at i1
      have hb : n * i.bytes ≤ 100 * 200 := Nat.mul_le_mul hn i3
      refine wpl_append_newk hgd s x sl ho ty i z k i.bytes hu hI hz i2 rfl i1 hk g hs hgb g (Nat.le_refl _) A n c hx _ hr.cells (fun q _ => h1 _ _) (by unfold maxLen; omega) (by omega) (fun v' w' ho' hbl => ?_)
      obtain ⟨A', c', e, q1, q2, q3⟩ := RecsAt.of_owns (V := V) hk ho'
      exact h v' w' ⟨A', c', e, q1, q2, q3, fun b hb => owns_base ho' hb⟩ hbl
def EmptyW (v : Value) (w : World) : Prop := ∃ g, v = .slice (some ⟨g, 0, none⟩) 0 0 ∧ Blk w g 60 #[]
theorem EmptyW.below {v : Value} {w w' : World} (h : EmptyW v w) (hb : Below w.heap.size w w') : EmptyW v w' := by
  obtain ⟨g, e, h⟩ := h
  exact ⟨g, e, h.below hb⟩
def WesV (n : Nat) (G : Nat → Nat → Int) (H : Nat → Nat → Bool) (v : Value) (w : World) : Prop := ∃ A' c', v = .slice A' n c' ∧ RecsAt w A' n 5 (weV G H)
theorem WesV.below {n : Nat} {G : Nat → Nat → Int} {H : Nat → Nat → Bool} {v : Value} {w w' : World} (h : WesV n G H v w) (hb : Below w.heap.size w w') : WesV n G H v w' := by
  obtain ⟨A', c', e, h⟩ := h
  exact ⟨A', c', e, h.below hb⟩
def everR (w0 : Nat) (g : Nat) (r l : Value) (p f : Int) (n : Nat) (G : Nat → Nat → Int) (H : Nat → Nat → Bool) (R1 : Int) (R2 : Bool) (E : Int) : Nat → Value → World → Prop
  | 0, v, _ => v = r
  | 1, v, _ => v = .pointer (some ⟨g + 1 + 1, 0, none⟩)
  | 2, v, _ => v = .pointer (some ⟨g + 1 + 1, 0, none⟩)
  | 3, v, _ => v = .int .i64 p
  | 4, v, _ => v = .pointer (some ⟨g + 1 + 1, 0, none⟩)
  | 5, v, _ => v = .pointer (some ⟨g + 1 + 1, 1, none⟩)
  | 6, v, _ => v = .int .i64 f
  | 7, v, w => EmptyW v w
  | 8, v, _ => v = .pointer (some ⟨g + 1 + 1, 2, none⟩)
  | 9, v, _ => v = l
  | 10, v, w => WesV n G H v w
  | 11, v, _ => v = .tuple #[.int .i64 R1, .bool R2, .int .i64 E]
  | 12, v, _ => v = .tuple #[.int .i64 R1, .bool R2, .int .i64 E]
  | 13, v, _ => v = .int .i64 R1
  | 14, v, _ => v = .bool R2
  | 15, v, _ => v = .int .i64 E
  | _, _, _ => True
theorem everR_below {w0 : Nat} {g : Nat} {r l : Value} {p f : Int} {n : Nat} {G : Nat → Nat → Int} {H : Nat → Nat → Bool} {R1 : Int} {R2 : Bool} {E : Int} (k : Nat) (v : Value) (w w' : World) (hb : Below w.heap.size w w') (h : everR w0 g r l p f n G H R1 R2 E k v w) : everR w0 g r l p f n G H R1 R2 E k v w' := by
  unfold everR at *
  split at h <;> first | exact h | exact EmptyW.below h hb | exact WesV.below h hb
-- done
end Go.Proofs.YtfcjblnebaemgaaGreat

namespace Go.Proofs.YtfcjblnebaemgaaGreat
open Go Go.RowKit Go.Proofs Go.ChangeShapes Go.WideShapes Go.ChangeAt Go.Deep
set_option maxRecDepth 100000
set_option maxHeartbeats 4000000
section
variable {H : Type} {enc : TypeId × Value → H} {W : World} {sp : Nat → Bool} {held : Bool}
theorem weathers_trod {r : Reach} {b0 : Nat} {v : Value} {d : DataW H} {ps : List MemPlace} (hval : Value.okWide Tryz.prog W r b0 41 v) (hd : DataW.Trod enc Tryz.prog W 0 sp held 41 v d ps) :
    ∃ (A : Option Addr) (n c : Nat) (D : Nat → Nat → Int) (B : Nat → Nat → Bool), v = .slice A n c ∧ n ≤ c ∧ c ≤ 9223372036854775807 ∧ RecsAt W A n 5 (weV D B) := by
  obtain ⟨fuel, x, h⟩ := slice_trod Tryz.weU hval hd
  exact wes_trod h
end
end Go.Proofs.YtfcjblnebaemgaaGreat

namespace Go.Proofs.YtfcjblnebaemgaaGreat
open Go Go.RowKit Go.Proofs
set_option maxRecDepth 100000
set_option maxHeartbeats 8000000
def OwnV (M : MetD) (v : Value) (w : World) : Prop := ∃ A cF A2 cS, v = .agg #[.int .i64 M.places, .int .i64 M.any.a0, .int .i64 M.any.a1, .int .i64 M.any.a2, .int .i64 M.any.a3, .int .i64 M.any.a4, .int .i64 M.any.a5, .bool M.any.i, .bool M.any.s, .int .i64 M.mw, .int .i64 M.ms, .int .i64 M.mc, .slice A M.n cF, .slice A2 M.m cS] ∧ MetAt w (.slice A M.n cF) (.slice A2 M.m cS) M
theorem OwnV.below {M : MetD} {v : Value} {w w' : World} (h : OwnV M v w) (hb : Below w.heap.size w w') : OwnV M v w' := by
  obtain ⟨A, cF, A2, cS, e, h⟩ := h
  exact ⟨A, cF, A2, cS, e, h.below hb⟩
def realQ (w0 g : Nat) (r l : Value) (p t : Int) (M : MetD) (n : Nat) (G : Nat → Nat → Int) (H : Nat → Nat → Bool) (R1 : Int) (R2 : Bool) (E : Int) : Nat → Value → World → Prop
  | 0, v, _ => v = r
  | 1, v, w => OwnV M v w
  | 2, v, _ => v = .pointer (some ⟨g + 1, 0, none⟩)
  | 3, v, _ => v = .int .i64 p
  | 4, v, _ => v = .pointer (some ⟨g + 1, 1, none⟩)
  | 5, v, _ => v = .int .i64 t
  | 6, v, w => EmptyW v w
  | 7, v, _ => v = l
  | 8, v, w => WesV n G H v w
  | 9, v, _ => v = .tuple #[.int .i64 R1, .bool R2, .int .i64 E]
  | 10, v, _ => v = .tuple #[.int .i64 R1, .bool R2, .int .i64 E]
  | 11, v, _ => v = .int .i64 R1
  | 12, v, _ => v = .bool R2
  | 13, v, _ => v = .int .i64 E
  | _, _, _ => True
theorem realQ_below {w0 g : Nat} {r l : Value} {p t : Int} {M : MetD} {n : Nat} {G : Nat → Nat → Int} {H : Nat → Nat → Bool} {R1 : Int} {R2 : Bool} {E : Int} (k : Nat) (v : Value) (w w' : World) (hb : Below w.heap.size w w') (h : realQ w0 g r l p t M n G H R1 R2 E k v w) : realQ w0 g r l p t M n G H R1 R2 E k v w' := by
  unfold realQ at *
  split at h <;> first | exact h | exact OwnV.below h hb | exact EmptyW.below h hb | exact WesV.below h hb
theorem WeatherReals_c (M : MetD) (vF vS : Value) (p t : Int) (A : Option Addr) (n c : Nat) (G : Nat → Nat → Int) (H : Nat → Nat → Bool) (w : World) (hA : MetAt w vF vS M) (hc1 : n ≤ c) (hc2 : c ≤ 9223372036854775807) (hW : RecsAt w A n 5 (weV G H)) :
   Calls Tryz.prog 4 #[.agg #[.int .i64 M.places, .int .i64 M.any.a0, .int .i64 M.any.a1, .int .i64 M.any.a2, .int .i64 M.any.a3, .int .i64 M.any.a4, .int .i64 M.any.a5, .bool M.any.i, .bool M.any.s, .int .i64 M.mw, .int .i64 M.ms, .int .i64 M.mc, vF, vS], .agg #[.int .i64 p, .int .i64 t], .slice A n c] w fun e w' => e = .returned (.bool true) ∧ Below w.heap.size w w' := by
  have HA := Lib.hid hA
  have HWS := Lib.hid hW
  have HFR := Lib.hid (fun w1 h => wFar_c M vF vS w1 h)
  have HOW := Lib.hid (fun w1 h hn => wown2_c M vF vS w1 h hn)
  clear hA hW
  cases hf : M.far
  case true =>
    rw [hf] at HFR
    clear hf
    go_enter Tryz.func4, Tryz.ntmps4
    go_wp2_with (fail)
    have bHX : Blk ((w.alloc (.cells #[.int .i64 M.places, .int .i64 M.any.a0, .int .i64 M.any.a1, .int .i64 M.any.a2, .int .i64 M.any.a3, .int .i64 M.any.a4, .int .i64 M.any.a5, .bool M.any.i, .bool M.any.s, .int .i64 M.mw, .int .i64 M.ms, .int .i64 M.mc, vF, vS] 29)).alloc (.cells #[.int .i64 p, .int .i64 t] 33)) (w.heap.size) 29 #[.int .i64 M.places, .int .i64 M.any.a0, .int .i64 M.any.a1, .int .i64 M.any.a2, .int .i64 M.any.a3, .int .i64 M.any.a4, .int .i64 M.any.a5, .bool M.any.i, .bool M.any.s, .int .i64 M.mw, .int .i64 M.ms, .int .i64 M.mc, vF, vS] := (by repeat (first | (refine Blk.newAt _ _ _ ?_; first | rfl | (simp; done)) | refine Blk.alloc ?_ _))
    have bHP : Blk ((w.alloc (.cells #[.int .i64 M.places, .int .i64 M.any.a0, .int .i64 M.any.a1, .int .i64 M.any.a2, .int .i64 M.any.a3, .int .i64 M.any.a4, .int .i64 M.any.a5, .bool M.any.i, .bool M.any.s, .int .i64 M.mw, .int .i64 M.ms, .int .i64 M.mc, vF, vS] 29)).alloc (.cells #[.int .i64 p, .int .i64 t] 33)) (w.heap.size + 1) 33 #[.int .i64 p, .int .i64 t] := (by repeat (first | (refine Blk.newAt _ _ _ ?_; first | rfl | (simp; done)) | refine Blk.alloc ?_ _))
    have bHB : Below w.heap.size w ((w.alloc (.cells #[.int .i64 M.places, .int .i64 M.any.a0, .int .i64 M.any.a1, .int .i64 M.any.a2, .int .i64 M.any.a3, .int .i64 M.any.a4, .int .i64 M.any.a5, .bool M.any.i, .bool M.any.s, .int .i64 M.mw, .int .i64 M.ms, .int .i64 M.mc, vF, vS] 29)).alloc (.cells #[.int .i64 p, .int .i64 t] 33)) := (by repeat' (first | exact Below.refl _ _ | assumption | refine Below.drew ?_ | refine bdn ?_ _ | refine bal ?_ _ | refine Below.setCell ?_ (by first | (simp; done) | omega | (simp; omega)) _))
    generalize ((w.alloc (.cells #[.int .i64 M.places, .int .i64 M.any.a0, .int .i64 M.any.a1, .int .i64 M.any.a2, .int .i64 M.any.a3, .int .i64 M.any.a4, .int .i64 M.any.a5, .bool M.any.i, .bool M.any.s, .int .i64 M.mw, .int .i64 M.ms, .int .i64 M.mc, vF, vS] 29)).alloc (.cells #[.int .i64 p, .int .i64 t] 33)) = W at *
    have zW := bHP.lt
    have HX := Lib.hid bHX
    have HP := Lib.hid bHP
    have HB := Lib.hid bHB
    clear bHX bHP bHB
    go_wp2_with (first | (refine wpl_row rfl 29 (.tmp 3) rfl _ rfl #[.int .i64 M.places, .int .i64 M.any.a0, .int .i64 M.any.a1, .int .i64 M.any.a2, .int .i64 M.any.a3, .int .i64 M.any.a4, .int .i64 M.any.a5, .bool M.any.i, .bool M.any.s, .int .i64 M.mw, .int .i64 M.ms, .int .i64 M.mc, vF, vS] 14 HX.out Tryz.rowMet rfl ?_; simp only [Act.put]) | (go_at_call 5; (with_reducible refine (HFR.out _ (HA.out.below HB.out)).mono ?_); rintro e w1 ⟨rfl, hb1⟩; have nHX := Lib.hid (HX.out.below hb1); have nHP := Lib.hid (HP.out.below hb1); have nHB := Lib.hid (bthen HB.out hb1); have zz1 := hb1.size; clear HX HP HB hb1; have HX := nHX; have HP := nHP; have HB := nHB; clear nHX nHP nHB) | (go_at_call 6; (with_reducible refine (wworks_c _).mono ?_); rintro e w1 ⟨rfl, hb1⟩; have nHX := Lib.hid (HX.out.below hb1); have nHP := Lib.hid (HP.out.below hb1); have nHB := Lib.hid (bthen HB.out hb1); have zz1 := hb1.size; clear HX HP HB hb1; have HX := nHX; have HP := nHP; have HB := nHB; clear nHX nHP nHB))
    go_ret
    exact ⟨rfl, HB.out⟩
  rw [hf] at HFR
  have HFF := Lib.hid hf
  clear hf
  by_cases hn : 100 < n
  · have hnz : (100 : Int) < (n : Int) := by omega
    go_enter Tryz.func4, Tryz.ntmps4
    go_wp2_with (fail)
    have bHX : Blk ((w.alloc (.cells #[.int .i64 M.places, .int .i64 M.any.a0, .int .i64 M.any.a1, .int .i64 M.any.a2, .int .i64 M.any.a3, .int .i64 M.any.a4, .int .i64 M.any.a5, .bool M.any.i, .bool M.any.s, .int .i64 M.mw, .int .i64 M.ms, .int .i64 M.mc, vF, vS] 29)).alloc (.cells #[.int .i64 p, .int .i64 t] 33)) (w.heap.size) 29 #[.int .i64 M.places, .int .i64 M.any.a0, .int .i64 M.any.a1, .int .i64 M.any.a2, .int .i64 M.any.a3, .int .i64 M.any.a4, .int .i64 M.any.a5, .bool M.any.i, .bool M.any.s, .int .i64 M.mw, .int .i64 M.ms, .int .i64 M.mc, vF, vS] := (by repeat (first | (refine Blk.newAt _ _ _ ?_; first | rfl | (simp; done)) | refine Blk.alloc ?_ _))
    have bHP : Blk ((w.alloc (.cells #[.int .i64 M.places, .int .i64 M.any.a0, .int .i64 M.any.a1, .int .i64 M.any.a2, .int .i64 M.any.a3, .int .i64 M.any.a4, .int .i64 M.any.a5, .bool M.any.i, .bool M.any.s, .int .i64 M.mw, .int .i64 M.ms, .int .i64 M.mc, vF, vS] 29)).alloc (.cells #[.int .i64 p, .int .i64 t] 33)) (w.heap.size + 1) 33 #[.int .i64 p, .int .i64 t] := (by repeat (first | (refine Blk.newAt _ _ _ ?_; first | rfl | (simp; done)) | refine Blk.alloc ?_ _))
    have bHB : Below w.heap.size w ((w.alloc (.cells #[.int .i64 M.places, .int .i64 M.any.a0, .int .i64 M.any.a1, .int .i64 M.any.a2, .int .i64 M.any.a3, .int .i64 M.any.a4, .int .i64 M.any.a5, .bool M.any.i, .bool M.any.s, .int .i64 M.mw, .int .i64 M.ms, .int .i64 M.mc, vF, vS] 29)).alloc (.cells #[.int .i64 p, .int .i64 t] 33)) := (by repeat' (first | exact Below.refl _ _ | assumption | refine Below.drew ?_ | refine bdn ?_ _ | refine bal ?_ _ | refine Below.setCell ?_ (by first | (simp; done) | omega | (simp; omega)) _))
    generalize ((w.alloc (.cells #[.int .i64 M.places, .int .i64 M.any.a0, .int .i64 M.any.a1, .int .i64 M.any.a2, .int .i64 M.any.a3, .int .i64 M.any.a4, .int .i64 M.any.a5, .bool M.any.i, .bool M.any.s, .int .i64 M.mw, .int .i64 M.ms, .int .i64 M.mc, vF, vS] 29)).alloc (.cells #[.int .i64 p, .int .i64 t] 33)) = W at *
    have zW := bHP.lt
    have HX := Lib.hid bHX
    have HP := Lib.hid bHP
    have HB := Lib.hid bHB
    clear bHX bHP bHB
    go_wp2_with (first | (refine wpl_row rfl 29 (.tmp 3) rfl _ rfl #[.int .i64 M.places, .int .i64 M.any.a0, .int .i64 M.any.a1, .int .i64 M.any.a2, .int .i64 M.any.a3, .int .i64 M.any.a4, .int .i64 M.any.a5, .bool M.any.i, .bool M.any.s, .int .i64 M.mw, .int .i64 M.ms, .int .i64 M.mc, vF, vS] 14 HX.out Tryz.rowMet rfl ?_; simp only [Act.put]) | (go_at_call 5; (with_reducible refine (HFR.out _ (HA.out.below HB.out)).mono ?_); rintro e w1 ⟨rfl, hb1⟩; have nHX := Lib.hid (HX.out.below hb1); have nHP := Lib.hid (HP.out.below hb1); have nHB := Lib.hid (bthen HB.out hb1); have zz1 := hb1.size; clear HX HP HB hb1; have HX := nHX; have HP := nHP; have HB := nHB; clear nHX nHP nHB) | (go_at_call 6; (with_reducible refine (wworks_c _).mono ?_); rintro e w1 ⟨rfl, hb1⟩; have nHX := Lib.hid (HX.out.below hb1); have nHP := Lib.hid (HP.out.below hb1); have nHB := Lib.hid (bthen HB.out hb1); have zz1 := hb1.size; clear HX HP HB hb1; have HX := nHX; have HP := nHP; have HB := nHB; clear nHX nHP nHB))
    go_ret
    exact ⟨rfl, HB.out⟩
  have hnz : ¬ (100 : Int) < (n : Int) := by omega
  have hrc := fun w1 vF vS A c hA h => Real_c M vF vS p t A n c G H w1 hA (by omega) h
  have hrr := fun w1 hA h => rw_Real_c M vF vS p t A n c G H w1 hA (by omega) h
  generalize realV M p t n G H = RR at *
  generalize realE M p t n G = E at *
  obtain ⟨R1, R2⟩ := RR
  dsimp only at hrc hrr
  have HRC := Lib.hid hrc
  have HRR := Lib.hid hrr
  clear hrc hrr
  go_enter Tryz.func4, Tryz.ntmps4
  go_wp2_with (fail)
  have bHX : Blk ((w.alloc (.cells #[.int .i64 M.places, .int .i64 M.any.a0, .int .i64 M.any.a1, .int .i64 M.any.a2, .int .i64 M.any.a3, .int .i64 M.any.a4, .int .i64 M.any.a5, .bool M.any.i, .bool M.any.s, .int .i64 M.mw, .int .i64 M.ms, .int .i64 M.mc, vF, vS] 29)).alloc (.cells #[.int .i64 p, .int .i64 t] 33)) (w.heap.size) 29 #[.int .i64 M.places, .int .i64 M.any.a0, .int .i64 M.any.a1, .int .i64 M.any.a2, .int .i64 M.any.a3, .int .i64 M.any.a4, .int .i64 M.any.a5, .bool M.any.i, .bool M.any.s, .int .i64 M.mw, .int .i64 M.ms, .int .i64 M.mc, vF, vS] := (by repeat (first | (refine Blk.newAt _ _ _ ?_; first | rfl | (simp; done)) | refine Blk.alloc ?_ _))
  have bHP : Blk ((w.alloc (.cells #[.int .i64 M.places, .int .i64 M.any.a0, .int .i64 M.any.a1, .int .i64 M.any.a2, .int .i64 M.any.a3, .int .i64 M.any.a4, .int .i64 M.any.a5, .bool M.any.i, .bool M.any.s, .int .i64 M.mw, .int .i64 M.ms, .int .i64 M.mc, vF, vS] 29)).alloc (.cells #[.int .i64 p, .int .i64 t] 33)) (w.heap.size + 1) 33 #[.int .i64 p, .int .i64 t] := (by repeat (first | (refine Blk.newAt _ _ _ ?_; first | rfl | (simp; done)) | refine Blk.alloc ?_ _))
  have bHB : Below w.heap.size w ((w.alloc (.cells #[.int .i64 M.places, .int .i64 M.any.a0, .int .i64 M.any.a1, .int .i64 M.any.a2, .int .i64 M.any.a3, .int .i64 M.any.a4, .int .i64 M.any.a5, .bool M.any.i, .bool M.any.s, .int .i64 M.mw, .int .i64 M.ms, .int .i64 M.mc, vF, vS] 29)).alloc (.cells #[.int .i64 p, .int .i64 t] 33)) := (by repeat' (first | exact Below.refl _ _ | assumption | refine Below.drew ?_ | refine bdn ?_ _ | refine bal ?_ _ | refine Below.setCell ?_ (by first | (simp; done) | omega | (simp; omega)) _))
  generalize ((w.alloc (.cells #[.int .i64 M.places, .int .i64 M.any.a0, .int .i64 M.any.a1, .int .i64 M.any.a2, .int .i64 M.any.a3, .int .i64 M.any.a4, .int .i64 M.any.a5, .bool M.any.i, .bool M.any.s, .int .i64 M.mw, .int .i64 M.ms, .int .i64 M.mc, vF, vS] 29)).alloc (.cells #[.int .i64 p, .int .i64 t] 33)) = W at *
  have zW := bHP.lt
  have HX := Lib.hid bHX
  have HP := Lib.hid bHP
  have HB := Lib.hid bHB
  clear bHX bHP bHB
  go_wp2_with (first | (refine wpl_row rfl 29 (.tmp 3) rfl _ rfl #[.int .i64 M.places, .int .i64 M.any.a0, .int .i64 M.any.a1, .int .i64 M.any.a2, .int .i64 M.any.a3, .int .i64 M.any.a4, .int .i64 M.any.a5, .bool M.any.i, .bool M.any.s, .int .i64 M.mw, .int .i64 M.ms, .int .i64 M.mc, vF, vS] 14 HX.out Tryz.rowMet rfl ?_; simp only [Act.put]) | (go_at_call 5; (with_reducible refine (HFR.out _ (HA.out.below HB.out)).mono ?_); rintro e w1 ⟨rfl, hb1⟩; have nHX := Lib.hid (HX.out.below hb1); have nHP := Lib.hid (HP.out.below hb1); have nHB := Lib.hid (bthen HB.out hb1); have zz1 := hb1.size; clear HX HP HB hb1; have HX := nHX; have HP := nHP; have HB := nHB; clear nHX nHP nHB) | (go_at_call 6; (with_reducible refine (wworks_c _).mono ?_); rintro e w1 ⟨rfl, hb1⟩; have nHX := Lib.hid (HX.out.below hb1); have nHP := Lib.hid (HP.out.below hb1); have nHB := Lib.hid (bthen HB.out hb1); have zz1 := hb1.size; clear HX HP HB hb1; have HX := nHX; have HP := nHP; have HB := nHB; clear nHX nHP nHB))
  refine wp_region_specL 14 [12, 13] (realQ W.heap.size w.heap.size (.agg #[.int .i64 M.places, .int .i64 M.any.a0, .int .i64 M.any.a1, .int .i64 M.any.a2, .int .i64 M.any.a3, .int .i64 M.any.a4, .int .i64 M.any.a5, .bool M.any.i, .bool M.any.s, .int .i64 M.mw, .int .i64 M.ms, .int .i64 M.mc, vF, vS]) (.slice A n c) p t M n G H R1 R2 E) (fun i => false) (by kernel_rfl) (by kernel_rfl) (by decide) realQ_below ?hop1 ?htail1
  case hop1 =>
    simp only [List.take_succ_cons, List.take_zero, allOps]
    refine ⟨?_, ?_, ?_, ?_, ?_, ?_, ?_, ?_, ?_, ?_, ?_, ?_, ?_, ?_, trivial⟩
    all_goals intro u A w1 hA hb hd
    all_goals simp only [putAll, dstOf, List.getElem?_toArray, List.getElem?_cons_succ, List.getElem?_cons_zero, Option.bind_some, Option.bind, Act.put, List.setIfInBounds_toArray, List.set_cons_succ, List.set_cons_zero] at hA; subst hA
    all_goals have HB1 := Lib.hid hb
    · refine OpOk.now rfl ?_
      clear hb hd
      go_wp2_with (refine wpl_row rfl 29 _ rfl _ rfl _ 14 (HX.out.below HB1.out) Tryz.rowMet rfl ?_; simp only [Act.put])
      exact ⟨_, rfl, Below.refl _ _, rfl, fun h => absurd h (by decide)⟩
    · refine OpOk.now rfl ?_
      have d0 : u 0 = _ := hd 0 (by omega) (by kernel_rfl)
      clear hb hd
      rw [d0]
      clear d0
      go_wp2_with (go_at_call 7; refine (HOW.out _ ((HA.out.below HB.out).below HB1.out) HFF.out).mono ?_; rintro e w2 ⟨B, cB, B2, cB2, rfl, hb2, hA2⟩)
      exact ⟨_, rfl, hb2, ⟨B, cB, B2, cB2, rfl, hA2⟩, fun h => absurd h (by decide)⟩
    · refine OpOk.now rfl ?_
      clear hb hd
      go_wp2
      exact ⟨_, rfl, Below.refl _ _, rfl, fun h => absurd h (by decide)⟩
    · refine OpOk.now rfl ?_
      have d2 : u 2 = _ := hd 2 (by omega) (by kernel_rfl)
      clear hb hd
      rw [d2]
      clear d2
      have c0 := (HP.out.below HB1.out).cell 0
      go_wp2
      exact ⟨_, rfl, Below.refl _ _, rfl, fun h => absurd h (by decide)⟩
    · refine OpOk.now rfl ?_
      clear hb hd
      go_wp2
      exact ⟨_, rfl, Below.refl _ _, rfl, fun h => absurd h (by decide)⟩
    · refine OpOk.now rfl ?_
      have d4 : u 4 = _ := hd 4 (by omega) (by kernel_rfl)
      clear hb hd
      rw [d4]
      clear d4
      have c1 := (HP.out.below HB1.out).cell 1
      go_wp2
      exact ⟨_, rfl, Below.refl _ _, rfl, fun h => absurd h (by decide)⟩
    · refine OpOk.now rfl ?_
      clear hb hd
      go_wp2
      exact ⟨_, rfl, bal (Below.refl _ _) _, ⟨_, rfl, Blk.new _ _ _⟩, fun h => absurd h (by decide)⟩
    · refine OpOk.now rfl ?_
      clear hb hd
      go_wp2
      exact ⟨_, rfl, Below.refl _ _, rfl, fun h => absurd h (by decide)⟩
    · refine OpOk.now rfl ?_
      have d1 := hd 1 (by omega) (by kernel_rfl)
      have d6 := hd 6 (by omega) (by kernel_rfl)
      have d7 : u 7 = _ := hd 7 (by omega) (by kernel_rfl)
      clear hb hd
      rw [d7]
      clear d7
      obtain ⟨g, dg, d1⟩ := d6
      rw [dg]
      clear dg
      refine wpl_cpw rfl (.tmp 28) (.tmp 29) Tryz.weU Tryz.weI (by omega) (weV_one G H) rfl g rfl d1 A n c rfl ((HWS.out.below HB.out).below HB1.out) (by omega) ?_
      intro v' w' hq hbl
      exact ⟨v', rfl, hbl.out, (by obtain ⟨A', c', q1, -, -, q2, -⟩ := hq.out; exact ⟨A', c', q1, q2⟩), fun h => absurd h (by decide)⟩
    · refine OpOk.now rfl ?_
      have d1 := hd 1 (by omega) (by kernel_rfl)
      have d3 : u 3 = _ := hd 3 (by omega) (by kernel_rfl)
      have d5 : u 5 = _ := hd 5 (by omega) (by kernel_rfl)
      have d8 := hd 8 (by omega) (by kernel_rfl)
      clear hb hd
      rw [d3, d5]
      clear d3 d5
      obtain ⟨B, cB, B2, cB2, e1, m1⟩ := d1
      obtain ⟨A', c', e8, r8⟩ := d8
      rw [e1, e8]
      clear e1 e8
      go_wp2_with (go_at_call 12; (with_reducible refine (HRC.out _ _ _ _ _ m1 r8).mono ?_); rintro e w2 ⟨rfl, hb2⟩)
      exact ⟨_, rfl, hb2, rfl, fun h => absurd h (by decide)⟩
    · refine OpOk.now rfl ?_
      have d9 : u 9 = _ := hd 9 (by omega) (by kernel_rfl)
      clear hb hd
      rw [d9]
      clear d9
      go_wp2
      exact ⟨_, rfl, Below.refl _ _, rfl, fun h => absurd h (by decide)⟩
    · refine OpOk.now rfl ?_
      have d10 : u 10 = _ := hd 10 (by omega) (by kernel_rfl)
      clear hb hd
      rw [d10]
      clear d10
      go_wp2
      exact ⟨_, rfl, Below.refl _ _, rfl, fun h => absurd h (by decide)⟩
    · have d10 : u 10 = _ := hd 10 (by omega) (by kernel_rfl)
      clear hb hd
      rw [d10]
      clear d10
      refine OpOk.late rfl ?_
      exact ⟨_, yields_extract rfl _ _ rfl _ rfl _ rfl, rfl⟩
    · have d10 : u 10 = _ := hd 10 (by omega) (by kernel_rfl)
      clear hb hd
      rw [d10]
      clear d10
      refine OpOk.late rfl ?_
      exact ⟨_, yields_extract rfl _ _ rfl _ rfl _ rfl, rfl⟩
  case htail1 =>
    intro u A w1 hA hb hd hf
    simp only [putAll, dstOf, List.getElem?_toArray, List.getElem?_cons_succ, List.getElem?_cons_zero, Option.bind_some, Option.bind, Act.put, List.setIfInBounds_toArray, List.set_cons_succ, List.set_cons_zero] at hA; subst hA
    have e0 : u 0 = _ := hd 0 (by omega)
    have p1 := hd 1 (by omega)
    have e2 : u 2 = _ := hd 2 (by omega)
    have e3 : u 3 = _ := hd 3 (by omega)
    have e4 : u 4 = _ := hd 4 (by omega)
    have e5 : u 5 = _ := hd 5 (by omega)
    have p6 := hd 6 (by omega)
    have e7 : u 7 = _ := hd 7 (by omega)
    have p8 := hd 8 (by omega)
    have e9 : u 9 = _ := hd 9 (by omega)
    have e10 : u 10 = _ := hd 10 (by omega)
    have e11 : u 11 = _ := hd 11 (by omega)
    have e12 : u 12 = _ := hd 12 (by omega)
    have e13 : u 13 = _ := hd 13 (by omega)
    first | rw [e0, e2, e3, e4, e5, e7, e9, e10, e11, e12, e13] | simp only [e0, e2, e3, e4, e5, e7, e9, e10, e11, e12, e13]
    clear e0 e2 e3 e4 e5 e7 e9 e10 e11 e12 e13
    clear hd hf
    clear p1 p6 p8
    go_wp2_with (fail)
    dsimp only [NoPanic]
    have nHX := Lib.hid (HX.out.below hb)
    have nHP := Lib.hid (HP.out.below hb)
    have nHB := Lib.hid (bthen HB.out hb)
    clear HX HP HB hb
    have HX := nHX
    have HP := nHP
    have HB := nHB
    clear nHX nHP nHB
    have zHP := HP.out.lt
    have cHP0 := HP.out.cell 0
    have cHP1 := HP.out.cell 1
    go_wp2_with (first | (refine wpl_row rfl 29 (.tmp 3) rfl _ rfl #[.int .i64 M.places, .int .i64 M.any.a0, .int .i64 M.any.a1, .int .i64 M.any.a2, .int .i64 M.any.a3, .int .i64 M.any.a4, .int .i64 M.any.a5, .bool M.any.i, .bool M.any.s, .int .i64 M.mw, .int .i64 M.ms, .int .i64 M.mc, vF, vS] 14 HX.out Tryz.rowMet rfl ?_; simp only [Act.put]))
    refine (HRR.out _ (HA.out.below HB.out) (HWS.out.below HB.out)).mono ?_
    have h1 : (R1 == R1) = true := by simp
    have h2 : (R2 == R2) = true := by simp
    have h3 : (E == E) = true := by simp
    rintro e w1 ⟨rfl, hb1⟩
    have nHX := Lib.hid (HX.out.below hb1)
    have nHP := Lib.hid (HP.out.below hb1)
    have nHB := Lib.hid (bthen HB.out hb1)
    clear HX HP HB hb1
    have HX := nHX
    have HP := nHP
    have HB := nHB
    clear nHX nHP nHB
    go_wp2_with (first | (go_at_call 6; (with_reducible refine (wworks_c _).mono ?_); rintro e w1 ⟨rfl, hb1⟩; have nHX := Lib.hid (HX.out.below hb1); have nHP := Lib.hid (HP.out.below hb1); have nHB := Lib.hid (bthen HB.out hb1); have zz1 := hb1.size; clear HX HP HB hb1; have HX := nHX; have HP := nHP; have HB := nHB; clear nHX nHP nHB))
    go_ret
    exact ⟨rfl, HB.out⟩
end Go.Proofs.YtfcjblnebaemgaaGreat
