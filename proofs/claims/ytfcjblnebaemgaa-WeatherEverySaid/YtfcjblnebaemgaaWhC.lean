/- The law WeatherEvery: weathers that may be are flyable where the place is open, and the place is perhaps open where they are flyable. -/
import Derived.Test.YtfcjblnebaemgaaWhB
import Derived.Test.YtfcjblnebaemgaaWfD
import Derived.Test.YtfcjblnebaemgaaRgM
set_option linter.all false
namespace Go.Proofs.Ytfcjblnebaemgaa
open Go Go.RowKit Go.Proofs
set_option maxRecDepth 100000
set_option maxHeartbeats 8000000

theorem real_all {M : MetD} {p f : Int} {G : Nat → Nat → Int} {H : Nat → Nat → Bool} : ∀ (k i : Nat), (realR M p f G H k i).2 = true → ∀ j : Nat, i ≤ j → j < i + k → hasB (M.may p (f + j)) (G j 0) (G j 1) (G j 2) (H j 3) (H j 4) = true
  | 0, i, _, j, h1, h2 => by omega
  | k + 1, i, h, j, h1, h2 => by
    unfold realR at h
    split at h
    · rename_i hc
      simp only [Bool.and_eq_true] at hc
      by_cases e : j = i
      · subst e; exact hc.1
      · exact real_all k (i + 1) h j (by omega) (by omega)
    · cases h
theorem hasB_iff {x : Sk} {a b c : Int} {i s : Bool} : hasB x a b c i s = true ↔ (x.a0 ≤ a ∧ a ≤ x.a1) ∧ (x.a2 ≤ b ∧ b ≤ x.a3) ∧ (x.a4 ≤ c ∧ c ≤ x.a5) ∧ (i = true → x.i = true) ∧ (s = true → x.s = true) := by
  unfold hasB
  simp only [Bool.and_eq_true, inB_iff]
  cases i <;> cases s <;> cases x.i <;> cases x.s <;> simp
theorem has_worst {x : Sk} {a b c : Int} {i s : Bool} {lw ls lc : Int} {li lt : Bool} (h : hasB x a b c i s = true) (ho : openB x lw ls lc li lt = true) : flyB a b c i s lw ls lc li lt = true := by
  rw [hasB_iff] at h
  unfold openB at ho
  rw [flyB_iff] at *
  exact ⟨by omega, by omega, by omega, fun e => ho.2.2.2.1 (h.2.2.2.1 e), fun e => ho.2.2.2.2 (h.2.2.2.2 e)⟩
theorem has_best {x : Sk} {a b c : Int} {i s : Bool} {lw ls lc : Int} {li lt : Bool} (h : hasB x a b c i s = true) (hf : flyB a b c i s lw ls lc li lt = true) : perhB x lw ls lc li lt = true := by
  rw [hasB_iff] at h
  unfold perhB
  rw [flyB_iff] at hf ⊢
  exact ⟨by omega, by omega, by omega, (fun e => nomatch e), (fun e => nomatch e)⟩
theorem atE_up {M : MetD} {p f : Int} {k : Nat} (h : atE M p f = 0) (h2 : f + k ≤ 2000) : atE M p (f + k) = 0 := by
  have h0 := (atE_ok h).2.1
  unfold atE at *
  cases hb : M.bad
  · rw [hb, if_neg (by decide)] at h
    rw [if_neg (by decide)]
    cases b1 : inB p 0 (M.places - 1)
    · rw [b1] at h; cases h
    · rw [inB_iff.2 (show 0 ≤ f + (k : Int) ∧ f + (k : Int) ≤ 2000 by omega)]; rfl
  · rw [hb] at h; cases h
theorem realE_ok {M : MetD} {p f : Int} {n : Nat} {G : Nat → Nat → Int} (h : realE M p f n G = 0) : atE M p f = 0 ∧ f + n - 1 ≤ 2000 := by
  unfold realE at h
  by_cases h1 : atE M p f = 0
  · rw [if_pos h1] at h
    by_cases h2 : 2000 < f + (n : Int) - 1
    · rw [if_pos h2] at h; cases h
    · exact ⟨h1, by omega⟩
  · rw [if_neg h1] at h; exact absurd h h1
theorem every_law {M : MetD} {p f lw ls lc : Int} {li lt : Bool} {n : Nat} {G : Nat → Nat → Int} {H : Nat → Nat → Bool} (ho : opE M lw ls lc p f = 0) (hr : realE M p f n G = 0) (hv : (realV M p f n G H).2 = true) (k : Nat) (hk : k < n) :
    f + k ≤ 2000 ∧ 0 ≤ f ∧ opE M lw ls lc p (f + k) = 0 ∧ (openV M lw ls lc li lt p (f + k) = true → flyB (G k 0) (G k 1) (G k 2) (H k 3) (H k 4) lw ls lc li lt = true) ∧ (flyB (G k 0) (G k 1) (G k 2) (H k 3) (H k 4) lw ls lc li lt = true → perhV M lw ls lc li lt p (f + k) = true) := by
  obtain ⟨r1, r2⟩ := realE_ok hr
  have h0 := (atE_ok r1).2.1
  have e : opE M lw ls lc p (f + k) = 0 := opE_mk (opE_split ho).1 (atE_up r1 (by omega))
  unfold realV at hv
  rw [if_pos hr] at hv
  have hh := real_all n 0 hv k (Nat.zero_le _) (by omega)
  unfold openV perhV
  rw [e]
  refine ⟨by omega, h0, rfl, fun h => has_worst hh (by simpa using h), fun h => by rw [has_best hh h]; rfl⟩
theorem Try.weU : Try.prog.underlying 64 = some (.slice 49) := by kernel_rfl
theorem Try.weI : (Try.prog.info? 49).map (fun i => (i.zero.map (·.cells.size), i.size, decide (i.bytes ≤ 200))) = some (some 5, 5, true) := by kernel_rfl
theorem weV_one (G : Nat → Nat → Int) (H : Nat → Nat → Bool) (i j : Nat) : (weV G H i j).oneCell' = true := by unfold weV; split <;> rfl
theorem wpl_cpw {ty sl : TypeId} {k : Nat} {V : Nat → Nat → Value} {ops : Array Oper} {rest : List Oper} {o : Oper} {a : Act} {w : World} {Q : Exit → Act → World → Prop} (hgd : o.guard = none) (s x : Operand)
    (hu : Try.prog.underlying sl = some (.slice ty)) (hi : (Try.prog.info? ty).map (fun i => (i.zero.map (·.cells.size), i.size, decide (i.bytes ≤ 200))) = some (some k, k, true)) (hk : 0 < k) (h1 : ∀ i j, (V i j).oneCell' = true)
    (ho : o.op = .call { callee := .builtin .append, args := #[s, x], argTypes := #[sl, sl] }) (g : Nat) (hs : a.eval s = .slice (some ⟨g, 0, none⟩) 0 0) (hgb : w.heap[g]? = some (.cells #[] ty (0, 0)))
    (A : Option Addr) (n c : Nat) (hx : a.eval x = .slice A n c) (hr : RecsAt w A n k V) (hn : n ≤ 100)
    (h : ∀ v' w', Hid (∃ A' c', v' = .slice A' n c' ∧ n ≤ c' ∧ c' ≤ 9223372036854775807 ∧ RecsAt w' A' n k V ∧ ∀ b, some b = v'.ownBlock → g ≤ b) → Hid (Below w.heap.size w w') → wpList Try.prog ops Q rest (a.put o.dst v') w') : wpList Try.prog ops Q (o :: rest) a w := by
  cases hI : Try.prog.info? ty with
  | none => rw [hI] at hi; cases hi
  | some i =>
    rw [hI] at hi
    simp only [Option.map_some, Option.some.injEq, Prod.mk.injEq, decide_eq_true_eq] at hi
    obtain ⟨i1, i2, i3⟩ := hi
    cases hz : i.zero with
    | none => rw [hz] at i1; cases i1
    | some z =>
      rw [hz] at i1
      simp only [Option.map_some, Option.some.injEq] at i1
      have hb : n * i.bytes ≤ 100 * 200 := Nat.mul_le_mul hn i3
      refine wpl_append_newk hgd s x sl ho ty i z k i.bytes hu hI hz i2 rfl i1 hk g hs hgb g (Nat.le_refl _) A n c hx _ hr.cells (fun q _ => h1 _ _) (by unfold maxLen; omega) (by omega) (fun v' w' ho' hbl => ?_)
      obtain ⟨A', c', e, q1, q2, q3⟩ := RecsAt.of_owns (V := V) hk ho'
      exact h v' w' ⟨A', c', e, q1, q2, q3, fun b hb => owns_base ho' hb⟩ hbl
def EmptyW (v : Value) (w : World) : Prop := ∃ g, v = .slice (some ⟨g, 0, none⟩) 0 0 ∧ Blk w g 49 #[]
theorem EmptyW.below {v : Value} {w w' : World} (h : EmptyW v w) (hb : Below w.heap.size w w') : EmptyW v w' := by
  obtain ⟨g, e, h⟩ := h
  exact ⟨g, e, h.below hb⟩
def WesV (n : Nat) (G : Nat → Nat → Int) (H : Nat → Nat → Bool) (v : Value) (w : World) : Prop := ∃ A' c', v = .slice A' n c' ∧ RecsAt w A' n 5 (weV G H)
theorem WesV.below {n : Nat} {G : Nat → Nat → Int} {H : Nat → Nat → Bool} {v : Value} {w w' : World} (h : WesV n G H v w) (hb : Below w.heap.size w w') : WesV n G H v w' := by
  obtain ⟨A', c', e, h⟩ := h
  exact ⟨A', c', e, h.below hb⟩
def everR (w0 : Nat) (g : Nat) (r l : Value) (p f : Int) (n : Nat) (G : Nat → Nat → Int) (H : Nat → Nat → Bool) (R1 : Int) (R2 : Bool) (E : Int) : Nat → Value → World → Prop
  | 0, v, _ => v = r
  | 1, v, _ => v = .pointer (some ⟨g + 1 + 1, 0, none⟩)
  | 2, v, _ => v = .pointer (some ⟨g + 1 + 1, 0, none⟩)
  | 3, v, _ => v = .int .i64 p
  | 4, v, _ => v = .pointer (some ⟨g + 1 + 1, 0, none⟩)
  | 5, v, _ => v = .pointer (some ⟨g + 1 + 1, 1, none⟩)
  | 6, v, _ => v = .int .i64 f
  | 7, v, w => EmptyW v w
  | 8, v, _ => v = .pointer (some ⟨g + 1 + 1, 2, none⟩)
  | 9, v, _ => v = l
  | 10, v, w => WesV n G H v w
  | 11, v, _ => v = .tuple #[.int .i64 R1, .bool R2, .int .i64 E]
  | 12, v, _ => v = .tuple #[.int .i64 R1, .bool R2, .int .i64 E]
  | 13, v, _ => v = .int .i64 R1
  | 14, v, _ => v = .bool R2
  | 15, v, _ => v = .int .i64 E
  | _, _, _ => True
theorem everR_below {w0 : Nat} {g : Nat} {r l : Value} {p f : Int} {n : Nat} {G : Nat → Nat → Int} {H : Nat → Nat → Bool} {R1 : Int} {R2 : Bool} {E : Int} (k : Nat) (v : Value) (w w' : World) (hb : Below w.heap.size w w') (h : everR w0 g r l p f n G H R1 R2 E k v w) : everR w0 g r l p f n G H R1 R2 E k v w' := by
  unfold everR at *
  split at h <;> first | exact h | exact EmptyW.below h hb | exact WesV.below h hb
/-- What the loop keeps. -/
structure EvK (M : MetD) (B : Option Addr) (cB : Nat) (B2 : Option Addr) (cB2 : Nat) (lw ls lc : Int) (li lt : Bool) (p f : Int) (A : Option Addr) (n c g : Nat) (w wr : World) : Prop where
  b : Below w.heap.size w wr
  l : Blk wr (w.heap.size + 1) 31 #[.int .i64 lw, .int .i64 ls, .int .i64 lc, .bool li, .bool lt]
  h : Blk wr (w.heap.size + 1 + 1) 66 #[.int .i64 p, .int .i64 f, .slice A n c]
  q : Blk wr g 29 #[.int .i64 M.places, .int .i64 M.any.a0, .int .i64 M.any.a1, .int .i64 M.any.a2, .int .i64 M.any.a3, .int .i64 M.any.a4, .int .i64 M.any.a5, .bool M.any.i, .bool M.any.s, .int .i64 M.mw, .int .i64 M.ms, .int .i64 M.mc, .slice B M.n cB, .slice B2 M.m cB2]
  a : MetAt wr (.slice B M.n cB) (.slice B2 M.m cB2) M
theorem EvK.grow {M : MetD} {B : Option Addr} {cB : Nat} {B2 : Option Addr} {cB2 : Nat} {lw ls lc : Int} {li lt : Bool} {p f : Int} {A : Option Addr} {n c g : Nat} {w wr w2 : World} (h : EvK M B cB B2 cB2 lw ls lc li lt p f A n c g w wr) (hb : Below wr.heap.size wr w2) : EvK M B cB B2 cB2 lw ls lc li lt p f A n c g w w2 :=
  ⟨bthen h.b hb, h.l.below hb, h.h.below hb, h.q.below hb, h.a.below hb⟩
-- done
theorem WeatherEvery_c (M : MetD) (vF vS : Value) (lw ls lc : Int) (li lt : Bool) (p f : Int) (A : Option Addr) (n c : Nat) (G : Nat → Nat → Int) (H : Nat → Nat → Bool) (w : World) (hA : MetAt w vF vS M) (hc1 : n ≤ c) (hc2 : c ≤ 9223372036854775807) (hW : RecsAt w A n 5 (weV G H)) :
   Calls Try.prog 7 #[.agg #[.int .i64 M.places, .int .i64 M.any.a0, .int .i64 M.any.a1, .int .i64 M.any.a2, .int .i64 M.any.a3, .int .i64 M.any.a4, .int .i64 M.any.a5, .bool M.any.i, .bool M.any.s, .int .i64 M.mw, .int .i64 M.ms, .int .i64 M.mc, vF, vS], .agg #[.int .i64 lw, .int .i64 ls, .int .i64 lc, .bool li, .bool lt], .agg #[.int .i64 p, .int .i64 f, .slice A n c]] w fun e w' => e = .returned (.bool true) ∧ Below w.heap.size w w' := by
  have HA := Lib.hid hA
  have HWS := Lib.hid hW
  have HFR := Lib.hid (fun w1 h => wFar_c M vF vS w1 h)
  have HCK := Lib.hid (fun w1 h => rw_CheckOpen_c M vF vS lw ls lc li lt p f w1 h)
  clear hA hW
  cases hf : M.far
  case true =>
    rw [hf] at HFR
    clear hf
    have tok0 : True := trivial
    go_enter Try.func7, Try.ntmps7
    go_wp2_with (fail)
    have bHX : Blk (((w.alloc (.cells #[.int .i64 M.places, .int .i64 M.any.a0, .int .i64 M.any.a1, .int .i64 M.any.a2, .int .i64 M.any.a3, .int .i64 M.any.a4, .int .i64 M.any.a5, .bool M.any.i, .bool M.any.s, .int .i64 M.mw, .int .i64 M.ms, .int .i64 M.mc, vF, vS] 29)).alloc (.cells #[.int .i64 lw, .int .i64 ls, .int .i64 lc, .bool li, .bool lt] 31)).alloc (.cells #[.int .i64 p, .int .i64 f, .slice A n c] 66)) (w.heap.size) 29 #[.int .i64 M.places, .int .i64 M.any.a0, .int .i64 M.any.a1, .int .i64 M.any.a2, .int .i64 M.any.a3, .int .i64 M.any.a4, .int .i64 M.any.a5, .bool M.any.i, .bool M.any.s, .int .i64 M.mw, .int .i64 M.ms, .int .i64 M.mc, vF, vS] := (by repeat (first | (refine Blk.newAt _ _ _ ?_; first | rfl | (simp; done)) | refine Blk.alloc ?_ _))
    have bHL : Blk (((w.alloc (.cells #[.int .i64 M.places, .int .i64 M.any.a0, .int .i64 M.any.a1, .int .i64 M.any.a2, .int .i64 M.any.a3, .int .i64 M.any.a4, .int .i64 M.any.a5, .bool M.any.i, .bool M.any.s, .int .i64 M.mw, .int .i64 M.ms, .int .i64 M.mc, vF, vS] 29)).alloc (.cells #[.int .i64 lw, .int .i64 ls, .int .i64 lc, .bool li, .bool lt] 31)).alloc (.cells #[.int .i64 p, .int .i64 f, .slice A n c] 66)) (w.heap.size + 1) 31 #[.int .i64 lw, .int .i64 ls, .int .i64 lc, .bool li, .bool lt] := (by repeat (first | (refine Blk.newAt _ _ _ ?_; first | rfl | (simp; done)) | refine Blk.alloc ?_ _))
    have bHH : Blk (((w.alloc (.cells #[.int .i64 M.places, .int .i64 M.any.a0, .int .i64 M.any.a1, .int .i64 M.any.a2, .int .i64 M.any.a3, .int .i64 M.any.a4, .int .i64 M.any.a5, .bool M.any.i, .bool M.any.s, .int .i64 M.mw, .int .i64 M.ms, .int .i64 M.mc, vF, vS] 29)).alloc (.cells #[.int .i64 lw, .int .i64 ls, .int .i64 lc, .bool li, .bool lt] 31)).alloc (.cells #[.int .i64 p, .int .i64 f, .slice A n c] 66)) (w.heap.size + 1 + 1) 66 #[.int .i64 p, .int .i64 f, .slice A n c] := (by repeat (first | (refine Blk.newAt _ _ _ ?_; first | rfl | (simp; done)) | refine Blk.alloc ?_ _))
    have bHB : Below w.heap.size w (((w.alloc (.cells #[.int .i64 M.places, .int .i64 M.any.a0, .int .i64 M.any.a1, .int .i64 M.any.a2, .int .i64 M.any.a3, .int .i64 M.any.a4, .int .i64 M.any.a5, .bool M.any.i, .bool M.any.s, .int .i64 M.mw, .int .i64 M.ms, .int .i64 M.mc, vF, vS] 29)).alloc (.cells #[.int .i64 lw, .int .i64 ls, .int .i64 lc, .bool li, .bool lt] 31)).alloc (.cells #[.int .i64 p, .int .i64 f, .slice A n c] 66)) := (by repeat' (first | exact Below.refl _ _ | assumption | refine Below.drew ?_ | refine bdn ?_ _ | refine bal ?_ _ | refine Below.setCell ?_ (by first | (simp; done) | omega | (simp; omega)) _))
    generalize (((w.alloc (.cells #[.int .i64 M.places, .int .i64 M.any.a0, .int .i64 M.any.a1, .int .i64 M.any.a2, .int .i64 M.any.a3, .int .i64 M.any.a4, .int .i64 M.any.a5, .bool M.any.i, .bool M.any.s, .int .i64 M.mw, .int .i64 M.ms, .int .i64 M.mc, vF, vS] 29)).alloc (.cells #[.int .i64 lw, .int .i64 ls, .int .i64 lc, .bool li, .bool lt] 31)).alloc (.cells #[.int .i64 p, .int .i64 f, .slice A n c] 66)) = W at *
    have zW := bHH.lt
    have HX := Lib.hid bHX
    have HL := Lib.hid bHL
    have HH := Lib.hid bHH
    have HB := Lib.hid bHB
    clear bHX bHL bHH bHB
    go_wp2_with (first | (have _t := tok0; refine wpl_row rfl 29 (.tmp 3) rfl _ rfl #[.int .i64 M.places, .int .i64 M.any.a0, .int .i64 M.any.a1, .int .i64 M.any.a2, .int .i64 M.any.a3, .int .i64 M.any.a4, .int .i64 M.any.a5, .bool M.any.i, .bool M.any.s, .int .i64 M.mw, .int .i64 M.ms, .int .i64 M.mc, vF, vS] 14 HX.out Try.rowMet rfl ?_; simp only [Act.put]) | (have _t := tok0; clear tok0; go_at_call 8; refine (HFR.out _ (HA.out.below HB.out)).mono ?_; rintro e w1 ⟨rfl, hb1⟩; have nHX := Lib.hid (HX.out.below hb1); have nHL := Lib.hid (HL.out.below hb1); have nHH := Lib.hid (HH.out.below hb1); have nHB := Lib.hid (bthen HB.out hb1); clear HX HL HH HB hb1; have HX := nHX; have HL := nHL; have HH := nHH; have HB := nHB; clear nHX nHL nHH nHB; have c0 := HH.out.cell 0; have c1 := HH.out.cell 1; have c2 := HH.out.cell 2; simp only [List.getElem?_toArray, List.getElem?_cons_succ, List.getElem?_cons_zero] at c0 c1 c2) | (go_at_call 9; (with_reducible refine (wworks_c _).mono ?_); rintro e w1 ⟨rfl, hb1⟩; have nHX := Lib.hid (HX.out.below hb1); have nHL := Lib.hid (HL.out.below hb1); have nHH := Lib.hid (HH.out.below hb1); have nHB := Lib.hid (bthen HB.out hb1); have zz1 := hb1.size; clear HX HL HH HB hb1; have HX := nHX; have HL := nHL; have HH := nHH; have HB := nHB; clear nHX nHL nHH nHB))
    go_ret
    exact ⟨rfl, HB.out⟩
  rw [hf] at HFR
  have HFF := Lib.hid hf
  clear hf
  by_cases hn : 60 < n
  · have hnz : decide ((60 : Int) < (n : Int)) = true := decide_eq_true (by omega)
    have tok0 : True := trivial
    go_enter Try.func7, Try.ntmps7
    go_wp2_with (fail)
    have bHX : Blk (((w.alloc (.cells #[.int .i64 M.places, .int .i64 M.any.a0, .int .i64 M.any.a1, .int .i64 M.any.a2, .int .i64 M.any.a3, .int .i64 M.any.a4, .int .i64 M.any.a5, .bool M.any.i, .bool M.any.s, .int .i64 M.mw, .int .i64 M.ms, .int .i64 M.mc, vF, vS] 29)).alloc (.cells #[.int .i64 lw, .int .i64 ls, .int .i64 lc, .bool li, .bool lt] 31)).alloc (.cells #[.int .i64 p, .int .i64 f, .slice A n c] 66)) (w.heap.size) 29 #[.int .i64 M.places, .int .i64 M.any.a0, .int .i64 M.any.a1, .int .i64 M.any.a2, .int .i64 M.any.a3, .int .i64 M.any.a4, .int .i64 M.any.a5, .bool M.any.i, .bool M.any.s, .int .i64 M.mw, .int .i64 M.ms, .int .i64 M.mc, vF, vS] := (by repeat (first | (refine Blk.newAt _ _ _ ?_; first | rfl | (simp; done)) | refine Blk.alloc ?_ _))
    have bHL : Blk (((w.alloc (.cells #[.int .i64 M.places, .int .i64 M.any.a0, .int .i64 M.any.a1, .int .i64 M.any.a2, .int .i64 M.any.a3, .int .i64 M.any.a4, .int .i64 M.any.a5, .bool M.any.i, .bool M.any.s, .int .i64 M.mw, .int .i64 M.ms, .int .i64 M.mc, vF, vS] 29)).alloc (.cells #[.int .i64 lw, .int .i64 ls, .int .i64 lc, .bool li, .bool lt] 31)).alloc (.cells #[.int .i64 p, .int .i64 f, .slice A n c] 66)) (w.heap.size + 1) 31 #[.int .i64 lw, .int .i64 ls, .int .i64 lc, .bool li, .bool lt] := (by repeat (first | (refine Blk.newAt _ _ _ ?_; first | rfl | (simp; done)) | refine Blk.alloc ?_ _))
    have bHH : Blk (((w.alloc (.cells #[.int .i64 M.places, .int .i64 M.any.a0, .int .i64 M.any.a1, .int .i64 M.any.a2, .int .i64 M.any.a3, .int .i64 M.any.a4, .int .i64 M.any.a5, .bool M.any.i, .bool M.any.s, .int .i64 M.mw, .int .i64 M.ms, .int .i64 M.mc, vF, vS] 29)).alloc (.cells #[.int .i64 lw, .int .i64 ls, .int .i64 lc, .bool li, .bool lt] 31)).alloc (.cells #[.int .i64 p, .int .i64 f, .slice A n c] 66)) (w.heap.size + 1 + 1) 66 #[.int .i64 p, .int .i64 f, .slice A n c] := (by repeat (first | (refine Blk.newAt _ _ _ ?_; first | rfl | (simp; done)) | refine Blk.alloc ?_ _))
    have bHB : Below w.heap.size w (((w.alloc (.cells #[.int .i64 M.places, .int .i64 M.any.a0, .int .i64 M.any.a1, .int .i64 M.any.a2, .int .i64 M.any.a3, .int .i64 M.any.a4, .int .i64 M.any.a5, .bool M.any.i, .bool M.any.s, .int .i64 M.mw, .int .i64 M.ms, .int .i64 M.mc, vF, vS] 29)).alloc (.cells #[.int .i64 lw, .int .i64 ls, .int .i64 lc, .bool li, .bool lt] 31)).alloc (.cells #[.int .i64 p, .int .i64 f, .slice A n c] 66)) := (by repeat' (first | exact Below.refl _ _ | assumption | refine Below.drew ?_ | refine bdn ?_ _ | refine bal ?_ _ | refine Below.setCell ?_ (by first | (simp; done) | omega | (simp; omega)) _))
    generalize (((w.alloc (.cells #[.int .i64 M.places, .int .i64 M.any.a0, .int .i64 M.any.a1, .int .i64 M.any.a2, .int .i64 M.any.a3, .int .i64 M.any.a4, .int .i64 M.any.a5, .bool M.any.i, .bool M.any.s, .int .i64 M.mw, .int .i64 M.ms, .int .i64 M.mc, vF, vS] 29)).alloc (.cells #[.int .i64 lw, .int .i64 ls, .int .i64 lc, .bool li, .bool lt] 31)).alloc (.cells #[.int .i64 p, .int .i64 f, .slice A n c] 66)) = W at *
    have zW := bHH.lt
    have HX := Lib.hid bHX
    have HL := Lib.hid bHL
    have HH := Lib.hid bHH
    have HB := Lib.hid bHB
    clear bHX bHL bHH bHB
    go_wp2_with (first | (have _t := tok0; refine wpl_row rfl 29 (.tmp 3) rfl _ rfl #[.int .i64 M.places, .int .i64 M.any.a0, .int .i64 M.any.a1, .int .i64 M.any.a2, .int .i64 M.any.a3, .int .i64 M.any.a4, .int .i64 M.any.a5, .bool M.any.i, .bool M.any.s, .int .i64 M.mw, .int .i64 M.ms, .int .i64 M.mc, vF, vS] 14 HX.out Try.rowMet rfl ?_; simp only [Act.put]) | (have _t := tok0; clear tok0; go_at_call 8; refine (HFR.out _ (HA.out.below HB.out)).mono ?_; rintro e w1 ⟨rfl, hb1⟩; have nHX := Lib.hid (HX.out.below hb1); have nHL := Lib.hid (HL.out.below hb1); have nHH := Lib.hid (HH.out.below hb1); have nHB := Lib.hid (bthen HB.out hb1); clear HX HL HH HB hb1; have HX := nHX; have HL := nHL; have HH := nHH; have HB := nHB; clear nHX nHL nHH nHB; have c0 := HH.out.cell 0; have c1 := HH.out.cell 1; have c2 := HH.out.cell 2; simp only [List.getElem?_toArray, List.getElem?_cons_succ, List.getElem?_cons_zero] at c0 c1 c2) | (go_at_call 9; (with_reducible refine (wworks_c _).mono ?_); rintro e w1 ⟨rfl, hb1⟩; have nHX := Lib.hid (HX.out.below hb1); have nHL := Lib.hid (HL.out.below hb1); have nHH := Lib.hid (HH.out.below hb1); have nHB := Lib.hid (bthen HB.out hb1); have zz1 := hb1.size; clear HX HL HH HB hb1; have HX := nHX; have HL := nHL; have HH := nHH; have HB := nHB; clear nHX nHL nHH nHB))
    go_ret
    exact ⟨rfl, HB.out⟩
  have hnz : decide ((60 : Int) < (n : Int)) = false := decide_eq_false (by omega)
  by_cases he : opE M lw ls lc p f = 0
  case neg =>
    have hez : (opE M lw ls lc p f != 0) = true := by simpa using he
    clear he
    generalize opE M lw ls lc p f = E at *
    have tok0 : True := trivial
    go_enter Try.func7, Try.ntmps7
    go_wp2_with (fail)
    have bHX : Blk (((w.alloc (.cells #[.int .i64 M.places, .int .i64 M.any.a0, .int .i64 M.any.a1, .int .i64 M.any.a2, .int .i64 M.any.a3, .int .i64 M.any.a4, .int .i64 M.any.a5, .bool M.any.i, .bool M.any.s, .int .i64 M.mw, .int .i64 M.ms, .int .i64 M.mc, vF, vS] 29)).alloc (.cells #[.int .i64 lw, .int .i64 ls, .int .i64 lc, .bool li, .bool lt] 31)).alloc (.cells #[.int .i64 p, .int .i64 f, .slice A n c] 66)) (w.heap.size) 29 #[.int .i64 M.places, .int .i64 M.any.a0, .int .i64 M.any.a1, .int .i64 M.any.a2, .int .i64 M.any.a3, .int .i64 M.any.a4, .int .i64 M.any.a5, .bool M.any.i, .bool M.any.s, .int .i64 M.mw, .int .i64 M.ms, .int .i64 M.mc, vF, vS] := (by repeat (first | (refine Blk.newAt _ _ _ ?_; first | rfl | (simp; done)) | refine Blk.alloc ?_ _))
    have bHL : Blk (((w.alloc (.cells #[.int .i64 M.places, .int .i64 M.any.a0, .int .i64 M.any.a1, .int .i64 M.any.a2, .int .i64 M.any.a3, .int .i64 M.any.a4, .int .i64 M.any.a5, .bool M.any.i, .bool M.any.s, .int .i64 M.mw, .int .i64 M.ms, .int .i64 M.mc, vF, vS] 29)).alloc (.cells #[.int .i64 lw, .int .i64 ls, .int .i64 lc, .bool li, .bool lt] 31)).alloc (.cells #[.int .i64 p, .int .i64 f, .slice A n c] 66)) (w.heap.size + 1) 31 #[.int .i64 lw, .int .i64 ls, .int .i64 lc, .bool li, .bool lt] := (by repeat (first | (refine Blk.newAt _ _ _ ?_; first | rfl | (simp; done)) | refine Blk.alloc ?_ _))
    have bHH : Blk (((w.alloc (.cells #[.int .i64 M.places, .int .i64 M.any.a0, .int .i64 M.any.a1, .int .i64 M.any.a2, .int .i64 M.any.a3, .int .i64 M.any.a4, .int .i64 M.any.a5, .bool M.any.i, .bool M.any.s, .int .i64 M.mw, .int .i64 M.ms, .int .i64 M.mc, vF, vS] 29)).alloc (.cells #[.int .i64 lw, .int .i64 ls, .int .i64 lc, .bool li, .bool lt] 31)).alloc (.cells #[.int .i64 p, .int .i64 f, .slice A n c] 66)) (w.heap.size + 1 + 1) 66 #[.int .i64 p, .int .i64 f, .slice A n c] := (by repeat (first | (refine Blk.newAt _ _ _ ?_; first | rfl | (simp; done)) | refine Blk.alloc ?_ _))
    have bHB : Below w.heap.size w (((w.alloc (.cells #[.int .i64 M.places, .int .i64 M.any.a0, .int .i64 M.any.a1, .int .i64 M.any.a2, .int .i64 M.any.a3, .int .i64 M.any.a4, .int .i64 M.any.a5, .bool M.any.i, .bool M.any.s, .int .i64 M.mw, .int .i64 M.ms, .int .i64 M.mc, vF, vS] 29)).alloc (.cells #[.int .i64 lw, .int .i64 ls, .int .i64 lc, .bool li, .bool lt] 31)).alloc (.cells #[.int .i64 p, .int .i64 f, .slice A n c] 66)) := (by repeat' (first | exact Below.refl _ _ | assumption | refine Below.drew ?_ | refine bdn ?_ _ | refine bal ?_ _ | refine Below.setCell ?_ (by first | (simp; done) | omega | (simp; omega)) _))
    generalize (((w.alloc (.cells #[.int .i64 M.places, .int .i64 M.any.a0, .int .i64 M.any.a1, .int .i64 M.any.a2, .int .i64 M.any.a3, .int .i64 M.any.a4, .int .i64 M.any.a5, .bool M.any.i, .bool M.any.s, .int .i64 M.mw, .int .i64 M.ms, .int .i64 M.mc, vF, vS] 29)).alloc (.cells #[.int .i64 lw, .int .i64 ls, .int .i64 lc, .bool li, .bool lt] 31)).alloc (.cells #[.int .i64 p, .int .i64 f, .slice A n c] 66)) = W at *
    have zW := bHH.lt
    have HX := Lib.hid bHX
    have HL := Lib.hid bHL
    have HH := Lib.hid bHH
    have HB := Lib.hid bHB
    clear bHX bHL bHH bHB
    go_wp2_with (first | (have _t := tok0; refine wpl_row rfl 29 (.tmp 3) rfl _ rfl #[.int .i64 M.places, .int .i64 M.any.a0, .int .i64 M.any.a1, .int .i64 M.any.a2, .int .i64 M.any.a3, .int .i64 M.any.a4, .int .i64 M.any.a5, .bool M.any.i, .bool M.any.s, .int .i64 M.mw, .int .i64 M.ms, .int .i64 M.mc, vF, vS] 14 HX.out Try.rowMet rfl ?_; simp only [Act.put]) | (have _t := tok0; clear tok0; go_at_call 8; refine (HFR.out _ (HA.out.below HB.out)).mono ?_; rintro e w1 ⟨rfl, hb1⟩; have nHX := Lib.hid (HX.out.below hb1); have nHL := Lib.hid (HL.out.below hb1); have nHH := Lib.hid (HH.out.below hb1); have nHB := Lib.hid (bthen HB.out hb1); clear HX HL HH HB hb1; have HX := nHX; have HL := nHL; have HH := nHH; have HB := nHB; clear nHX nHL nHH nHB; have c0 := HH.out.cell 0; have c1 := HH.out.cell 1; have c2 := HH.out.cell 2; simp only [List.getElem?_toArray, List.getElem?_cons_succ, List.getElem?_cons_zero] at c0 c1 c2) | (refine wpl_row_g ?_ 29 (.tmp 3) rfl _ rfl #[.int .i64 M.places, .int .i64 M.any.a0, .int .i64 M.any.a1, .int .i64 M.any.a2, .int .i64 M.any.a3, .int .i64 M.any.a4, .int .i64 M.any.a5, .bool M.any.i, .bool M.any.s, .int .i64 M.mw, .int .i64 M.ms, .int .i64 M.mc, vF, vS] 14 HX.out Try.rowMet rfl ?_; (focus rfl); simp only [Act.put]) | (refine wpl_row_g ?_ 31 (.tmp 4) rfl _ rfl #[.int .i64 lw, .int .i64 ls, .int .i64 lc, .bool li, .bool lt] 5 HL.out Try.rowMin rfl ?_; (focus rfl); simp only [Act.put]) | (go_at_call 20; (with_reducible refine (HCK.out _ (HA.out.below HB.out)).mono ?_); rintro e w1 ⟨rfl, hb1⟩; have nHX := Lib.hid (HX.out.below hb1); have nHL := Lib.hid (HL.out.below hb1); have nHH := Lib.hid (HH.out.below hb1); have nHB := Lib.hid (bthen HB.out hb1); have zz1 := hb1.size; clear HX HL HH HB hb1; have HX := nHX; have HL := nHL; have HH := nHH; have HB := nHB; clear nHX nHL nHH nHB) | (go_at_call 9; (with_reducible refine (wworks_c _).mono ?_); rintro e w1 ⟨rfl, hb1⟩; have nHX := Lib.hid (HX.out.below hb1); have nHL := Lib.hid (HL.out.below hb1); have nHH := Lib.hid (HH.out.below hb1); have nHB := Lib.hid (bthen HB.out hb1); have zz1 := hb1.size; clear HX HL HH HB hb1; have HX := nHX; have HL := nHL; have HH := nHH; have HB := nHB; clear nHX nHL nHH nHB))
    go_ret
    exact ⟨rfl, HB.out⟩
  have HOE := Lib.hid he
  rw [he] at HCK
  clear he
  have tok0 : True := trivial
  go_enter Try.func7, Try.ntmps7
  go_wp2_with (fail)
  have bHX : Blk (((w.alloc (.cells #[.int .i64 M.places, .int .i64 M.any.a0, .int .i64 M.any.a1, .int .i64 M.any.a2, .int .i64 M.any.a3, .int .i64 M.any.a4, .int .i64 M.any.a5, .bool M.any.i, .bool M.any.s, .int .i64 M.mw, .int .i64 M.ms, .int .i64 M.mc, vF, vS] 29)).alloc (.cells #[.int .i64 lw, .int .i64 ls, .int .i64 lc, .bool li, .bool lt] 31)).alloc (.cells #[.int .i64 p, .int .i64 f, .slice A n c] 66)) (w.heap.size) 29 #[.int .i64 M.places, .int .i64 M.any.a0, .int .i64 M.any.a1, .int .i64 M.any.a2, .int .i64 M.any.a3, .int .i64 M.any.a4, .int .i64 M.any.a5, .bool M.any.i, .bool M.any.s, .int .i64 M.mw, .int .i64 M.ms, .int .i64 M.mc, vF, vS] := (by repeat (first | (refine Blk.newAt _ _ _ ?_; first | rfl | (simp; done)) | refine Blk.alloc ?_ _))
  have bHL : Blk (((w.alloc (.cells #[.int .i64 M.places, .int .i64 M.any.a0, .int .i64 M.any.a1, .int .i64 M.any.a2, .int .i64 M.any.a3, .int .i64 M.any.a4, .int .i64 M.any.a5, .bool M.any.i, .bool M.any.s, .int .i64 M.mw, .int .i64 M.ms, .int .i64 M.mc, vF, vS] 29)).alloc (.cells #[.int .i64 lw, .int .i64 ls, .int .i64 lc, .bool li, .bool lt] 31)).alloc (.cells #[.int .i64 p, .int .i64 f, .slice A n c] 66)) (w.heap.size + 1) 31 #[.int .i64 lw, .int .i64 ls, .int .i64 lc, .bool li, .bool lt] := (by repeat (first | (refine Blk.newAt _ _ _ ?_; first | rfl | (simp; done)) | refine Blk.alloc ?_ _))
  have bHH : Blk (((w.alloc (.cells #[.int .i64 M.places, .int .i64 M.any.a0, .int .i64 M.any.a1, .int .i64 M.any.a2, .int .i64 M.any.a3, .int .i64 M.any.a4, .int .i64 M.any.a5, .bool M.any.i, .bool M.any.s, .int .i64 M.mw, .int .i64 M.ms, .int .i64 M.mc, vF, vS] 29)).alloc (.cells #[.int .i64 lw, .int .i64 ls, .int .i64 lc, .bool li, .bool lt] 31)).alloc (.cells #[.int .i64 p, .int .i64 f, .slice A n c] 66)) (w.heap.size + 1 + 1) 66 #[.int .i64 p, .int .i64 f, .slice A n c] := (by repeat (first | (refine Blk.newAt _ _ _ ?_; first | rfl | (simp; done)) | refine Blk.alloc ?_ _))
  have bHB : Below w.heap.size w (((w.alloc (.cells #[.int .i64 M.places, .int .i64 M.any.a0, .int .i64 M.any.a1, .int .i64 M.any.a2, .int .i64 M.any.a3, .int .i64 M.any.a4, .int .i64 M.any.a5, .bool M.any.i, .bool M.any.s, .int .i64 M.mw, .int .i64 M.ms, .int .i64 M.mc, vF, vS] 29)).alloc (.cells #[.int .i64 lw, .int .i64 ls, .int .i64 lc, .bool li, .bool lt] 31)).alloc (.cells #[.int .i64 p, .int .i64 f, .slice A n c] 66)) := (by repeat' (first | exact Below.refl _ _ | assumption | refine Below.drew ?_ | refine bdn ?_ _ | refine bal ?_ _ | refine Below.setCell ?_ (by first | (simp; done) | omega | (simp; omega)) _))
  generalize (((w.alloc (.cells #[.int .i64 M.places, .int .i64 M.any.a0, .int .i64 M.any.a1, .int .i64 M.any.a2, .int .i64 M.any.a3, .int .i64 M.any.a4, .int .i64 M.any.a5, .bool M.any.i, .bool M.any.s, .int .i64 M.mw, .int .i64 M.ms, .int .i64 M.mc, vF, vS] 29)).alloc (.cells #[.int .i64 lw, .int .i64 ls, .int .i64 lc, .bool li, .bool lt] 31)).alloc (.cells #[.int .i64 p, .int .i64 f, .slice A n c] 66)) = W at *
  have zW := bHH.lt
  have HX := Lib.hid bHX
  have HL := Lib.hid bHL
  have HH := Lib.hid bHH
  have HB := Lib.hid bHB
  clear bHX bHL bHH bHB
  go_wp2_with (first | (have _t := tok0; refine wpl_row rfl 29 (.tmp 3) rfl _ rfl #[.int .i64 M.places, .int .i64 M.any.a0, .int .i64 M.any.a1, .int .i64 M.any.a2, .int .i64 M.any.a3, .int .i64 M.any.a4, .int .i64 M.any.a5, .bool M.any.i, .bool M.any.s, .int .i64 M.mw, .int .i64 M.ms, .int .i64 M.mc, vF, vS] 14 HX.out Try.rowMet rfl ?_; simp only [Act.put]) | (have _t := tok0; clear tok0; go_at_call 8; refine (HFR.out _ (HA.out.below HB.out)).mono ?_; rintro e w1 ⟨rfl, hb1⟩; have nHX := Lib.hid (HX.out.below hb1); have nHL := Lib.hid (HL.out.below hb1); have nHH := Lib.hid (HH.out.below hb1); have nHB := Lib.hid (bthen HB.out hb1); clear HX HL HH HB hb1; have HX := nHX; have HL := nHL; have HH := nHH; have HB := nHB; clear nHX nHL nHH nHB; have c0 := HH.out.cell 0; have c1 := HH.out.cell 1; have c2 := HH.out.cell 2; simp only [List.getElem?_toArray, List.getElem?_cons_succ, List.getElem?_cons_zero] at c0 c1 c2) | (refine wpl_row_g ?_ 29 (.tmp 3) rfl _ rfl #[.int .i64 M.places, .int .i64 M.any.a0, .int .i64 M.any.a1, .int .i64 M.any.a2, .int .i64 M.any.a3, .int .i64 M.any.a4, .int .i64 M.any.a5, .bool M.any.i, .bool M.any.s, .int .i64 M.mw, .int .i64 M.ms, .int .i64 M.mc, vF, vS] 14 HX.out Try.rowMet rfl ?_; (focus rfl); simp only [Act.put]) | (refine wpl_row_g ?_ 31 (.tmp 4) rfl _ rfl #[.int .i64 lw, .int .i64 ls, .int .i64 lc, .bool li, .bool lt] 5 HL.out Try.rowMin rfl ?_; (focus rfl); simp only [Act.put]) | (go_at_call 20; (with_reducible refine (HCK.out _ (HA.out.below HB.out)).mono ?_); rintro e w1 ⟨rfl, hb1⟩; have nHX := Lib.hid (HX.out.below hb1); have nHL := Lib.hid (HL.out.below hb1); have nHH := Lib.hid (HH.out.below hb1); have nHB := Lib.hid (bthen HB.out hb1); have zz1 := hb1.size; clear HX HL HH HB hb1; have HX := nHX; have HL := nHL; have HH := nHH; have HB := nHB; clear nHX nHL nHH nHB) | (go_at_call 9; (with_reducible refine (wworks_c _).mono ?_); rintro e w1 ⟨rfl, hb1⟩; have nHX := Lib.hid (HX.out.below hb1); have nHL := Lib.hid (HL.out.below hb1); have nHH := Lib.hid (HH.out.below hb1); have nHB := Lib.hid (bthen HB.out hb1); have zz1 := hb1.size; clear HX HL HH HB hb1; have HX := nHX; have HL := nHL; have HH := nHH; have HB := nHB; clear nHX nHL nHH nHB))
  refine (wown2_c M vF vS _ (HA.out.below HB.out) HFF.out).mono ?_
  rintro e w1 ⟨B, cB, B2, cB2, rfl, hb1, hA1⟩
  have HA1 := Lib.hid hA1
  clear hA1
  have nHX := Lib.hid (HX.out.below hb1)
  have nHL := Lib.hid (HL.out.below hb1)
  have nHH := Lib.hid (HH.out.below hb1)
  have nHB := Lib.hid (bthen HB.out hb1)
  clear HX HL HH HB hb1
  have HX := nHX
  have HL := nHL
  have HH := nHH
  have HB := nHB
  clear nHX nHL nHH nHB
  have tok : True := trivial
  go_wp2_with (first | (have _t := tok; refine wpl_store_newW rfl 29 (.tmp 7) (.tmp 39) rfl #[.int .i64 M.places, .int .i64 M.any.a0, .int .i64 M.any.a1, .int .i64 M.any.a2, .int .i64 M.any.a3, .int .i64 M.any.a4, .int .i64 M.any.a5, .bool M.any.i, .bool M.any.s, .int .i64 M.mw, .int .i64 M.ms, .int .i64 M.mc, .slice B M.n cB, .slice B2 M.m cB2] _ _ rfl ?_ rfl Try.sizeMet rfl (oneM M B B2 _ _ _ _) ?_; (focus (simp; done)); simp only [Act.put]; clear tok))
  have bHQ := Blk.new w1 29 #[.int .i64 M.places, .int .i64 M.any.a0, .int .i64 M.any.a1, .int .i64 M.any.a2, .int .i64 M.any.a3, .int .i64 M.any.a4, .int .i64 M.any.a5, .bool M.any.i, .bool M.any.s, .int .i64 M.mw, .int .i64 M.ms, .int .i64 M.mc, .slice B M.n cB, .slice B2 M.m cB2]
  have nHL := Lib.hid (HL.out.alloc (.cells #[.int .i64 M.places, .int .i64 M.any.a0, .int .i64 M.any.a1, .int .i64 M.any.a2, .int .i64 M.any.a3, .int .i64 M.any.a4, .int .i64 M.any.a5, .bool M.any.i, .bool M.any.s, .int .i64 M.mw, .int .i64 M.ms, .int .i64 M.mc, .slice B M.n cB, .slice B2 M.m cB2] 29))
  have nHH := Lib.hid (HH.out.alloc (.cells #[.int .i64 M.places, .int .i64 M.any.a0, .int .i64 M.any.a1, .int .i64 M.any.a2, .int .i64 M.any.a3, .int .i64 M.any.a4, .int .i64 M.any.a5, .bool M.any.i, .bool M.any.s, .int .i64 M.mw, .int .i64 M.ms, .int .i64 M.mc, .slice B M.n cB, .slice B2 M.m cB2] 29))
  have nHA1 := Lib.hid (HA1.out.alloc (.cells #[.int .i64 M.places, .int .i64 M.any.a0, .int .i64 M.any.a1, .int .i64 M.any.a2, .int .i64 M.any.a3, .int .i64 M.any.a4, .int .i64 M.any.a5, .bool M.any.i, .bool M.any.s, .int .i64 M.mw, .int .i64 M.ms, .int .i64 M.mc, .slice B M.n cB, .slice B2 M.m cB2] 29))
  have nHB := Lib.hid (bal HB.out (.cells #[.int .i64 M.places, .int .i64 M.any.a0, .int .i64 M.any.a1, .int .i64 M.any.a2, .int .i64 M.any.a3, .int .i64 M.any.a4, .int .i64 M.any.a5, .bool M.any.i, .bool M.any.s, .int .i64 M.mw, .int .i64 M.ms, .int .i64 M.mc, .slice B M.n cB, .slice B2 M.m cB2] 29))
  clear HL HH HA1 HB
  have HL := nHL
  have HH := nHH
  have HA1 := nHA1
  have HB := nHB
  clear nHL nHH nHA1 nHB
  generalize w1.alloc (.cells #[.int .i64 M.places, .int .i64 M.any.a0, .int .i64 M.any.a1, .int .i64 M.any.a2, .int .i64 M.any.a3, .int .i64 M.any.a4, .int .i64 M.any.a5, .bool M.any.i, .bool M.any.s, .int .i64 M.mw, .int .i64 M.ms, .int .i64 M.mc, .slice B M.n cB, .slice B2 M.m cB2] 29) = W2 at *
  generalize w1.heap.size = gHQ at *
  have HQ := Lib.hid bHQ
  clear bHQ
  have HRC := Lib.hid (fun w1 A c h => Real_c M (.slice B M.n cB) (.slice B2 M.m cB2) p f A n c G H w1 h (by omega))
  generalize hR : realV M p f n G H = RR at *
  generalize hRE : realE M p f n G = E at *
  have HR := Lib.hid hR
  have HRE := Lib.hid hRE
  clear hR hRE
  obtain ⟨R1, R2⟩ := RR
  dsimp only at HRC
  refine wp_region_specL 16 [14, 15] (everR W2.heap.size w.heap.size (.agg #[.int .i64 M.places, .int .i64 M.any.a0, .int .i64 M.any.a1, .int .i64 M.any.a2, .int .i64 M.any.a3, .int .i64 M.any.a4, .int .i64 M.any.a5, .bool M.any.i, .bool M.any.s, .int .i64 M.mw, .int .i64 M.ms, .int .i64 M.mc, .slice B M.n cB, .slice B2 M.m cB2]) (.slice A n c) p f n G H R1 R2 E) (fun i => false) (by kernel_rfl) (by kernel_rfl) (by decide) everR_below ?hop1 ?htail1
  case hop1 =>
    simp only [List.take_succ_cons, List.take_zero, allOps]
    refine ⟨?_, ?_, ?_, ?_, ?_, ?_, ?_, ?_, ?_, ?_, ?_, ?_, ?_, ?_, ?_, ?_, trivial⟩
    all_goals intro u A w1 hA hb hd
    all_goals simp only [putAll, dstOf, List.getElem?_toArray, List.getElem?_cons_succ, List.getElem?_cons_zero, Option.bind_some, Option.bind, Act.put, List.setIfInBounds_toArray, List.set_cons_succ, List.set_cons_zero] at hA; subst hA
    all_goals have HB1 := Lib.hid hb
    · refine OpOk.now rfl ?_
      clear hb hd
      go_wp2_with (refine wpl_row rfl 29 _ rfl _ rfl _ 14 (HQ.out.below HB1.out) Try.rowMet rfl ?_; simp only [Act.put])
      exact ⟨_, rfl, Below.refl _ _, rfl, fun h => absurd h (by decide)⟩
    · refine OpOk.now rfl ?_
      clear hb hd
      go_wp2
      exact ⟨_, rfl, Below.refl _ _, rfl, fun h => absurd h (by decide)⟩
    · refine OpOk.now rfl ?_
      have d1 : u 1 = _ := hd 1 (by omega) (by kernel_rfl)
      clear hb hd
      rw [d1]
      clear d1
      go_wp2
      exact ⟨_, rfl, Below.refl _ _, rfl, fun h => absurd h (by decide)⟩
    · refine OpOk.now rfl ?_
      have d2 : u 2 = _ := hd 2 (by omega) (by kernel_rfl)
      clear hb hd
      rw [d2]
      clear d2
      have c0 := (HH.out.below HB1.out).cell 0
      go_wp2
      exact ⟨_, rfl, Below.refl _ _, rfl, fun h => absurd h (by decide)⟩
    · refine OpOk.now rfl ?_
      clear hb hd
      go_wp2
      exact ⟨_, rfl, Below.refl _ _, rfl, fun h => absurd h (by decide)⟩
    · refine OpOk.now rfl ?_
      have d4 : u 4 = _ := hd 4 (by omega) (by kernel_rfl)
      clear hb hd
      rw [d4]
      clear d4
      go_wp2
      exact ⟨_, rfl, Below.refl _ _, rfl, fun h => absurd h (by decide)⟩
    · refine OpOk.now rfl ?_
      have d5 : u 5 = _ := hd 5 (by omega) (by kernel_rfl)
      clear hb hd
      rw [d5]
      clear d5
      have c1 := (HH.out.below HB1.out).cell 1
      go_wp2
      exact ⟨_, rfl, Below.refl _ _, rfl, fun h => absurd h (by decide)⟩
    · refine OpOk.now rfl ?_
      clear hb hd
      go_wp2
      exact ⟨_, rfl, bal (Below.refl _ _) _, ⟨_, rfl, Blk.new _ _ _⟩, fun h => absurd h (by decide)⟩
    · refine OpOk.now rfl ?_
      clear hb hd
      go_wp2
      exact ⟨_, rfl, Below.refl _ _, rfl, fun h => absurd h (by decide)⟩
    · refine OpOk.now rfl ?_
      have d8 : u 8 = _ := hd 8 (by omega) (by kernel_rfl)
      clear hb hd
      rw [d8]
      clear d8
      have c2 := (HH.out.below HB1.out).cell 2
      go_wp2
      exact ⟨_, rfl, Below.refl _ _, rfl, fun h => absurd h (by decide)⟩
    · refine OpOk.now rfl ?_
      have d7 := hd 7 (by omega) (by kernel_rfl)
      have d9 : u 9 = _ := hd 9 (by omega) (by kernel_rfl)
      clear hb hd
      rw [d9]
      clear d9
      obtain ⟨g, dg, d1⟩ := d7
      rw [dg]
      clear dg
      refine wpl_cpw rfl (.tmp 48) (.tmp 50) Try.weU Try.weI (by omega) (weV_one G H) rfl g rfl d1 A n c rfl ((HWS.out.below HB.out).below HB1.out) (by omega) ?_
      intro v' w' hq hbl
      exact ⟨v', rfl, hbl.out, (by obtain ⟨A', c', e, -, -, h, -⟩ := hq.out; exact ⟨A', c', e, h⟩), fun h => absurd h (by decide)⟩
    · refine OpOk.now rfl ?_
      have d0 : u 0 = _ := hd 0 (by omega) (by kernel_rfl)
      have d3 : u 3 = _ := hd 3 (by omega) (by kernel_rfl)
      have d6 : u 6 = _ := hd 6 (by omega) (by kernel_rfl)
      have d10 := hd 10 (by omega) (by kernel_rfl)
      clear hb hd
      rw [d0, d3, d6]
      clear d0 d3 d6
      obtain ⟨A', c', e10, r10⟩ := d10
      rw [e10]
      clear e10
      go_wp2_with (go_at_call 21; (with_reducible refine (HRC.out _ _ _ (HA1.out.below HB1.out) r10).mono ?_); rintro e w2 ⟨rfl, hb2⟩)
      exact ⟨_, rfl, hb2, rfl, fun h => absurd h (by decide)⟩
    · refine OpOk.now rfl ?_
      have d11 : u 11 = _ := hd 11 (by omega) (by kernel_rfl)
      clear hb hd
      rw [d11]
      clear d11
      go_wp2
      exact ⟨_, rfl, Below.refl _ _, rfl, fun h => absurd h (by decide)⟩
    · refine OpOk.now rfl ?_
      have d12 : u 12 = _ := hd 12 (by omega) (by kernel_rfl)
      clear hb hd
      rw [d12]
      clear d12
      go_wp2
      exact ⟨_, rfl, Below.refl _ _, rfl, fun h => absurd h (by decide)⟩
    · have d12 : u 12 = _ := hd 12 (by omega) (by kernel_rfl)
      clear hb hd
      rw [d12]
      clear d12
      refine OpOk.late rfl ?_
      exact ⟨_, yields_extract rfl _ _ rfl _ rfl _ rfl, rfl⟩
    · have d12 : u 12 = _ := hd 12 (by omega) (by kernel_rfl)
      clear hb hd
      rw [d12]
      clear d12
      refine OpOk.late rfl ?_
      exact ⟨_, yields_extract rfl _ _ rfl _ rfl _ rfl, rfl⟩
  case htail1 =>
    intro u A w1 hA hb hd hf
    simp only [putAll, dstOf, List.getElem?_toArray, List.getElem?_cons_succ, List.getElem?_cons_zero, Option.bind_some, Option.bind, Act.put, List.setIfInBounds_toArray, List.set_cons_succ, List.set_cons_zero] at hA; subst hA
    have e0 : u 0 = _ := hd 0 (by omega)
    have e1 : u 1 = _ := hd 1 (by omega)
    have e2 : u 2 = _ := hd 2 (by omega)
    have e3 : u 3 = _ := hd 3 (by omega)
    have e4 : u 4 = _ := hd 4 (by omega)
    have e5 : u 5 = _ := hd 5 (by omega)
    have e6 : u 6 = _ := hd 6 (by omega)
    have p7 := hd 7 (by omega)
    have e8 : u 8 = _ := hd 8 (by omega)
    have e9 : u 9 = _ := hd 9 (by omega)
    have p10 := hd 10 (by omega)
    have e11 : u 11 = _ := hd 11 (by omega)
    have e12 : u 12 = _ := hd 12 (by omega)
    have e13 : u 13 = _ := hd 13 (by omega)
    have e14 : u 14 = _ := hd 14 (by omega)
    have e15 : u 15 = _ := hd 15 (by omega)
    first | rw [e0, e1, e2, e3, e4, e5, e6, e8, e9, e11, e12, e13, e14, e15] | simp only [e0, e1, e2, e3, e4, e5, e6, e8, e9, e11, e12, e13, e14, e15]
    clear e0 e1 e2 e3 e4 e5 e6 e8 e9 e11 e12 e13 e14 e15
    clear hd hf
    clear p7 p10
    go_wp2_with (fail)
    dsimp only [NoPanic]
    have nHL := Lib.hid (HL.out.below hb)
    have nHH := Lib.hid (HH.out.below hb)
    have nHQ := Lib.hid (HQ.out.below hb)
    have nHA1 := Lib.hid (HA1.out.below hb)
    have nHB := Lib.hid (bthen HB.out hb)
    clear HL HH HQ HA1 HB hb
    have HL := nHL
    have HH := nHH
    have HQ := nHQ
    have HA1 := nHA1
    have HB := nHB
    clear nHL nHH nHQ nHA1 nHB
    by_cases e1 : E = 0
    case neg =>
      have e1z : (E != 0) = true := by simpa using e1
      clear e1
      go_wp2_with (first | (go_at_call 9; (with_reducible refine (wworks_c _).mono ?_); rintro e w1 ⟨rfl, hb1⟩; have nHL := Lib.hid (HL.out.below hb1); have nHB := Lib.hid (bthen HB.out hb1); have zz1 := hb1.size; clear HL HB hb1; have HL := nHL; have HB := nHB; clear nHL nHB))
      go_ret
      exact ⟨rfl, HB.out⟩
    subst e1
    cases R2
    case false =>
      go_wp2_with (first | (go_at_call 9; (with_reducible refine (wworks_c _).mono ?_); rintro e w1 ⟨rfl, hb1⟩; have nHL := Lib.hid (HL.out.below hb1); have nHB := Lib.hid (bthen HB.out hb1); have zz1 := hb1.size; clear HL HB hb1; have HL := nHL; have HB := nHB; clear nHL nHB))
      go_ret
      exact ⟨rfl, HB.out⟩
    have HLW := Lib.hid (fun k hk => every_law (li := li) (lt := lt) (H := H) HOE.out HRE.out (by rw [HR.out]) k hk)
    have HOP := Lib.hid (fun w1 q h => wOpen_c M (.slice B M.n cB) (.slice B2 M.m cB2) lw ls lc li lt p q w1 h)
    have HPP := Lib.hid (fun w1 q h => wPerhaps_c M (.slice B M.n cB) (.slice B2 M.m cB2) lw ls lc li lt p q w1 h)
    have HFL := Lib.hid (fun k w1 => rw_Flyable_c (G k 0) (G k 1) (G k 2) (H k 3) (H k 4) lw ls lc li lt w1)
    go_wp2_with (fail)
    have K0 := Lib.hid (show EvK M B cB B2 cB2 lw ls lc li lt p f A n c gHQ w _ from ⟨HB.out, HL.out, HH.out, HQ.out, HA1.out⟩)
    clear HB HL HH HQ HA1 HR HRE HRC HCK
    go_loopg [11] n (fun gx i wr => ∃ k : Nat, i = .int .i64 k ∧ k ≤ n ∧ n - k ≤ gx ∧ Hid (EvK M B cB B2 cB2 lw ls lc li lt p f A n c gHQ w wr))
    case atStart => exact ⟨0, rfl, Nat.zero_le _, Nat.le_refl _, K0⟩
    case round =>
      clear K0
      obtain ⟨k, rfl, hk, hgx, K0⟩ := hrel
      have m0 := K0.out.h.cell 0
      have m1 := K0.out.h.cell 1
      have m2 := K0.out.h.cell 2
      simp only [List.getElem?_toArray, List.getElem?_cons_succ, List.getElem?_cons_zero] at m0 m1 m2
      by_cases hlt : k < n
      · have hltz : (k : Int) < (n : Int) := by omega
        obtain ⟨l1, l0, l2, l3, l4⟩ := HLW.out k hlt
        have hop := HOP.out wr (f + k) K0.out.a
        have hpp := fun w1 h => HPP.out w1 (f + k) h
        have hfl := HFL.out k
        rw [l2] at hop hpp
        generalize openV M lw ls lc li lt p (f + k) = O at *
        generalize perhV M lw ls lc li lt p (f + k) = Q at *
        generalize flyB (G k 0) (G k 1) (G k 2) (H k 3) (H k 4) lw ls lc li lt = F at *
        have L3 := Lib.hid l3
        have L4 := Lib.hid l4
        have HO := Lib.hid hop
        have HP := Lib.hid hpp
        have HF := Lib.hid hfl
        clear l2 l3 l4 hop hpp hfl
        go_wp2_with (first | (refine wpl_row rfl 29 (.tmp 7) rfl _ rfl #[.int .i64 M.places, .int .i64 M.any.a0, .int .i64 M.any.a1, .int .i64 M.any.a2, .int .i64 M.any.a3, .int .i64 M.any.a4, .int .i64 M.any.a5, .bool M.any.i, .bool M.any.s, .int .i64 M.mw, .int .i64 M.ms, .int .i64 M.mc, .slice B M.n cB, .slice B2 M.m cB2] 14 K0.out.q Try.rowMet rfl ?_; simp only [Act.put]) | (refine wpl_row rfl 31 (.tmp 4) rfl _ rfl #[.int .i64 lw, .int .i64 ls, .int .i64 lc, .bool li, .bool lt] 5 K0.out.l Try.rowMin rfl ?_; simp only [Act.put]))
        refine HO.out.mono ?_
        rintro e w1 ⟨rfl, hb1⟩
        have K1 := Lib.hid (K0.out.grow hb1)
        clear K0 HO hb1 m0 m1 m2
        have m0 := K1.out.h.cell 0
        have m1 := K1.out.h.cell 1
        have m2 := K1.out.h.cell 2
        simp only [List.getElem?_toArray, List.getElem?_cons_succ, List.getElem?_cons_zero] at m0 m1 m2
        go_wp2_with (first | (refine wpl_row rfl 29 (.tmp 7) rfl _ rfl #[.int .i64 M.places, .int .i64 M.any.a0, .int .i64 M.any.a1, .int .i64 M.any.a2, .int .i64 M.any.a3, .int .i64 M.any.a4, .int .i64 M.any.a5, .bool M.any.i, .bool M.any.s, .int .i64 M.mw, .int .i64 M.ms, .int .i64 M.mc, .slice B M.n cB, .slice B2 M.m cB2] 14 K1.out.q Try.rowMet rfl ?_; simp only [Act.put]) | (refine wpl_row rfl 31 (.tmp 4) rfl _ rfl #[.int .i64 lw, .int .i64 ls, .int .i64 lc, .bool li, .bool lt] 5 K1.out.l Try.rowMin rfl ?_; simp only [Act.put]))
        refine (HP.out _ K1.out.a).mono ?_
        rintro e w1 ⟨rfl, hb1⟩
        have K2 := Lib.hid (K1.out.grow hb1)
        clear K1 HP hb1 m0 m1 m2
        go_wp2_with (fail)
        obtain ⟨bw, off, rfl, hbw, hcell⟩ := HWS.out (by omega)
        have am2 : ∀ r : After w1, r.w.cell? ⟨w.heap.size + 1 + 1, 2, none⟩ = some (.slice (some ⟨bw, off, none⟩) n c) := fun r => by
          have := (K2.out.h.below r.below).cell 2
          simpa using this
        have a10 : ∀ r : After w1, r.w.cell? ⟨bw, off + k * 5, none⟩ = some (.int .i64 (G k 0)) := fun (r : After w1) => ((bthen K2.out.b r.below).cell (p := ⟨bw, off + k * 5 + 0, none⟩) hbw).trans (hcell k hlt 0 (by omega))
        have a11 : ∀ r : After w1, r.w.cell? ⟨bw, off + k * 5 + 1, none⟩ = some (.int .i64 (G k 1)) := fun (r : After w1) => ((bthen K2.out.b r.below).cell (p := ⟨bw, off + k * 5 + 1, none⟩) hbw).trans (hcell k hlt 1 (by omega))
        have a12 : ∀ r : After w1, r.w.cell? ⟨bw, off + k * 5 + 2, none⟩ = some (.int .i64 (G k 2)) := fun (r : After w1) => ((bthen K2.out.b r.below).cell (p := ⟨bw, off + k * 5 + 2, none⟩) hbw).trans (hcell k hlt 2 (by omega))
        have a13 : ∀ r : After w1, r.w.cell? ⟨bw, off + k * 5 + 3, none⟩ = some (.bool (H k 3)) := fun (r : After w1) => ((bthen K2.out.b r.below).cell (p := ⟨bw, off + k * 5 + 3, none⟩) hbw).trans (hcell k hlt 3 (by omega))
        have a14 : ∀ r : After w1, r.w.cell? ⟨bw, off + k * 5 + 4, none⟩ = some (.bool (H k 4)) := fun (r : After w1) => ((bthen K2.out.b r.below).cell (p := ⟨bw, off + k * 5 + 4, none⟩) hbw).trans (hcell k hlt 4 (by omega))
        have hl2 := Lib.hid (fun r : After w1 => K2.out.l.below r.below)
        clear hcell
        refine wp_region_aftert 7 (by kernel_rfl) (by kernel_rfl) ?_
        simp only [List.take_succ_cons, List.take_zero, List.drop_succ_cons, List.drop_zero]
        iterate 5 (go_big_quiet_step (fail))
        refine wpq_row rfl 31 _ rfl _ rfl _ 5 (fun _ hw => by obtain ⟨r, rfl⟩ := hw; exact hl2.out r) Try.rowMin rfl ?_
        simp only [Act.put, List.setIfInBounds_toArray, List.set_cons_succ, List.set_cons_zero]
        go_big_quiet_step (first | (go_at_call 23; (with_reducible refine qafter (HF.out _))))
        refine wpQuiet_nil ?_
        rintro _ ⟨⟨w2, hb2⟩, rfl⟩
        have K3 := Lib.hid (K2.out.grow hb2)
        clear a10 a11 a12 a13 a14 am2 hl2 K2 hb2 HF
        cases F
        case false =>
          obtain rfl : O = false := by
            cases O
            · rfl
            · exact absurd (L3.out rfl) (by decide)
          clear L3 L4
          cases Q
          all_goals
            go_wp2_with (fail)
            go_roundg (n - (k + 1))
            case measure => omega
            case rel => exact ⟨k + 1, by first | rfl | go_num | (congr 1; omega), by omega, Nat.le_refl _, K3⟩
        case true =>
          obtain rfl : Q = true := L4.out rfl
          clear L3 L4
          cases O
          all_goals
            go_wp2_with (fail)
            go_roundg (n - (k + 1))
            case measure => omega
            case rel => exact ⟨k + 1, by first | rfl | go_num | (congr 1; omega), by omega, Nat.le_refl _, K3⟩
      · obtain rfl : k = n := by omega
        go_wp2_with (first | (go_at_call 9; refine (wworks_c _).mono ?_; rintro _ w2 ⟨rfl, hb2⟩))
        go_ret
        exact ⟨rfl, bthen K0.out.b hb2⟩
-- end
end Go.Proofs.Ytfcjblnebaemgaa
