/- The law WeatherEvery: weathers that may be are flyable where the place is open, and the place is perhaps open where they are flyable. -/
import Derived.Test.YtafkifjebimdaaaGreatWhB
import Derived.Test.YtafkifjebimdaaaGreatJAP
set_option linter.all false
namespace Go.Proofs.YtafkifjebimdaaaGreat
open Go Go.RowKit Go.Proofs
set_option maxRecDepth 100000
set_option maxHeartbeats 8000000

theorem real_all {M : MetD} {p f : Int} {G : Nat → Nat → Int} {H : Nat → Nat → Bool} : ∀ (k i : Nat), (realR M p f G H k i).2 = true → ∀ j : Nat, i ≤ j → j < i + k → hasB (M.may p (f + j)) (G j 0) (G j 1) (G j 2) (H j 3) (H j 4) = true
  | 0, i, _, j, h1, h2 => by omega
  | k + 1, i, h, j, h1, h2 => by
    unfold realR at h
    split at h
    · rename_i hc
      simp only [Bool.and_eq_true] at hc
      by_cases e : j = i
      · subst e; exact hc.1
      · exact real_all k (i + 1) h j (by omega) (by omega)
    · cases h
theorem hasB_iff {x : Sk} {a b c : Int} {i s : Bool} : hasB x a b c i s = true ↔ (x.a0 ≤ a ∧ a ≤ x.a1) ∧ (x.a2 ≤ b ∧ b ≤ x.a3) ∧ (x.a4 ≤ c ∧ c ≤ x.a5) ∧ (i = true → x.i = true) ∧ (s = true → x.s = true) := by
  unfold hasB
  simp only [Bool.and_eq_true, inB_iff]
  cases i <;> cases s <;> cases x.i <;> cases x.s <;> simp
theorem has_worst {x : Sk} {a b c : Int} {i s : Bool} {lw ls lc : Int} {li lt : Bool} (h : hasB x a b c i s = true) (ho : openB x lw ls lc li lt = true) : flyB a b c i s lw ls lc li lt = true := by
  rw [hasB_iff] at h
  unfold openB at ho
  rw [flyB_iff] at *
  exact ⟨by omega, by omega, by omega, fun e => ho.2.2.2.1 (h.2.2.2.1 e), fun e => ho.2.2.2.2 (h.2.2.2.2 e)⟩
theorem atE_up {M : MetD} {p f : Int} {k : Nat} (h : atE M p f = 0) (h2 : f + k ≤ 2000) : atE M p (f + k) = 0 := by
  have h0 := (atE_ok h).2.1
  unfold atE at *
  cases hb : M.bad
  · rw [hb, if_neg (by decide)] at h
    rw [if_neg (by decide)]
    cases b1 : inB p 0 (M.places - 1)
    · rw [b1] at h; cases h
    · rw [inB_iff.2 (show 0 ≤ f + (k : Int) ∧ f + (k : Int) ≤ 2000 by omega)]; rfl
  · rw [hb] at h; cases h
theorem realE_ok {M : MetD} {p f : Int} {n : Nat} {G : Nat → Nat → Int} (h : realE M p f n G = 0) : atE M p f = 0 ∧ f + n - 1 ≤ 2000 := by
  unfold realE at h
  by_cases h1 : atE M p f = 0
  · rw [if_pos h1] at h
    by_cases h2 : 2000 < f + (n : Int) - 1
    · rw [if_pos h2] at h; cases h
    · exact ⟨h1, by omega⟩
  · rw [if_neg h1] at h; exact absurd h h1
theorem Tryz.weU : Tryz.prog.underlying 70 = some (.slice 76) := by kernel_rfl
theorem Tryz.weI : (Tryz.prog.info? 76).map (fun i => (i.zero.map (·.cells.size), i.size, decide (i.bytes ≤ 200))) = some (some 5, 5, true) := by kernel_rfl
theorem weV_one (G : Nat → Nat → Int) (H : Nat → Nat → Bool) (i j : Nat) : (weV G H i j).oneCell' = true := by unfold weV; split <;> rfl
theorem wpl_cpw {ty sl : TypeId} {k : Nat} {V : Nat → Nat → Value} {ops : Array Oper} {rest : List Oper} {o : Oper} {a : Act} {w : World} {Q : Exit → Act → World → Prop} (hgd : o.guard = none) (s x : Operand)
    (hu : Tryz.prog.underlying sl = some (.slice ty)) (hi : (Tryz.prog.info? ty).map (fun i => (i.zero.map (·.cells.size), i.size, decide (i.bytes ≤ 200))) = some (some k, k, true)) (hk : 0 < k) (h1 : ∀ i j, (V i j).oneCell' = true)
    (ho : o.op = .call { callee := .builtin .append, args := #[s, x], argTypes := #[sl, sl] }) (g : Nat) (hs : a.eval s = .slice (some ⟨g, 0, none⟩) 0 0) (hgb : w.heap[g]? = some (.cells #[] ty (0, 0)))
    (A : Option Addr) (n c : Nat) (hx : a.eval x = .slice A n c) (hr : RecsAt w A n k V) (hn : n ≤ 100)
    (h : ∀ v' w', Hid (∃ A' c', v' = .slice A' n c' ∧ n ≤ c' ∧ c' ≤ 9223372036854775807 ∧ RecsAt w' A' n k V ∧ ∀ b, some b = v'.ownBlock → g ≤ b) → Hid (Below w.heap.size w w') → wpList Tryz.prog ops Q rest (a.put o.dst v') w') : wpList Tryz.prog ops Q (o :: rest) a w := by
  cases hI : Tryz.prog.info? ty with
  | none => rw [hI] at hi; cases hi
  | some i =>
    rw [hI] at hi
    simp only [Option.map_some, Option.some.injEq, Prod.mk.injEq, decide_eq_true_eq] at hi
    obtain ⟨i1, i2, i3⟩ := hi
    cases hz : i.zero with
    | none => rw [hz] at i1; cases i1
    | some z =>
      rw [hz] at i1
      simp only [Option.map_some, Option.some.injEq] at i1
      have hb : n * i.bytes ≤ 100 * 200 := Nat.mul_le_mul hn i3
      refine wpl_append_newk hgd s x sl ho ty i z k i.bytes hu hI hz i2 rfl i1 hk g hs hgb g (Nat.le_refl _) A n c hx _ hr.cells (fun q _ => h1 _ _) (by unfold maxLen; omega) (by omega) (fun v' w' ho' hbl => ?_)
      obtain ⟨A', c', e, q1, q2, q3⟩ := RecsAt.of_owns (V := V) hk ho'
      exact h v' w' ⟨A', c', e, q1, q2, q3, fun b hb => owns_base ho' hb⟩ hbl
def EmptyW (v : Value) (w : World) : Prop := ∃ g, v = .slice (some ⟨g, 0, none⟩) 0 0 ∧ Blk w g 76 #[]
theorem EmptyW.below {v : Value} {w w' : World} (h : EmptyW v w) (hb : Below w.heap.size w w') : EmptyW v w' := by
  obtain ⟨g, e, h⟩ := h
  exact ⟨g, e, h.below hb⟩
def WesV (n : Nat) (G : Nat → Nat → Int) (H : Nat → Nat → Bool) (v : Value) (w : World) : Prop := ∃ A' c', v = .slice A' n c' ∧ RecsAt w A' n 5 (weV G H)
theorem WesV.below {n : Nat} {G : Nat → Nat → Int} {H : Nat → Nat → Bool} {v : Value} {w w' : World} (h : WesV n G H v w) (hb : Below w.heap.size w w') : WesV n G H v w' := by
  obtain ⟨A', c', e, h⟩ := h
  exact ⟨A', c', e, h.below hb⟩
/-- What the loop keeps. -/
structure EvK (M : MetD) (B : Option Addr) (cB : Nat) (B2 : Option Addr) (cB2 : Nat) (lw ls lc : Int) (li lt : Bool) (p f : Int) (A : Option Addr) (n c g : Nat) (w wr : World) : Prop where
  b : Below w.heap.size w wr
  l : Blk wr (w.heap.size + 1) 41 #[.int .i64 lw, .int .i64 ls, .int .i64 lc, .bool li, .bool lt]
  h : Blk wr (w.heap.size + 1 + 1) 72 #[.int .i64 p, .int .i64 f, .slice A n c]
  q : Blk wr g 34 #[.int .i64 M.places, .int .i64 M.any.a0, .int .i64 M.any.a1, .int .i64 M.any.a2, .int .i64 M.any.a3, .int .i64 M.any.a4, .int .i64 M.any.a5, .bool M.any.i, .bool M.any.s, .int .i64 M.mw, .int .i64 M.ms, .int .i64 M.mc, .slice B M.n cB, .slice B2 M.m cB2]
  a : MetAt wr (.slice B M.n cB) (.slice B2 M.m cB2) M
theorem EvK.grow {M : MetD} {B : Option Addr} {cB : Nat} {B2 : Option Addr} {cB2 : Nat} {lw ls lc : Int} {li lt : Bool} {p f : Int} {A : Option Addr} {n c g : Nat} {w wr w2 : World} (h : EvK M B cB B2 cB2 lw ls lc li lt p f A n c g w wr) (hb : Below wr.heap.size wr w2) : EvK M B cB B2 cB2 lw ls lc li lt p f A n c g w w2 :=
  ⟨bthen h.b hb, h.l.below hb, h.h.below hb, h.q.below hb, h.a.below hb⟩
-- done
end Go.Proofs.YtafkifjebimdaaaGreat
