/- Contract: Windows of package weather. -/
import Derived.Test.YtfcjblnebaemgaaGreatWeW
set_option linter.all false
namespace Go.Proofs.YtfcjblnebaemgaaGreat
open Go Go.RowKit Go.Proofs
set_option maxRecDepth 100000
set_option maxHeartbeats 8000000

theorem Tryz.spI : (Tryz.prog.info? 23).map (fun i => (i.zero.map (·.cells.size), i.size, decide (i.bytes ≤ 200))) = some (some 2, 2, true) := by kernel_rfl
theorem Tryz.spU : Tryz.prog.underlying 47 = some (.slice 23) := by kernel_rfl
theorem spC_one (l : List (Int × Int)) : ∀ u ∈ spC l, u.oneCell' = true := by
  intro u hu
  unfold spC at hu
  rw [List.mem_flatMap] at hu
  obtain ⟨p, -, hp⟩ := hu
  simp only [List.mem_cons, List.not_mem_nil, or_false] at hp
  rcases hp with rfl | rfl <;> rfl
theorem wpl_appS {ops : Array Oper} {rest : List Oper} {o : Oper} {a : Act} {w : World} {Q : Exit → Act → World → Prop} (hgd : o.guard = none) (s x : Operand)
    (ho : o.op = .call { callee := .builtin .append, args := #[s, x], argTypes := #[47, 47] }) (base : Nat) (v : Value) (l : List (Int × Int)) (hs : a.eval s = v) (hown : w.ownsRow base 23 2 v l.length (spC l))
    (g : Nat) (p : Int × Int) (hx : a.eval x = .slice (some ⟨g, 0, none⟩) 1 1) (hc0 : w.cell? ⟨g, 0, none⟩ = some (.int .i64 p.1)) (hc1 : w.cell? ⟨g, 1, none⟩ = some (.int .i64 p.2)) (h40 : l.length ≤ 3000) (hbase : base ≤ w.heap.size)
    (h : ∀ v' w', w'.ownsRow base 23 2 v' (l ++ [p]).length (spC (l ++ [p])) → w.grownBy w' v.ownBlock → v' ≠ .slice none 0 0 → wpList Tryz.prog ops Q rest (a.put o.dst v') w') : wpList Tryz.prog ops Q (o :: rest) a w := by
  have hi := Tryz.spI
  cases hI : Tryz.prog.info? 23 with
  | none => rw [hI] at hi; cases hi
  | some i =>
    rw [hI] at hi
    simp only [Option.map_some, Option.some.injEq, Prod.mk.injEq, decide_eq_true_eq] at hi
    obtain ⟨i1, i2, i3⟩ := hi
    cases hz : i.zero with
    | none => rw [hz] at i1; cases i1
    | some z =>
      rw [hz] at i1
      simp only [Option.map_some, Option.some.injEq] at i1
      have hb : (l.length + 1) * i.bytes ≤ 3001 * 200 := Nat.mul_le_mul (by omega) i3
      refine wpList_append_own w hgd s x 47 ho base 23 i z 2 i.bytes Tryz.spU hI hz i2 rfl i1 (by decide) v l.length (spC l) hs hown ⟨g, 0, none⟩ 1 1 [.int .i64 p.1, .int .i64 p.2] hx rfl ?_ ?_ (by unfold maxLen; omega) (by omega) hbase ?_
      · intro j u hj
        match j, hj with
        | 0, hj =>
          have : u = .int .i64 p.1 := by simpa using hj.symm
          subst this
          exact hc0
        | 1, hj =>
          have : u = .int .i64 p.2 := by simpa using hj.symm
          subst this
          exact hc1
      · intro u hu
        simp only [List.mem_cons, List.not_mem_nil, or_false] at hu
        rcases hu with rfl | rfl <;> rfl
      · intro v' w' h1 h2 h3
        refine h v' w' (by rw [spC_snoc]; simpa using h1) h2 (fun e => ?_)
        have := (h3.1 e).2
        omega
/-- What the loop of Windows keeps. -/
structure WiK (M : MetD) (vF vS : Value) (lw ls lc : Int) (li lt : Bool) (w : World) (l : List (Int × Int)) (v : Value) (wr : World) : Prop where
  k : FiK M vF vS lw ls lc li lt w wr
  o : wr.ownsRow (w.heap.size + 2) 23 2 v l.length (spC l)
  n : v = .slice none 0 0 ↔ l = []
  z : w.heap.size + 2 ≤ wr.heap.size
theorem WiK.grow {M : MetD} {vF vS : Value} {lw ls lc : Int} {li lt : Bool} {w wr w2 : World} {l : List (Int × Int)} {v : Value} (h : WiK M vF vS lw ls lc li lt w l v wr) (hb : Below wr.heap.size wr w2) : WiK M vF vS lw ls lc li lt w l v w2 :=
  ⟨h.k.grow hb, ownsRow_below h.o hb, h.n, Nat.le_trans h.z hb.size⟩
theorem FiK.under {M : MetD} {vF vS : Value} {lw ls lc : Int} {li lt : Bool} {w wr w2 : World} (h : FiK M vF vS lw ls lc li lt w wr) (hb : Below (w.heap.size + 2) wr w2) : FiK M vF vS lw ls lc li lt w w2 :=
  ⟨h.b.trans (hb.mono (by omega)), h.m.under hb (by omega), h.l.under hb (by omega)⟩
theorem WiK.take {M : MetD} {vF vS : Value} {lw ls lc : Int} {li lt : Bool} {w wr w2 : World} {l : List (Int × Int)} {v v' : Value} {p : Int × Int} (h : WiK M vF vS lw ls lc li lt w l v wr) (h1 : w2.ownsRow (w.heap.size + 2) 23 2 v' (l ++ [p]).length (spC (l ++ [p])))
    (h2 : wr.grownBy w2 v.ownBlock) (h3 : v' ≠ .slice none 0 0) : WiK M vF vS lw ls lc li lt w (l ++ [p]) v' w2 :=
  ⟨h.k.under (below_grown h2 h.z (fun b hb => owns_base h.o hb)), h1, by simp [h3], Nat.le_trans h.z h2.size⟩
theorem WiK.widen {M : MetD} {vF vS : Value} {lw ls lc : Int} {li lt : Bool} {w wr : World} {l : List (Int × Int)} {p : Int × Int} {g c : Nat} (h : WiK M vF vS lw ls lc li lt w (l ++ [p]) (.slice (some ⟨g, 0, none⟩) (l.length + 1) c) wr) (t : Int) :
    WiK M vF vS lw ls lc li lt w (l ++ [(p.1, t)]) (.slice (some ⟨g, 0, none⟩) (l.length + 1) c) (wr.setCell ⟨g, l.length * 2 + 1, none⟩ (.int .i64 t)) := by
  have hg : w.heap.size + 2 ≤ g := owns_base h.o rfl
  have ho := h.o
  rw [List.length_append, List.length_singleton] at ho
  have hs := owns_set ho (i := l.length * 2 + 1) (by omega) (.int .i64 t)
  have e : (spC (l ++ [p])).set (l.length * 2 + 1) (.int .i64 t) = spC (l ++ [(p.1, t)]) := by
    rw [spC_snoc, spC_snoc, List.set_append_right _ _ (by rw [spC_length]; omega), spC_length]
    rw [show l.length * 2 + 1 - l.length * 2 = 1 by omega]
    rfl
  rw [e] at hs
  refine ⟨h.k.under ⟨rfl, rfl, rfl, by simp [World.setCell], fun k hk => Below.heap_setCell _ _ _ _ (by show k ≠ g; omega)⟩, by rw [List.length_append, List.length_singleton]; exact hs, by simp, by simpa [World.setCell] using h.z⟩
end Go.Proofs.YtfcjblnebaemgaaGreat
