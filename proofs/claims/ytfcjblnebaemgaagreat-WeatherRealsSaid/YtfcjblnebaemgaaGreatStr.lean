/- Slices of structs: what they read as, copies by append, as arguments. No program is imported here. -/
import Derived.Test.YtfcjblnebaemgaaGreatBas
import Derived.Deep.Slices
import Derived.ChangeArms
import Derived.ChangeSlices
import Derived.WideShapes
set_option linter.all false
namespace Go.Proofs.YtfcjblnebaemgaaGreat
open Go Go.RowKit Go.Proofs Go.ChangeShapes Go.WideShapes Go.Deep

/-- Cells from address A on hold n records of k cells each. -/
def RecsAt (w : World) (A : Option Addr) (n k : Nat) (V : Nat → Nat → Value) : Prop :=
  0 < n → ∃ b off, A = some ⟨b, off, none⟩ ∧ b < w.heap.size ∧ ∀ i, i < n → ∀ j, j < k → w.cell? ⟨b, off + i * k + j, none⟩ = some (V i j)
theorem RecsAt.below {w w' : World} {A : Option Addr} {n k : Nat} {V : Nat → Nat → Value} (h : RecsAt w A n k V) (hb : Below w.heap.size w w') : RecsAt w' A n k V := by
  intro hn
  obtain ⟨b, off, hA, hlt, hc⟩ := h hn
  exact ⟨b, off, hA, Nat.lt_of_lt_of_le hlt hb.size, fun i hi j hj => (hb.cell (p := ⟨b, off + i * k + j, none⟩) hlt).trans (hc i hi j hj)⟩
theorem RecsAt.cells {w : World} {A : Option Addr} {n k : Nat} {V : Nat → Nat → Value} (h : RecsAt w A n k V) : CellsAt w A (n * k) (fun q => V (q / k) (q % k)) := by
  intro hn
  have hn0 : 0 < n := Nat.pos_of_ne_zero fun h => by simp [h] at hn
  have hk0 : 0 < k := Nat.pos_of_ne_zero fun h => by simp [h] at hn
  obtain ⟨b, off, hA, hlt, hc⟩ := h hn0
  refine ⟨b, off, hA, hlt, fun q hq => ?_⟩
  have := hc (q / k) (Nat.div_lt_of_lt_mul (by rw [Nat.mul_comm]; exact hq)) (q % k) (Nat.mod_lt _ hk0)
  rw [show off + q / k * k + q % k = off + q by have := Nat.div_add_mod q k; rw [Nat.mul_comm] at this; omega] at this
  exact this
theorem RecsAt.of_owns {w : World} {base : Nat} {e : TypeId} {v : Value} {n k : Nat} {V : Nat → Nat → Value} (hk : 0 < k) (h : w.ownsRow base e k v n ((List.range (n * k)).map fun q => V (q / k) (q % k))) :
    ∃ A c, v = .slice A n c ∧ n ≤ c ∧ c ≤ 9223372036854775807 ∧ RecsAt w A n k V := by
  rcases h.2 with ⟨rfl, hz⟩ | ⟨g, cap, cur, rfl, h1, h2, h3, h4, h5, h6⟩
  · exact ⟨none, 0, by rw [hz], by omega, by omega, fun hp => by omega⟩
  · refine ⟨some ⟨g, 0, none⟩, cap, rfl, h3, by unfold maxLen at h4; omega, fun hp => ⟨g, 0, rfl, (Array.getElem?_eq_some_iff.1 h2).1, fun i hi j hj => ?_⟩⟩
    have hlt : i * k + j < n * k := by
      have : (i + 1) * k ≤ n * k := Nat.mul_le_mul_right k hi
      rw [Nat.add_mul] at this; omega
    have := h.cellAt (g := g) (i * k + j) hlt
    rw [Nat.zero_add, this]
    simp only [List.getElem?_map, List.getElem?_range hlt, Option.map_some]
    rw [Nat.mul_comm i k, Nat.mul_add_div hk, Nat.mul_add_mod, Nat.div_eq_of_lt hj, Nat.mod_eq_of_lt hj, Nat.add_zero]
theorem RecsAt.sub {w : World} {b off n k : Nat} {V : Nat → Nat → Value} (h : RecsAt w (some ⟨b, off, none⟩) n k V) (i m : Nat) (hi : i + m ≤ n) : RecsAt w (some ⟨b, off + i * k, none⟩) m k (fun j => V (i + j)) := by
  intro hm
  obtain ⟨b', off', hA, hlt, hc⟩ := h (by omega)
  simp only [Option.some.injEq, Addr.mk.injEq, and_true] at hA
  obtain ⟨rfl, rfl⟩ := hA
  refine ⟨b, off + i * k, rfl, hlt, fun q hq j hj => ?_⟩
  have := hc (i + q) (by omega) j hj
  rw [Nat.add_mul] at this
  rw [show off + i * k + q * k + j = off + (i * k + q * k) + j by omega]; exact this

theorem wpl_append_newk {P : Program} {w : World} {ops : Array Oper} {rest : List Oper} {o : Oper} {a : Act} {Q : Exit → Act → World → Prop}
    (hg : o.guard = none) (s x : Operand) (t : TypeId) (hop : o.op = Op.call { callee := Callee.builtin Builtin.append, args := #[s, x], argTypes := #[t, t] })
    (e : TypeId) (i : TypeInfo) (z : Value) (sz bytes : Nat) (h1 : P.underlying t = some (.slice e)) (h2 : P.info? e = some i) (h3 : i.zero = some z) (h4 : i.size = sz) (h5 : i.bytes = bytes) (h6 : z.cells.size = sz) (h7 : 0 < sz)
    (g : Nat) (hs : a.eval s = .slice (some ⟨g, 0, none⟩) 0 0) (hgb : w.heap[g]? = some (.cells #[] e (0, 0))) (base : Nat) (hbg : base ≤ g)
    (A : Option Addr) (m c : Nat) (hx : a.eval x = .slice A m c) (f : Nat → Value) (hA : CellsAt w A (m * sz) f) (hone : ∀ k, k < m * sz → (f k).oneCell' = true)
    (b1 : m ≤ maxLen) (b2 : m * bytes ≤ 140737488355328)
    (K : ∀ v' w', w'.ownsRow base e sz v' m ((List.range (m * sz)).map f) → Below w.heap.size w w' → wpList P ops Q rest (a.put o.dst v') w') :
    wpList P ops Q (o :: rest) a w := by
  by_cases hm : m = 0
  · subst hm
    refine wpList_plain hg fun K' hK' => ?_
    have hrun : (Builtin.append_ #[t, t] o.type #[.slice (some ⟨g, 0, none⟩) 0 0, .slice A 0 c]).run P w = .ok (.slice (some ⟨g, 0, none⟩) 0 0) w := by
      cases A with
      | none => simp [Builtin.append_, run_underlying h1, sizeOf, typeInfo, h2, Builtin.lenOf, Builtin.firstCells, storeCells]
      | some ad => simp [Builtin.append_, run_underlying h1, sizeOf, typeInfo, h2, Builtin.lenOf, Builtin.firstCells, storeCells, loadCells, loadCellsFrom]
    unfold Oper.wp
    simp [execOp, hop, resolve, invoke, builtin, hs, hx, hrun, Result.andThen]
    exact hK' _ _ (K _ w ⟨by simp, .inr ⟨g, 0, #[], rfl, hbg, hgb, Nat.le_refl _, Nat.zero_le _, by simp, by simp⟩⟩ (Below.refl _ _))
  · obtain ⟨b, off, rfl, hlt, hc⟩ := hA (Nat.mul_pos (by omega) h7)
    refine wpList_append_grows w hg s x t hop e i z sz bytes h1 h2 h3 h4 h5 h6 h7 (some ⟨g, 0, none⟩) 0 0 [] hs (fun h => by cases h) (by simp) (fun _ _ j u h => by simp at h)
      ⟨b, off, none⟩ m c ((List.range (m * sz)).map f) hx (by simp) (fun j u h => ?_) (fun u hu => ?_) (by omega) (by omega) (by simpa using b2) (fun v' w' ho hgr => ?_)
    · have hj : j < m * sz := by
        have := (List.getElem?_eq_some_iff.1 h).1; simpa using this
      have : u = f j := by simp [hj] at h; exact h.symm
      subst this
      have hadd : (⟨b, off, none⟩ : Addr).add j = ⟨b, off + j, none⟩ := by unfold Addr.add; split <;> simp_all
      rw [hadd]; exact hc j hj
    · obtain ⟨k, hk, rfl⟩ := List.mem_map.1 hu
      exact hone k (List.mem_range.1 hk)
    · rw [Nat.zero_add, List.nil_append] at ho
      exact K v' w' (ownsRow_base ho (by have := (Array.getElem?_eq_some_iff.1 hgb).1; omega)) (below_of_none hgr)

section
variable {H : Type} {enc : TypeId × Value → H} {P : Program} {w : World} {base : Nat} {sp : Nat → Bool} {held : Bool}
theorem recs_trod {t e : TypeId} {k fuel : Nat} {c : Value} {x : DataW H × List MemPlace} (ht : P.underlying t = some (.slice e)) (hk : P.cellsOf e = k) (hk0 : 0 < k) (h : DataW.trod enc P w base sp held fuel t [c] = some x) :
    ∃ A n cp V, c = .slice A n cp ∧ n ≤ cp ∧ cp ≤ 9223372036854775807 ∧ (A = none → cp = 0) ∧ RecsAt w A n k V ∧ ∀ i, i < n → ∃ m y, DataW.trod enc P w base sp held m e ((List.range k).map (V i)) = some y := by
  rcases open_slice ht h with ⟨e, -⟩ | ⟨a, len, cap, m, n, D, Pl, e, -, h1, h2, h3, -, h4⟩
  · obtain rfl : c = .slice none 0 0 := by simpa using e
    exact ⟨none, 0, 0, fun _ _ => undef, rfl, Nat.le_refl _, by omega, fun _ => rfl, fun hp => by omega, fun i hi => by omega⟩
  · obtain rfl : c = .slice (some a) len cap := by simpa using e
    have hm : len ≤ m := by rw [h3]; split <;> omega
    rw [hk] at h4
    have hv : ∀ i, i < len → ∃ cs, w.cells? base (a.add (i * k)) k = some cs ∧ DataW.trod enc P w base sp held n _ cs = some (D i, Pl i) := fun i hi => h4 i (by omega)
    obtain ⟨Z, hZ⟩ := choose_lt (α := List Value) (p := fun i cs => w.cells? base (a.add (i * k)) k = some cs ∧ DataW.trod enc P w base sp held n _ cs = some (D i, Pl i)) hv
    have hc : ∀ i, i < len → (Z i).length = k ∧ ∀ j, j < k → w.cell? (a.add (i * k + j)) = some ((Z i).getD j undef) := by
      intro i hi
      obtain ⟨-, hl, hcell⟩ := World.cells?_some (hZ i hi).1
      refine ⟨hl, fun j hj => ?_⟩
      have := hcell j hj
      rw [Go.Deep.add_add] at this
      rw [this, List.getD, List.getElem?_eq_getElem (by omega)]
      rfl
    refine ⟨some a, len, cap, fun i j => (Z i).getD j undef, rfl, by omega, by unfold maxLen at h2; omega, (fun h => by cases h), fun hp => ?_, fun i hi => ⟨n, (D i, Pl i), ?_⟩⟩
    · obtain ⟨b, off, spot⟩ := a
      have h00 := (hc 0 hp).2 0 hk0
      have hspot : spot = none := by simpa [Addr.add] using World.cell?_spot h00
      subst hspot
      refine ⟨b, off, rfl, ?_, fun i hi j hj => ?_⟩
      · have := World.block_lt_of_cell? w _ h00; simpa [Addr.add] using this
      · have := (hc i hi).2 j hj
        have hadd : (⟨b, off, none⟩ : Addr).add (i * k + j) = ⟨b, off + i * k + j, none⟩ := by unfold Addr.add; split <;> simp_all [Nat.add_assoc] <;> omega
        rwa [hadd] at this
    · have : (List.range k).map (fun j => (Z i).getD j undef) = Z i := by
        apply List.ext_getElem?
        intro j
        have hl := (hc i hi).1
        by_cases hj : j < k
        · simp [hj, List.getD, List.getElem?_eq_getElem (show j < (Z i).length by omega)]
        · simp [hj, List.getElem?_eq_none (show (Z i).length ≤ j by omega)]
      rw [this]; exact (hZ i hi).2
end
end Go.Proofs.YtfcjblnebaemgaaGreat
