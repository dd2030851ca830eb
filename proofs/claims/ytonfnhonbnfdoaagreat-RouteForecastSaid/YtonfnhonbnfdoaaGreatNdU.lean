/- Plain law of RouteForecast: with one more forecast the flight is valid still; the pieces of its walk that stand in WgD for another row. -/
import Derived.Test.YtonfnhonbnfdoaaGreatJAX
import Derived.Test.YtonfnhonbnfdoaaGreatJAW
import Derived.Test.YtonfnhonbnfdoaaGreatJAT
set_option linter.all false
namespace Go.Proofs.YtonfnhonbnfdoaaGreat
open Go Go.RowKit Go.Proofs
set_option maxRecDepth 100000
set_option maxHeartbeats 8000000
theorem recs_rowF {w : World} {g : Nat} {row : List Value} (hl : row.length = 12) (h : RecsAt w (some ⟨g, 0, none⟩) 1 12 (fun _ j => row.getD j undef)) : ∀ j u, row[j]? = some u → w.cell? ⟨g, j, none⟩ = some u := by
  intro j u hj
  obtain ⟨b, off, e, -, hc⟩ := h (by omega)
  simp only [Option.some.injEq, Addr.mk.injEq, and_true] at e
  obtain ⟨rfl, rfl⟩ := e
  have hlt : j < 12 := by rw [← hl]; exact (List.getElem?_eq_some_iff.1 hj).1
  have := hc 0 (by omega) j hlt
  rw [show 0 + 0 * 12 + j = j by omega] at this
  rw [this]
  show some (row.getD j undef) = some u
  rw [List.getD_eq_getElem?_getD, hj]
  rfl
/-- A slice of one row. -/
def RowOne (v : Value) (row : List Value) (w : World) : Prop := ∃ g, v = .slice (some ⟨g, 0, none⟩) 1 1 ∧ ∀ j u, row[j]? = some u → w.cell? ⟨g, j, none⟩ = some u
theorem RowOne.below {v : Value} {row : List Value} {w w' : World} (h : RowOne v row w) (hlt : ∀ g, v = .slice (some ⟨g, 0, none⟩) 1 1 → g < w.heap.size) (hb : RowKit.Below w.heap.size w w') : RowOne v row w' := by
  obtain ⟨g, e, hc⟩ := h
  have hg := hlt g e
  exact ⟨g, e, fun j u hj => (hb.cell (p := ⟨g, j, none⟩) hg).trans (hc j u hj)⟩
def RowNew (v : Value) (row : List Value) (w : World) : Prop := (∀ g, v = .slice (some ⟨g, 0, none⟩) 1 1 → g < w.heap.size) ∧ RowOne v row w
theorem RowNew.below {v : Value} {row : List Value} {w w' : World} (h : RowNew v row w) (hb : RowKit.Below w.heap.size w w') : RowNew v row w' :=
  ⟨fun g e => Nat.lt_of_lt_of_le (h.1 g e) hb.size, h.2.below h.1 hb⟩
theorem RowNew.mk {row : List Value} (hl : row.length = 12) {w w' : World} {g : Nat} (hb : RowKit.Below w.heap.size w w') (h : RecsAt w' (some ⟨g, 0, none⟩) 1 12 (fun _ j => row.getD j undef)) : RowNew (.slice (some ⟨g, 0, none⟩) 1 1) row w' := by
  refine ⟨fun g' e => ?_, ⟨g, rfl, recs_rowF hl h⟩⟩
  obtain ⟨b, off, e2, h2, -⟩ := h (by omega)
  simp only [Option.some.injEq, Addr.mk.injEq, and_true] at e2
  obtain ⟨rfl, rfl⟩ := e2
  have : g = g' := by simpa using e
  omega
theorem MetAt.put {w : World} {vF vS : Value} {M : MetD} (h : MetAt w vF vS M) {g i : Nat} (h1 : ∀ b, some b = vF.ownBlock → b ≠ g) (h2 : 0 < M.m → ∀ b, some b = vS.ownBlock → b ≠ g) (u : Value) : MetAt (w.setCell ⟨g, i, none⟩ u) vF vS M := by
  obtain ⟨⟨A, c, rfl, q1, q2, q3⟩, ⟨A', c', rfl, k1, k2, k3⟩⟩ := h
  exact ⟨⟨A, c, rfl, q1, q2, q3.frame (by simp [World.setCell]) (fun h0 b off e => RowKit.Below.heap_setCell _ _ _ _ (h1 b (by rw [e]; rfl)))⟩, ⟨A', c', rfl, k1, k2, k3.frame (by simp [World.setCell]) (fun h0 b off e => RowKit.Below.heap_setCell _ _ _ _ (h2 h0 b (by rw [e]; rfl)))⟩⟩
theorem nthI_mem {xs : List Int} {x : Int} (h : x ∈ xs) : ∃ j, j < xs.length ∧ nth xs j = x := by
  obtain ⟨j, hj, e⟩ := List.getElem_of_mem h
  exact ⟨j, hj, by simp [nth, List.getD_eq_getElem?_getD, List.getElem?_eq_getElem hj, e]⟩
variable {M : MetD} {d : Nat → Int} {b : Nat → Bool}
theorem nf_plus {lw ls lc : Int} {S : Tab} {n : Nat} {F : FliD} (h : nfE (netME M lw ls lc S n) M S n F = 0) (hb : (M.plus d b).bad = false) : nfE (netME (M.plus d b) lw ls lc S n) (M.plus d b) S n F = 0 := by
  unfold nfE at h
  by_cases h1 : netME M lw ls lc S n = 0
  · rw [if_pos h1] at h
    obtain ⟨q1, q2, q3⟩ := netME_ok h1
    obtain ⟨k1, k2⟩ := opE_split q3
    have e1 : (M.plus d b).err = 0 := by unfold MetD.err; rw [hb]; rfl
    have m1 : minE (M.plus d b) lw ls lc = 0 := by
      unfold minE at k1 ⊢
      rw [hb, if_neg (by decide)]
      rw [q1, if_neg (by decide)] at k1
      exact k1
    have m2 : atE (M.plus d b) 0 0 = 0 := by
      unfold atE at k2 ⊢
      rw [hb, if_neg (by decide)]
      rw [q1, if_neg (by decide)] at k2
      exact k2
    have e2 : opE (M.plus d b) lw ls lc 0 0 = 0 := by unfold opE; rw [if_pos m1]; exact m2
    have e3 : legsBad (M.plus d b) S n = false := q2
    have e4 : netME (M.plus d b) lw ls lc S n = 0 := by unfold netME; rw [if_pos e1, if_pos e2, e3]; rfl
    unfold nfE
    rw [if_pos e4]
    exact h
  · rw [if_neg h1] at h; exact absurd h h1
theorem at_plus (hb : (M.plus d b).bad = false) {t : Int} (h1 : d 1 ≤ t) (h2 : t < d 2) : atE (M.plus d b) (d 0) t = 0 := by
  have hk := MetD.ok_of hb
  have a1 := hk.fp M.n (Nat.lt_succ_self _)
  have a2 := hk.ff M.n (Nat.lt_succ_self _)
  have a3 := hk.ft M.n (Nat.lt_succ_self _)
  rw [plus_Dn] at a1 a2 a3
  unfold atE
  rw [hb, if_neg (by decide), inB_iff.2 a1, inB_iff.2 (show 0 ≤ t ∧ t ≤ 2000 by omega)]
  rfl
theorem iss_plus (hb : M.bad = false) (h3 : d 3 = 2000) : ∀ i, i < M.n → M.D i 3 ≤ d 3 := fun i hi => by
  have := (MetD.ok_of hb).fi i hi
  omega
theorem nf_bad {lw ls lc : Int} {S : Tab} {n : Nat} {F : FliD} (h : nfE (netME M lw ls lc S n) M S n F = 0) : M.bad = false := by
  unfold nfE at h
  by_cases h1 : netME M lw ls lc S n = 0
  · exact (netME_ok h1).1
  · rw [if_neg h1] at h; exact absurd h h1
end Go.Proofs.YtonfnhonbnfdoaaGreat
