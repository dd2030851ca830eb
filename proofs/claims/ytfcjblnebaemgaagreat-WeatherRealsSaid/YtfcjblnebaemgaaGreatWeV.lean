/- Plain law of weather.Windows, and a store into an own row. -/
import Derived.Test.YtfcjblnebaemgaaGreatWeU
set_option linter.all false
namespace Go.Proofs.YtfcjblnebaemgaaGreat
open Go Go.RowKit Go.Proofs
set_option maxRecDepth 100000

/-- One open tick behind the stretches so far. -/
def winA (out : List (Int × Int)) (t : Int) : List (Int × Int) :=
  match out.getLast? with
  | some p => if p.2 = t - 1 then out.dropLast ++ [(p.1, t)] else out ++ [(t, t)]
  | none => out ++ [(t, t)]
def winR (op : Int → Bool) : Nat → Int → List (Int × Int) → List (Int × Int)
  | 0, _, out => out
  | k + 1, t, out => winR op k (t + 1) (if op t then winA out t else out)
def spC (l : List (Int × Int)) : List Value := l.flatMap fun p => [.int .i64 p.1, .int .i64 p.2]
theorem spC_length (l : List (Int × Int)) : (spC l).length = l.length * 2 := by
  induction l with
  | nil => rfl
  | cons p l ih => simp only [spC, List.flatMap_cons, List.length_append, List.length_cons, List.length_nil] at *; omega
theorem spC_snoc (l : List (Int × Int)) (p : Int × Int) : spC (l ++ [p]) = spC l ++ [.int .i64 p.1, .int .i64 p.2] := by simp [spC, List.flatMap_append]
/-- A store into the cells that a row owns. -/
theorem owns_set {w : World} {base g c i : Nat} {e : TypeId} {size : Nat} {n : Nat} {xs : List Value} (h : w.ownsRow base e size (.slice (some ⟨g, 0, none⟩) n c) n xs) (hi : i < n * size) (u : Value) :
    (w.setCell ⟨g, i, none⟩ u).ownsRow base e size (.slice (some ⟨g, 0, none⟩) n c) n (xs.set i u) := by
  obtain ⟨h1, h2⟩ := h
  refine ⟨by rw [List.length_set]; exact h1, ?_⟩
  rcases h2 with ⟨h2, -⟩ | ⟨g', cap, cur, hv, hb, hh, r1, r2, r3, r4⟩
  · cases h2
  · simp only [Value.slice.injEq, Option.some.injEq, Addr.mk.injEq, and_true] at hv
    obtain ⟨rfl, -, rfl⟩ := hv
    refine .inr ⟨g, c, cur.setIfInBounds i u, rfl, hb, (show Blk _ g e _ from (show Blk w g e cur from hh).set_ i u), r1, r2, by simpa using r3, ?_⟩
    rw [Array.toList_setIfInBounds, List.take_set, r4]
end Go.Proofs.YtfcjblnebaemgaaGreat
