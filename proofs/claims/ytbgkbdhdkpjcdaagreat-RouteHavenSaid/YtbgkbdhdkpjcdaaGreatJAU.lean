/- Texts joined: JAU. -/
import Derived.Test.YtbgkbdhdkpjcdaaGreatJAM
import Derived.Great.CaseRows
import Derived.Deep.WholeRow
set_option linter.all false
namespace Go.Proofs.YtbgkbdhdkpjcdaaGreat
open Go Go.RowKit Go.Proofs
set_option maxRecDepth 100000

def spC (l : List (Int × Int)) : List Value := l.flatMap fun p => [.int .i64 p.1, .int .i64 p.2]
/-- A store into the cells that a row owns. -/
theorem owns_set {w : World} {base g c i : Nat} {e : TypeId} {size : Nat} {n : Nat} {xs : List Value} (h : w.ownsRow base e size (.slice (some ⟨g, 0, none⟩) n c) n xs) (hi : i < n * size) (u : Value) :
    (w.setCell ⟨g, i, none⟩ u).ownsRow base e size (.slice (some ⟨g, 0, none⟩) n c) n (xs.set i u) := by
  obtain ⟨h1, h2⟩ := h
  refine ⟨by rw [List.length_set]; exact h1, ?_⟩
  rcases h2 with ⟨h2, -⟩ | ⟨g', cap, cur, hv, hb, hh, r1, r2, r3, r4⟩
  · cases h2
  · simp only [Value.slice.injEq, Option.some.injEq, Addr.mk.injEq, and_true] at hv
    obtain ⟨rfl, -, rfl⟩ := hv
    refine .inr ⟨g, c, cur.setIfInBounds i u, rfl, hb, (show Blk _ g e _ from (show Blk w g e cur from hh).set_ i u), r1, r2, by simpa using r3, ?_⟩
    rw [Array.toList_setIfInBounds, List.take_set, r4]
end Go.Proofs.YtbgkbdhdkpjcdaaGreat

namespace Go.Proofs.YtbgkbdhdkpjcdaaGreat
open Go Go.RowKit Go.Proofs
set_option maxRecDepth 100000
set_option maxHeartbeats 4000000

end Go.Proofs.YtbgkbdhdkpjcdaaGreat

namespace Go.Proofs.YtbgkbdhdkpjcdaaGreat
open Go Go.RowKit Go.Proofs
set_option maxRecDepth 100000
set_option maxHeartbeats 8000000

/-- What the loop of Windows keeps. -/
structure WiK (M : MetD) (vF vS : Value) (lw ls lc : Int) (li lt : Bool) (w : World) (l : List (Int × Int)) (v : Value) (wr : World) : Prop where
  k : FiK M vF vS lw ls lc li lt w wr
  o : wr.ownsRow (w.heap.size + 2) 23 2 v l.length (spC l)
  n : v = .slice none 0 0 ↔ l = []
  z : w.heap.size + 2 ≤ wr.heap.size
theorem WiK.grow {M : MetD} {vF vS : Value} {lw ls lc : Int} {li lt : Bool} {w wr w2 : World} {l : List (Int × Int)} {v : Value} (h : WiK M vF vS lw ls lc li lt w l v wr) (hb : Below wr.heap.size wr w2) : WiK M vF vS lw ls lc li lt w l v w2 :=
  ⟨h.k.grow hb, ownsRow_below h.o hb, h.n, Nat.le_trans h.z hb.size⟩
theorem FiK.under {M : MetD} {vF vS : Value} {lw ls lc : Int} {li lt : Bool} {w wr w2 : World} (h : FiK M vF vS lw ls lc li lt w wr) (hb : Below (w.heap.size + 2) wr w2) : FiK M vF vS lw ls lc li lt w w2 :=
  ⟨h.b.trans (hb.mono (by omega)), h.m.under hb (by omega), h.l.under hb (by omega)⟩
theorem WiK.take {M : MetD} {vF vS : Value} {lw ls lc : Int} {li lt : Bool} {w wr w2 : World} {l : List (Int × Int)} {v v' : Value} {p : Int × Int} (h : WiK M vF vS lw ls lc li lt w l v wr) (h1 : w2.ownsRow (w.heap.size + 2) 23 2 v' (l ++ [p]).length (spC (l ++ [p])))
    (h2 : wr.grownBy w2 v.ownBlock) (h3 : v' ≠ .slice none 0 0) : WiK M vF vS lw ls lc li lt w (l ++ [p]) v' w2 :=
  ⟨h.k.under (below_grown h2 h.z (fun b hb => owns_base h.o hb)), h1, by simp [h3], Nat.le_trans h.z h2.size⟩
end Go.Proofs.YtbgkbdhdkpjcdaaGreat

namespace Go.Proofs.YtbgkbdhdkpjcdaaGreat
open Go Go.RowKit Go.Proofs
set_option maxRecDepth 100000
set_option maxHeartbeats 8000000

end Go.Proofs.YtbgkbdhdkpjcdaaGreat

namespace Go.Proofs.YtbgkbdhdkpjcdaaGreat
open Go Go.RowKit Go.Proofs

theorem stab_nil (key : Nat → Int) : stab key [] = [] := by simp [stab]
end Go.Proofs.YtbgkbdhdkpjcdaaGreat

namespace Go.Proofs.YtbgkbdhdkpjcdaaGreat
open Go Go.RowKit Go.Proofs
set_option maxRecDepth 100000
set_option maxHeartbeats 8000000

end Go.Proofs.YtbgkbdhdkpjcdaaGreat

namespace Go.Proofs.YtbgkbdhdkpjcdaaGreat
open Go Go.RowKit Go.Proofs
set_option maxRecDepth 100000
set_option maxHeartbeats 8000000
end Go.Proofs.YtbgkbdhdkpjcdaaGreat
