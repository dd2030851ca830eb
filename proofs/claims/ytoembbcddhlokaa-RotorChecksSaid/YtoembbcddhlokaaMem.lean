/- Memory predicates for the walks: slices of integers, slices of slices, tables. No program is imported here. -/
import Derived.WalkKit
import Derived.Below
import Derived.Laws.OwnMore
import Derived.Lib.Hide
import Derived.Deep.Draws
set_option linter.all false
namespace Go.Proofs.Ytoembbcddhlokaa
open Go Go.RowKit

/-- An integer fits in 64 bits. -/
def I64 (x : Int) : Prop := -9223372036854775808 ≤ x ∧ x ≤ 9223372036854775807
theorem I64.lo {x : Int} (h : I64 x) : -9223372036854775808 ≤ x := h.1
theorem I64.hi {x : Int} (h : I64 x) : x ≤ 9223372036854775807 := h.2

/-- The k-th number of a list; 0 behind its end. -/
def nth (l : List Int) (k : Nat) : Int := l.getD k 0
/-- The k-th row. -/
def nthR (l : List (List Int)) (k : Nat) : List Int := l.getD k []
theorem nth_getElem (l : List Int) (k : Nat) (h : k < l.length) : nth l k = l[k] := by simp [nth, h]
theorem nthR_getElem (l : List (List Int)) (k : Nat) (h : k < l.length) : nthR l k = l[k] := by simp [nthR, h]
theorem nth_mem (l : List Int) (k : Nat) (h : k < l.length) : nth l k ∈ l := by rw [nth_getElem l k h]; exact List.getElem_mem h
theorem nthR_mem (l : List (List Int)) (k : Nat) (h : k < l.length) : nthR l k ∈ l := by rw [nthR_getElem l k h]; exact List.getElem_mem h

/-- Cells from address A on hold what f says, n of them. -/
def CellsAt (w : World) (A : Option Addr) (n : Nat) (f : Nat → Value) : Prop :=
  0 < n → ∃ b off, A = some ⟨b, off, none⟩ ∧ b < w.heap.size ∧ ∀ k, k < n → w.cell? ⟨b, off + k, none⟩ = some (f k)

theorem CellsAt.below {w w' : World} {A : Option Addr} {n : Nat} {f : Nat → Value} (h : CellsAt w A n f) (hb : Below w.heap.size w w') : CellsAt w' A n f := by
  intro hn
  obtain ⟨b, off, hA, hlt, hc⟩ := h hn
  exact ⟨b, off, hA, Nat.lt_of_lt_of_le hlt hb.size, fun k hk => (hb.cell (p := ⟨b, off + k, none⟩) hlt).trans (hc k hk)⟩

/-- A slice value that reads as a list of integers. -/
def Ints (w : World) (v : Value) (xs : List Int) : Prop :=
  ∃ A c, v = .slice A xs.length c ∧ xs.length ≤ c ∧ c ≤ 9223372036854775807 ∧ (∀ x ∈ xs, I64 x) ∧ CellsAt w A xs.length (fun k => .int .i64 (nth xs k))

/-- A slice value that reads as a list of rows. -/
def Rows (w : World) (v : Value) (xss : List (List Int)) : Prop :=
  ∃ A c vs, v = .slice A xss.length c ∧ xss.length ≤ c ∧ c ≤ 9223372036854775807 ∧ CellsAt w A xss.length vs ∧ ∀ k, k < xss.length → Ints w (vs k) (nthR xss k)

theorem Ints.below {w w' : World} {v : Value} {xs : List Int} (h : Ints w v xs) (hb : Below w.heap.size w w') : Ints w' v xs := by
  obtain ⟨A, c, rfl, h1, h2, h3, h4⟩ := h
  exact ⟨A, c, rfl, h1, h2, h3, h4.below hb⟩
theorem Rows.below {w w' : World} {v : Value} {xss : List (List Int)} (h : Rows w v xss) (hb : Below w.heap.size w w') : Rows w' v xss := by
  obtain ⟨A, c, vs, rfl, h1, h2, h3, h4⟩ := h
  exact ⟨A, c, vs, rfl, h1, h2, h3.below hb, fun k hk => (h4 k hk).below hb⟩

theorem Ints.len {w : World} {v : Value} {xs : List Int} (h : Ints w v xs) : xs.length ≤ 9223372036854775807 := by
  obtain ⟨A, c, _, h1, h2, _⟩ := h; omega
theorem Rows.len {w : World} {v : Value} {xss : List (List Int)} (h : Rows w v xss) : xss.length ≤ 9223372036854775807 := by
  obtain ⟨A, c, _, _, h1, h2, _⟩ := h; omega
theorem Ints.i64 {w : World} {v : Value} {xs : List Int} (h : Ints w v xs) {k : Nat} (hk : k < xs.length) : I64 (nth xs k) := by
  obtain ⟨A, c, _, _, _, h3, _⟩ := h; exact h3 _ (nth_mem xs k hk)

/-- A table: two axes and the rows. -/
structure Tbl where
  X : List Int
  Y : List Int
  V : List (List Int)

structure TblAt (w : World) (x y v : Value) (T : Tbl) : Prop where
  x : Ints w x T.X
  y : Ints w y T.Y
  v : Rows w v T.V
theorem TblAt.below {w w' : World} {x y v : Value} {T : Tbl} (h : TblAt w x y v T) (hb : Below w.heap.size w w') : TblAt w' x y v T :=
  ⟨h.x.below hb, h.y.below hb, h.v.below hb⟩

theorem bal {w W : World} (h : Below w.heap.size w W) (o : Obj) : Below w.heap.size w (W.alloc o) := h.alloc h.size o
theorem bdn {w W : World} (h : Below w.heap.size w W) (n : Nat) : Below w.heap.size w (W.drewN n) := ⟨h.os, h.tape, h.output, h.size, h.block⟩
theorem bthen {w W w1 : World} (h : Below w.heap.size w W) (h2 : Below W.heap.size W w1) : Below w.heap.size w w1 := h.trans (h2.mono h.size)
theorem bthen2 {w wp W w1 : World} (hE : Below w.heap.size w wp) (h : Below wp.heap.size wp W) (h2 : Below W.heap.size W w1) : Below w.heap.size w w1 := bthen hE (bthen h h2)
theorem bcell {W w1 : World} (hb : Below W.heap.size W w1) :
    (∀ b o, b < W.heap.size → w1.cell? ⟨b, o, none⟩ = W.cell? ⟨b, o, none⟩) ∧ (∀ b o, b < W.heap.size → w1.frozen? ⟨b, o, none⟩ = W.frozen? ⟨b, o, none⟩) :=
  ⟨fun b o h => hb.cell (p := ⟨b, o, none⟩) h, fun b o h => hb.frozen (p := ⟨b, o, none⟩) h⟩
theorem cell_new_at (w : World) (c : Array Value) (t : TypeId) (n i : Nat) (h : n = w.heap.size) : (w.alloc (.cells c t)).cell? ⟨n, i, none⟩ = c[i]? := by subst h; simp
end Go.Proofs.Ytoembbcddhlokaa
