/- Contracts: the iterator of package spans over the corners of a box. -/
import Derived.Test.YtoembbcddhlokaaSpG
import Derived.RangeFuncNested
import Derived.RangeFuncBound
import Derived.RangeFuncCalls
import Derived.RangeFuncLeaves
import Derived.Shelf.RegionOpen
import Derived.OwnWalkIn
import Derived.TacticsInMore
import Derived.LoopNIn
import Derived.LoopIn
set_option linter.all false
namespace Go.Proofs.Ytoembbcddhlokaa
open Go Go.RowKit Go.Proofs Go.Shelf
attribute [local go_sem] Oper.semAt_some

def encPt (p : Pt) : Array Value := #[.agg #[.int .i64 p.x, .int .i64 p.y, .int .i64 p.n, .int .i64 p.d]]

/-- The value of a table at a point, in the part that the program finds. -/
def numP (T : Tbl) (x y : Int) : Int := num T (cellP T.X x) (cellP T.Y y) x y
def denP (T : Tbl) (x y : Int) : Int := den T (cellP T.X x) (cellP T.Y y) x y

open Classical in
noncomputable def mkPt (T : Tbl) (x y : Int) : Pt :=
  if h : (-400000000000000 ≤ numP T x y ∧ numP T x y ≤ 400000000000000) ∧ (1 ≤ denP T x y ∧ denP T x y ≤ 400000000) then ⟨x, y, numP T x y, denP T x y, h.1, h.2⟩ else ⟨x, y, 0, 1, by omega, by omega⟩
noncomputable def cornersL (T : Tbl) (sx sy : List Int) : List Pt := sx.flatMap fun x => sy.map (mkPt T x)

/-- A point lies on a table. -/
def OnT (T : Tbl) (x y : Int) : Prop := nth T.X 0 ≤ x ∧ x ≤ nth T.X (T.X.length - 1) ∧ nth T.Y 0 ≤ y ∧ y ≤ nth T.Y (T.Y.length - 1)

theorem numP_bd {T : Tbl} {x y : Int} (ht : tblB T = true) (h : OnT T x y) : (-400000000000000 ≤ numP T x y ∧ numP T x y ≤ 400000000000000) ∧ (1 ≤ denP T x y ∧ denP T x y ≤ 400000000) := by
  obtain ⟨hx0, hx1, hy0, hy1⟩ := h
  have hX := tblB_X ht
  have hY := tblB_Y ht
  have lV := tblB_len ht
  have ii := cellP_lt hX x
  have kk := cellP_lt hY y
  have pi := cellP_in hX hx0 hx1
  have pk := cellP_in hY hy0 hy1
  have si := axisB_step hX ii
  have sk := axisB_step hY kk
  unfold numP denP num den
  generalize cellP T.X x = i at *
  generalize cellP T.Y y = k at *
  obtain ⟨_, v0⟩ := tblB_row ht (show i < T.V.length by omega)
  obtain ⟨_, v1⟩ := tblB_row ht (show i + 1 < T.V.length by omega)
  have h := (wnum_eq (A := nth T.X (i + 1) - x) (B := x - nth T.X i) (C := nth T.Y (k + 1) - y) (D := y - nth T.Y k) (by omega) (by omega) (by omega) (by omega) (by omega) (by omega) (by omega) (by omega)
    (v0 k (by omega)) (v0 (k + 1) (by omega)) (v1 k (by omega)) (v1 (k + 1) (by omega))).2
  refine ⟨h, ?_⟩
  have e1 : nth T.X (i + 1) - x + (x - nth T.X i) = nth T.X (i + 1) - nth T.X i := by omega
  have e2 : nth T.Y (k + 1) - y + (y - nth T.Y k) = nth T.Y (k + 1) - nth T.Y k := by omega
  rw [e1, e2]
  have m := mul_bd (a := nth T.X (i + 1) - nth T.X i) (b := nth T.Y (k + 1) - nth T.Y k) (A := 10000) (B := 10000) (by omega) (by omega) (by omega) (by omega)
  have p : 1 * 1 ≤ (nth T.X (i + 1) - nth T.X i) * (nth T.Y (k + 1) - nth T.Y k) := Int.mul_le_mul (by omega) (by omega) (by omega) (by omega)
  omega
theorem mkPt_n {T : Tbl} {x y : Int} (ht : tblB T = true) (h : OnT T x y) : (mkPt T x y).n = numP T x y ∧ (mkPt T x y).d = denP T x y := by
  unfold mkPt; rw [dif_pos (numP_bd ht h)]; exact ⟨rfl, rfl⟩
theorem mkPt_x (T : Tbl) (x y : Int) : (mkPt T x y).x = x ∧ (mkPt T x y).y = y := by
  unfold mkPt; split <;> exact ⟨rfl, rfl⟩

/-- Every cell that lay lies as it lay, but in the blocks that S names. -/
def KeepC (S : Nat → Prop) (A B : World) : Prop := A.heap.size ≤ B.heap.size ∧ ∀ k c t f, A.heap[k]? = some (.cells c t f) → ¬ S k → B.heap[k]? = some (.cells c t f)
theorem KeepC.trans {S : Nat → Prop} {A B C : World} (h : KeepC S A B) (k : KeepC S B C) : KeepC S A C :=
  ⟨Nat.le_trans h.1 k.1, fun i c t f hi hs => k.2 i c t f (h.2 i c t f hi hs) hs⟩
theorem KeepC.put {S : Nat → Prop} (W : World) (l : Nat) (o o' : Obj) (h : W.heap[l]? = some o) (ho : o.isCells = false) : KeepC S W (W.putObj l o') :=
  ⟨by simp, fun k c t f hk _ => by
    by_cases e : k = l
    · subst e; rw [h] at hk; cases hk; simp [Obj.isCells] at ho
    · exact (World.putObj_heap_other e).trans hk⟩
theorem KeepC.of_below {S : Nat → Prop} {A B : World} (h : Below A.heap.size A B) : KeepC S A B :=
  ⟨h.size, fun k c t f hk _ => (h.block k (Array.getElem?_eq_some_iff.1 hk).1).trans hk⟩
theorem KeepC.cell {S : Nat → Prop} {A B : World} (h : KeepC S A B) {b o : Nat} {v : Value} (hc : A.cell? ⟨b, o, none⟩ = some v) (hs : ¬ S b) : B.cell? ⟨b, o, none⟩ = some v := by
  unfold World.cell? at hc ⊢
  split at hc
  · rename_i c e f hb
    rw [show B.heap[(⟨b, o, none⟩ : Addr).block]? = some (.cells c e f) from h.2 b c e f hb hs]
    exact hc
  · simp at hc
theorem grownBy_of_below {A B : World} (h : Below A.heap.size A B) : A.grownBy B none :=
  ⟨h.os, h.tape, h.output, h.size, fun k hk _ => h.block k hk⟩

theorem CellsAt.keep {S : Nat → Prop} {w w' : World} {A : Option Addr} {n : Nat} {f : Nat → Value} (h : CellsAt w A n f) (hk : KeepC S w w') (hS : ∀ k, S k → w.heap.size ≤ k) : CellsAt w' A n f := by
  intro hn
  obtain ⟨b, off, hA, hlt, hc⟩ := h hn
  exact ⟨b, off, hA, Nat.lt_of_lt_of_le hlt hk.1, fun k hkn => hk.cell (hc k hkn) (fun hs => by have := hS b hs; omega)⟩
theorem Ints.keep {S : Nat → Prop} {w w' : World} {v : Value} {xs : List Int} (h : Ints w v xs) (hk : KeepC S w w') (hS : ∀ k, S k → w.heap.size ≤ k) : Ints w' v xs := by
  obtain ⟨A, c, rfl, h1, h2, h3, h4⟩ := h
  exact ⟨A, c, rfl, h1, h2, h3, h4.keep hk hS⟩
theorem TblAt.keep {S : Nat → Prop} {w w' : World} {x y v : Value} {T : Tbl} (h : TblAt w x y v T) (hk : KeepC S w w') (hS : ∀ k, S k → w.heap.size ≤ k) : TblAt w' x y v T := by
  refine ⟨h.x.keep hk hS, h.y.keep hk hS, ?_⟩
  obtain ⟨A, c, vs, e, h1, h2, h3, h4⟩ := h.v
  exact ⟨A, c, vs, e, h1, h2, h3.keep hk hS, fun k hkn => (h4 k hkn).keep hk hS⟩

/-- What an owned row of integers is good for. -/
theorem row_form {w : World} {base : Nat} {e : TypeId} {v : Value} {xs : List Int} (h : w.ownsRow base e 1 v xs.length (xs.map (Value.int .i64))) (h0 : 0 < xs.length) :
    ∃ g c, v = .slice (some ⟨g, 0, none⟩) xs.length c ∧ base ≤ g ∧ g < w.heap.size ∧ ∀ k, k < xs.length → w.cell? ⟨g, k, none⟩ = some (.int .i64 (nth xs k)) := by
  obtain ⟨hl, h2⟩ := id h
  rcases h2 with ⟨_, hz⟩ | ⟨g, cap, cur, rfl, hg, _⟩
  · omega
  · refine ⟨g, cap, rfl, hg, (h.lt g rfl).2, fun k hk => ?_⟩
    have := h.cells (g := g) rfl k (.int .i64 (nth xs k)) (by rw [List.getElem?_map, List.getElem?_eq_getElem hk, nth_getElem xs k hk]; rfl)
    rw [Addr.add_lit] at this
    simpa using this
end Go.Proofs.Ytoembbcddhlokaa
