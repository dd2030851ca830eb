/- Texts joined: JAG. -/
import Derived.Test.YtlambeiafdpkgaaGreatJAF
import Derived.Test.YtlambeiafdpkgaaGreatJAC
import Derived.Deep.WholeRow
import Derived.OpenShut
import Derived.Deep.Slices
import Derived.ChangeArms
import Derived.ChangeSlices
import Derived.WideShapes
import Derived.Test.YtlambeiafdpkgaaGreatRows
import Derived.WalkKit
import Derived.ProofKit
import Derived.Below
import Derived.Carry
import Derived.ChangeSame
set_option linter.all false
namespace Go.Proofs.YtlambeiafdpkgaaGreat
open Go Go.RowKit Go.Proofs
set_option maxRecDepth 100000
set_option maxHeartbeats 4000000
structure But (g : Nat) (w w' : World) : Prop where
 os : w'.os = w.os
 tape : w'.tape = w.tape
 output : w'.output = w.output
 size : w.heap.size ≤ w'.heap.size
 block : ∀ k, k < w.heap.size → k ≠ g → w'.heap[k]? = w.heap[k]?
theorem But.refl (g : Nat) (w : World) : But g w w := ⟨rfl, rfl, rfl, Nat.le_refl _, fun _ _ _ => rfl⟩
theorem But.of {g : Nat} {w w' : World} (h : Below w.heap.size w w') : But g w w' := ⟨h.os, h.tape, h.output, h.size, fun k hk _ => h.block k hk⟩
theorem But.trans {g : Nat} {a b c : World} (h : But g a b) (k : But g b c) : But g a c :=
 ⟨k.os.trans h.os, k.tape.trans h.tape, k.output.trans h.output, Nat.le_trans h.size k.size, fun i hi hg => (k.block i (Nat.lt_of_lt_of_le hi h.size) hg).trans (h.block i hi hg)⟩
theorem But.set {g i : Nat} {w w' : World} (h : But g w w') (u : Value) : But g w (w'.setCell ⟨g, i, none⟩ u) :=
 h.trans ⟨rfl, rfl, rfl, by simp [World.setCell], fun k _ hg => Below.heap_setCell _ _ _ _ hg⟩
theorem But.below {g B : Nat} {w w1 w2 : World} (h : Below B w w1) (hs : B ≤ w1.heap.size) (k : But g w1 w2) (hg : B ≤ g) : Below B w w2 :=
 h.trans ⟨k.os, k.tape, k.output, k.size, fun i hi => k.block i (by omega) (by omega)⟩
theorem Blk.but {W W' : World} {g n : Nat} {t : TypeId} {cs : Array Value} (h : Blk W n t cs) (hb : But g W W') (hn : n ≠ g) : Blk W' n t cs := (hb.block n h.lt hn).trans h
def ScG (g o : Nat) (x y : Int) (a b : World) : Prop := ∃ am, Below a.heap.size a am ∧ b = (am.setCell ⟨g, o, none⟩ (.int .i64 x)).setCell ⟨g, o + 1, none⟩ (.int .i64 y)
theorem ScG.but {g o : Nat} {x y : Int} {a b : World} (h : ScG g o x y a b) : But g a b := by
 obtain ⟨am, h, rfl⟩ := h
 exact ((But.of h).set _).set _
theorem ScG.cell {g o i : Nat} {x y : Int} {a b : World} {v : Value} (h : ScG g o x y a b) (hc : a.cell? ⟨g, i, none⟩ = some v) (h1 : i ≠ o) (h2 : i ≠ o + 1) : b.cell? ⟨g, i, none⟩ = some v := by
 obtain ⟨am, h, rfl⟩ := h
 rw [World.cell?_setCell_other _ _ _ _ (by intro e; simp only [Addr.mk.injEq] at e; omega), World.cell?_setCell_other _ _ _ _ (by intro e; simp only [Addr.mk.injEq] at e; omega)]
 exact (h.cell (p := ⟨g, i, none⟩) (blk_lt hc)).trans hc
theorem ScG.blk {g o : Nat} {x y : Int} {a b : World} {t : TypeId} {cs : Array Value} (h : ScG g o x y a b) (hb : Blk a g t cs) : Blk b g t ((cs.setIfInBounds o (.int .i64 x)).setIfInBounds (o + 1) (.int .i64 y)) := by
 obtain ⟨am, h, rfl⟩ := h
 exact ((hb.below h).set_ o _).set_ (o + 1) _
def scJ (g : Nat) (W0 : World) (i s : Bool) (a : World) : Prop := But g W0 a ∧ ∃ cs, Blk a g 153 cs ∧ cs.size = 8 ∧ cs[6]? = some (.bool i) ∧ cs[7]? = some (.bool s)
def scG (g : Nat) (x0 x1 x2 x3 x4 x5 : Int) : Nat → World → World → Prop
 | 6, a, b => ScG g 0 x0 x1 a b
 | 13, a, b => ScG g 2 x2 x3 a b
 | 20, a, b => ScG g 4 x4 x5 a b
 | _, a, b => a = b
def scI (g : Nat) (a0 a1 a2 a3 a4 a5 : Int) : Nat → World → Prop
 | 6, a => a.cell? ⟨g, 0, none⟩ = some (.int .i64 a0) ∧ a.cell? ⟨g, 1, none⟩ = some (.int .i64 a1)
 | 13, a => a.cell? ⟨g, 2, none⟩ = some (.int .i64 a2) ∧ a.cell? ⟨g, 3, none⟩ = some (.int .i64 a3)
 | 20, a => a.cell? ⟨g, 4, none⟩ = some (.int .i64 a4) ∧ a.cell? ⟨g, 5, none⟩ = some (.int .i64 a5)
 | _, _ => True
def scR (g b : Nat) (x0 x1 x2 x3 x4 x5 b0 b1 b2 b3 b4 b5 : Int) (F1 F2 F3 : Bool) : Nat → Value → World → Prop
 | 0, v, _ => v = .pointer (some ⟨g, 0, none⟩)
 | 1, v, _ => v = .pointer (some ⟨g, 0, none⟩)
 | 2, v, _ => v = .pointer (some ⟨g, 0, none⟩)
 | 3, v, _ => v = .pointer (some ⟨g, 0, none⟩)
 | 4, v, _ => v = .pointer (some ⟨b, 0, none⟩)
 | 5, v, _ => v = .agg #[.int .i64 b0, .int .i64 b1]
 | 6, v, w => v = .bool F1 ∧ w.cell? ⟨g, 0, none⟩ = some (.int .i64 x0) ∧ w.cell? ⟨g, 1, none⟩ = some (.int .i64 x1)
 | 7, v, _ => v = .pointer (some ⟨g, 0, none⟩)
 | 8, v, _ => v = .pointer (some ⟨g, 0, none⟩)
 | 9, v, _ => v = .pointer (some ⟨g, 0, none⟩)
 | 10, v, _ => v = .pointer (some ⟨g, 2, none⟩)
 | 11, v, _ => v = .pointer (some ⟨b, 2, none⟩)
 | 12, v, _ => v = .agg #[.int .i64 b2, .int .i64 b3]
 | 13, v, w => v = .bool F2 ∧ w.cell? ⟨g, 2, none⟩ = some (.int .i64 x2) ∧ w.cell? ⟨g, 3, none⟩ = some (.int .i64 x3)
 | 14, v, _ => v = .pointer (some ⟨g, 0, none⟩)
 | 15, v, _ => v = .pointer (some ⟨g, 0, none⟩)
 | 16, v, _ => v = .pointer (some ⟨g, 0, none⟩)
 | 17, v, _ => v = .pointer (some ⟨g, 4, none⟩)
 | 18, v, _ => v = .pointer (some ⟨b, 4, none⟩)
 | 19, v, _ => v = .agg #[.int .i64 b4, .int .i64 b5]
 | 20, v, w => v = .bool F3 ∧ w.cell? ⟨g, 4, none⟩ = some (.int .i64 x4) ∧ w.cell? ⟨g, 5, none⟩ = some (.int .i64 x5)
 | _, _, _ => True
section
variable {g : Nat} {x0 x1 x2 x3 x4 x5 : Int}
theorem scG_size (i : Nat) (a b : World) (h : scG g x0 x1 x2 x3 x4 x5 i a b) : a.heap.size ≤ b.heap.size := by
 unfold scG at h; split at h
 ·exact h.but.size
 ·exact h.but.size
 ·exact h.but.size
 ·rw [h]; exact Nat.le_refl _
theorem ScG.keepJ {o : Nat} {x y : Int} {W0 a b : World} {i s : Bool} (h : ScG g o x y a b) (ho : o + 1 < 6) (hj : scJ g W0 i s a) : scJ g W0 i s b := by
 obtain ⟨h1, cs, h2, h3, h4, h5⟩ := hj
 refine ⟨h1.trans h.but, _, h.blk h2, by simp [h3], ?_, ?_⟩
 ·rw [Array.getElem?_setIfInBounds_ne (by omega), Array.getElem?_setIfInBounds_ne (by omega)]; exact h4
 ·rw [Array.getElem?_setIfInBounds_ne (by omega), Array.getElem?_setIfInBounds_ne (by omega)]; exact h5
theorem scG_J {W0 : World} {i s : Bool} (k : Nat) (a b : World) (h : scG g x0 x1 x2 x3 x4 x5 k a b) (hj : scJ g W0 i s a) : scJ g W0 i s b := by
 unfold scG at h; split at h
 ·exact h.keepJ (by omega) hj
 ·exact h.keepJ (by omega) hj
 ·exact h.keepJ (by omega) hj
 ·rw [← h]; exact hj
theorem scG_cell {k i : Nat} {a b : World} {v : Value} (h : scG g x0 x1 x2 x3 x4 x5 k a b) (hc : a.cell? ⟨g, i, none⟩ = some v) (h1 : k = 6 → 1 < i) (h2 : k = 13 → i < 2 ∨ 3 < i) (h3 : k = 20 → i < 4) : b.cell? ⟨g, i, none⟩ = some v := by
 unfold scG at h; split at h
 ·have := h1 rfl; exact h.cell hc (by omega) (by omega)
 ·have := h2 rfl; exact h.cell hc (by omega) (by omega)
 ·have := h3 rfl; exact h.cell hc (by omega) (by omega)
 ·rw [← h]; exact hc
theorem scG_I {ops : Array Oper} {a0 a1 a2 a3 a4 a5 : Int} (k j : Nat) (a b : World) (hkj : k ≠ j) (_ : k ∉ depsOf ops j) (h : scG g x0 x1 x2 x3 x4 x5 j a b) (hi : scI g a0 a1 a2 a3 a4 a5 k a) : scI g a0 a1 a2 a3 a4 a5 k b := by
 unfold scI at *
 split at hi
 ·exact ⟨scG_cell h hi.1 (by omega) (by omega) (by omega), scG_cell h hi.2 (by omega) (by omega) (by omega)⟩
 ·exact ⟨scG_cell h hi.1 (by omega) (by omega) (by omega), scG_cell h hi.2 (by omega) (by omega) (by omega)⟩
 ·exact ⟨scG_cell h hi.1 (by omega) (by omega) (by omega), scG_cell h hi.2 (by omega) (by omega) (by omega)⟩
 ·trivial
theorem scG_R {bb : Nat} {b0 b1 b2 b3 b4 b5 : Int} {F1 F2 F3 : Bool} (k j : Nat) (v : Value) (a b : World) (hkj : k ≠ j) (h : scG g x0 x1 x2 x3 x4 x5 j a b) (hr : scR g bb x0 x1 x2 x3 x4 x5 b0 b1 b2 b3 b4 b5 F1 F2 F3 k v a) : scR g bb x0 x1 x2 x3 x4 x5 b0 b1 b2 b3 b4 b5 F1 F2 F3 k v b := by
 unfold scR at *
 split at hr <;> first
  | exact hr
  | exact ⟨hr.1, scG_cell h hr.2.1 (by omega) (by omega) (by omega), scG_cell h hr.2.2 (by omega) (by omega) (by omega)⟩
end
theorem scJ_new {g o : Nat} {x y : Int} {W0 a b : World} {i s : Bool} (hj : scJ g W0 i s a) (h : ScG g o x y a b) (ho : o + 1 < 8) : b.cell? ⟨g, o, none⟩ = some (.int .i64 x) ∧ b.cell? ⟨g, o + 1, none⟩ = some (.int .i64 y) := by
 obtain ⟨-, cs, h2, h3, -, -⟩ := hj
 have hk := h.blk h2
 rw [hk.cell o, hk.cell (o + 1)]
 refine ⟨?_, ?_⟩
 ·rw [Array.getElem?_setIfInBounds_ne (by omega), Array.getElem?_setIfInBounds_self_of_lt (by omega)]
 ·rw [Array.getElem?_setIfInBounds_self_of_lt (by simp; omega)]
theorem eight {cs : Array Value} {v0 v1 v2 v3 v4 v5 v6 v7 : Value} (h : cs.size = 8) (e0 : cs[0]? = some v0) (e1 : cs[1]? = some v1) (e2 : cs[2]? = some v2) (e3 : cs[3]? = some v3) (e4 : cs[4]? = some v4) (e5 : cs[5]? = some v5) (e6 : cs[6]? = some v6) (e7 : cs[7]? = some v7) :
  cs = #[v0, v1, v2, v3, v4, v5, v6, v7] := by
 obtain ⟨l⟩ := cs
 match l, h with
 | [a, b, c, d, e, f, g, k], _ =>
  simp at e0 e1 e2 e3 e4 e5 e6 e7
  subst e0 e1 e2 e3 e4 e5 e6 e7
  rfl
def skF (a0 a1 a2 a3 a4 a5 b0 b1 b2 b3 b4 b5 : Int) : Bool := cuF a0 a1 b0 b1 || (cuF a2 a3 b2 b3 || cuF a4 a5 b4 b5)
theorem scut_c (g : Nat) (a0 a1 a2 a3 a4 a5 b0 b1 b2 b3 b4 b5 : Int) (ia sa ib sb : Bool) (w : World) (hg : Blk w g 153 #[.int .i64 a0, .int .i64 a1, .int .i64 a2, .int .i64 a3, .int .i64 a4, .int .i64 a5, .bool ia, .bool sa])
  (v1 : vspan a0 a1 = true) (v2 : vspan a2 a3 = true) (v3 : vspan a4 a5 = true) (u1 : vspan b0 b1 = true) (u2 : vspan b2 b3 = true) (u3 : vspan b4 b5 = true) :
  Calls Tryz.prog 114 #[.pointer (some ⟨g, 0, none⟩), .agg #[.int .i64 b0, .int .i64 b1, .int .i64 b2, .int .i64 b3, .int .i64 b4, .int .i64 b5, .bool ib, .bool sb]] w fun e w' => e = .returned (.bool (skF a0 a1 a2 a3 a4 a5 b0 b1 b2 b3 b4 b5)) ∧
   But g w w' ∧ Blk w' g 153 #[.int .i64 (cuL a0 a1 b0 b1), .int .i64 (cuH a0 a1 b0 b1), .int .i64 (cuL a2 a3 b2 b3), .int .i64 (cuH a2 a3 b2 b3), .int .i64 (cuL a4 a5 b4 b5), .int .i64 (cuH a4 a5 b4 b5), .bool ia, .bool sa] := by
 have C1 := hI9 (fun (w1 : World) (h0 : w1.cell? ⟨g, 0, none⟩ = some (.int .i64 a0)) (h1 : w1.cell? ⟨g, 1, none⟩ = some (.int .i64 a1)) (f0 : w1.frozen? ⟨g, 0, none⟩ = false) (f1 : w1.frozen? ⟨g, 1, none⟩ = false) => cut_c g 0 a0 a1 b0 b1 w1 v1 u1 h0 h1 f0 f1)
 have C2 := hI9 (fun (w1 : World) (h0 : w1.cell? ⟨g, 2, none⟩ = some (.int .i64 a2)) (h1 : w1.cell? ⟨g, 3, none⟩ = some (.int .i64 a3)) (f0 : w1.frozen? ⟨g, 2, none⟩ = false) (f1 : w1.frozen? ⟨g, 3, none⟩ = false) => cut_c g 2 a2 a3 b2 b3 w1 v2 u2 h0 h1 f0 f1)
 have C3 := hI9 (fun (w1 : World) (h0 : w1.cell? ⟨g, 4, none⟩ = some (.int .i64 a4)) (h1 : w1.cell? ⟨g, 5, none⟩ = some (.int .i64 a5)) (f0 : w1.frozen? ⟨g, 4, none⟩ = false) (f1 : w1.frozen? ⟨g, 5, none⟩ = false) => cut_c g 4 a4 a5 b4 b5 w1 v3 u3 h0 h1 f0 f1)
 unfold skF
 generalize cuF a0 a1 b0 b1 = F1 at *
 generalize cuF a2 a3 b2 b3 = F2 at *
 generalize cuF a4 a5 b4 b5 = F3 at *
 generalize cuL a0 a1 b0 b1 = x0 at *
 generalize cuH a0 a1 b0 b1 = x1 at *
 generalize cuL a2 a3 b2 b3 = x2 at *
 generalize cuH a2 a3 b2 b3 = x3 at *
 generalize cuL a4 a5 b4 b5 = x4 at *
 generalize cuH a4 a5 b4 b5 = x5 at *
 have hlt := hg.lt
 have HG := hI9 hg
 clear hg v1 v2 v3 u1 u2 u3
 go_enter Tryz.func114, Tryz.ntmps114
 go_wp2_with (fail)
 have HX := hI9 (Blk.new w 30 #[.int .i64 b0, .int .i64 b1, .int .i64 b2, .int .i64 b3, .int .i64 b4, .int .i64 b5, .bool ib, .bool sb])
 have HG1 := hI9 (HG.out.alloc (.cells #[.int .i64 b0, .int .i64 b1, .int .i64 b2, .int .i64 b3, .int .i64 b4, .int .i64 b5, .bool ib, .bool sb] 30))
 have HB := hI9 (bal (Below.refl w.heap.size w) (.cells #[.int .i64 b0, .int .i64 b1, .int .i64 b2, .int .i64 b3, .int .i64 b4, .int .i64 b5, .bool ib, .bool sb] 30))
 have HBW := hI9 (But.of (g := g) (bal (Below.refl w.heap.size w) (.cells #[.int .i64 b0, .int .i64 b1, .int .i64 b2, .int .i64 b3, .int .i64 b4, .int .i64 b5, .bool ib, .bool sb] 30)))
 have hne : w.heap.size ≠ g := by omega
 generalize w.alloc (.cells #[.int .i64 b0, .int .i64 b1, .int .i64 b2, .int .i64 b3, .int .i64 b4, .int .i64 b5, .bool ib, .bool sb] 30) = W at *
 generalize w.heap.size = gx at *
 have HK := hI9 (fun (a : World) (h : scJ g W.drew ia sa a) (i : Nat) => ((show Blk W.drew gx _ _ from HX.out).but h.1 hne).cell i)
 have FK := hI9 (fun (a : World) (h : scJ g W.drew ia sa a) (i : Nat) => (show a.frozen? ⟨g, i, none⟩ = false by obtain ⟨_, cs, h2, _⟩ := h; exact h2.frozen i))
 refine wp_region_specH (scG g x0 x1 x2 x3 x4 x5) (scJ g W.drew ia sa) (scI g a0 a1 a2 a3 a4 a5) scG_size scG_J scG_I ⟨But.refl _ _, _, HG1.out, rfl, rfl, rfl⟩ (fun i => (by unfold scI; split <;> first | exact ⟨HG1.out.cell _, HG1.out.cell _⟩ | trivial)) 21 (scR g gx x0 x1 x2 x3 x4 x5 b0 b1 b2 b3 b4 b5 F1 F2 F3) (fun _ => false) (by kernel_rfl) (by kernel_rfl) scG_R ?hoph181 ?htailh181
 case hoph181 =>
  simp only [List.take_succ_cons, List.take_zero, allOps]
  refine ⟨?_, ?_, ?_, ?_, ?_, ?_, ?_, ?_, ?_, ?_, ?_, ?_, ?_, ?_, ?_, ?_, ?_, ?_, ?_, ?_, ?_, trivial⟩
  all_goals intro u A w1 hA hj hi hd
  all_goals simp only [putAll, dstOf, gtA, gtS, gtZ, Option.bind_some, Option.bind, Act.put, List.setIfInBounds_toArray, List.set_cons_succ, List.set_cons_zero] at hA; subst hA
  ·clear hd
   go_wp2
   exact ⟨_, rfl, rfl, rfl, fun h => absurd h (by decide)⟩
  ·have d0 : u 0 = _ := hd 0 (by omega) (by kernel_rfl)
   clear hd
   try rw [d0]
   clear d0
   go_wp2
   exact ⟨_, rfl, rfl, rfl, fun h => absurd h (by decide)⟩
  ·have d1 : u 1 = _ := hd 1 (by omega) (by kernel_rfl)
   clear hd
   try rw [d1]
   clear d1
   go_wp2
   exact ⟨_, rfl, rfl, rfl, fun h => absurd h (by decide)⟩
  ·have d2 : u 2 = _ := hd 2 (by omega) (by kernel_rfl)
   clear hd
   try rw [d2]
   clear d2
   go_wp2
   exact ⟨_, rfl, rfl, rfl, fun h => absurd h (by decide)⟩
  ·clear hd
   go_wp2
   exact ⟨_, rfl, rfl, rfl, fun h => absurd h (by decide)⟩
  ·have d4 : u 4 = _ := hd 4 (by omega) (by kernel_rfl)
   clear hd
   try rw [d4]
   clear d4
   have c0 := HK.out _ hj 0
   have c1 := HK.out _ hj 1
   go_wp2
   exact ⟨_, rfl, rfl, rfl, fun h => absurd h (by decide)⟩
  ·have d3 : u 3 = _ := hd 3 (by omega) (by kernel_rfl)
   have d5 : u 5 = _ := hd 5 (by omega) (by kernel_rfl)
   clear hd
   try rw [d3, d5]
   clear d3 d5
   obtain ⟨i0, i1⟩ := (show w1.cell? ⟨g, 0, none⟩ = some (.int .i64 a0) ∧ w1.cell? ⟨g, 1, none⟩ = some (.int .i64 a1) from hi)
   go_wp2_with (go_at_call 160; (with_reducible refine (C1.out _ i0 i1 (FK.out _ hj _) (FK.out _ hj _)).mono ?_); rintro e w2 ⟨rfl, hb2⟩)
   exact ⟨_, rfl, (show ScG g 0 x0 x1 w1 w2 from hb2), ⟨rfl, scJ_new hj hb2 (by omega)⟩, fun h => absurd h (by decide)⟩
  ·clear hd
   go_wp2
   exact ⟨_, rfl, rfl, rfl, fun h => absurd h (by decide)⟩
  ·have d7 : u 7 = _ := hd 7 (by omega) (by kernel_rfl)
   clear hd
   try rw [d7]
   clear d7
   go_wp2
   exact ⟨_, rfl, rfl, rfl, fun h => absurd h (by decide)⟩
  ·have d8 : u 8 = _ := hd 8 (by omega) (by kernel_rfl)
   clear hd
   try rw [d8]
   clear d8
   go_wp2
   exact ⟨_, rfl, rfl, rfl, fun h => absurd h (by decide)⟩
  ·have d9 : u 9 = _ := hd 9 (by omega) (by kernel_rfl)
   clear hd
   try rw [d9]
   clear d9
   go_wp2
   exact ⟨_, rfl, rfl, rfl, fun h => absurd h (by decide)⟩
  ·clear hd
   go_wp2
   exact ⟨_, rfl, rfl, rfl, fun h => absurd h (by decide)⟩
  ·have d11 : u 11 = _ := hd 11 (by omega) (by kernel_rfl)
   clear hd
   try rw [d11]
   clear d11
   have c0 := HK.out _ hj 2
   have c1 := HK.out _ hj 3
   go_wp2
   exact ⟨_, rfl, rfl, rfl, fun h => absurd h (by decide)⟩
  ·have d10 : u 10 = _ := hd 10 (by omega) (by kernel_rfl)
   have d12 : u 12 = _ := hd 12 (by omega) (by kernel_rfl)
   clear hd
   try rw [d10, d12]
   clear d10 d12
   obtain ⟨i0, i1⟩ := (show w1.cell? ⟨g, 2, none⟩ = some (.int .i64 a2) ∧ w1.cell? ⟨g, 3, none⟩ = some (.int .i64 a3) from hi)
   go_wp2_with (go_at_call 160; (with_reducible refine (C2.out _ i0 i1 (FK.out _ hj _) (FK.out _ hj _)).mono ?_); rintro e w2 ⟨rfl, hb2⟩)
   exact ⟨_, rfl, (show ScG g 2 x2 x3 w1 w2 from hb2), ⟨rfl, scJ_new hj hb2 (by omega)⟩, fun h => absurd h (by decide)⟩
  ·clear hd
   go_wp2
   exact ⟨_, rfl, rfl, rfl, fun h => absurd h (by decide)⟩
  ·have d14 : u 14 = _ := hd 14 (by omega) (by kernel_rfl)
   clear hd
   try rw [d14]
   clear d14
   go_wp2
   exact ⟨_, rfl, rfl, rfl, fun h => absurd h (by decide)⟩
  ·have d15 : u 15 = _ := hd 15 (by omega) (by kernel_rfl)
   clear hd
   try rw [d15]
   clear d15
   go_wp2
   exact ⟨_, rfl, rfl, rfl, fun h => absurd h (by decide)⟩
  ·have d16 : u 16 = _ := hd 16 (by omega) (by kernel_rfl)
   clear hd
   try rw [d16]
   clear d16
   go_wp2
   exact ⟨_, rfl, rfl, rfl, fun h => absurd h (by decide)⟩
  ·clear hd
   go_wp2
   exact ⟨_, rfl, rfl, rfl, fun h => absurd h (by decide)⟩
  ·have d18 : u 18 = _ := hd 18 (by omega) (by kernel_rfl)
   clear hd
   try rw [d18]
   clear d18
   have c0 := HK.out _ hj 4
   have c1 := HK.out _ hj 5
   go_wp2
   exact ⟨_, rfl, rfl, rfl, fun h => absurd h (by decide)⟩
  ·have d17 : u 17 = _ := hd 17 (by omega) (by kernel_rfl)
   have d19 : u 19 = _ := hd 19 (by omega) (by kernel_rfl)
   clear hd
   try rw [d17, d19]
   clear d17 d19
   obtain ⟨i0, i1⟩ := (show w1.cell? ⟨g, 4, none⟩ = some (.int .i64 a4) ∧ w1.cell? ⟨g, 5, none⟩ = some (.int .i64 a5) from hi)
   go_wp2_with (go_at_call 160; (with_reducible refine (C3.out _ i0 i1 (FK.out _ hj _) (FK.out _ hj _)).mono ?_); rintro e w2 ⟨rfl, hb2⟩)
   exact ⟨_, rfl, (show ScG g 4 x4 x5 w1 w2 from hb2), ⟨rfl, scJ_new hj hb2 (by omega)⟩, fun h => absurd h (by decide)⟩
 case htailh181 =>
  intro u A w1 hA hj hd hf
  simp only [putAll, dstOf, gtA, gtS, gtZ, Option.bind_some, Option.bind, Act.put, List.setIfInBounds_toArray, List.set_cons_succ, List.set_cons_zero] at hA; subst hA
  have e0 : u 0 = _ := hd 0 (by omega)
  have e1 : u 1 = _ := hd 1 (by omega)
  have e2 : u 2 = _ := hd 2 (by omega)
  have e3 : u 3 = _ := hd 3 (by omega)
  have e4 : u 4 = _ := hd 4 (by omega)
  have e5 : u 5 = _ := hd 5 (by omega)
  have p6 := hd 6 (by omega)
  have e7 : u 7 = _ := hd 7 (by omega)
  have e8 : u 8 = _ := hd 8 (by omega)
  have e9 : u 9 = _ := hd 9 (by omega)
  have e10 : u 10 = _ := hd 10 (by omega)
  have e11 : u 11 = _ := hd 11 (by omega)
  have e12 : u 12 = _ := hd 12 (by omega)
  have p13 := hd 13 (by omega)
  have e14 : u 14 = _ := hd 14 (by omega)
  have e15 : u 15 = _ := hd 15 (by omega)
  have e16 : u 16 = _ := hd 16 (by omega)
  have e17 : u 17 = _ := hd 17 (by omega)
  have e18 : u 18 = _ := hd 18 (by omega)
  have e19 : u 19 = _ := hd 19 (by omega)
  have p20 := hd 20 (by omega)
  first | rw [e0, e1, e2, e3, e4, e5, e7, e8, e9, e10, e11, e12, e14, e15, e16, e17, e18, e19] | simp only [e0, e1, e2, e3, e4, e5, e7, e8, e9, e10, e11, e12, e14, e15, e16, e17, e18, e19]
  clear e0 e1 e2 e3 e4 e5 e7 e8 e9 e10 e11 e12 e14 e15 e16 e17 e18 e19
  clear hd hf
  obtain ⟨q6, k0, k1⟩ := (show u 6 = .bool F1 ∧ w1.cell? ⟨g, 0, none⟩ = some (.int .i64 x0) ∧ w1.cell? ⟨g, 1, none⟩ = some (.int .i64 x1) from p6)
  obtain ⟨q13, k2, k3⟩ := (show u 13 = .bool F2 ∧ w1.cell? ⟨g, 2, none⟩ = some (.int .i64 x2) ∧ w1.cell? ⟨g, 3, none⟩ = some (.int .i64 x3) from p13)
  obtain ⟨q20, k4, k5⟩ := (show u 20 = .bool F3 ∧ w1.cell? ⟨g, 4, none⟩ = some (.int .i64 x4) ∧ w1.cell? ⟨g, 5, none⟩ = some (.int .i64 x5) from p20)
  rw [q6, q13, q20]
  obtain ⟨j1, cs, j2, j3, j4, j5⟩ := hj
  rw [j2.cell] at k0 k1 k2 k3 k4 k5
  rw [eight j3 k0 k1 k2 k3 k4 k5 j4 j5] at j2
  have J1 := hI9 (HBW.out.trans ((show But g W W.drew from ⟨rfl, rfl, rfl, Nat.le_refl _, fun _ _ _ => rfl⟩).trans j1))
  have J2 := hI9 j2
  clear p6 p13 p20 q6 q13 q20 k0 k1 k2 k3 k4 k5 j1 j2 j3 j4 j5 HK FK C1 C2 C3 HX HG1 HG HB HBW
  cases F1 <;> cases F2 <;> cases F3 <;> (go_wp2; go_ret; exact ⟨rfl, J1.out, J2.out⟩)
end Go.Proofs.YtlambeiafdpkgaaGreat

namespace Go.Proofs.YtlambeiafdpkgaaGreat
open Go Go.Sort
variable {α : Type} [Inhabited α] {lt l1 l2 : α → α → Bool}
structure MergeIn (l1 l2 : α → α → Bool) (a m b : Nat) (d : Array α) : Prop where
 am : a < m
 mb : m < b
 bs : b ≤ d.size
 s1 : SortedIn l2 a m d
 s2 : SortedIn l2 m b d
 ag : ∀ i j, a ≤ i → i < m → m ≤ j → j < b → l1 d[j]! d[i]! = l2 d[j]! d[i]!
structure Merged (l2 : α → α → Bool) (a b : Nat) (d d' : Array α) : Prop where
 p : PermIn a b d d'
 s : SortedIn l2 a b d'
theorem permIn_up {a b a' b' : Nat} {d d' : Array α} (h : PermIn a b d d') (ha : a' ≤ a) (hb : b ≤ b') (hs : b' ≤ d.size) : PermIn a' b' d d' := permIn_mono d d' a b a' b' ha hb hs h
theorem moved_swr {a b n : Nat} {d d1 d2 : Array α} {f : Nat → Nat} (h : Moved d d1 f) (hn : a + n ≤ b) (hb : b + n ≤ d.size) (h2 : Moved d1 d2 (swrI a b n)) : Moved d d2 (fun k => f (swrI a b n k)) := by
 refine ⟨h2.1.trans h.1, fun k hk => ?_⟩
 rw [h2.2 k (by rw [h.1]; exact hk)]
 exact h.2 _ (by unfold swrI; (repeat' split) <;> omega)
theorem Moved.congr {d d' : Array α} {f g : Nat → Nat} (h : Moved d d' f) (e : ∀ k, f k = g k) : Moved d d' g := ⟨h.1, fun k hk => by rw [h.2 k hk, e]⟩
theorem rotI_self (a b k : Nat) : rotI a b b k = k := by unfold rotI; (repeat' split) <;> omega
theorem rotI_none (m b k : Nat) (h : m ≤ b) : rotI m m b k = k := by unfold rotI; (repeat' split) <;> omega
theorem sym_mid (hS : SWO l2) {a m b s e mid : Nat} {d d1 : Array α} (h : MergeIn l1 l2 a m b d) (c : Cut l2 a m b s e d) (hmid : s + (e - m) = mid) (hv : Moved d d1 (rotI s m e)) :
  d1.size = d.size ∧ (a < s → s < mid → MergeIn l1 l2 a s mid d1) ∧ (mid < e → e < b → MergeIn l1 l2 mid e b d1) ∧ (¬ (a < s ∧ s < mid) → SortedIn l2 a mid d1) ∧ (¬ (mid < e ∧ e < b) → SortedIn l2 mid b d1) ∧
   (∀ i j, a ≤ i → i < mid → mid ≤ j → j < b → l2 d1[j]! d1[i]! = false) := by
 obtain ⟨x1, x2, x3, x4, x5⟩ := c.cross hS h.bs h.s1 h.s2 hv
 obtain ⟨k1, k2, k3, k4, -, -⟩ := c
 have hb := h.bs
 have g1 : ∀ k, k < s → d1[k]! = d[k]! := fun k hk => by rw [hv.2 k (by omega)]; congr 1; unfold rotI; (repeat' split) <;> omega
 have g2 : ∀ k, s ≤ k → k < s + (e - m) → d1[k]! = d[m + (k - s)]! := fun k hk hk2 => by rw [hv.2 k (by omega)]; congr 1; unfold rotI; (repeat' split) <;> omega
 have g3 : ∀ k, s + (e - m) ≤ k → k < e → d1[k]! = d[k - (e - m)]! := fun k hk hk2 => by rw [hv.2 k (by omega)]; congr 1; unfold rotI; (repeat' split) <;> omega
 have g4 : ∀ k, e ≤ k → k < b → d1[k]! = d[k]! := fun k hk hk2 => by rw [hv.2 k (by omega)]; congr 1; unfold rotI; (repeat' split) <;> omega
 subst hmid
 refine ⟨hv.1, fun h1 h2 => ⟨h1, h2, by rw [hv.1]; omega, x1, x2, fun i j i1 i2 j1 j2 => ?_⟩, fun h1 h2 => ⟨h1, h2, by rw [hv.1]; omega, x3, x4, fun i j i1 i2 j1 j2 => ?_⟩, fun hn => ?_, fun hn => ?_, x5⟩
 ·rw [g1 i i2, g2 j j1 j2]; exact h.ag _ _ i1 (by omega) (by omega) (by omega)
 ·rw [g3 i i1 i2, g4 j j1 j2]; exact h.ag _ _ (by omega) (by omega) (by omega) (by omega)
 ·by_cases e1 : a = s
  ·subst e1; exact x2
  ·have : s = s + (e - m) := by omega
   rw [← this]; exact x1
 ·by_cases e1 : s + (e - m) = e
  ·rw [e1]; exact x4
  ·have : e = b := by omega
   rw [← this]; exact x3
theorem MergeIn.kept {a' b' a m b : Nat} {d d' : Array α} (h : MergeIn l1 l2 a m b d) (hp : PermIn a' b' d d') (hb : b' ≤ a) : MergeIn l1 l2 a m b d' := by
 have g : ∀ k, a ≤ k → d'[k]! = d[k]! := fun k hk => hp.2.1 k (.inr (by omega))
 have := h.am
 refine ⟨h.am, h.mb, by rw [hp.1]; exact h.bs, fun i j hi hij hj => ?_, fun i j hi hij hj => ?_, fun i j i1 i2 j1 j2 => ?_⟩
 ·rw [g i hi, g j (by omega)]; exact h.s1 i j hi hij hj
 ·rw [g i (by omega), g j (by omega)]; exact h.s2 i j hi hij hj
 ·rw [g i i1, g j (by omega)]; exact h.ag i j i1 i2 j1 j2
theorem sorted_kept {a' b' a b : Nat} {d d' : Array α} (h : SortedIn lt a b d) (hp : PermIn a' b' d d') (hb : b' ≤ a ∨ b ≤ a') : SortedIn lt a b d' := by
 have g : ∀ k, a ≤ k → k < b → d'[k]! = d[k]! := fun k hk h2 => hp.2.1 k (by omega)
 intro i j hi hij hj
 rw [g i hi (by omega), g j (by omega) hj]; exact h i j hi hij hj
theorem sym_fin {a mid b : Nat} {d d1 d2 d3 : Array α} (ham : a ≤ mid) (hmb : mid ≤ b) (hb : b ≤ d.size) (p1 : PermIn a b d d1) (hx : ∀ i j, a ≤ i → i < mid → mid ≤ j → j < b → l2 d1[j]! d1[i]! = false)
  (h2 : Merged l2 a mid d1 d2) (h3 : Merged l2 mid b d2 d3) : Merged l2 a b d d3 := by
 have z1 := p1.1
 have z2 := h2.p.1
 have P2 : PermIn a b d1 d2 := permIn_up h2.p (Nat.le_refl _) hmb (by omega)
 have P3 : PermIn a b d2 d3 := permIn_up h3.p ham (Nat.le_refl _) (by omega)
 refine ⟨permIn_trans _ _ _ a b (permIn_trans _ _ _ a b p1 P2) P3, ?_⟩
 refine sorted_halves (c := mid) (sorted_kept h2.s h3.p (.inr (Nat.le_refl _))) h3.s ?_
 intro i j hi hi2 hj hj2
 have e1 : ∀ k, k < mid → d3[k]! = d2[k]! := fun k hk => h3.p.2.1 k (.inl hk)
 have e2 : ∀ k, mid ≤ k → d2[k]! = d1[k]! := fun k hk => h2.p.2.1 k (.inr hk)
 rw [e1 i hi2]
 refine permIn_all d2 d3 mid b (fun y => l2 y d2[i]! = false) (by omega) h3.p (fun k k1 k2 => ?_) j hj hj2
 rw [e2 k k1]
 exact permIn_all d1 d2 a mid (fun x => l2 d1[k]! x = false) (by omega) h2.p (fun q q1 q2 => hx q k q1 q2 k1 k2) i hi hi2
theorem Merged.none {a b : Nat} {d : Array α} (h : SortedIn l2 a b d) : Merged l2 a b d d := ⟨permIn_refl d a b, h⟩
theorem PermIn.moved_none {a m b : Nat} {d : Array α} (h : a = m ∨ m = b) (hm : m ≤ b) : Moved d d (rotI a m b) := by
 refine ⟨rfl, fun k _ => ?_⟩
 rcases h with rfl | rfl
 ·rw [rotI_none _ _ _ hm]
 ·rw [rotI_self]
def keyLt (key rank : α → Int) (x y : α) : Bool := decide (key x < key y) || (decide (key x = key y) && decide (rank x < rank y))
theorem keyLt_swo (key rank : α → Int) : SWO (keyLt key rank) := by
 refine ⟨fun x => ?_, fun x y z => ?_, fun x y z => ?_⟩
 ·unfold keyLt; simp
 ·unfold keyLt; simp only [Bool.or_eq_true, Bool.and_eq_true, decide_eq_true_eq]; omega
 ·unfold keyLt; simp only [Bool.or_eq_false_iff, Bool.and_eq_false_iff, decide_eq_false_iff_not]; omega
theorem keyLt_eq {key rank : α → Int} {x y : α} (h : rank y < rank x) : decide (key x < key y) = keyLt key rank x y := by
 unfold keyLt
 rw [show decide (rank x < rank y) = false from decide_eq_false (by omega)]
 simp
theorem stable_one {key rank : α → Int} {b c : Nat} {D : Array α} (hb : c ≤ D.size) (hr : ∀ i j, b ≤ i → i < j → j < c → rank D[i]! < rank D[j]!) :
  insertionSort (fun x y => decide (key x < key y)) D b c = insertionSort (keyLt key rank) D b c :=
 insertionSort_eq b c D hb fun p q h1 h2 h3 => keyLt_eq (hr q p h1 h2 h3)
end Go.Proofs.YtlambeiafdpkgaaGreat

namespace Go.Proofs.YtlambeiafdpkgaaGreat
open Go Go.RowKit Go.Proofs
theorem rf_From_c (n lo hi : Int) (w : World) : Calls Tryz.prog 146 #[.int .i64 n, .int .i64 lo, .int .i64 hi] w fun e w' => e = .returned (.bool (inB n lo hi)) ∧ w = w' := by
 unfold inB
 by_cases h1 : lo ≤ n <;> by_cases h2 : n ≤ hi
 all_goals
  go_enter Tryz.func146, Tryz.ntmps146
  go_wp2
  go_ret
  exact ⟨by simp [h1, h2], rfl⟩
theorem vspan_two {lo hi : Int} : (inB lo (-1000000) 1000000 && inB hi lo 1000000) = vspan lo hi := by
 rw [Bool.eq_iff_iff]; unfold vspan inB; simp only [Bool.and_eq_true, decide_eq_true_eq]; omega
theorem rf_Valid_c (lo hi : Int) (w : World) : Calls Tryz.prog 98 #[.agg #[.int .i64 lo, .int .i64 hi]] w fun e w' => e = .returned (.bool (vspan lo hi)) ∧ Below w.heap.size w w' := by
 rw [← vspan_two]
 cases h1 : inB lo (-1000000) 1000000
 all_goals
  go_enter Tryz.func98, Tryz.ntmps98
  go_wp2_with (first | (go_at_call 146; (with_reducible refine (rf_From_c _ _ _ _).mono ?_); rintro e w1 ⟨rfl, rfl⟩))
  go_ret
  exact ⟨by simp, (by repeat' (first | exact Below.refl _ _ | assumption | refine Below.drew ?_ | refine bdn ?_ _ | refine bal ?_ _ | refine Below.setCell ?_ (by first | (simp; done) | omega | (simp; omega)) _))⟩
end Go.Proofs.YtlambeiafdpkgaaGreat
namespace Go.Proofs.YtlambeiafdpkgaaGreat
open Go Go.RowKit Go.Proofs
set_option maxRecDepth 100000
set_option maxHeartbeats 4000000
end Go.Proofs.YtlambeiafdpkgaaGreat
namespace Go.Proofs.YtlambeiafdpkgaaGreat
open Go Go.RowKit Go.Proofs
set_option maxRecDepth 100000
set_option maxHeartbeats 4000000
end Go.Proofs.YtlambeiafdpkgaaGreat
namespace Go.Proofs.YtlambeiafdpkgaaGreat
open Go Go.RowKit Go.Proofs
set_option maxRecDepth 100000
set_option maxHeartbeats 4000000
end Go.Proofs.YtlambeiafdpkgaaGreat

namespace Go.Proofs.YtlambeiafdpkgaaGreat
open Go Go.RowKit Go.Proofs
set_option maxRecDepth 100000
set_option maxHeartbeats 4000000
end Go.Proofs.YtlambeiafdpkgaaGreat

namespace Go.Proofs.YtlambeiafdpkgaaGreat
open Go Go.RowKit Go.Proofs
set_option maxRecDepth 100000
set_option maxHeartbeats 4000000
end Go.Proofs.YtlambeiafdpkgaaGreat

namespace Go.Proofs.YtlambeiafdpkgaaGreat
open Go Go.RowKit Go.Proofs Go.ChangeShapes Go.WideShapes Go.ChangeAt Go.Deep
set_option maxRecDepth 100000
set_option maxHeartbeats 4000000
theorem Tryz.undInt : Tryz.prog.underlying 3 = some (.int .i64) := by kernel_rfl
section
variable {H : Type} {enc : TypeId × Value → H} {W : World} {sp : Nat → Bool} {held : Bool}
theorem wf_I64 {n : Int} (h : (Lit.int .i64 n).wf = true) : I64 n := by
 exact bounds_i64 h
end
end Go.Proofs.YtlambeiafdpkgaaGreat
namespace Go.Proofs.YtlambeiafdpkgaaGreat
open Go Go.RowKit Go.Proofs Go.ChangeShapes Go.WideShapes Go.ChangeAt Go.Deep
set_option maxRecDepth 100000
set_option maxHeartbeats 4000000
def fieldAt (d : Option TypeDesc) (i : Nat) : Option (TypeId × Nat) := match d with | some (.struct fs) => fs[i]?.map (fun f => (f.type, f.offset)) | _ => none
theorem fieldAt_struct {P : Program} {T : TypeId} {i : Nat} {r : TypeId × Nat} (h : fieldAt (P.underlying T) i = some r) : ∃ fs, P.underlying T = some (.struct fs) := by
 unfold fieldAt at h; split at h
 ·rename_i fs e; exact ⟨fs, e⟩
 ·exact absurd h (by simp)
section
variable {H : Type} {enc : TypeId × Value → H} {W : World} {sp : Nat → Bool} {held : Bool}
theorem trod_field {P : Program} {fuel : Nat} {T t : TypeId} {o k i : Nat} {cs : List Value} {x : DataW H × List MemPlace} (hf : fieldAt (P.underlying T) i = some (t, o)) (hk : P.cellsOf t = k)
  (h : DataW.trod enc P W 0 sp held fuel T cs = some x) : ∃ m y, DataW.trod enc P W 0 sp held m t ((cs.drop o).take k) = some y := by
 obtain ⟨fs, hu⟩ := fieldAt_struct hf
 obtain ⟨xs, m, -, -, -, hl, hg⟩ := DataW.trod_struct hu h
 rw [hu] at hf
 simp only [fieldAt, Option.map_eq_some_iff, Prod.mk.injEq] at hf
 obtain ⟨f, hfi, e1, e2⟩ := hf
 have := hg i f hfi
 rw [e1, e2, hk] at this
 have hlt : i < xs.length := by rw [hl]; exact (Array.getElem?_eq_some_iff.1 hfi).1
 exact ⟨m, xs[i], by rw [this, List.getElem?_eq_getElem hlt]⟩
theorem take1 {n : Nat} {l : List Value} (h : l.length = n + 1) : ∃ c l', l = c :: l' ∧ l'.length = n := by
 cases l with
 | nil => simp at h
 | cons c l' => exact ⟨c, l', rfl, by simpa using h⟩
end
end Go.Proofs.YtlambeiafdpkgaaGreat
namespace Go.Proofs.YtlambeiafdpkgaaGreat
open Go Go.RowKit Go.Proofs Go.ChangeShapes Go.WideShapes Go.ChangeAt
theorem Tryz.laidOut' : laidOutB Tryz.prog = true := by kernel_rfl
section
variable {H : Type} {enc : TypeId × Value → H} {P : Program}
theorem post_kept {f : Func} {s : ChangeSpec} {apart fresh handsOn again : Bool} {W W' : World} {args : Array Value} {v : Value} {ds gs : List (DataW H)} {before pa pv : List MemPlace}
  (hW : DataW.Whole enc P f.params.toList s.vars apart W args.toList ds gs before) (hb : Below W.heap.size W W')
  (hres : ∀ (b : Nat) (sp : Nat → Bool) (hd : Bool), DataW.TrodAll enc P W' b sp hd f.resultTypes.toList (v.resultList f.resultTypes.size) (s.fn H (ds ++ gs)).results [])
  (hargs : ∀ sp : Nat → Bool, (∀ p ∈ before, sp p.block = true) → DataW.TrodAll enc P W' 0 sp true f.params.toList args.toList (s.fn H (ds ++ gs)).args pa)
  (hvars : ∀ sp : Nat → Bool, (∀ p ∈ before, sp p.block = true) → DataW.TrodVars enc P W' sp s.vars (s.fn H (ds ++ gs)).vars pv)
  (hps : before = pa ++ pv)
  (hok : ∀ (j : Nat) (t : TypeId) (r : Value), f.resultTypes[j]? = some t → (v.resultList f.resultTypes.size)[j]? = some r → Value.okWide P W' .any 0 t r) :
  s.post enc P f apart fresh handsOn again W args v W' := by
 have old := fun p (hp : p ∈ before) => hW.lt p hp
 have mark : ∀ p ∈ before, (fun b => decide (b < W.heap.size)) p.block = true := fun p hp => decide_eq_true (old p hp)
 obtain ⟨-, -, -, -, -, hz, hn⟩ := id hW
 subst hps
 refine ⟨ds, gs, pa ++ pv, [], pa, pv, hW, hres _ _ _, hargs _ mark, hvars _ mark, World.keptBut_mono (fun p hp => ⟨hp, Or.inr (List.mem_append.1 hp)⟩) (hb.frame (· ∈ pa ++ pv)), fun _ => ⟨hok, _, _, ([] ++ pa) ++ pv, ⟨[] ++ pa, pv, trodAll_append (hargs _ (fun _ _ => rfl)) (hres _ _ _), hvars _ (fun _ _ => rfl), rfl, fun b off hp => ?_, fun ha => by simpa using hn ha⟩, fun p hp _ => by simpa using hp⟩⟩
 have hin : MemPlace.cell b off ∈ pa ++ pv := by simpa using hp
 exact (hb.frozen (p := ⟨b, off, none⟩) (old _ hin)).trans (hz b off hin)
end
end Go.Proofs.YtlambeiafdpkgaaGreat
