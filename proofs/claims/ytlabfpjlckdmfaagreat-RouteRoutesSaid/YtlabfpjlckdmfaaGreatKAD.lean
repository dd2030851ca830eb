/- Texts joined: KAD. -/
import Derived.Test.YtlabfpjlckdmfaaGreatKAC
import Derived.Test.YtlabfpjlckdmfaaGreatKAB
import Derived.Test.YtlabfpjlckdmfaaGreatKZA
import Derived.Sort.Statements
import Derived.Sort.Lot0
import Derived.Sort.LotA
set_option linter.all false
namespace Go.Proofs.YtlabfpjlckdmfaaGreat
open Go Go.RowKit Go.Proofs
set_option maxRecDepth 100000
set_option maxHeartbeats 4000000
structure But (g : Nat) (w w' : World) : Prop where
 os : w'.os = w.os
 tape : w'.tape = w.tape
 output : w'.output = w.output
 size : w.heap.size ≤ w'.heap.size
 block : ∀ k, k < w.heap.size → k ≠ g → w'.heap[k]? = w.heap[k]?
theorem But.refl (g : Nat) (w : World) : But g w w := ⟨rfl, rfl, rfl, Nat.le_refl _, fun _ _ _ => rfl⟩
theorem But.of {g : Nat} {w w' : World} (h : Below w.heap.size w w') : But g w w' := ⟨h.os, h.tape, h.output, h.size, fun k hk _ => h.block k hk⟩
theorem But.trans {g : Nat} {a b c : World} (h : But g a b) (k : But g b c) : But g a c :=
 ⟨k.os.trans h.os, k.tape.trans h.tape, k.output.trans h.output, Nat.le_trans h.size k.size, fun i hi hg => (k.block i (Nat.lt_of_lt_of_le hi h.size) hg).trans (h.block i hi hg)⟩
theorem But.set {g i : Nat} {w w' : World} (h : But g w w') (u : Value) : But g w (w'.setCell ⟨g, i, none⟩ u) :=
 h.trans ⟨rfl, rfl, rfl, by simp [World.setCell], fun k _ hg => Below.heap_setCell _ _ _ _ hg⟩
theorem But.below {g B : Nat} {w w1 w2 : World} (h : Below B w w1) (hs : B ≤ w1.heap.size) (k : But g w1 w2) (hg : B ≤ g) : Below B w w2 :=
 h.trans ⟨k.os, k.tape, k.output, k.size, fun i hi => k.block i (by omega) (by omega)⟩
theorem Blk.but {W W' : World} {g n : Nat} {t : TypeId} {cs : Array Value} (h : Blk W n t cs) (hb : But g W W') (hn : n ≠ g) : Blk W' n t cs := (hb.block n h.lt hn).trans h
def ScG (g o : Nat) (x y : Int) (a b : World) : Prop := ∃ am, Below a.heap.size a am ∧ b = (am.setCell ⟨g, o, none⟩ (.int .i64 x)).setCell ⟨g, o + 1, none⟩ (.int .i64 y)
theorem ScG.but {g o : Nat} {x y : Int} {a b : World} (h : ScG g o x y a b) : But g a b := by
 obtain ⟨am, h, rfl⟩ := h
 exact ((But.of h).set _).set _
theorem ScG.cell {g o i : Nat} {x y : Int} {a b : World} {v : Value} (h : ScG g o x y a b) (hc : a.cell? ⟨g, i, none⟩ = some v) (h1 : i ≠ o) (h2 : i ≠ o + 1) : b.cell? ⟨g, i, none⟩ = some v := by
 obtain ⟨am, h, rfl⟩ := h
 rw [World.cell?_setCell_other _ _ _ _ (by intro e; simp only [Addr.mk.injEq] at e; omega), World.cell?_setCell_other _ _ _ _ (by intro e; simp only [Addr.mk.injEq] at e; omega)]
 exact (h.cell (p := ⟨g, i, none⟩) (blk_lt hc)).trans hc
theorem ScG.blk {g o : Nat} {x y : Int} {a b : World} {t : TypeId} {cs : Array Value} (h : ScG g o x y a b) (hb : Blk a g t cs) : Blk b g t ((cs.setIfInBounds o (.int .i64 x)).setIfInBounds (o + 1) (.int .i64 y)) := by
 obtain ⟨am, h, rfl⟩ := h
 exact ((hb.below h).set_ o _).set_ (o + 1) _
def scJ (g : Nat) (W0 : World) (i s : Bool) (a : World) : Prop := But g W0 a ∧ ∃ cs, Blk a g 152 cs ∧ cs.size = 8 ∧ cs[6]? = some (.bool i) ∧ cs[7]? = some (.bool s)
def scG (g : Nat) (x0 x1 x2 x3 x4 x5 : Int) : Nat → World → World → Prop
 | 6, a, b => ScG g 0 x0 x1 a b
 | 13, a, b => ScG g 2 x2 x3 a b
 | 20, a, b => ScG g 4 x4 x5 a b
 | _, a, b => a = b
def scI (g : Nat) (a0 a1 a2 a3 a4 a5 : Int) : Nat → World → Prop
 | 6, a => a.cell? ⟨g, 0, none⟩ = some (.int .i64 a0) ∧ a.cell? ⟨g, 1, none⟩ = some (.int .i64 a1)
 | 13, a => a.cell? ⟨g, 2, none⟩ = some (.int .i64 a2) ∧ a.cell? ⟨g, 3, none⟩ = some (.int .i64 a3)
 | 20, a => a.cell? ⟨g, 4, none⟩ = some (.int .i64 a4) ∧ a.cell? ⟨g, 5, none⟩ = some (.int .i64 a5)
 | _, _ => True
def scR (g b : Nat) (x0 x1 x2 x3 x4 x5 b0 b1 b2 b3 b4 b5 : Int) (F1 F2 F3 : Bool) : Nat → Value → World → Prop
 | 0, v, _ => v = .pointer (some ⟨g, 0, none⟩)
 | 1, v, _ => v = .pointer (some ⟨g, 0, none⟩)
 | 2, v, _ => v = .pointer (some ⟨g, 0, none⟩)
 | 3, v, _ => v = .pointer (some ⟨g, 0, none⟩)
 | 4, v, _ => v = .pointer (some ⟨b, 0, none⟩)
 | 5, v, _ => v = .agg #[.int .i64 b0, .int .i64 b1]
 | 6, v, w => v = .bool F1 ∧ w.cell? ⟨g, 0, none⟩ = some (.int .i64 x0) ∧ w.cell? ⟨g, 1, none⟩ = some (.int .i64 x1)
 | 7, v, _ => v = .pointer (some ⟨g, 0, none⟩)
 | 8, v, _ => v = .pointer (some ⟨g, 0, none⟩)
 | 9, v, _ => v = .pointer (some ⟨g, 0, none⟩)
 | 10, v, _ => v = .pointer (some ⟨g, 2, none⟩)
 | 11, v, _ => v = .pointer (some ⟨b, 2, none⟩)
 | 12, v, _ => v = .agg #[.int .i64 b2, .int .i64 b3]
 | 13, v, w => v = .bool F2 ∧ w.cell? ⟨g, 2, none⟩ = some (.int .i64 x2) ∧ w.cell? ⟨g, 3, none⟩ = some (.int .i64 x3)
 | 14, v, _ => v = .pointer (some ⟨g, 0, none⟩)
 | 15, v, _ => v = .pointer (some ⟨g, 0, none⟩)
 | 16, v, _ => v = .pointer (some ⟨g, 0, none⟩)
 | 17, v, _ => v = .pointer (some ⟨g, 4, none⟩)
 | 18, v, _ => v = .pointer (some ⟨b, 4, none⟩)
 | 19, v, _ => v = .agg #[.int .i64 b4, .int .i64 b5]
 | 20, v, w => v = .bool F3 ∧ w.cell? ⟨g, 4, none⟩ = some (.int .i64 x4) ∧ w.cell? ⟨g, 5, none⟩ = some (.int .i64 x5)
 | _, _, _ => True
section
variable {g : Nat} {x0 x1 x2 x3 x4 x5 : Int}
theorem scG_size (i : Nat) (a b : World) (h : scG g x0 x1 x2 x3 x4 x5 i a b) : a.heap.size ≤ b.heap.size := by
 unfold scG at h; split at h
 ·exact h.but.size
 ·exact h.but.size
 ·exact h.but.size
 ·rw [h]; exact Nat.le_refl _
theorem ScG.keepJ {o : Nat} {x y : Int} {W0 a b : World} {i s : Bool} (h : ScG g o x y a b) (ho : o + 1 < 6) (hj : scJ g W0 i s a) : scJ g W0 i s b := by
 obtain ⟨h1, cs, h2, h3, h4, h5⟩ := hj
 refine ⟨h1.trans h.but, _, h.blk h2, by simp [h3], ?_, ?_⟩
 ·rw [Array.getElem?_setIfInBounds_ne (by omega), Array.getElem?_setIfInBounds_ne (by omega)]; exact h4
 ·rw [Array.getElem?_setIfInBounds_ne (by omega), Array.getElem?_setIfInBounds_ne (by omega)]; exact h5
theorem scG_J {W0 : World} {i s : Bool} (k : Nat) (a b : World) (h : scG g x0 x1 x2 x3 x4 x5 k a b) (hj : scJ g W0 i s a) : scJ g W0 i s b := by
 unfold scG at h; split at h
 ·exact h.keepJ (by omega) hj
 ·exact h.keepJ (by omega) hj
 ·exact h.keepJ (by omega) hj
 ·rw [← h]; exact hj
theorem scG_cell {k i : Nat} {a b : World} {v : Value} (h : scG g x0 x1 x2 x3 x4 x5 k a b) (hc : a.cell? ⟨g, i, none⟩ = some v) (h1 : k = 6 → 1 < i) (h2 : k = 13 → i < 2 ∨ 3 < i) (h3 : k = 20 → i < 4) : b.cell? ⟨g, i, none⟩ = some v := by
 unfold scG at h; split at h
 ·have := h1 rfl; exact h.cell hc (by omega) (by omega)
 ·have := h2 rfl; exact h.cell hc (by omega) (by omega)
 ·have := h3 rfl; exact h.cell hc (by omega) (by omega)
 ·rw [← h]; exact hc
theorem scG_I {ops : Array Oper} {a0 a1 a2 a3 a4 a5 : Int} (k j : Nat) (a b : World) (hkj : k ≠ j) (_ : k ∉ depsOf ops j) (h : scG g x0 x1 x2 x3 x4 x5 j a b) (hi : scI g a0 a1 a2 a3 a4 a5 k a) : scI g a0 a1 a2 a3 a4 a5 k b := by
 unfold scI at *
 split at hi
 ·exact ⟨scG_cell h hi.1 (by omega) (by omega) (by omega), scG_cell h hi.2 (by omega) (by omega) (by omega)⟩
 ·exact ⟨scG_cell h hi.1 (by omega) (by omega) (by omega), scG_cell h hi.2 (by omega) (by omega) (by omega)⟩
 ·exact ⟨scG_cell h hi.1 (by omega) (by omega) (by omega), scG_cell h hi.2 (by omega) (by omega) (by omega)⟩
 ·trivial
theorem scG_R {bb : Nat} {b0 b1 b2 b3 b4 b5 : Int} {F1 F2 F3 : Bool} (k j : Nat) (v : Value) (a b : World) (hkj : k ≠ j) (h : scG g x0 x1 x2 x3 x4 x5 j a b) (hr : scR g bb x0 x1 x2 x3 x4 x5 b0 b1 b2 b3 b4 b5 F1 F2 F3 k v a) : scR g bb x0 x1 x2 x3 x4 x5 b0 b1 b2 b3 b4 b5 F1 F2 F3 k v b := by
 unfold scR at *
 split at hr <;> first
  | exact hr
  | exact ⟨hr.1, scG_cell h hr.2.1 (by omega) (by omega) (by omega), scG_cell h hr.2.2 (by omega) (by omega) (by omega)⟩
end
theorem scJ_new {g o : Nat} {x y : Int} {W0 a b : World} {i s : Bool} (hj : scJ g W0 i s a) (h : ScG g o x y a b) (ho : o + 1 < 8) : b.cell? ⟨g, o, none⟩ = some (.int .i64 x) ∧ b.cell? ⟨g, o + 1, none⟩ = some (.int .i64 y) := by
 obtain ⟨-, cs, h2, h3, -, -⟩ := hj
 have hk := h.blk h2
 rw [hk.cell o, hk.cell (o + 1)]
 refine ⟨?_, ?_⟩
 ·rw [Array.getElem?_setIfInBounds_ne (by omega), Array.getElem?_setIfInBounds_self_of_lt (by omega)]
 ·rw [Array.getElem?_setIfInBounds_self_of_lt (by simp; omega)]
theorem eight {cs : Array Value} {v0 v1 v2 v3 v4 v5 v6 v7 : Value} (h : cs.size = 8) (e0 : cs[0]? = some v0) (e1 : cs[1]? = some v1) (e2 : cs[2]? = some v2) (e3 : cs[3]? = some v3) (e4 : cs[4]? = some v4) (e5 : cs[5]? = some v5) (e6 : cs[6]? = some v6) (e7 : cs[7]? = some v7) :
  cs = #[v0, v1, v2, v3, v4, v5, v6, v7] := by
 obtain ⟨l⟩ := cs
 match l, h with
 | [a, b, c, d, e, f, g, k], _ =>
  simp at e0 e1 e2 e3 e4 e5 e6 e7
  subst e0 e1 e2 e3 e4 e5 e6 e7
  rfl
def skF (a0 a1 a2 a3 a4 a5 b0 b1 b2 b3 b4 b5 : Int) : Bool := cuF a0 a1 b0 b1 || (cuF a2 a3 b2 b3 || cuF a4 a5 b4 b5)
theorem scut_c (g : Nat) (a0 a1 a2 a3 a4 a5 b0 b1 b2 b3 b4 b5 : Int) (ia sa ib sb : Bool) (w : World) (hg : Blk w g 152 #[.int .i64 a0, .int .i64 a1, .int .i64 a2, .int .i64 a3, .int .i64 a4, .int .i64 a5, .bool ia, .bool sa])
  (v1 : vspan a0 a1 = true) (v2 : vspan a2 a3 = true) (v3 : vspan a4 a5 = true) (u1 : vspan b0 b1 = true) (u2 : vspan b2 b3 = true) (u3 : vspan b4 b5 = true) :
  Calls Tryz.prog 108 #[.pointer (some ⟨g, 0, none⟩), .agg #[.int .i64 b0, .int .i64 b1, .int .i64 b2, .int .i64 b3, .int .i64 b4, .int .i64 b5, .bool ib, .bool sb]] w fun e w' => e = .returned (.bool (skF a0 a1 a2 a3 a4 a5 b0 b1 b2 b3 b4 b5)) ∧
   But g w w' ∧ Blk w' g 152 #[.int .i64 (cuL a0 a1 b0 b1), .int .i64 (cuH a0 a1 b0 b1), .int .i64 (cuL a2 a3 b2 b3), .int .i64 (cuH a2 a3 b2 b3), .int .i64 (cuL a4 a5 b4 b5), .int .i64 (cuH a4 a5 b4 b5), .bool ia, .bool sa] := by
 have C1 := hI9 (fun (w1 : World) (h0 : w1.cell? ⟨g, 0, none⟩ = some (.int .i64 a0)) (h1 : w1.cell? ⟨g, 1, none⟩ = some (.int .i64 a1)) (f0 : w1.frozen? ⟨g, 0, none⟩ = false) (f1 : w1.frozen? ⟨g, 1, none⟩ = false) => cut_c g 0 a0 a1 b0 b1 w1 v1 u1 h0 h1 f0 f1)
 have C2 := hI9 (fun (w1 : World) (h0 : w1.cell? ⟨g, 2, none⟩ = some (.int .i64 a2)) (h1 : w1.cell? ⟨g, 3, none⟩ = some (.int .i64 a3)) (f0 : w1.frozen? ⟨g, 2, none⟩ = false) (f1 : w1.frozen? ⟨g, 3, none⟩ = false) => cut_c g 2 a2 a3 b2 b3 w1 v2 u2 h0 h1 f0 f1)
 have C3 := hI9 (fun (w1 : World) (h0 : w1.cell? ⟨g, 4, none⟩ = some (.int .i64 a4)) (h1 : w1.cell? ⟨g, 5, none⟩ = some (.int .i64 a5)) (f0 : w1.frozen? ⟨g, 4, none⟩ = false) (f1 : w1.frozen? ⟨g, 5, none⟩ = false) => cut_c g 4 a4 a5 b4 b5 w1 v3 u3 h0 h1 f0 f1)
 unfold skF
 generalize cuF a0 a1 b0 b1 = F1 at *
 generalize cuF a2 a3 b2 b3 = F2 at *
 generalize cuF a4 a5 b4 b5 = F3 at *
 generalize cuL a0 a1 b0 b1 = x0 at *
 generalize cuH a0 a1 b0 b1 = x1 at *
 generalize cuL a2 a3 b2 b3 = x2 at *
 generalize cuH a2 a3 b2 b3 = x3 at *
 generalize cuL a4 a5 b4 b5 = x4 at *
 generalize cuH a4 a5 b4 b5 = x5 at *
 have hlt := hg.lt
 have HG := hI9 hg
 clear hg v1 v2 v3 u1 u2 u3
 go_enter Tryz.func108, Tryz.ntmps108
 go_wp2_with (fail)
 have HX := hI9 (Blk.new w 25 #[.int .i64 b0, .int .i64 b1, .int .i64 b2, .int .i64 b3, .int .i64 b4, .int .i64 b5, .bool ib, .bool sb])
 have HG1 := hI9 (HG.out.alloc (.cells #[.int .i64 b0, .int .i64 b1, .int .i64 b2, .int .i64 b3, .int .i64 b4, .int .i64 b5, .bool ib, .bool sb] 25))
 have HB := hI9 (bal (Below.refl w.heap.size w) (.cells #[.int .i64 b0, .int .i64 b1, .int .i64 b2, .int .i64 b3, .int .i64 b4, .int .i64 b5, .bool ib, .bool sb] 25))
 have HBW := hI9 (But.of (g := g) (bal (Below.refl w.heap.size w) (.cells #[.int .i64 b0, .int .i64 b1, .int .i64 b2, .int .i64 b3, .int .i64 b4, .int .i64 b5, .bool ib, .bool sb] 25)))
 have hne : w.heap.size ≠ g := by omega
 generalize w.alloc (.cells #[.int .i64 b0, .int .i64 b1, .int .i64 b2, .int .i64 b3, .int .i64 b4, .int .i64 b5, .bool ib, .bool sb] 25) = W at *
 generalize w.heap.size = gx at *
 have HK := hI9 (fun (a : World) (h : scJ g W.drew ia sa a) (i : Nat) => ((show Blk W.drew gx _ _ from HX.out).but h.1 hne).cell i)
 have FK := hI9 (fun (a : World) (h : scJ g W.drew ia sa a) (i : Nat) => (show a.frozen? ⟨g, i, none⟩ = false by obtain ⟨_, cs, h2, _⟩ := h; exact h2.frozen i))
 refine wp_region_specH (scG g x0 x1 x2 x3 x4 x5) (scJ g W.drew ia sa) (scI g a0 a1 a2 a3 a4 a5) scG_size scG_J scG_I ⟨But.refl _ _, _, HG1.out, rfl, rfl, rfl⟩ (fun i => (by unfold scI; split <;> first | exact ⟨HG1.out.cell _, HG1.out.cell _⟩ | trivial)) 21 (scR g gx x0 x1 x2 x3 x4 x5 b0 b1 b2 b3 b4 b5 F1 F2 F3) (fun _ => false) (by kernel_rfl) (by kernel_rfl) scG_R ?hoph181 ?htailh181
 case hoph181 =>
  simp only [List.take_succ_cons, List.take_zero, allOps]
  refine ⟨?_, ?_, ?_, ?_, ?_, ?_, ?_, ?_, ?_, ?_, ?_, ?_, ?_, ?_, ?_, ?_, ?_, ?_, ?_, ?_, ?_, trivial⟩
  all_goals intro u A w1 hA hj hi hd
  all_goals simp only [putAll, dstOf, gtA, gtS, gtZ, Option.bind_some, Option.bind, Act.put, List.setIfInBounds_toArray, List.set_cons_succ, List.set_cons_zero] at hA; subst hA
  ·clear hd
   go_wp2
   exact ⟨_, rfl, rfl, rfl, fun h => absurd h (by decide)⟩
  ·have d0 : u 0 = _ := hd 0 (by omega) (by kernel_rfl)
   clear hd
   try rw [d0]
   clear d0
   go_wp2
   exact ⟨_, rfl, rfl, rfl, fun h => absurd h (by decide)⟩
  ·have d1 : u 1 = _ := hd 1 (by omega) (by kernel_rfl)
   clear hd
   try rw [d1]
   clear d1
   go_wp2
   exact ⟨_, rfl, rfl, rfl, fun h => absurd h (by decide)⟩
  ·have d2 : u 2 = _ := hd 2 (by omega) (by kernel_rfl)
   clear hd
   try rw [d2]
   clear d2
   go_wp2
   exact ⟨_, rfl, rfl, rfl, fun h => absurd h (by decide)⟩
  ·clear hd
   go_wp2
   exact ⟨_, rfl, rfl, rfl, fun h => absurd h (by decide)⟩
  ·have d4 : u 4 = _ := hd 4 (by omega) (by kernel_rfl)
   clear hd
   try rw [d4]
   clear d4
   have c0 := HK.out _ hj 0
   have c1 := HK.out _ hj 1
   go_wp2
   exact ⟨_, rfl, rfl, rfl, fun h => absurd h (by decide)⟩
  ·have d3 : u 3 = _ := hd 3 (by omega) (by kernel_rfl)
   have d5 : u 5 = _ := hd 5 (by omega) (by kernel_rfl)
   clear hd
   try rw [d3, d5]
   clear d3 d5
   obtain ⟨i0, i1⟩ := (show w1.cell? ⟨g, 0, none⟩ = some (.int .i64 a0) ∧ w1.cell? ⟨g, 1, none⟩ = some (.int .i64 a1) from hi)
   go_wp2_with (go_at_call 121; (with_reducible refine (C1.out _ i0 i1 (FK.out _ hj _) (FK.out _ hj _)).mono ?_); rintro e w2 ⟨rfl, hb2⟩)
   exact ⟨_, rfl, (show ScG g 0 x0 x1 w1 w2 from hb2), ⟨rfl, scJ_new hj hb2 (by omega)⟩, fun h => absurd h (by decide)⟩
  ·clear hd
   go_wp2
   exact ⟨_, rfl, rfl, rfl, fun h => absurd h (by decide)⟩
  ·have d7 : u 7 = _ := hd 7 (by omega) (by kernel_rfl)
   clear hd
   try rw [d7]
   clear d7
   go_wp2
   exact ⟨_, rfl, rfl, rfl, fun h => absurd h (by decide)⟩
  ·have d8 : u 8 = _ := hd 8 (by omega) (by kernel_rfl)
   clear hd
   try rw [d8]
   clear d8
   go_wp2
   exact ⟨_, rfl, rfl, rfl, fun h => absurd h (by decide)⟩
  ·have d9 : u 9 = _ := hd 9 (by omega) (by kernel_rfl)
   clear hd
   try rw [d9]
   clear d9
   go_wp2
   exact ⟨_, rfl, rfl, rfl, fun h => absurd h (by decide)⟩
  ·clear hd
   go_wp2
   exact ⟨_, rfl, rfl, rfl, fun h => absurd h (by decide)⟩
  ·have d11 : u 11 = _ := hd 11 (by omega) (by kernel_rfl)
   clear hd
   try rw [d11]
   clear d11
   have c0 := HK.out _ hj 2
   have c1 := HK.out _ hj 3
   go_wp2
   exact ⟨_, rfl, rfl, rfl, fun h => absurd h (by decide)⟩
  ·have d10 : u 10 = _ := hd 10 (by omega) (by kernel_rfl)
   have d12 : u 12 = _ := hd 12 (by omega) (by kernel_rfl)
   clear hd
   try rw [d10, d12]
   clear d10 d12
   obtain ⟨i0, i1⟩ := (show w1.cell? ⟨g, 2, none⟩ = some (.int .i64 a2) ∧ w1.cell? ⟨g, 3, none⟩ = some (.int .i64 a3) from hi)
   go_wp2_with (go_at_call 121; (with_reducible refine (C2.out _ i0 i1 (FK.out _ hj _) (FK.out _ hj _)).mono ?_); rintro e w2 ⟨rfl, hb2⟩)
   exact ⟨_, rfl, (show ScG g 2 x2 x3 w1 w2 from hb2), ⟨rfl, scJ_new hj hb2 (by omega)⟩, fun h => absurd h (by decide)⟩
  ·clear hd
   go_wp2
   exact ⟨_, rfl, rfl, rfl, fun h => absurd h (by decide)⟩
  ·have d14 : u 14 = _ := hd 14 (by omega) (by kernel_rfl)
   clear hd
   try rw [d14]
   clear d14
   go_wp2
   exact ⟨_, rfl, rfl, rfl, fun h => absurd h (by decide)⟩
  ·have d15 : u 15 = _ := hd 15 (by omega) (by kernel_rfl)
   clear hd
   try rw [d15]
   clear d15
   go_wp2
   exact ⟨_, rfl, rfl, rfl, fun h => absurd h (by decide)⟩
  ·have d16 : u 16 = _ := hd 16 (by omega) (by kernel_rfl)
   clear hd
   try rw [d16]
   clear d16
   go_wp2
   exact ⟨_, rfl, rfl, rfl, fun h => absurd h (by decide)⟩
  ·clear hd
   go_wp2
   exact ⟨_, rfl, rfl, rfl, fun h => absurd h (by decide)⟩
  ·have d18 : u 18 = _ := hd 18 (by omega) (by kernel_rfl)
   clear hd
   try rw [d18]
   clear d18
   have c0 := HK.out _ hj 4
   have c1 := HK.out _ hj 5
   go_wp2
   exact ⟨_, rfl, rfl, rfl, fun h => absurd h (by decide)⟩
  ·have d17 : u 17 = _ := hd 17 (by omega) (by kernel_rfl)
   have d19 : u 19 = _ := hd 19 (by omega) (by kernel_rfl)
   clear hd
   try rw [d17, d19]
   clear d17 d19
   obtain ⟨i0, i1⟩ := (show w1.cell? ⟨g, 4, none⟩ = some (.int .i64 a4) ∧ w1.cell? ⟨g, 5, none⟩ = some (.int .i64 a5) from hi)
   go_wp2_with (go_at_call 121; (with_reducible refine (C3.out _ i0 i1 (FK.out _ hj _) (FK.out _ hj _)).mono ?_); rintro e w2 ⟨rfl, hb2⟩)
   exact ⟨_, rfl, (show ScG g 4 x4 x5 w1 w2 from hb2), ⟨rfl, scJ_new hj hb2 (by omega)⟩, fun h => absurd h (by decide)⟩
 case htailh181 =>
  intro u A w1 hA hj hd hf
  simp only [putAll, dstOf, gtA, gtS, gtZ, Option.bind_some, Option.bind, Act.put, List.setIfInBounds_toArray, List.set_cons_succ, List.set_cons_zero] at hA; subst hA
  have e0 : u 0 = _ := hd 0 (by omega)
  have e1 : u 1 = _ := hd 1 (by omega)
  have e2 : u 2 = _ := hd 2 (by omega)
  have e3 : u 3 = _ := hd 3 (by omega)
  have e4 : u 4 = _ := hd 4 (by omega)
  have e5 : u 5 = _ := hd 5 (by omega)
  have p6 := hd 6 (by omega)
  have e7 : u 7 = _ := hd 7 (by omega)
  have e8 : u 8 = _ := hd 8 (by omega)
  have e9 : u 9 = _ := hd 9 (by omega)
  have e10 : u 10 = _ := hd 10 (by omega)
  have e11 : u 11 = _ := hd 11 (by omega)
  have e12 : u 12 = _ := hd 12 (by omega)
  have p13 := hd 13 (by omega)
  have e14 : u 14 = _ := hd 14 (by omega)
  have e15 : u 15 = _ := hd 15 (by omega)
  have e16 : u 16 = _ := hd 16 (by omega)
  have e17 : u 17 = _ := hd 17 (by omega)
  have e18 : u 18 = _ := hd 18 (by omega)
  have e19 : u 19 = _ := hd 19 (by omega)
  have p20 := hd 20 (by omega)
  first | rw [e0, e1, e2, e3, e4, e5, e7, e8, e9, e10, e11, e12, e14, e15, e16, e17, e18, e19] | simp only [e0, e1, e2, e3, e4, e5, e7, e8, e9, e10, e11, e12, e14, e15, e16, e17, e18, e19]
  clear e0 e1 e2 e3 e4 e5 e7 e8 e9 e10 e11 e12 e14 e15 e16 e17 e18 e19
  clear hd hf
  obtain ⟨q6, k0, k1⟩ := (show u 6 = .bool F1 ∧ w1.cell? ⟨g, 0, none⟩ = some (.int .i64 x0) ∧ w1.cell? ⟨g, 1, none⟩ = some (.int .i64 x1) from p6)
  obtain ⟨q13, k2, k3⟩ := (show u 13 = .bool F2 ∧ w1.cell? ⟨g, 2, none⟩ = some (.int .i64 x2) ∧ w1.cell? ⟨g, 3, none⟩ = some (.int .i64 x3) from p13)
  obtain ⟨q20, k4, k5⟩ := (show u 20 = .bool F3 ∧ w1.cell? ⟨g, 4, none⟩ = some (.int .i64 x4) ∧ w1.cell? ⟨g, 5, none⟩ = some (.int .i64 x5) from p20)
  rw [q6, q13, q20]
  obtain ⟨j1, cs, j2, j3, j4, j5⟩ := hj
  rw [j2.cell] at k0 k1 k2 k3 k4 k5
  rw [eight j3 k0 k1 k2 k3 k4 k5 j4 j5] at j2
  have J1 := hI9 (HBW.out.trans ((show But g W W.drew from ⟨rfl, rfl, rfl, Nat.le_refl _, fun _ _ _ => rfl⟩).trans j1))
  have J2 := hI9 j2
  clear p6 p13 p20 q6 q13 q20 k0 k1 k2 k3 k4 k5 j1 j2 j3 j4 j5 HK FK C1 C2 C3 HX HG1 HG HB HBW
  cases F1 <;> cases F2 <;> cases F3 <;> (go_wp2; go_ret; exact ⟨rfl, J1.out, J2.out⟩)
end Go.Proofs.YtlabfpjlckdmfaaGreat

namespace Go.Proofs.YtlabfpjlckdmfaaGreat
open Go Go.Sort
variable {α : Type} [Inhabited α] {lt : α → α → Bool}
def Moved (d d' : Array α) (f : Nat → Nat) : Prop := d'.size = d.size ∧ ∀ k, k < d.size → d'[k]! = d[f k]!
def swrI (a b n k : Nat) : Nat := if a ≤ k ∧ k < a + n then k - a + b else if b ≤ k ∧ k < b + n then k - b + a else k
def rotI (a m b k : Nat) : Nat := if k < a then k else if k < a + (b - m) then m + (k - a) else if k < b then k - (b - m) else k
theorem Moved.refl (d : Array α) : Moved d d id := ⟨rfl, fun _ _ => rfl⟩
theorem swrI_zero (a b k : Nat) : swrI a b 0 k = k := by unfold swrI; (repeat' split) <;> omega
theorem swrI_step {d dk : Array α} {a b i n : Nat} (h : Moved d dk (swrI a b i)) (hi : i < n) (hab : a + n ≤ b) (hb : b + n ≤ d.size) : Moved d (swp dk (a + i) (b + i)) (swrI a b (i + 1)) := by
 refine ⟨by rw [size_swp, h.1], fun k hk => ?_⟩
 have hk' : k < dk.size := by rw [h.1]; exact hk
 rw [swp_get dk (i := a + i) (j := b + i) (by rw [h.1]; omega) (by rw [h.1]; omega)]
 split
 ·rename_i e; subst e
  rw [h.2 _ (by omega)]; congr 1; unfold swrI; (repeat' split) <;> omega
 ·split
  ·rename_i e; subst e
   rw [h.2 _ (by omega)]; congr 1; unfold swrI; (repeat' split) <;> omega
  ·rw [h.2 _ hk]; congr 1; unfold swrI; (repeat' split) <;> omega
theorem rot_gt {i j m k : Nat} (hi : i ≤ m) (hij : j < i) : swrI (m - i) m j (rotI (m - (i - j)) m (m + j) k) = rotI (m - i) m (m + j) k := by
 unfold swrI rotI; (repeat' split) <;> omega
theorem rot_lt {i j m k : Nat} (hi : i ≤ m) (hij : i < j) : swrI (m - i) (m + j - i) i (rotI (m - i) m (m + (j - i)) k) = rotI (m - i) m (m + j) k := by
 unfold swrI rotI; (repeat' split) <;> omega
theorem rot_eq {i m k : Nat} (hi : i ≤ m) : swrI (m - i) m i k = rotI (m - i) m (m + i) k := by
 unfold swrI rotI; (repeat' split) <;> omega
theorem rot_up {d dk : Array α} {a k i : Nat} (h : Moved d dk (rotI a (a + 1) (k + 1))) (hk : a ≤ k) (hi : k + 1 < i) (hs : i ≤ d.size) : Moved d (swp dk k (k + 1)) (rotI a (a + 1) (k + 2)) := by
 refine ⟨by rw [size_swp, h.1], fun q hq => ?_⟩
 rw [swp_get dk (i := k) (j := k + 1) (by rw [h.1]; omega) (by rw [h.1]; omega)]
 split
 ·rename_i e; subst e
  rw [h.2 _ (by omega)]; congr 1; unfold rotI; (repeat' split) <;> omega
 ·split
  ·rename_i e; subst e
   rw [h.2 _ (by omega)]; congr 1; unfold rotI; (repeat' split) <;> omega
  ·rw [h.2 _ hq]; congr 1; unfold rotI; (repeat' split) <;> omega
theorem rot_down {d dk : Array α} {m k : Nat} (h : Moved d dk (rotI k m (m + 1))) (hk : 0 < k) (hkm : k ≤ m) (hs : m < d.size) : Moved d (swp dk k (k - 1)) (rotI (k - 1) m (m + 1)) := by
 refine ⟨by rw [size_swp, h.1], fun q hq => ?_⟩
 rw [swp_get dk (i := k) (j := k - 1) (by rw [h.1]; omega) (by rw [h.1]; omega)]
 split
 ·rename_i e; subst e
  rw [h.2 _ (by omega)]; congr 1; unfold rotI; (repeat' split) <;> omega
 ·split
  ·rename_i e; subst e
   rw [h.2 _ (by omega)]; congr 1; unfold rotI; (repeat' split) <;> omega
  ·rw [h.2 _ hq]; congr 1; unfold rotI; (repeat' split) <;> omega
theorem sorted_halves {a c b : Nat} {d : Array α} (h1 : SortedIn lt a c d) (h2 : SortedIn lt c b d) (hx : ∀ i j, a ≤ i → i < c → c ≤ j → j < b → lt d[j]! d[i]! = false) : SortedIn lt a b d := by
 intro i j hi hij hj
 by_cases h : j < c
 ·exact h1 i j hi hij h
 ·by_cases h' : i < c
  ·exact hx i j hi h' (by omega) hj
  ·exact h2 i j (by omega) hij hj
structure Cut (lt : α → α → Bool) (a m b s e : Nat) (d : Array α) : Prop where
 p1 : a ≤ s
 p2 : s ≤ m
 p3 : m ≤ e
 p4 : e ≤ b
 p5 : a < s → e < b → lt d[e]! d[s - 1]! = false
 p6 : s < m → m < e → lt d[e - 1]! d[s]! = true
theorem sorted_le (hS : SWO lt) {a b : Nat} {d : Array α} (h : SortedIn lt a b d) {i j : Nat} (hi : a ≤ i) (hij : i ≤ j) (hj : j < b) : lt d[j]! d[i]! = false := by
 by_cases e : i = j
 ·subst e; exact hS.irrefl _
 ·exact h i j hi (by omega) hj
theorem Cut.cross (hS : SWO lt) {a m b s e : Nat} {d d' : Array α} (c : Cut lt a m b s e d) (hb : b ≤ d.size) (h1 : SortedIn lt a m d) (h2 : SortedIn lt m b d) (hm : Moved d d' (rotI s m e)) :
  SortedIn lt a s d' ∧ SortedIn lt s (s + (e - m)) d' ∧ SortedIn lt (s + (e - m)) e d' ∧ SortedIn lt e b d' ∧
   ∀ i j, a ≤ i → i < s + (e - m) → s + (e - m) ≤ j → j < b → lt d'[j]! d'[i]! = false := by
 obtain ⟨k1, k2, k3, k4, k5, k6⟩ := c
 have g1 : ∀ k, k < s → k < d.size → d'[k]! = d[k]! := fun k hk hd => by rw [hm.2 k hd]; congr 1; unfold rotI; (repeat' split) <;> omega
 have g2 : ∀ k, s ≤ k → k < s + (e - m) → d'[k]! = d[m + (k - s)]! := fun k hk hk2 => by rw [hm.2 k (by omega)]; congr 1; unfold rotI; (repeat' split) <;> omega
 have g3 : ∀ k, s + (e - m) ≤ k → k < e → d'[k]! = d[k - (e - m)]! := fun k hk hk2 => by rw [hm.2 k (by omega)]; congr 1; unfold rotI; (repeat' split) <;> omega
 have g4 : ∀ k, e ≤ k → k < b → d'[k]! = d[k]! := fun k hk hk2 => by rw [hm.2 k (by omega)]; congr 1; unfold rotI; (repeat' split) <;> omega
 refine ⟨fun i j hi hij hj => ?_, fun i j hi hij hj => ?_, fun i j hi hij hj => ?_, fun i j hi hij hj => ?_, fun i j hi hi2 hj hj2 => ?_⟩
 ·rw [g1 i (by omega) (by omega), g1 j (by omega) (by omega)]; exact h1 i j hi hij (by omega)
 ·rw [g2 i (by omega) (by omega), g2 j (by omega) (by omega)]; exact h2 _ _ (by omega) (by omega) (by omega)
 ·rw [g3 i (by omega) (by omega), g3 j (by omega) (by omega)]; exact h1 _ _ (by omega) (by omega) (by omega)
 ·rw [g4 i (by omega) (by omega), g4 j (by omega) (by omega)]; exact h2 _ _ (by omega) (by omega) (by omega)
 ·by_cases hi3 : i < s
  ·rw [g1 i hi3 (by omega)]
   by_cases hj3 : j < e
   ·rw [g3 j hj hj3]; exact h1 _ _ hi (by omega) (by omega)
   ·rw [g4 j (by omega) hj2]
    have hle := k5 (by omega) (by omega)
    exact hS.ntrans _ _ _ (hS.ntrans _ _ _ (sorted_le hS h2 (by omega) (by omega) hj2) hle) (sorted_le hS h1 hi (by omega) (by omega))
  ·rw [g2 i (by omega) (by omega)]
   by_cases hj3 : j < e
   ·rw [g3 j hj hj3]
    have hlt := hS.asymmA (k6 (by omega) (by omega))
    exact hS.ntrans _ _ _ (hS.ntrans _ _ _ (sorted_le hS h1 (by omega) (by omega) (by omega)) hlt) (sorted_le hS h2 (by omega) (by omega) (by omega))
   ·rw [g4 j (by omega) hj2]; exact sorted_le hS h2 (by omega) (by omega) hj2
theorem insInner_perm (a i : Nat) : ∀ (j : Nat) (d : Array α), a ≤ j → j ≤ i → i < d.size → PermIn a (i + 1) d (insInner lt a j d)
 | 0, d, _, _, _ => by unfold insInner; exact permIn_refl d a (i + 1)
 | j + 1, d, haj, hji, hb => by
  unfold insInner
  split
  ·rename_i hc
   simp only [Bool.and_eq_true, decide_eq_true_eq] at hc
   exact permIn_trans _ _ _ a (i + 1) (swp_permIn d a (i + 1) (j + 1) j haj (by omega) (by omega) (by omega) (by omega)) (insInner_perm a i j (swp d (j + 1) j) (by omega) (by omega) (by rw [swp_size]; exact hb))
  ·exact permIn_refl d a (i + 1)
theorem insInner_eq {l1 l2 : α → α → Bool} (x : α) (a : Nat) : ∀ (j : Nat) (d : Array α), j < d.size → d[j]! = x → (∀ q, a ≤ q → q < j → l1 x d[q]! = l2 x d[q]!) → insInner l1 a j d = insInner l2 a j d
 | 0, d, _, _, _ => by unfold insInner; rfl
 | j + 1, d, hj, hx, hq => by
  unfold insInner
  rw [hx]
  by_cases h : j + 1 > a
  ·rw [hq j (by omega) (by omega)]
   split
   ·exact insInner_eq x a j (swp d (j + 1) j) (by rw [swp_size]; omega) (by rw [swp_get d hj (by omega)]; simp [hx]) (fun q h1 h2 => by
     rw [swp_get d hj (by omega), if_neg (by omega), if_neg (by omega)]; exact hq q h1 (by omega))
   ·rfl
  ·rw [show decide (j + 1 > a) = false from decide_eq_false h]; rfl
theorem insOuter_eq {l1 l2 : α → α → Bool} (a b : Nat) (D : Array α) (hb : b ≤ D.size) (hq : ∀ p q, a ≤ q → q < p → p < b → l1 D[p]! D[q]! = l2 D[p]! D[q]!) :
  ∀ (n i : Nat) (d : Array α), b - i = n → a ≤ i → i ≤ b → PermIn a i D d → insOuter l1 a b i d = insOuter l2 a b i d
 | 0, i, d, hn, _, hib, _ => by rw [insOuter, if_neg (by omega), insOuter, if_neg (by omega)]
 | n + 1, i, d, hn, hai, hib, hp => by
  have hlt : i < b := by omega
  have hs : d.size = D.size := hp.1
  have u1 : insOuter l1 a b i d = insOuter l1 a b (i + 1) (insInner l1 a i d) := by rw [insOuter, if_pos hlt]
  have u2 : insOuter l2 a b i d = insOuter l2 a b (i + 1) (insInner l2 a i d) := by rw [insOuter, if_pos hlt]
  rw [u1, u2]
  have hdi : d[i]! = D[i]! := hp.2.1 i (.inr (Nat.le_refl _))
  have he : insInner l1 a i d = insInner l2 a i d := insInner_eq D[i]! a i d (by omega) hdi (fun q h1 h2 => permIn_all D d a i (fun y => l1 D[i]! y = l2 D[i]! y) (by omega) hp (fun k k1 k2 => hq i k k1 k2 hlt) q h1 h2)
  rw [he]
  refine insOuter_eq a b D hb hq n (i + 1) _ (by omega) (by omega) (by omega) ?_
  exact permIn_trans _ _ _ a (i + 1) (permIn_mono D d a i a (i + 1) (Nat.le_refl _) (by omega) (by omega) hp) (insInner_perm a i i d hai (Nat.le_refl _) (by omega))
theorem insertionSort_eq {l1 l2 : α → α → Bool} (a b : Nat) (D : Array α) (hb : b ≤ D.size) (hq : ∀ p q, a ≤ q → q < p → p < b → l1 D[p]! D[q]! = l2 D[p]! D[q]!) : insertionSort l1 D a b = insertionSort l2 D a b := by
 unfold insertionSort
 by_cases h : a + 1 ≤ b
 ·refine insOuter_eq a b D hb hq _ (a + 1) D rfl (by omega) h (permIn_refl D a (a + 1))
 ·rw [insOuter, if_neg (by omega), insOuter, if_neg (by omega)]
theorem merge_one_left (hS : SWO lt) {a m b q : Nat} {d d' : Array α} (hm : m = a + 1) (h1 : m ≤ q) (h2 : q ≤ b) (hb : b ≤ d.size) (hs : SortedIn lt m b d) (c1 : q = m ∨ lt d[q - 1]! d[a]! = true) (c2 : q = b ∨ lt d[q]! d[a]! = false)
  (hv : Moved d d' (rotI a m q)) : SortedIn lt a b d' := by
 have g2 : ∀ k, a ≤ k → k < q - 1 → d'[k]! = d[k + 1]! := fun k hk hk2 => by rw [hv.2 k (by omega)]; congr 1; unfold rotI; (repeat' split) <;> omega
 have g3 : d'[q - 1]! = d[a]! := by rw [hv.2 _ (by omega)]; congr 1; unfold rotI; (repeat' split) <;> omega
 have g4 : ∀ k, q ≤ k → k < b → d'[k]! = d[k]! := fun k hk hk2 => by rw [hv.2 k (by omega)]; congr 1; unfold rotI; (repeat' split) <;> omega
 intro i j hi hij hj
 rcases (show i < q - 1 ∨ i = q - 1 ∨ q ≤ i by omega) with h | rfl | h
 ·rw [g2 i hi h]
  rcases (show j < q - 1 ∨ j = q - 1 ∨ q ≤ j by omega) with h' | rfl | h'
  ·rw [g2 j (by omega) h']; exact hs _ _ (by omega) (by omega) (by omega)
  ·rw [g3]
   rcases c1 with c1 | c1
   ·omega
   ·exact hS.ntrans _ _ _ (hS.asymmA c1) (sorted_le hS hs (by omega) (by omega) (by omega))
  ·rw [g4 j h' hj]; exact hs _ _ (by omega) (by omega) (by omega)
 ·rw [g3, g4 j (by omega) hj]
  rcases c2 with c2 | c2
  ·omega
  ·exact hS.ntrans _ _ _ (sorted_le hS hs (by omega) (by omega) hj) c2
 ·rw [g4 i h (by omega), g4 j (by omega) hj]; exact hs _ _ (by omega) hij hj
theorem merge_one_right (hS : SWO lt) {a m b q : Nat} {d d' : Array α} (hm : b = m + 1) (h1 : a ≤ q) (h2 : q ≤ m) (hb : b ≤ d.size) (hs : SortedIn lt a m d) (c1 : q = a ∨ lt d[m]! d[q - 1]! = false) (c2 : q = m ∨ lt d[m]! d[q]! = true)
  (hv : Moved d d' (rotI q m (m + 1))) : SortedIn lt a b d' := by
 have g1 : ∀ k, k < q → d'[k]! = d[k]! := fun k hk => by rw [hv.2 k (by omega)]; congr 1; unfold rotI; (repeat' split) <;> omega
 have g2 : d'[q]! = d[m]! := by rw [hv.2 _ (by omega)]; congr 1; unfold rotI; (repeat' split) <;> omega
 have g3 : ∀ k, q < k → k ≤ m → d'[k]! = d[k - 1]! := fun k hk hk2 => by rw [hv.2 k (by omega)]; congr 1; unfold rotI; (repeat' split) <;> omega
 intro i j hi hij hj
 rcases (show i < q ∨ i = q ∨ q < i by omega) with h | rfl | h
 ·rw [g1 i h]
  rcases (show j < q ∨ j = q ∨ q < j by omega) with h' | rfl | h'
  ·rw [g1 j h']; exact hs _ _ hi hij (by omega)
  ·rw [g2]
   rcases c1 with c1 | c1
   ·omega
   ·exact hS.ntrans _ _ _ c1 (sorted_le hS hs hi (by omega) (by omega))
  ·rw [g3 j h' (by omega)]; exact sorted_le hS hs hi (by omega) (by omega)
 ·rw [g2, g3 j hij (by omega)]
  rcases c2 with c2 | c2
  ·omega
  ·exact hS.ntrans _ _ _ (sorted_le hS hs (by omega) (by omega) (by omega)) (hS.asymmA c2)
 ·rw [g3 i h (by omega), g3 j (by omega) (by omega)]; exact hs _ _ (by omega) (by omega) (by omega)
theorem cut_of {a m b mid n s lo hi : Nat} {d : Array α} (ham : a < m) (hmb : m < b) (hmid : mid = (a + b) / 2) (hn : n = mid + m) (h : (mid < m ∧ lo = n - b ∧ hi = mid) ∨ (m ≤ mid ∧ lo = a ∧ hi = m)) (h1 : lo ≤ s) (h2 : s ≤ hi)
  (c1 : s = lo ∨ lt d[n - s]! d[s - 1]! = false) (c2 : s = hi ∨ lt d[n - 1 - s]! d[s]! = true) : Cut lt a m b s (n - s) d ∧ s + (n - s - m) = mid ∧ a ≤ mid ∧ mid ≤ b := by
 refine ⟨⟨by omega, by omega, by omega, by omega, fun h3 h4 => ?_, fun h3 h4 => ?_⟩, by omega, by omega, by omega⟩
 ·rcases c1 with c1 | c1
  ·omega
  ·exact c1
 ·rcases c2 with c2 | c2
  ·omega
  ·rw [show n - s - 1 = n - 1 - s by omega]; exact c2
end Go.Proofs.YtlabfpjlckdmfaaGreat
