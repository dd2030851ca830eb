/- Texts joined: JAD. -/
import Derived.Test.YtonfnhonbnfdoaaGreatJAC
import Derived.Test.YtonfnhonbnfdoaaGreatJAB
import Derived.Test.YtonfnhonbnfdoaaGreatBas
import Derived.Deep.Slices
import Derived.ChangeArms
import Derived.ChangeSlices
import Derived.WideShapes
import Derived.Deep.WholeRow
set_option linter.all false
namespace Go.Proofs.YtonfnhonbnfdoaaGreat
open Go Go.RowKit Go.Proofs
set_option maxRecDepth 100000
set_option maxHeartbeats 4000000

/-- All blocks but one are as they were. -/
structure But (g : Nat) (w w' : World) : Prop where
  os : w'.os = w.os
  tape : w'.tape = w.tape
  output : w'.output = w.output
  size : w.heap.size ≤ w'.heap.size
  block : ∀ k, k < w.heap.size → k ≠ g → w'.heap[k]? = w.heap[k]?
theorem But.refl (g : Nat) (w : World) : But g w w := ⟨rfl, rfl, rfl, Nat.le_refl _, fun _ _ _ => rfl⟩
theorem But.of {g : Nat} {w w' : World} (h : Below w.heap.size w w') : But g w w' := ⟨h.os, h.tape, h.output, h.size, fun k hk _ => h.block k hk⟩
theorem But.trans {g : Nat} {a b c : World} (h : But g a b) (k : But g b c) : But g a c :=
  ⟨k.os.trans h.os, k.tape.trans h.tape, k.output.trans h.output, Nat.le_trans h.size k.size, fun i hi hg => (k.block i (Nat.lt_of_lt_of_le hi h.size) hg).trans (h.block i hi hg)⟩
theorem But.set {g i : Nat} {w w' : World} (h : But g w w') (u : Value) : But g w (w'.setCell ⟨g, i, none⟩ u) :=
  h.trans ⟨rfl, rfl, rfl, by simp [World.setCell], fun k _ hg => Below.heap_setCell _ _ _ _ hg⟩
theorem But.below {g B : Nat} {w w1 w2 : World} (h : Below B w w1) (hs : B ≤ w1.heap.size) (k : But g w1 w2) (hg : B ≤ g) : Below B w w2 :=
  h.trans ⟨k.os, k.tape, k.output, k.size, fun i hi => k.block i (by omega) (by omega)⟩
theorem Blk.but {W W' : World} {g n : Nat} {t : TypeId} {cs : Array Value} (h : Blk W n t cs) (hb : But g W W') (hn : n ≠ g) : Blk W' n t cs := (hb.block n h.lt hn).trans h

/-- A cut of the span at place o of block g. -/
def ScG (g o : Nat) (x y : Int) (a b : World) : Prop := ∃ am, Below a.heap.size a am ∧ b = (am.setCell ⟨g, o, none⟩ (.int .i64 x)).setCell ⟨g, o + 1, none⟩ (.int .i64 y)
theorem ScG.but {g o : Nat} {x y : Int} {a b : World} (h : ScG g o x y a b) : But g a b := by
  obtain ⟨am, h, rfl⟩ := h
  exact ((But.of h).set _).set _
theorem ScG.cell {g o i : Nat} {x y : Int} {a b : World} {v : Value} (h : ScG g o x y a b) (hc : a.cell? ⟨g, i, none⟩ = some v) (h1 : i ≠ o) (h2 : i ≠ o + 1) : b.cell? ⟨g, i, none⟩ = some v := by
  obtain ⟨am, h, rfl⟩ := h
  rw [World.cell?_setCell_other _ _ _ _ (by intro e; simp only [Addr.mk.injEq] at e; omega), World.cell?_setCell_other _ _ _ _ (by intro e; simp only [Addr.mk.injEq] at e; omega)]
  exact (h.cell (p := ⟨g, i, none⟩) (blk_lt hc)).trans hc
theorem ScG.blk {g o : Nat} {x y : Int} {a b : World} {t : TypeId} {cs : Array Value} (h : ScG g o x y a b) (hb : Blk a g t cs) : Blk b g t ((cs.setIfInBounds o (.int .i64 x)).setIfInBounds (o + 1) (.int .i64 y)) := by
  obtain ⟨am, h, rfl⟩ := h
  exact ((hb.below h).set_ o _).set_ (o + 1) _

/-- What the region of the three cuts keeps. -/
def scJ (g : Nat) (W0 : World) (i s : Bool) (a : World) : Prop := But g W0 a ∧ ∃ cs, Blk a g 108 cs ∧ cs.size = 8 ∧ cs[6]? = some (.bool i) ∧ cs[7]? = some (.bool s)
def scG (g : Nat) (x0 x1 x2 x3 x4 x5 : Int) : Nat → World → World → Prop
  | 6, a, b => ScG g 0 x0 x1 a b
  | 13, a, b => ScG g 2 x2 x3 a b
  | 20, a, b => ScG g 4 x4 x5 a b
  | _, a, b => a = b
def scI (g : Nat) (a0 a1 a2 a3 a4 a5 : Int) : Nat → World → Prop
  | 6, a => a.cell? ⟨g, 0, none⟩ = some (.int .i64 a0) ∧ a.cell? ⟨g, 1, none⟩ = some (.int .i64 a1)
  | 13, a => a.cell? ⟨g, 2, none⟩ = some (.int .i64 a2) ∧ a.cell? ⟨g, 3, none⟩ = some (.int .i64 a3)
  | 20, a => a.cell? ⟨g, 4, none⟩ = some (.int .i64 a4) ∧ a.cell? ⟨g, 5, none⟩ = some (.int .i64 a5)
  | _, _ => True
def scR (g b : Nat) (x0 x1 x2 x3 x4 x5 b0 b1 b2 b3 b4 b5 : Int) (F1 F2 F3 : Bool) : Nat → Value → World → Prop
  | 0, v, _ => v = .pointer (some ⟨g, 0, none⟩)
  | 1, v, _ => v = .pointer (some ⟨g, 0, none⟩)
  | 2, v, _ => v = .pointer (some ⟨g, 0, none⟩)
  | 3, v, _ => v = .pointer (some ⟨g, 0, none⟩)
  | 4, v, _ => v = .pointer (some ⟨b, 0, none⟩)
  | 5, v, _ => v = .agg #[.int .i64 b0, .int .i64 b1]
  | 6, v, w => v = .bool F1 ∧ w.cell? ⟨g, 0, none⟩ = some (.int .i64 x0) ∧ w.cell? ⟨g, 1, none⟩ = some (.int .i64 x1)
  | 7, v, _ => v = .pointer (some ⟨g, 0, none⟩)
  | 8, v, _ => v = .pointer (some ⟨g, 0, none⟩)
  | 9, v, _ => v = .pointer (some ⟨g, 0, none⟩)
  | 10, v, _ => v = .pointer (some ⟨g, 2, none⟩)
  | 11, v, _ => v = .pointer (some ⟨b, 2, none⟩)
  | 12, v, _ => v = .agg #[.int .i64 b2, .int .i64 b3]
  | 13, v, w => v = .bool F2 ∧ w.cell? ⟨g, 2, none⟩ = some (.int .i64 x2) ∧ w.cell? ⟨g, 3, none⟩ = some (.int .i64 x3)
  | 14, v, _ => v = .pointer (some ⟨g, 0, none⟩)
  | 15, v, _ => v = .pointer (some ⟨g, 0, none⟩)
  | 16, v, _ => v = .pointer (some ⟨g, 0, none⟩)
  | 17, v, _ => v = .pointer (some ⟨g, 4, none⟩)
  | 18, v, _ => v = .pointer (some ⟨b, 4, none⟩)
  | 19, v, _ => v = .agg #[.int .i64 b4, .int .i64 b5]
  | 20, v, w => v = .bool F3 ∧ w.cell? ⟨g, 4, none⟩ = some (.int .i64 x4) ∧ w.cell? ⟨g, 5, none⟩ = some (.int .i64 x5)
  | _, _, _ => True
section
variable {g : Nat} {x0 x1 x2 x3 x4 x5 : Int}
theorem scG_size (i : Nat) (a b : World) (h : scG g x0 x1 x2 x3 x4 x5 i a b) : a.heap.size ≤ b.heap.size := by
  unfold scG at h; split at h
  · exact h.but.size
  · exact h.but.size
  · exact h.but.size
  · rw [h]; exact Nat.le_refl _
theorem ScG.keepJ {o : Nat} {x y : Int} {W0 a b : World} {i s : Bool} (h : ScG g o x y a b) (ho : o + 1 < 6) (hj : scJ g W0 i s a) : scJ g W0 i s b := by
  obtain ⟨h1, cs, h2, h3, h4, h5⟩ := hj
  refine ⟨h1.trans h.but, _, h.blk h2, by simp [h3], ?_, ?_⟩
  · rw [Array.getElem?_setIfInBounds_ne (by omega), Array.getElem?_setIfInBounds_ne (by omega)]; exact h4
  · rw [Array.getElem?_setIfInBounds_ne (by omega), Array.getElem?_setIfInBounds_ne (by omega)]; exact h5
theorem scG_J {W0 : World} {i s : Bool} (k : Nat) (a b : World) (h : scG g x0 x1 x2 x3 x4 x5 k a b) (hj : scJ g W0 i s a) : scJ g W0 i s b := by
  unfold scG at h; split at h
  · exact h.keepJ (by omega) hj
  · exact h.keepJ (by omega) hj
  · exact h.keepJ (by omega) hj
  · rw [← h]; exact hj
theorem scG_cell {k i : Nat} {a b : World} {v : Value} (h : scG g x0 x1 x2 x3 x4 x5 k a b) (hc : a.cell? ⟨g, i, none⟩ = some v) (h1 : k = 6 → 1 < i) (h2 : k = 13 → i < 2 ∨ 3 < i) (h3 : k = 20 → i < 4) : b.cell? ⟨g, i, none⟩ = some v := by
  unfold scG at h; split at h
  · have := h1 rfl; exact h.cell hc (by omega) (by omega)
  · have := h2 rfl; exact h.cell hc (by omega) (by omega)
  · have := h3 rfl; exact h.cell hc (by omega) (by omega)
  · rw [← h]; exact hc
theorem scG_I {ops : Array Oper} {a0 a1 a2 a3 a4 a5 : Int} (k j : Nat) (a b : World) (hkj : k ≠ j) (_ : k ∉ depsOf ops j) (h : scG g x0 x1 x2 x3 x4 x5 j a b) (hi : scI g a0 a1 a2 a3 a4 a5 k a) : scI g a0 a1 a2 a3 a4 a5 k b := by
  unfold scI at *
  split at hi
  · exact ⟨scG_cell h hi.1 (by omega) (by omega) (by omega), scG_cell h hi.2 (by omega) (by omega) (by omega)⟩
  · exact ⟨scG_cell h hi.1 (by omega) (by omega) (by omega), scG_cell h hi.2 (by omega) (by omega) (by omega)⟩
  · exact ⟨scG_cell h hi.1 (by omega) (by omega) (by omega), scG_cell h hi.2 (by omega) (by omega) (by omega)⟩
  · trivial
theorem scG_R {bb : Nat} {b0 b1 b2 b3 b4 b5 : Int} {F1 F2 F3 : Bool} (k j : Nat) (v : Value) (a b : World) (hkj : k ≠ j) (h : scG g x0 x1 x2 x3 x4 x5 j a b) (hr : scR g bb x0 x1 x2 x3 x4 x5 b0 b1 b2 b3 b4 b5 F1 F2 F3 k v a) : scR g bb x0 x1 x2 x3 x4 x5 b0 b1 b2 b3 b4 b5 F1 F2 F3 k v b := by
  unfold scR at *
  split at hr <;> first
    | exact hr
    | exact ⟨hr.1, scG_cell h hr.2.1 (by omega) (by omega) (by omega), scG_cell h hr.2.2 (by omega) (by omega) (by omega)⟩
end

theorem scJ_new {g o : Nat} {x y : Int} {W0 a b : World} {i s : Bool} (hj : scJ g W0 i s a) (h : ScG g o x y a b) (ho : o + 1 < 8) : b.cell? ⟨g, o, none⟩ = some (.int .i64 x) ∧ b.cell? ⟨g, o + 1, none⟩ = some (.int .i64 y) := by
  obtain ⟨-, cs, h2, h3, -, -⟩ := hj
  have hk := h.blk h2
  rw [hk.cell o, hk.cell (o + 1)]
  refine ⟨?_, ?_⟩
  · rw [Array.getElem?_setIfInBounds_ne (by omega), Array.getElem?_setIfInBounds_self_of_lt (by omega)]
  · rw [Array.getElem?_setIfInBounds_self_of_lt (by simp; omega)]
theorem eight {cs : Array Value} {v0 v1 v2 v3 v4 v5 v6 v7 : Value} (h : cs.size = 8) (e0 : cs[0]? = some v0) (e1 : cs[1]? = some v1) (e2 : cs[2]? = some v2) (e3 : cs[3]? = some v3) (e4 : cs[4]? = some v4) (e5 : cs[5]? = some v5) (e6 : cs[6]? = some v6) (e7 : cs[7]? = some v7) :
    cs = #[v0, v1, v2, v3, v4, v5, v6, v7] := by
  obtain ⟨l⟩ := cs
  match l, h with
  | [a, b, c, d, e, f, g, k], _ =>
    simp at e0 e1 e2 e3 e4 e5 e6 e7
    subst e0 e1 e2 e3 e4 e5 e6 e7
    rfl
def skF (a0 a1 a2 a3 a4 a5 b0 b1 b2 b3 b4 b5 : Int) : Bool := cuF a0 a1 b0 b1 || (cuF a2 a3 b2 b3 || cuF a4 a5 b4 b5)
theorem scut_c (g : Nat) (a0 a1 a2 a3 a4 a5 b0 b1 b2 b3 b4 b5 : Int) (ia sa ib sb : Bool) (w : World) (hg : Blk w g 108 #[.int .i64 a0, .int .i64 a1, .int .i64 a2, .int .i64 a3, .int .i64 a4, .int .i64 a5, .bool ia, .bool sa])
    (v1 : vspan a0 a1 = true) (v2 : vspan a2 a3 = true) (v3 : vspan a4 a5 = true) (u1 : vspan b0 b1 = true) (u2 : vspan b2 b3 = true) (u3 : vspan b4 b5 = true) :
   Calls Tryz.prog 91 #[.pointer (some ⟨g, 0, none⟩), .agg #[.int .i64 b0, .int .i64 b1, .int .i64 b2, .int .i64 b3, .int .i64 b4, .int .i64 b5, .bool ib, .bool sb]] w fun e w' => e = .returned (.bool (skF a0 a1 a2 a3 a4 a5 b0 b1 b2 b3 b4 b5)) ∧
     But g w w' ∧ Blk w' g 108 #[.int .i64 (cuL a0 a1 b0 b1), .int .i64 (cuH a0 a1 b0 b1), .int .i64 (cuL a2 a3 b2 b3), .int .i64 (cuH a2 a3 b2 b3), .int .i64 (cuL a4 a5 b4 b5), .int .i64 (cuH a4 a5 b4 b5), .bool ia, .bool sa] := by
  have C1 := Lib.hid (fun (w1 : World) (h0 : w1.cell? ⟨g, 0, none⟩ = some (.int .i64 a0)) (h1 : w1.cell? ⟨g, 1, none⟩ = some (.int .i64 a1)) (f0 : w1.frozen? ⟨g, 0, none⟩ = false) (f1 : w1.frozen? ⟨g, 1, none⟩ = false) => cut_c g 0 a0 a1 b0 b1 w1 v1 u1 h0 h1 f0 f1)
  have C2 := Lib.hid (fun (w1 : World) (h0 : w1.cell? ⟨g, 2, none⟩ = some (.int .i64 a2)) (h1 : w1.cell? ⟨g, 3, none⟩ = some (.int .i64 a3)) (f0 : w1.frozen? ⟨g, 2, none⟩ = false) (f1 : w1.frozen? ⟨g, 3, none⟩ = false) => cut_c g 2 a2 a3 b2 b3 w1 v2 u2 h0 h1 f0 f1)
  have C3 := Lib.hid (fun (w1 : World) (h0 : w1.cell? ⟨g, 4, none⟩ = some (.int .i64 a4)) (h1 : w1.cell? ⟨g, 5, none⟩ = some (.int .i64 a5)) (f0 : w1.frozen? ⟨g, 4, none⟩ = false) (f1 : w1.frozen? ⟨g, 5, none⟩ = false) => cut_c g 4 a4 a5 b4 b5 w1 v3 u3 h0 h1 f0 f1)
  unfold skF
  generalize cuF a0 a1 b0 b1 = F1 at *
  generalize cuF a2 a3 b2 b3 = F2 at *
  generalize cuF a4 a5 b4 b5 = F3 at *
  generalize cuL a0 a1 b0 b1 = x0 at *
  generalize cuH a0 a1 b0 b1 = x1 at *
  generalize cuL a2 a3 b2 b3 = x2 at *
  generalize cuH a2 a3 b2 b3 = x3 at *
  generalize cuL a4 a5 b4 b5 = x4 at *
  generalize cuH a4 a5 b4 b5 = x5 at *
  have hlt := hg.lt
  have HG := Lib.hid hg
  clear hg v1 v2 v3 u1 u2 u3
  go_enter Tryz.func91, Tryz.ntmps91
  go_wp2_with (fail)
  have HX := Lib.hid (Blk.new w 25 #[.int .i64 b0, .int .i64 b1, .int .i64 b2, .int .i64 b3, .int .i64 b4, .int .i64 b5, .bool ib, .bool sb])
  have HG1 := Lib.hid (HG.out.alloc (.cells #[.int .i64 b0, .int .i64 b1, .int .i64 b2, .int .i64 b3, .int .i64 b4, .int .i64 b5, .bool ib, .bool sb] 25))
  have HB := Lib.hid (bal (Below.refl w.heap.size w) (.cells #[.int .i64 b0, .int .i64 b1, .int .i64 b2, .int .i64 b3, .int .i64 b4, .int .i64 b5, .bool ib, .bool sb] 25))
  have HBW := Lib.hid (But.of (g := g) (bal (Below.refl w.heap.size w) (.cells #[.int .i64 b0, .int .i64 b1, .int .i64 b2, .int .i64 b3, .int .i64 b4, .int .i64 b5, .bool ib, .bool sb] 25)))
  have hne : w.heap.size ≠ g := by omega
  generalize w.alloc (.cells #[.int .i64 b0, .int .i64 b1, .int .i64 b2, .int .i64 b3, .int .i64 b4, .int .i64 b5, .bool ib, .bool sb] 25) = W at *
  generalize w.heap.size = gx at *
  have HK := Lib.hid (fun (a : World) (h : scJ g W.drew ia sa a) (i : Nat) => ((show Blk W.drew gx _ _ from HX.out).but h.1 hne).cell i)
  have FK := Lib.hid (fun (a : World) (h : scJ g W.drew ia sa a) (i : Nat) => (show a.frozen? ⟨g, i, none⟩ = false by obtain ⟨_, cs, h2, _⟩ := h; exact h2.frozen i))
  refine wp_region_specH (scG g x0 x1 x2 x3 x4 x5) (scJ g W.drew ia sa) (scI g a0 a1 a2 a3 a4 a5) scG_size scG_J scG_I ⟨But.refl _ _, _, HG1.out, rfl, rfl, rfl⟩ (fun i => (by unfold scI; split <;> first | exact ⟨HG1.out.cell _, HG1.out.cell _⟩ | trivial)) 21 (scR g gx x0 x1 x2 x3 x4 x5 b0 b1 b2 b3 b4 b5 F1 F2 F3) (fun _ => false) (by kernel_rfl) (by kernel_rfl) scG_R ?hoph181 ?htailh181
  case hoph181 =>
    simp only [List.take_succ_cons, List.take_zero, allOps]
    refine ⟨?_, ?_, ?_, ?_, ?_, ?_, ?_, ?_, ?_, ?_, ?_, ?_, ?_, ?_, ?_, ?_, ?_, ?_, ?_, ?_, ?_, trivial⟩
    all_goals intro u A w1 hA hj hi hd
    all_goals simp only [putAll, dstOf, List.getElem?_toArray, List.getElem?_cons_succ, List.getElem?_cons_zero, Option.bind_some, Option.bind, Act.put, List.setIfInBounds_toArray, List.set_cons_succ, List.set_cons_zero] at hA; subst hA
    · clear hd
      go_wp2
      exact ⟨_, rfl, rfl, rfl, fun h => absurd h (by decide)⟩
    · have d0 : u 0 = _ := hd 0 (by omega) (by kernel_rfl)
      clear hd
      try rw [d0]
      clear d0
      go_wp2
      exact ⟨_, rfl, rfl, rfl, fun h => absurd h (by decide)⟩
    · have d1 : u 1 = _ := hd 1 (by omega) (by kernel_rfl)
      clear hd
      try rw [d1]
      clear d1
      go_wp2
      exact ⟨_, rfl, rfl, rfl, fun h => absurd h (by decide)⟩
    · have d2 : u 2 = _ := hd 2 (by omega) (by kernel_rfl)
      clear hd
      try rw [d2]
      clear d2
      go_wp2
      exact ⟨_, rfl, rfl, rfl, fun h => absurd h (by decide)⟩
    · clear hd
      go_wp2
      exact ⟨_, rfl, rfl, rfl, fun h => absurd h (by decide)⟩
    · have d4 : u 4 = _ := hd 4 (by omega) (by kernel_rfl)
      clear hd
      try rw [d4]
      clear d4
      have c0 := HK.out _ hj 0
      have c1 := HK.out _ hj 1
      go_wp2
      exact ⟨_, rfl, rfl, rfl, fun h => absurd h (by decide)⟩
    · have d3 : u 3 = _ := hd 3 (by omega) (by kernel_rfl)
      have d5 : u 5 = _ := hd 5 (by omega) (by kernel_rfl)
      clear hd
      try rw [d3, d5]
      clear d3 d5
      obtain ⟨i0, i1⟩ := (show w1.cell? ⟨g, 0, none⟩ = some (.int .i64 a0) ∧ w1.cell? ⟨g, 1, none⟩ = some (.int .i64 a1) from hi)
      go_wp2_with (go_at_call 129; (with_reducible refine (C1.out _ i0 i1 (FK.out _ hj _) (FK.out _ hj _)).mono ?_); rintro e w2 ⟨rfl, hb2⟩)
      exact ⟨_, rfl, (show ScG g 0 x0 x1 w1 w2 from hb2), ⟨rfl, scJ_new hj hb2 (by omega)⟩, fun h => absurd h (by decide)⟩
    · clear hd
      go_wp2
      exact ⟨_, rfl, rfl, rfl, fun h => absurd h (by decide)⟩
    · have d7 : u 7 = _ := hd 7 (by omega) (by kernel_rfl)
      clear hd
      try rw [d7]
      clear d7
      go_wp2
      exact ⟨_, rfl, rfl, rfl, fun h => absurd h (by decide)⟩
    · have d8 : u 8 = _ := hd 8 (by omega) (by kernel_rfl)
      clear hd
      try rw [d8]
      clear d8
      go_wp2
      exact ⟨_, rfl, rfl, rfl, fun h => absurd h (by decide)⟩
    · have d9 : u 9 = _ := hd 9 (by omega) (by kernel_rfl)
      clear hd
      try rw [d9]
      clear d9
      go_wp2
      exact ⟨_, rfl, rfl, rfl, fun h => absurd h (by decide)⟩
    · clear hd
      go_wp2
      exact ⟨_, rfl, rfl, rfl, fun h => absurd h (by decide)⟩
    · have d11 : u 11 = _ := hd 11 (by omega) (by kernel_rfl)
      clear hd
      try rw [d11]
      clear d11
      have c0 := HK.out _ hj 2
      have c1 := HK.out _ hj 3
      go_wp2
      exact ⟨_, rfl, rfl, rfl, fun h => absurd h (by decide)⟩
    · have d10 : u 10 = _ := hd 10 (by omega) (by kernel_rfl)
      have d12 : u 12 = _ := hd 12 (by omega) (by kernel_rfl)
      clear hd
      try rw [d10, d12]
      clear d10 d12
      obtain ⟨i0, i1⟩ := (show w1.cell? ⟨g, 2, none⟩ = some (.int .i64 a2) ∧ w1.cell? ⟨g, 3, none⟩ = some (.int .i64 a3) from hi)
      go_wp2_with (go_at_call 129; (with_reducible refine (C2.out _ i0 i1 (FK.out _ hj _) (FK.out _ hj _)).mono ?_); rintro e w2 ⟨rfl, hb2⟩)
      exact ⟨_, rfl, (show ScG g 2 x2 x3 w1 w2 from hb2), ⟨rfl, scJ_new hj hb2 (by omega)⟩, fun h => absurd h (by decide)⟩
    · clear hd
      go_wp2
      exact ⟨_, rfl, rfl, rfl, fun h => absurd h (by decide)⟩
    · have d14 : u 14 = _ := hd 14 (by omega) (by kernel_rfl)
      clear hd
      try rw [d14]
      clear d14
      go_wp2
      exact ⟨_, rfl, rfl, rfl, fun h => absurd h (by decide)⟩
    · have d15 : u 15 = _ := hd 15 (by omega) (by kernel_rfl)
      clear hd
      try rw [d15]
      clear d15
      go_wp2
      exact ⟨_, rfl, rfl, rfl, fun h => absurd h (by decide)⟩
    · have d16 : u 16 = _ := hd 16 (by omega) (by kernel_rfl)
      clear hd
      try rw [d16]
      clear d16
      go_wp2
      exact ⟨_, rfl, rfl, rfl, fun h => absurd h (by decide)⟩
    · clear hd
      go_wp2
      exact ⟨_, rfl, rfl, rfl, fun h => absurd h (by decide)⟩
    · have d18 : u 18 = _ := hd 18 (by omega) (by kernel_rfl)
      clear hd
      try rw [d18]
      clear d18
      have c0 := HK.out _ hj 4
      have c1 := HK.out _ hj 5
      go_wp2
      exact ⟨_, rfl, rfl, rfl, fun h => absurd h (by decide)⟩
    · have d17 : u 17 = _ := hd 17 (by omega) (by kernel_rfl)
      have d19 : u 19 = _ := hd 19 (by omega) (by kernel_rfl)
      clear hd
      try rw [d17, d19]
      clear d17 d19
      obtain ⟨i0, i1⟩ := (show w1.cell? ⟨g, 4, none⟩ = some (.int .i64 a4) ∧ w1.cell? ⟨g, 5, none⟩ = some (.int .i64 a5) from hi)
      go_wp2_with (go_at_call 129; (with_reducible refine (C3.out _ i0 i1 (FK.out _ hj _) (FK.out _ hj _)).mono ?_); rintro e w2 ⟨rfl, hb2⟩)
      exact ⟨_, rfl, (show ScG g 4 x4 x5 w1 w2 from hb2), ⟨rfl, scJ_new hj hb2 (by omega)⟩, fun h => absurd h (by decide)⟩
  case htailh181 =>
    intro u A w1 hA hj hd hf
    simp only [putAll, dstOf, List.getElem?_toArray, List.getElem?_cons_succ, List.getElem?_cons_zero, Option.bind_some, Option.bind, Act.put, List.setIfInBounds_toArray, List.set_cons_succ, List.set_cons_zero] at hA; subst hA
    have e0 : u 0 = _ := hd 0 (by omega)
    have e1 : u 1 = _ := hd 1 (by omega)
    have e2 : u 2 = _ := hd 2 (by omega)
    have e3 : u 3 = _ := hd 3 (by omega)
    have e4 : u 4 = _ := hd 4 (by omega)
    have e5 : u 5 = _ := hd 5 (by omega)
    have p6 := hd 6 (by omega)
    have e7 : u 7 = _ := hd 7 (by omega)
    have e8 : u 8 = _ := hd 8 (by omega)
    have e9 : u 9 = _ := hd 9 (by omega)
    have e10 : u 10 = _ := hd 10 (by omega)
    have e11 : u 11 = _ := hd 11 (by omega)
    have e12 : u 12 = _ := hd 12 (by omega)
    have p13 := hd 13 (by omega)
    have e14 : u 14 = _ := hd 14 (by omega)
    have e15 : u 15 = _ := hd 15 (by omega)
    have e16 : u 16 = _ := hd 16 (by omega)
    have e17 : u 17 = _ := hd 17 (by omega)
    have e18 : u 18 = _ := hd 18 (by omega)
    have e19 : u 19 = _ := hd 19 (by omega)
    have p20 := hd 20 (by omega)
    first | rw [e0, e1, e2, e3, e4, e5, e7, e8, e9, e10, e11, e12, e14, e15, e16, e17, e18, e19] | simp only [e0, e1, e2, e3, e4, e5, e7, e8, e9, e10, e11, e12, e14, e15, e16, e17, e18, e19]
    clear e0 e1 e2 e3 e4 e5 e7 e8 e9 e10 e11 e12 e14 e15 e16 e17 e18 e19
    clear hd hf
    obtain ⟨q6, k0, k1⟩ := (show u 6 = .bool F1 ∧ w1.cell? ⟨g, 0, none⟩ = some (.int .i64 x0) ∧ w1.cell? ⟨g, 1, none⟩ = some (.int .i64 x1) from p6)
    obtain ⟨q13, k2, k3⟩ := (show u 13 = .bool F2 ∧ w1.cell? ⟨g, 2, none⟩ = some (.int .i64 x2) ∧ w1.cell? ⟨g, 3, none⟩ = some (.int .i64 x3) from p13)
    obtain ⟨q20, k4, k5⟩ := (show u 20 = .bool F3 ∧ w1.cell? ⟨g, 4, none⟩ = some (.int .i64 x4) ∧ w1.cell? ⟨g, 5, none⟩ = some (.int .i64 x5) from p20)
    rw [q6, q13, q20]
    obtain ⟨j1, cs, j2, j3, j4, j5⟩ := hj
    rw [j2.cell] at k0 k1 k2 k3 k4 k5
    rw [eight j3 k0 k1 k2 k3 k4 k5 j4 j5] at j2
    have J1 := Lib.hid (HBW.out.trans ((show But g W W.drew from ⟨rfl, rfl, rfl, Nat.le_refl _, fun _ _ _ => rfl⟩).trans j1))
    have J2 := Lib.hid j2
    clear p6 p13 p20 q6 q13 q20 k0 k1 k2 k3 k4 k5 j1 j2 j3 j4 j5 HK FK C1 C2 C3 HX HG1 HG HB HBW
    cases F1 <;> cases F2 <;> cases F3 <;> (go_wp2; go_ret; exact ⟨rfl, J1.out, J2.out⟩)
end Go.Proofs.YtonfnhonbnfdoaaGreat

namespace Go.Proofs.YtonfnhonbnfdoaaGreat
open Go Go.RowKit Go.Proofs Go.ChangeShapes Go.WideShapes Go.Deep

/-- Cells from address A on hold n records of k cells each. -/
def RecsAt (w : World) (A : Option Addr) (n k : Nat) (V : Nat → Nat → Value) : Prop :=
  0 < n → ∃ b off, A = some ⟨b, off, none⟩ ∧ b < w.heap.size ∧ ∀ i, i < n → ∀ j, j < k → w.cell? ⟨b, off + i * k + j, none⟩ = some (V i j)
theorem RecsAt.below {w w' : World} {A : Option Addr} {n k : Nat} {V : Nat → Nat → Value} (h : RecsAt w A n k V) (hb : Below w.heap.size w w') : RecsAt w' A n k V := by
  intro hn
  obtain ⟨b, off, hA, hlt, hc⟩ := h hn
  exact ⟨b, off, hA, Nat.lt_of_lt_of_le hlt hb.size, fun i hi j hj => (hb.cell (p := ⟨b, off + i * k + j, none⟩) hlt).trans (hc i hi j hj)⟩
theorem RecsAt.cells {w : World} {A : Option Addr} {n k : Nat} {V : Nat → Nat → Value} (h : RecsAt w A n k V) : CellsAt w A (n * k) (fun q => V (q / k) (q % k)) := by
  intro hn
  have hn0 : 0 < n := Nat.pos_of_ne_zero fun h => by simp [h] at hn
  have hk0 : 0 < k := Nat.pos_of_ne_zero fun h => by simp [h] at hn
  obtain ⟨b, off, hA, hlt, hc⟩ := h hn0
  refine ⟨b, off, hA, hlt, fun q hq => ?_⟩
  have := hc (q / k) (Nat.div_lt_of_lt_mul (by rw [Nat.mul_comm]; exact hq)) (q % k) (Nat.mod_lt _ hk0)
  rw [show off + q / k * k + q % k = off + q by have := Nat.div_add_mod q k; rw [Nat.mul_comm] at this; omega] at this
  exact this
theorem RecsAt.of_owns {w : World} {base : Nat} {e : TypeId} {v : Value} {n k : Nat} {V : Nat → Nat → Value} (hk : 0 < k) (h : w.ownsRow base e k v n ((List.range (n * k)).map fun q => V (q / k) (q % k))) :
    ∃ A c, v = .slice A n c ∧ n ≤ c ∧ c ≤ 9223372036854775807 ∧ RecsAt w A n k V := by
  rcases h.2 with ⟨rfl, hz⟩ | ⟨g, cap, cur, rfl, h1, h2, h3, h4, h5, h6⟩
  · exact ⟨none, 0, by rw [hz], by omega, by omega, fun hp => by omega⟩
  · refine ⟨some ⟨g, 0, none⟩, cap, rfl, h3, by unfold maxLen at h4; omega, fun hp => ⟨g, 0, rfl, (Array.getElem?_eq_some_iff.1 h2).1, fun i hi j hj => ?_⟩⟩
    have hlt : i * k + j < n * k := by
      have : (i + 1) * k ≤ n * k := Nat.mul_le_mul_right k hi
      rw [Nat.add_mul] at this; omega
    have := h.cellAt (g := g) (i * k + j) hlt
    rw [Nat.zero_add, this]
    simp only [List.getElem?_map, List.getElem?_range hlt, Option.map_some]
    rw [Nat.mul_comm i k, Nat.mul_add_div hk, Nat.mul_add_mod, Nat.div_eq_of_lt hj, Nat.mod_eq_of_lt hj, Nat.add_zero]
theorem wpl_append_newk {P : Program} {w : World} {ops : Array Oper} {rest : List Oper} {o : Oper} {a : Act} {Q : Exit → Act → World → Prop}
    (hg : o.guard = none) (s x : Operand) (t : TypeId) (hop : o.op = Op.call { callee := Callee.builtin Builtin.append, args := #[s, x], argTypes := #[t, t] })
    (e : TypeId) (i : TypeInfo) (z : Value) (sz bytes : Nat) (h1 : P.underlying t = some (.slice e)) (h2 : P.info? e = some i) (h3 : i.zero = some z) (h4 : i.size = sz) (h5 : i.bytes = bytes) (h6 : z.cells.size = sz) (h7 : 0 < sz)
    (g : Nat) (hs : a.eval s = .slice (some ⟨g, 0, none⟩) 0 0) (hgb : w.heap[g]? = some (.cells #[] e (0, 0))) (base : Nat) (hbg : base ≤ g)
    (A : Option Addr) (m c : Nat) (hx : a.eval x = .slice A m c) (f : Nat → Value) (hA : CellsAt w A (m * sz) f) (hone : ∀ k, k < m * sz → (f k).oneCell' = true)
    (b1 : m ≤ maxLen) (b2 : m * bytes ≤ 140737488355328)
    (K : ∀ v' w', w'.ownsRow base e sz v' m ((List.range (m * sz)).map f) → Below w.heap.size w w' → wpList P ops Q rest (a.put o.dst v') w') :
    wpList P ops Q (o :: rest) a w := by
  by_cases hm : m = 0
  · subst hm
    refine wpList_plain hg fun K' hK' => ?_
    have hrun : (Builtin.append_ #[t, t] o.type #[.slice (some ⟨g, 0, none⟩) 0 0, .slice A 0 c]).run P w = .ok (.slice (some ⟨g, 0, none⟩) 0 0) w := by
      cases A with
      | none => simp [Builtin.append_, run_underlying h1, sizeOf, typeInfo, h2, Builtin.lenOf, Builtin.firstCells, storeCells]
      | some ad => simp [Builtin.append_, run_underlying h1, sizeOf, typeInfo, h2, Builtin.lenOf, Builtin.firstCells, storeCells, loadCells, loadCellsFrom]
    unfold Oper.wp
    simp [execOp, hop, resolve, invoke, builtin, hs, hx, hrun, Result.andThen]
    exact hK' _ _ (K _ w ⟨by simp, .inr ⟨g, 0, #[], rfl, hbg, hgb, Nat.le_refl _, Nat.zero_le _, by simp, by simp⟩⟩ (Below.refl _ _))
  · obtain ⟨b, off, rfl, hlt, hc⟩ := hA (Nat.mul_pos (by omega) h7)
    refine wpList_append_grows w hg s x t hop e i z sz bytes h1 h2 h3 h4 h5 h6 h7 (some ⟨g, 0, none⟩) 0 0 [] hs (fun h => by cases h) (by simp) (fun _ _ j u h => by simp at h)
      ⟨b, off, none⟩ m c ((List.range (m * sz)).map f) hx (by simp) (fun j u h => ?_) (fun u hu => ?_) (by omega) (by omega) (by simpa using b2) (fun v' w' ho hgr => ?_)
    · have hj : j < m * sz := by
        have := (List.getElem?_eq_some_iff.1 h).1; simpa using this
      have : u = f j := by simp [hj] at h; exact h.symm
      subst this
      have hadd : (⟨b, off, none⟩ : Addr).add j = ⟨b, off + j, none⟩ := by unfold Addr.add; split <;> simp_all
      rw [hadd]; exact hc j hj
    · obtain ⟨k, hk, rfl⟩ := List.mem_map.1 hu
      exact hone k (List.mem_range.1 hk)
    · rw [Nat.zero_add, List.nil_append] at ho
      exact K v' w' (ownsRow_base ho (by have := (Array.getElem?_eq_some_iff.1 hgb).1; omega)) (below_of_none hgr)

section
variable {H : Type} {enc : TypeId × Value → H} {P : Program} {w : World} {base : Nat} {sp : Nat → Bool} {held : Bool}
theorem recs_trod {t e : TypeId} {k fuel : Nat} {c : Value} {x : DataW H × List MemPlace} (ht : P.underlying t = some (.slice e)) (hk : P.cellsOf e = k) (hk0 : 0 < k) (h : DataW.trod enc P w base sp held fuel t [c] = some x) :
    ∃ A n cp V, c = .slice A n cp ∧ n ≤ cp ∧ cp ≤ 9223372036854775807 ∧ (A = none → cp = 0) ∧ RecsAt w A n k V ∧ ∀ i, i < n → ∃ m y, DataW.trod enc P w base sp held m e ((List.range k).map (V i)) = some y := by
  rcases open_slice ht h with ⟨e, -⟩ | ⟨a, len, cap, m, n, D, Pl, e, -, h1, h2, h3, -, h4⟩
  · obtain rfl : c = .slice none 0 0 := by simpa using e
    exact ⟨none, 0, 0, fun _ _ => undef, rfl, Nat.le_refl _, by omega, fun _ => rfl, fun hp => by omega, fun i hi => by omega⟩
  · obtain rfl : c = .slice (some a) len cap := by simpa using e
    have hm : len ≤ m := by rw [h3]; split <;> omega
    rw [hk] at h4
    have hv : ∀ i, i < len → ∃ cs, w.cells? base (a.add (i * k)) k = some cs ∧ DataW.trod enc P w base sp held n _ cs = some (D i, Pl i) := fun i hi => h4 i (by omega)
    obtain ⟨Z, hZ⟩ := choose_lt (α := List Value) (p := fun i cs => w.cells? base (a.add (i * k)) k = some cs ∧ DataW.trod enc P w base sp held n _ cs = some (D i, Pl i)) hv
    have hc : ∀ i, i < len → (Z i).length = k ∧ ∀ j, j < k → w.cell? (a.add (i * k + j)) = some ((Z i).getD j undef) := by
      intro i hi
      obtain ⟨-, hl, hcell⟩ := World.cells?_some (hZ i hi).1
      refine ⟨hl, fun j hj => ?_⟩
      have := hcell j hj
      rw [Go.Deep.add_add] at this
      rw [this, List.getD, List.getElem?_eq_getElem (by omega)]
      rfl
    refine ⟨some a, len, cap, fun i j => (Z i).getD j undef, rfl, by omega, by unfold maxLen at h2; omega, (fun h => by cases h), fun hp => ?_, fun i hi => ⟨n, (D i, Pl i), ?_⟩⟩
    · obtain ⟨b, off, spot⟩ := a
      have h00 := (hc 0 hp).2 0 hk0
      have hspot : spot = none := by simpa [Addr.add] using World.cell?_spot h00
      subst hspot
      refine ⟨b, off, rfl, ?_, fun i hi j hj => ?_⟩
      · have := World.block_lt_of_cell? w _ h00; simpa [Addr.add] using this
      · have := (hc i hi).2 j hj
        have hadd : (⟨b, off, none⟩ : Addr).add (i * k + j) = ⟨b, off + i * k + j, none⟩ := by unfold Addr.add; split <;> simp_all [Nat.add_assoc] <;> omega
        rwa [hadd] at this
    · have : (List.range k).map (fun j => (Z i).getD j undef) = Z i := by
        apply List.ext_getElem?
        intro j
        have hl := (hc i hi).1
        by_cases hj : j < k
        · simp [hj, List.getD, List.getElem?_eq_getElem (show j < (Z i).length by omega)]
        · simp [hj, List.getElem?_eq_none (show (Z i).length ≤ j by omega)]
      rw [this]; exact (hZ i hi).2
end
end Go.Proofs.YtonfnhonbnfdoaaGreat

namespace Go.Proofs.YtonfnhonbnfdoaaGreat
open Go Go.RowKit Go.Proofs
set_option maxRecDepth 100000
set_option maxHeartbeats 4000000

theorem isSl_one {v : Value} (h : IsSl v) : v.oneCell' = true := by obtain ⟨a, n, c, rfl⟩ := h; rfl
theorem RotAt.one {w : World} {hx hy hv gx gy gv lx ly lv px py pv nx ny nv ax ay av cx cy cv dx dy dv : Value} {cl bu : Int} {S : Tabs} (h : RotAt w hx hy hv gx gy gv lx ly lv px py pv nx ny nv ax ay av cx cy cv dx dy dv cl bu S) (wl wh tl th el eh nl nh : Int) : (#[hx, hy, hv, gx, gy, gv, lx, ly, lv, px, py, pv, nx, ny, nv, ax, ay, av, cx, cy, cv, dx, dy, dv, .int .i64 cl, .int .i64 bu, .int .i64 wl, .int .i64 wh, .int .i64 tl, .int .i64 th, .int .i64 el, .int .i64 eh, .int .i64 nl, .int .i64 nh] : Array Value).all (·.oneCell') = true := by
  rw [Array.all_eq_true_iff_forall_mem]
  intro x hx'
  simp only [List.mem_toArray, List.mem_cons, List.not_mem_nil, or_false] at hx'
  rcases hx' with rfl | rfl | rfl | rfl | rfl | rfl | rfl | rfl | rfl | rfl | rfl | rfl | rfl | rfl | rfl | rfl | rfl | rfl | rfl | rfl | rfl | rfl | rfl | rfl | rfl | rfl | rfl | rfl | rfl | rfl | rfl | rfl | rfl | rfl
  any_goals rfl
  · exact isSl_one h.h.s1
  · exact isSl_one h.h.s2
  · exact isSl_one h.h.s3
  · exact isSl_one h.g.s1
  · exact isSl_one h.g.s2
  · exact isSl_one h.g.s3
  · exact isSl_one h.l.s1
  · exact isSl_one h.l.s2
  · exact isSl_one h.l.s3
  · exact isSl_one h.p.s1
  · exact isSl_one h.p.s2
  · exact isSl_one h.p.s3
  · exact isSl_one h.n.s1
  · exact isSl_one h.n.s2
  · exact isSl_one h.n.s3
  · exact isSl_one h.a.s1
  · exact isSl_one h.a.s2
  · exact isSl_one h.a.s3
  · exact isSl_one h.c.s1
  · exact isSl_one h.c.s2
  · exact isSl_one h.c.s3
  · exact isSl_one h.d.s1
  · exact isSl_one h.d.s2
  · exact isSl_one h.d.s3
end Go.Proofs.YtonfnhonbnfdoaaGreat
