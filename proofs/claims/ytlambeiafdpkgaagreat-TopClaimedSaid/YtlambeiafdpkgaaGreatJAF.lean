/- Texts joined: JAF. -/
import Derived.Test.YtlambeiafdpkgaaGreatJAE
import Derived.Test.YtlambeiafdpkgaaGreatBas
import Derived.Test.YtlambeiafdpkgaaGreatJAA
import Derived.Sort.Statements
import Derived.Sort.Lot0
import Derived.Sort.LotA
import Derived.Test.YtlambeiafdpkgaaGreatJAD
import Derived.Maps.AppendAt
set_option linter.all false
namespace Go.Proofs.YtlambeiafdpkgaaGreat
open Go Go.RowKit Go.Proofs
structure Tabs where
 h : Tbl
 g : Tbl
 l : Tbl
 p : Tbl
 n : Tbl
 a : Tbl
 c : Tbl
 d : Tbl
structure RotAt (w : World) (hx hy hv gx gy gv lx ly lv px py pv nx ny nv ax ay av cx cy cv dx dy dv : Value) (cl bu : Int) (S : Tabs) : Prop where
 h : TblAt w hx hy hv S.h
 g : TblAt w gx gy gv S.g
 l : TblAt w lx ly lv S.l
 p : TblAt w px py pv S.p
 n : TblAt w nx ny nv S.n
 a : TblAt w ax ay av S.a
 c : TblAt w cx cy cv S.c
 d : TblAt w dx dy dv S.d
 cl : I64 cl
 bu : I64 bu
theorem RotAt.below {w w' : World} {hx hy hv gx gy gv lx ly lv px py pv nx ny nv ax ay av cx cy cv dx dy dv : Value} {cl bu : Int} {S : Tabs} (h : RotAt w hx hy hv gx gy gv lx ly lv px py pv nx ny nv ax ay av cx cy cv dx dy dv cl bu S) (hb : Below w.heap.size w w') : RotAt w' hx hy hv gx gy gv lx ly lv px py pv nx ny nv ax ay av cx cy cv dx dy dv cl bu S :=
 ⟨h.h.below hb, h.g.below hb, h.l.below hb, h.p.below hb, h.n.below hb, h.a.below hb, h.c.below hb, h.d.below hb, h.cl, h.bu⟩
theorem TblAt.s1 {w : World} {x y v : Value} {T : Tbl} (h : TblAt w x y v T) : IsSl x := by obtain ⟨A, c, e, -⟩ := h.x; exact ⟨_, _, _, e⟩
theorem TblAt.s2 {w : World} {x y v : Value} {T : Tbl} (h : TblAt w x y v T) : IsSl y := by obtain ⟨A, c, e, -⟩ := h.y; exact ⟨_, _, _, e⟩
set_option maxRecDepth 100000
set_option maxHeartbeats 4000000
end Go.Proofs.YtlambeiafdpkgaaGreat
namespace Go.Proofs.YtlambeiafdpkgaaGreat
open Go Go.RowKit Go.Proofs
set_option maxRecDepth 100000
set_option maxHeartbeats 4000000
end Go.Proofs.YtlambeiafdpkgaaGreat
namespace Go.Proofs.YtlambeiafdpkgaaGreat
open Go Go.RowKit Go.Proofs
set_option maxRecDepth 100000
set_option maxHeartbeats 4000000
end Go.Proofs.YtlambeiafdpkgaaGreat
namespace Go.Proofs.YtlambeiafdpkgaaGreat
open Go Go.RowKit Go.Proofs
set_option maxRecDepth 100000
set_option maxHeartbeats 4000000
end Go.Proofs.YtlambeiafdpkgaaGreat

namespace Go.Proofs.YtlambeiafdpkgaaGreat
open Go Go.RowKit
end Go.Proofs.YtlambeiafdpkgaaGreat
namespace Go.Proofs.YtlambeiafdpkgaaGreat
open Go Go.RowKit Go.Proofs
end Go.Proofs.YtlambeiafdpkgaaGreat
namespace Go.Proofs.YtlambeiafdpkgaaGreat
open Go Go.RowKit Go.Proofs
end Go.Proofs.YtlambeiafdpkgaaGreat

namespace Go.Proofs.YtlambeiafdpkgaaGreat
open Go Go.RowKit Go.Proofs
set_option maxRecDepth 100000
set_option maxHeartbeats 4000000
theorem Blk.drew {W : World} {g : Nat} {t : TypeId} {cs : Array Value} (h : Blk W g t cs) : Blk W.drew g t cs := h
end Go.Proofs.YtlambeiafdpkgaaGreat

namespace Go.Proofs.YtlambeiafdpkgaaGreat
open Go Go.RowKit Go.Proofs
set_option maxRecDepth 100000
set_option maxHeartbeats 4000000
def NewBlk (w0 : Nat) (t : TypeId) (cs : Array Value) (v : Value) (w : World) : Prop := ∃ g, v = .pointer (some ⟨g, 0, none⟩) ∧ w0 ≤ g ∧ Blk w g t cs
theorem NewBlk.below {w0 : Nat} {t : TypeId} {cs : Array Value} {v : Value} {w w' : World} (hb : Below w.heap.size w w') (h : NewBlk w0 t cs v w) : NewBlk w0 t cs v w' := by
 obtain ⟨g, rfl, h1, h2⟩ := h; exact ⟨g, rfl, h1, h2.below hb⟩
end Go.Proofs.YtlambeiafdpkgaaGreat

namespace Go.Proofs.YtlambeiafdpkgaaGreat
open Go Go.RowKit Go.Proofs
set_option maxRecDepth 100000
set_option maxHeartbeats 4000000
def cuL (al ah bl bh : Int) : Int := if max al bl ≤ min ah bh then max al bl else bl
def cuH (al ah bl bh : Int) : Int := if max al bl ≤ min ah bh then min ah bh else bh
def cuF (al ah bl bh : Int) : Bool := !decide (max al bl ≤ min ah bh)
def cutR (w0 : Nat) (g o : Nat) (al ah bl bh ml mh me : Int) : Nat → Value → World → Prop
 | 0, v, _ => v = .pointer (some ⟨g, o, none⟩)
 | 1, v, _ => v = .pointer (some ⟨g, o, none⟩)
 | 2, v, _ => v = .agg #[.int .i64 al, .int .i64 ah]
 | 3, v, _ => v = .agg #[.int .i64 bl, .int .i64 bh]
 | 4, v, _ => v = .tuple #[.agg #[.int .i64 ml, .int .i64 mh], .int .i64 me]
 | 5, v, _ => v = .tuple #[.agg #[.int .i64 ml, .int .i64 mh], .int .i64 me]
 | 6, v, _ => v = .agg #[.int .i64 ml, .int .i64 mh]
 | 7, v, _ => v = .int .i64 me
 | 8, v, w => NewBlk w0 28 #[.int .i64 0, .int .i64 0] v w
 | _, _, _ => True
theorem cutR_below {w0 : Nat} {g o : Nat} {al ah bl bh ml mh me : Int} (k : Nat) (v : Value) (w w' : World) (hb : Below w.heap.size w w') (h : cutR w0 g o al ah bl bh ml mh me k v w) : cutR w0 g o al ah bl bh ml mh me k v w' := by
 unfold cutR at *
 split at h <;> first | exact h | exact NewBlk.below hb h
theorem cut_c (g o : Nat) (al ah bl bh : Int) (w : World) (ha : vspan al ah = true) (hb : vspan bl bh = true) (h0 : w.cell? ⟨g, o, none⟩ = some (.int .i64 al)) (h1 : w.cell? ⟨g, o + 1, none⟩ = some (.int .i64 ah))
  (f0 : w.frozen? ⟨g, o, none⟩ = false) (f1 : w.frozen? ⟨g, o + 1, none⟩ = false) :
  Calls Tryz.prog 160 #[.pointer (some ⟨g, o, none⟩), .agg #[.int .i64 bl, .int .i64 bh]] w fun e w' => e = .returned (.bool (cuF al ah bl bh)) ∧
   ∃ wm, Below w.heap.size w wm ∧ w' = (wm.setCell ⟨g, o, none⟩ (.int .i64 (cuL al ah bl bh))).setCell ⟨g, o + 1, none⟩ (.int .i64 (cuH al ah bl bh)) := by
 have hg : g < w.heap.size := blk_lt h0
 have HG := hI9 (And.intro (fun w1 (h : Below w.heap.size w w1) => (h.cell (p := ⟨g, o, none⟩) hg).trans h0) (And.intro (fun w1 (h : Below w.heap.size w w1) => (h.cell (p := ⟨g, o + 1, none⟩) hg).trans h1)
  (And.intro (fun w1 (h : Below w.heap.size w w1) => (h.frozen (p := ⟨g, o, none⟩) hg).trans f0) (fun w1 (h : Below w.heap.size w w1) => (h.frozen (p := ⟨g, o + 1, none⟩) hg).trans f1))))
 have hm := fun w1 => Meet_c al ah bl bh w1 ha hb
 unfold cuL cuH cuF
 clear h0 h1 f0 f1 ha hb
 unfold meL meH meE at hm
 by_cases h : max al bl ≤ min ah bh
 ·rw [if_pos h, if_pos h, if_pos h] at hm
  rw [if_pos h, if_pos h, show (!decide (max al bl ≤ min ah bh)) = false by simp [h]]
  generalize max al bl = ml at *
  generalize min ah bh = mh at *
  have HM := hI9 hm
  clear hm h
  go_enter Tryz.func160, Tryz.ntmps160
  go_wp2_with (fail)
  have _x := frm1 w #[.int .i64 bl, .int .i64 bh] 28
  have HX := hI9 _x.1
  have HB := hI9 _x.2.1
  have zW := _x.2.2
  clear _x
  generalize World.alloc w _ = W at *
  refine wp_region_specL 9 [7] (cutR W.heap.size g o al ah bl bh ml mh 0) (fun i => decide (i = 8)) (by kernel_rfl) (by kernel_rfl) (by decide) cutR_below ?hop1 ?htail1
  case hop1 =>
   simp only [List.take_succ_cons, List.take_zero, allOps]
   refine ⟨?_, ?_, ?_, ?_, ?_, ?_, ?_, ?_, ?_, trivial⟩
   all_goals intro u A w1 hA hb hd
   all_goals simp only [putAll, dstOf, gtA, gtS, gtZ, Option.bind_some, Option.bind, Act.put, List.setIfInBounds_toArray, List.set_cons_succ, List.set_cons_zero] at hA; subst hA
   all_goals have HB1 := hI9 hb
   ·refine OpOk.now rfl ?_
    clear hb hd
    go_wp2
    exact ⟨_, rfl, Below.refl _ _, rfl, fun h => absurd h (by decide)⟩
   ·refine OpOk.now rfl ?_
    have d0 : u 0 = _ := hd 0 (by omega) (by kernel_rfl)
    clear hb hd
    rw [d0]
    clear d0
    go_wp2
    exact ⟨_, rfl, Below.refl _ _, rfl, fun h => absurd h (by decide)⟩
   ·refine OpOk.now rfl ?_
    have d1 : u 1 = _ := hd 1 (by omega) (by kernel_rfl)
    clear hb hd
    rw [d1]
    clear d1
    have c0 := HG.out.1 _ (bthen HB.out HB1.out)
    have c1 := HG.out.2.1 _ (bthen HB.out HB1.out)
    go_wp2
    exact ⟨_, rfl, Below.refl _ _, rfl, fun h => absurd h (by decide)⟩
   ·refine OpOk.now rfl ?_
    clear hb hd
    have c0 := (HX.out.below HB1.out).cell 0
    have c1 := (HX.out.below HB1.out).cell 1
    go_wp2
    exact ⟨_, rfl, Below.refl _ _, rfl, fun h => absurd h (by decide)⟩
   ·refine OpOk.now rfl ?_
    have d2 : u 2 = _ := hd 2 (by omega) (by kernel_rfl)
    have d3 : u 3 = _ := hd 3 (by omega) (by kernel_rfl)
    clear hb hd
    rw [d2, d3]
    clear d2 d3
    go_wp2_with (go_at_call 178; (with_reducible refine (HM.out _).mono ?_); rintro e w2 ⟨rfl, hb2⟩)
    exact ⟨_, rfl, hb2, rfl, fun h => absurd h (by decide)⟩
   ·refine OpOk.now rfl ?_
    have d4 : u 4 = _ := hd 4 (by omega) (by kernel_rfl)
    clear hb hd
    rw [d4]
    clear d4
    go_wp2
    exact ⟨_, rfl, Below.refl _ _, rfl, fun h => absurd h (by decide)⟩
   ·refine OpOk.now rfl ?_
    have d5 : u 5 = _ := hd 5 (by omega) (by kernel_rfl)
    clear hb hd
    rw [d5]
    clear d5
    go_wp2
    exact ⟨_, rfl, Below.refl _ _, rfl, fun h => absurd h (by decide)⟩
   ·have d5 : u 5 = _ := hd 5 (by omega) (by kernel_rfl)
    clear hb hd
    rw [d5]
    clear d5
    refine OpOk.late rfl ?_
    exact ⟨_, yields_extract rfl _ _ rfl _ rfl _ rfl, rfl⟩
   ·refine OpOk.now rfl ?_
    have zz := hb.size
    clear hb hd
    go_wp2
    exact ⟨_, rfl, bal (Below.refl _ _) _, ⟨_, rfl, by omega, Blk.new _ _ _⟩, fun _ => ⟨_, rfl, Nat.le_refl _, by simp⟩⟩
  case htail1 =>
   intro u A w1 hA hb hd hf
   simp only [putAll, dstOf, gtA, gtS, gtZ, Option.bind_some, Option.bind, Act.put, List.setIfInBounds_toArray, List.set_cons_succ, List.set_cons_zero] at hA; subst hA
   have e0 : u 0 = _ := hd 0 (by omega)
   have e1 : u 1 = _ := hd 1 (by omega)
   have e2 : u 2 = _ := hd 2 (by omega)
   have e3 : u 3 = _ := hd 3 (by omega)
   have e4 : u 4 = _ := hd 4 (by omega)
   have e5 : u 5 = _ := hd 5 (by omega)
   have e6 : u 6 = _ := hd 6 (by omega)
   have e7 : u 7 = _ := hd 7 (by omega)
   obtain ⟨g8, e8, z8, b8⟩ := hd 8 (by omega)
   first | rw [e0, e1, e2, e3, e4, e5, e6, e7, e8] | simp only [e0, e1, e2, e3, e4, e5, e6, e7, e8]
   clear e0 e1 e2 e3 e4 e5 e6 e7 e8
   clear hd hf
   have nHX := hI9 (HX.out.below hb)
   have nHB := hI9 (bthen HB.out hb)
   have zz := hb.size
   have HZ := hI9 b8
   have x0 := b8.cell 0
   have x1 := b8.cell 1
   have x2 := fun i => b8.frozen i
   clear hb b8 HX HB
   go_wp2
   dsimp only [NoPanic]
   have HZ2 := hI9 ((HZ.out.set_ 0 (.int .i64 ml)).set_ 1 (.int .i64 mh))
   have HX2 := hI9 ((nHX.out.far' (f := g8) (by omega) (i := 0) (.int .i64 ml)).far' (f := g8) (by omega) (i := 1) (.int .i64 mh))
   have HB := hI9 (bset (bset nHB.out (g := g8) (by omega) (i := 0) (.int .i64 ml)) (g := g8) (by omega) (i := 1) (.int .i64 mh))
   clear x0 x1 x2 HZ nHX nHB
   generalize (w1.setCell ⟨g8, 0, none⟩ (.int .i64 ml)).setCell ⟨g8, 1, none⟩ (.int .i64 mh) = W3 at *
   have x0 := HX2.out.cell 0
   have x1 := HX2.out.cell 1
   have z0 := HZ2.out.cell 0
   have z1 := HZ2.out.cell 1
   have c0 := HG.out.1 _ HB.out
   have c1 := HG.out.2.1 _ HB.out
   have f0 := HG.out.2.2.1 _ HB.out
   have f1 := HG.out.2.2.2 _ HB.out
   simp at x0 x1 z0 z1
   go_wp2
   go_ret
   exact ⟨rfl, W3, HB.out, rfl⟩
 ·rw [if_neg h, if_neg h, if_neg h] at hm
  rw [if_neg h, if_neg h, show (!decide (max al bl ≤ min ah bh)) = true by simp [h]]
  clear h
  have HM := hI9 hm
  clear hm
  go_enter Tryz.func160, Tryz.ntmps160
  go_wp2_with (fail)
  have _x := frm1 w #[.int .i64 bl, .int .i64 bh] 28
  have HX := hI9 _x.1
  have HB := hI9 _x.2.1
  have zW := _x.2.2
  clear _x
  generalize World.alloc w _ = W at *
  refine wp_region_specL 9 [7] (cutR W.heap.size g o al ah bl bh (0 : Int) (0 : Int) 3) (fun i => decide (i = 8)) (by kernel_rfl) (by kernel_rfl) (by decide) cutR_below ?hop2 ?htail2
  case hop2 =>
   simp only [List.take_succ_cons, List.take_zero, allOps]
   refine ⟨?_, ?_, ?_, ?_, ?_, ?_, ?_, ?_, ?_, trivial⟩
   all_goals intro u A w1 hA hb hd
   all_goals simp only [putAll, dstOf, gtA, gtS, gtZ, Option.bind_some, Option.bind, Act.put, List.setIfInBounds_toArray, List.set_cons_succ, List.set_cons_zero] at hA; subst hA
   all_goals have HB1 := hI9 hb
   ·refine OpOk.now rfl ?_
    clear hb hd
    go_wp2
    exact ⟨_, rfl, Below.refl _ _, rfl, fun h => absurd h (by decide)⟩
   ·refine OpOk.now rfl ?_
    have d0 : u 0 = _ := hd 0 (by omega) (by kernel_rfl)
    clear hb hd
    rw [d0]
    clear d0
    go_wp2
    exact ⟨_, rfl, Below.refl _ _, rfl, fun h => absurd h (by decide)⟩
   ·refine OpOk.now rfl ?_
    have d1 : u 1 = _ := hd 1 (by omega) (by kernel_rfl)
    clear hb hd
    rw [d1]
    clear d1
    have c0 := HG.out.1 _ (bthen HB.out HB1.out)
    have c1 := HG.out.2.1 _ (bthen HB.out HB1.out)
    go_wp2
    exact ⟨_, rfl, Below.refl _ _, rfl, fun h => absurd h (by decide)⟩
   ·refine OpOk.now rfl ?_
    clear hb hd
    have c0 := (HX.out.below HB1.out).cell 0
    have c1 := (HX.out.below HB1.out).cell 1
    go_wp2
    exact ⟨_, rfl, Below.refl _ _, rfl, fun h => absurd h (by decide)⟩
   ·refine OpOk.now rfl ?_
    have d2 : u 2 = _ := hd 2 (by omega) (by kernel_rfl)
    have d3 : u 3 = _ := hd 3 (by omega) (by kernel_rfl)
    clear hb hd
    rw [d2, d3]
    clear d2 d3
    go_wp2_with (go_at_call 178; (with_reducible refine (HM.out _).mono ?_); rintro e w2 ⟨rfl, hb2⟩)
    exact ⟨_, rfl, hb2, rfl, fun h => absurd h (by decide)⟩
   ·refine OpOk.now rfl ?_
    have d4 : u 4 = _ := hd 4 (by omega) (by kernel_rfl)
    clear hb hd
    rw [d4]
    clear d4
    go_wp2
    exact ⟨_, rfl, Below.refl _ _, rfl, fun h => absurd h (by decide)⟩
   ·refine OpOk.now rfl ?_
    have d5 : u 5 = _ := hd 5 (by omega) (by kernel_rfl)
    clear hb hd
    rw [d5]
    clear d5
    go_wp2
    exact ⟨_, rfl, Below.refl _ _, rfl, fun h => absurd h (by decide)⟩
   ·have d5 : u 5 = _ := hd 5 (by omega) (by kernel_rfl)
    clear hb hd
    rw [d5]
    clear d5
    refine OpOk.late rfl ?_
    exact ⟨_, yields_extract rfl _ _ rfl _ rfl _ rfl, rfl⟩
   ·refine OpOk.now rfl ?_
    have zz := hb.size
    clear hb hd
    go_wp2
    exact ⟨_, rfl, bal (Below.refl _ _) _, ⟨_, rfl, by omega, Blk.new _ _ _⟩, fun _ => ⟨_, rfl, Nat.le_refl _, by simp⟩⟩
  case htail2 =>
   intro u A w1 hA hb hd hf
   simp only [putAll, dstOf, gtA, gtS, gtZ, Option.bind_some, Option.bind, Act.put, List.setIfInBounds_toArray, List.set_cons_succ, List.set_cons_zero] at hA; subst hA
   have e0 : u 0 = _ := hd 0 (by omega)
   have e1 : u 1 = _ := hd 1 (by omega)
   have e2 : u 2 = _ := hd 2 (by omega)
   have e3 : u 3 = _ := hd 3 (by omega)
   have e4 : u 4 = _ := hd 4 (by omega)
   have e5 : u 5 = _ := hd 5 (by omega)
   have e6 : u 6 = _ := hd 6 (by omega)
   have e7 : u 7 = _ := hd 7 (by omega)
   obtain ⟨g8, e8, z8, b8⟩ := hd 8 (by omega)
   first | rw [e0, e1, e2, e3, e4, e5, e6, e7, e8] | simp only [e0, e1, e2, e3, e4, e5, e6, e7, e8]
   clear e0 e1 e2 e3 e4 e5 e6 e7 e8
   clear hd hf
   have nHX := hI9 (HX.out.below hb)
   have nHB := hI9 (bthen HB.out hb)
   have zz := hb.size
   have HZ := hI9 b8
   have x0 := b8.cell 0
   have x1 := b8.cell 1
   have x2 := fun i => b8.frozen i
   clear hb b8 HX HB
   go_wp2
   dsimp only [NoPanic]
   have HZ2 := hI9 ((HZ.out.set_ 0 (.int .i64 (0 : Int))).set_ 1 (.int .i64 (0 : Int)))
   have HX2 := hI9 ((nHX.out.far' (f := g8) (by omega) (i := 0) (.int .i64 (0 : Int))).far' (f := g8) (by omega) (i := 1) (.int .i64 (0 : Int)))
   have HB := hI9 (bset (bset nHB.out (g := g8) (by omega) (i := 0) (.int .i64 (0 : Int))) (g := g8) (by omega) (i := 1) (.int .i64 (0 : Int)))
   clear x0 x1 x2 HZ nHX nHB
   generalize (w1.setCell ⟨g8, 0, none⟩ (.int .i64 (0 : Int))).setCell ⟨g8, 1, none⟩ (.int .i64 (0 : Int)) = W3 at *
   have x0 := HX2.out.cell 0
   have x1 := HX2.out.cell 1
   have z0 := HZ2.out.cell 0
   have z1 := HZ2.out.cell 1
   have c0 := HG.out.1 _ HB.out
   have c1 := HG.out.2.1 _ HB.out
   have f0 := HG.out.2.2.1 _ HB.out
   have f1 := HG.out.2.2.2 _ HB.out
   simp at x0 x1 z0 z1
   go_wp2
   go_ret
   exact ⟨rfl, W3, HB.out, rfl⟩
end Go.Proofs.YtlambeiafdpkgaaGreat

namespace Go.Proofs.YtlambeiafdpkgaaGreat
open Go Go.Sort
variable {α : Type} [Inhabited α] {lt : α → α → Bool}
def Moved (d d' : Array α) (f : Nat → Nat) : Prop := d'.size = d.size ∧ ∀ k, k < d.size → d'[k]! = d[f k]!
def swrI (a b n k : Nat) : Nat := if a ≤ k ∧ k < a + n then k - a + b else if b ≤ k ∧ k < b + n then k - b + a else k
def rotI (a m b k : Nat) : Nat := if k < a then k else if k < a + (b - m) then m + (k - a) else if k < b then k - (b - m) else k
theorem Moved.refl (d : Array α) : Moved d d id := ⟨rfl, fun _ _ => rfl⟩
theorem swrI_zero (a b k : Nat) : swrI a b 0 k = k := by unfold swrI; (repeat' split) <;> omega
theorem swrI_step {d dk : Array α} {a b i n : Nat} (h : Moved d dk (swrI a b i)) (hi : i < n) (hab : a + n ≤ b) (hb : b + n ≤ d.size) : Moved d (swp dk (a + i) (b + i)) (swrI a b (i + 1)) := by
 refine ⟨by rw [size_swp, h.1], fun k hk => ?_⟩
 have hk' : k < dk.size := by rw [h.1]; exact hk
 rw [swp_get dk (i := a + i) (j := b + i) (by rw [h.1]; omega) (by rw [h.1]; omega)]
 split
 ·rename_i e; subst e
  rw [h.2 _ (by omega)]; congr 1; unfold swrI; (repeat' split) <;> omega
 ·split
  ·rename_i e; subst e
   rw [h.2 _ (by omega)]; congr 1; unfold swrI; (repeat' split) <;> omega
  ·rw [h.2 _ hk]; congr 1; unfold swrI; (repeat' split) <;> omega
theorem rot_gt {i j m k : Nat} (hi : i ≤ m) (hij : j < i) : swrI (m - i) m j (rotI (m - (i - j)) m (m + j) k) = rotI (m - i) m (m + j) k := by
 unfold swrI rotI; (repeat' split) <;> omega
theorem rot_lt {i j m k : Nat} (hi : i ≤ m) (hij : i < j) : swrI (m - i) (m + j - i) i (rotI (m - i) m (m + (j - i)) k) = rotI (m - i) m (m + j) k := by
 unfold swrI rotI; (repeat' split) <;> omega
theorem rot_eq {i m k : Nat} (hi : i ≤ m) : swrI (m - i) m i k = rotI (m - i) m (m + i) k := by
 unfold swrI rotI; (repeat' split) <;> omega
theorem rot_up {d dk : Array α} {a k i : Nat} (h : Moved d dk (rotI a (a + 1) (k + 1))) (hk : a ≤ k) (hi : k + 1 < i) (hs : i ≤ d.size) : Moved d (swp dk k (k + 1)) (rotI a (a + 1) (k + 2)) := by
 refine ⟨by rw [size_swp, h.1], fun q hq => ?_⟩
 rw [swp_get dk (i := k) (j := k + 1) (by rw [h.1]; omega) (by rw [h.1]; omega)]
 split
 ·rename_i e; subst e
  rw [h.2 _ (by omega)]; congr 1; unfold rotI; (repeat' split) <;> omega
 ·split
  ·rename_i e; subst e
   rw [h.2 _ (by omega)]; congr 1; unfold rotI; (repeat' split) <;> omega
  ·rw [h.2 _ hq]; congr 1; unfold rotI; (repeat' split) <;> omega
theorem rot_down {d dk : Array α} {m k : Nat} (h : Moved d dk (rotI k m (m + 1))) (hk : 0 < k) (hkm : k ≤ m) (hs : m < d.size) : Moved d (swp dk k (k - 1)) (rotI (k - 1) m (m + 1)) := by
 refine ⟨by rw [size_swp, h.1], fun q hq => ?_⟩
 rw [swp_get dk (i := k) (j := k - 1) (by rw [h.1]; omega) (by rw [h.1]; omega)]
 split
 ·rename_i e; subst e
  rw [h.2 _ (by omega)]; congr 1; unfold rotI; (repeat' split) <;> omega
 ·split
  ·rename_i e; subst e
   rw [h.2 _ (by omega)]; congr 1; unfold rotI; (repeat' split) <;> omega
  ·rw [h.2 _ hq]; congr 1; unfold rotI; (repeat' split) <;> omega
theorem sorted_halves {a c b : Nat} {d : Array α} (h1 : SortedIn lt a c d) (h2 : SortedIn lt c b d) (hx : ∀ i j, a ≤ i → i < c → c ≤ j → j < b → lt d[j]! d[i]! = false) : SortedIn lt a b d := by
 intro i j hi hij hj
 by_cases h : j < c
 ·exact h1 i j hi hij h
 ·by_cases h' : i < c
  ·exact hx i j hi h' (by omega) hj
  ·exact h2 i j (by omega) hij hj
structure Cut (lt : α → α → Bool) (a m b s e : Nat) (d : Array α) : Prop where
 p1 : a ≤ s
 p2 : s ≤ m
 p3 : m ≤ e
 p4 : e ≤ b
 p5 : a < s → e < b → lt d[e]! d[s - 1]! = false
 p6 : s < m → m < e → lt d[e - 1]! d[s]! = true
theorem sorted_le (hS : SWO lt) {a b : Nat} {d : Array α} (h : SortedIn lt a b d) {i j : Nat} (hi : a ≤ i) (hij : i ≤ j) (hj : j < b) : lt d[j]! d[i]! = false := by
 by_cases e : i = j
 ·subst e; exact hS.irrefl _
 ·exact h i j hi (by omega) hj
theorem Cut.cross (hS : SWO lt) {a m b s e : Nat} {d d' : Array α} (c : Cut lt a m b s e d) (hb : b ≤ d.size) (h1 : SortedIn lt a m d) (h2 : SortedIn lt m b d) (hm : Moved d d' (rotI s m e)) :
  SortedIn lt a s d' ∧ SortedIn lt s (s + (e - m)) d' ∧ SortedIn lt (s + (e - m)) e d' ∧ SortedIn lt e b d' ∧
   ∀ i j, a ≤ i → i < s + (e - m) → s + (e - m) ≤ j → j < b → lt d'[j]! d'[i]! = false := by
 obtain ⟨k1, k2, k3, k4, k5, k6⟩ := c
 have g1 : ∀ k, k < s → k < d.size → d'[k]! = d[k]! := fun k hk hd => by rw [hm.2 k hd]; congr 1; unfold rotI; (repeat' split) <;> omega
 have g2 : ∀ k, s ≤ k → k < s + (e - m) → d'[k]! = d[m + (k - s)]! := fun k hk hk2 => by rw [hm.2 k (by omega)]; congr 1; unfold rotI; (repeat' split) <;> omega
 have g3 : ∀ k, s + (e - m) ≤ k → k < e → d'[k]! = d[k - (e - m)]! := fun k hk hk2 => by rw [hm.2 k (by omega)]; congr 1; unfold rotI; (repeat' split) <;> omega
 have g4 : ∀ k, e ≤ k → k < b → d'[k]! = d[k]! := fun k hk hk2 => by rw [hm.2 k (by omega)]; congr 1; unfold rotI; (repeat' split) <;> omega
 refine ⟨fun i j hi hij hj => ?_, fun i j hi hij hj => ?_, fun i j hi hij hj => ?_, fun i j hi hij hj => ?_, fun i j hi hi2 hj hj2 => ?_⟩
 ·rw [g1 i (by omega) (by omega), g1 j (by omega) (by omega)]; exact h1 i j hi hij (by omega)
 ·rw [g2 i (by omega) (by omega), g2 j (by omega) (by omega)]; exact h2 _ _ (by omega) (by omega) (by omega)
 ·rw [g3 i (by omega) (by omega), g3 j (by omega) (by omega)]; exact h1 _ _ (by omega) (by omega) (by omega)
 ·rw [g4 i (by omega) (by omega), g4 j (by omega) (by omega)]; exact h2 _ _ (by omega) (by omega) (by omega)
 ·by_cases hi3 : i < s
  ·rw [g1 i hi3 (by omega)]
   by_cases hj3 : j < e
   ·rw [g3 j hj hj3]; exact h1 _ _ hi (by omega) (by omega)
   ·rw [g4 j (by omega) hj2]
    have hle := k5 (by omega) (by omega)
    exact hS.ntrans _ _ _ (hS.ntrans _ _ _ (sorted_le hS h2 (by omega) (by omega) hj2) hle) (sorted_le hS h1 hi (by omega) (by omega))
  ·rw [g2 i (by omega) (by omega)]
   by_cases hj3 : j < e
   ·rw [g3 j hj hj3]
    have hlt := hS.asymmA (k6 (by omega) (by omega))
    exact hS.ntrans _ _ _ (hS.ntrans _ _ _ (sorted_le hS h1 (by omega) (by omega) (by omega)) hlt) (sorted_le hS h2 (by omega) (by omega) (by omega))
   ·rw [g4 j (by omega) hj2]; exact sorted_le hS h2 (by omega) (by omega) hj2
theorem insInner_perm (a i : Nat) : ∀ (j : Nat) (d : Array α), a ≤ j → j ≤ i → i < d.size → PermIn a (i + 1) d (insInner lt a j d)
 | 0, d, _, _, _ => by unfold insInner; exact permIn_refl d a (i + 1)
 | j + 1, d, haj, hji, hb => by
  unfold insInner
  split
  ·rename_i hc
   simp only [Bool.and_eq_true, decide_eq_true_eq] at hc
   exact permIn_trans _ _ _ a (i + 1) (swp_permIn d a (i + 1) (j + 1) j haj (by omega) (by omega) (by omega) (by omega)) (insInner_perm a i j (swp d (j + 1) j) (by omega) (by omega) (by rw [swp_size]; exact hb))
  ·exact permIn_refl d a (i + 1)
theorem insInner_eq {l1 l2 : α → α → Bool} (x : α) (a : Nat) : ∀ (j : Nat) (d : Array α), j < d.size → d[j]! = x → (∀ q, a ≤ q → q < j → l1 x d[q]! = l2 x d[q]!) → insInner l1 a j d = insInner l2 a j d
 | 0, d, _, _, _ => by unfold insInner; rfl
 | j + 1, d, hj, hx, hq => by
  unfold insInner
  rw [hx]
  by_cases h : j + 1 > a
  ·rw [hq j (by omega) (by omega)]
   split
   ·exact insInner_eq x a j (swp d (j + 1) j) (by rw [swp_size]; omega) (by rw [swp_get d hj (by omega)]; simp [hx]) (fun q h1 h2 => by
     rw [swp_get d hj (by omega), if_neg (by omega), if_neg (by omega)]; exact hq q h1 (by omega))
   ·rfl
  ·rw [show decide (j + 1 > a) = false from decide_eq_false h]; rfl
theorem insOuter_eq {l1 l2 : α → α → Bool} (a b : Nat) (D : Array α) (hb : b ≤ D.size) (hq : ∀ p q, a ≤ q → q < p → p < b → l1 D[p]! D[q]! = l2 D[p]! D[q]!) :
  ∀ (n i : Nat) (d : Array α), b - i = n → a ≤ i → i ≤ b → PermIn a i D d → insOuter l1 a b i d = insOuter l2 a b i d
 | 0, i, d, hn, _, hib, _ => by rw [insOuter, if_neg (by omega), insOuter, if_neg (by omega)]
 | n + 1, i, d, hn, hai, hib, hp => by
  have hlt : i < b := by omega
  have hs : d.size = D.size := hp.1
  have u1 : insOuter l1 a b i d = insOuter l1 a b (i + 1) (insInner l1 a i d) := by rw [insOuter, if_pos hlt]
  have u2 : insOuter l2 a b i d = insOuter l2 a b (i + 1) (insInner l2 a i d) := by rw [insOuter, if_pos hlt]
  rw [u1, u2]
  have hdi : d[i]! = D[i]! := hp.2.1 i (.inr (Nat.le_refl _))
  have he : insInner l1 a i d = insInner l2 a i d := insInner_eq D[i]! a i d (by omega) hdi (fun q h1 h2 => permIn_all D d a i (fun y => l1 D[i]! y = l2 D[i]! y) (by omega) hp (fun k k1 k2 => hq i k k1 k2 hlt) q h1 h2)
  rw [he]
  refine insOuter_eq a b D hb hq n (i + 1) _ (by omega) (by omega) (by omega) ?_
  exact permIn_trans _ _ _ a (i + 1) (permIn_mono D d a i a (i + 1) (Nat.le_refl _) (by omega) (by omega) hp) (insInner_perm a i i d hai (Nat.le_refl _) (by omega))
theorem insertionSort_eq {l1 l2 : α → α → Bool} (a b : Nat) (D : Array α) (hb : b ≤ D.size) (hq : ∀ p q, a ≤ q → q < p → p < b → l1 D[p]! D[q]! = l2 D[p]! D[q]!) : insertionSort l1 D a b = insertionSort l2 D a b := by
 unfold insertionSort
 by_cases h : a + 1 ≤ b
 ·refine insOuter_eq a b D hb hq _ (a + 1) D rfl (by omega) h (permIn_refl D a (a + 1))
 ·rw [insOuter, if_neg (by omega), insOuter, if_neg (by omega)]
theorem merge_one_left (hS : SWO lt) {a m b q : Nat} {d d' : Array α} (hm : m = a + 1) (h1 : m ≤ q) (h2 : q ≤ b) (hb : b ≤ d.size) (hs : SortedIn lt m b d) (c1 : q = m ∨ lt d[q - 1]! d[a]! = true) (c2 : q = b ∨ lt d[q]! d[a]! = false)
  (hv : Moved d d' (rotI a m q)) : SortedIn lt a b d' := by
 have g2 : ∀ k, a ≤ k → k < q - 1 → d'[k]! = d[k + 1]! := fun k hk hk2 => by rw [hv.2 k (by omega)]; congr 1; unfold rotI; (repeat' split) <;> omega
 have g3 : d'[q - 1]! = d[a]! := by rw [hv.2 _ (by omega)]; congr 1; unfold rotI; (repeat' split) <;> omega
 have g4 : ∀ k, q ≤ k → k < b → d'[k]! = d[k]! := fun k hk hk2 => by rw [hv.2 k (by omega)]; congr 1; unfold rotI; (repeat' split) <;> omega
 intro i j hi hij hj
 rcases (show i < q - 1 ∨ i = q - 1 ∨ q ≤ i by omega) with h | rfl | h
 ·rw [g2 i hi h]
  rcases (show j < q - 1 ∨ j = q - 1 ∨ q ≤ j by omega) with h' | rfl | h'
  ·rw [g2 j (by omega) h']; exact hs _ _ (by omega) (by omega) (by omega)
  ·rw [g3]
   rcases c1 with c1 | c1
   ·omega
   ·exact hS.ntrans _ _ _ (hS.asymmA c1) (sorted_le hS hs (by omega) (by omega) (by omega))
  ·rw [g4 j h' hj]; exact hs _ _ (by omega) (by omega) (by omega)
 ·rw [g3, g4 j (by omega) hj]
  rcases c2 with c2 | c2
  ·omega
  ·exact hS.ntrans _ _ _ (sorted_le hS hs (by omega) (by omega) hj) c2
 ·rw [g4 i h (by omega), g4 j (by omega) hj]; exact hs _ _ (by omega) hij hj
theorem merge_one_right (hS : SWO lt) {a m b q : Nat} {d d' : Array α} (hm : b = m + 1) (h1 : a ≤ q) (h2 : q ≤ m) (hb : b ≤ d.size) (hs : SortedIn lt a m d) (c1 : q = a ∨ lt d[m]! d[q - 1]! = false) (c2 : q = m ∨ lt d[m]! d[q]! = true)
  (hv : Moved d d' (rotI q m (m + 1))) : SortedIn lt a b d' := by
 have g1 : ∀ k, k < q → d'[k]! = d[k]! := fun k hk => by rw [hv.2 k (by omega)]; congr 1; unfold rotI; (repeat' split) <;> omega
 have g2 : d'[q]! = d[m]! := by rw [hv.2 _ (by omega)]; congr 1; unfold rotI; (repeat' split) <;> omega
 have g3 : ∀ k, q < k → k ≤ m → d'[k]! = d[k - 1]! := fun k hk hk2 => by rw [hv.2 k (by omega)]; congr 1; unfold rotI; (repeat' split) <;> omega
 intro i j hi hij hj
 rcases (show i < q ∨ i = q ∨ q < i by omega) with h | rfl | h
 ·rw [g1 i h]
  rcases (show j < q ∨ j = q ∨ q < j by omega) with h' | rfl | h'
  ·rw [g1 j h']; exact hs _ _ hi hij (by omega)
  ·rw [g2]
   rcases c1 with c1 | c1
   ·omega
   ·exact hS.ntrans _ _ _ c1 (sorted_le hS hs hi (by omega) (by omega))
  ·rw [g3 j h' (by omega)]; exact sorted_le hS hs hi (by omega) (by omega)
 ·rw [g2, g3 j hij (by omega)]
  rcases c2 with c2 | c2
  ·omega
  ·exact hS.ntrans _ _ _ (sorted_le hS hs (by omega) (by omega) (by omega)) (hS.asymmA c2)
 ·rw [g3 i h (by omega), g3 j (by omega) (by omega)]; exact hs _ _ (by omega) (by omega) (by omega)
theorem cut_of {a m b mid n s lo hi : Nat} {d : Array α} (ham : a < m) (hmb : m < b) (hmid : mid = (a + b) / 2) (hn : n = mid + m) (h : (mid < m ∧ lo = n - b ∧ hi = mid) ∨ (m ≤ mid ∧ lo = a ∧ hi = m)) (h1 : lo ≤ s) (h2 : s ≤ hi)
  (c1 : s = lo ∨ lt d[n - s]! d[s - 1]! = false) (c2 : s = hi ∨ lt d[n - 1 - s]! d[s]! = true) : Cut lt a m b s (n - s) d ∧ s + (n - s - m) = mid ∧ a ≤ mid ∧ mid ≤ b := by
 refine ⟨⟨by omega, by omega, by omega, by omega, fun h3 h4 => ?_, fun h3 h4 => ?_⟩, by omega, by omega, by omega⟩
 ·rcases c1 with c1 | c1
  ·omega
  ·exact c1
 ·rcases c2 with c2 | c2
  ·omega
  ·rw [show n - s - 1 = n - 1 - s by omega]; exact c2
end Go.Proofs.YtlambeiafdpkgaaGreat

namespace Go.Proofs.YtlambeiafdpkgaaGreat
open Go Go.RowKit Go.Proofs
set_option maxRecDepth 100000
set_option maxHeartbeats 8000000
theorem ownLt {w : World} {base : Nat} {e : TypeId} {size : Nat} {v : Value} {n : Nat} {xs : List Value} (h : w.ownsRow base e size v n xs) {b : Nat} (hb : some b = v.ownBlock) : base ≤ b ∧ b < w.heap.size := by
 rcases h.2 with ⟨rfl, -⟩ | ⟨g, cap, cur, rfl, h2, h3, -⟩
 ·cases hb
 ·have : b = g := by simpa [Value.ownBlock] using hb
  subst this
  exact ⟨h2, (Array.getElem?_eq_some_iff.1 h3).1⟩
theorem Blk.grew {W W' : World} {n : Nat} {t : TypeId} {cs : Array Value} {o : Option Nat} (h : Blk W n t cs) (hg : W.grownBy W' o) (hne : some n ≠ o) : Blk W' n t cs :=
 (hg.block n h.lt hne).trans h
theorem belowGrew {w w' : World} {base : Nat} {o : Option Nat} (h : w.grownBy w' o) (hb : base ≤ w.heap.size) (ho : ∀ b, some b = o → base ≤ b) : Below base w w' :=
 ⟨h.os, h.tape, h.output, h.size, fun k hk => h.block k (by omega) (fun e => by have := ho k e; omega)⟩
structure SqB (w0 w : World) (v : Value) (i n : Nat) (x : Int) (r : Nat → Nat) : Prop where
 b : Below w0.heap.size w0 w
 o : w.ownsRow w0.heap.size 35 1 v i ((List.range i).map fun k => .slice (some ⟨r k, 0, none⟩) n n)
 rk : ∀ k, k < i → w0.heap.size ≤ r k ∧ Blk w (r k) 3 (List.replicate n (.int .i64 x)).toArray ∧ some (r k) ≠ v.ownBlock
 d : ∀ j, j < i → ∀ k, k < i → r j = r k → j = k
theorem SqB.below {w0 w w' : World} {v : Value} {i n : Nat} {x : Int} {r : Nat → Nat} (h : SqB w0 w v i n x r) (hb : Below w.heap.size w w') : SqB w0 w' v i n x r :=
 ⟨bthen h.b hb, ownsRow_below h.o hb, fun k hk => ⟨(h.rk k hk).1, (h.rk k hk).2.1.below hb, (h.rk k hk).2.2⟩, h.d⟩
theorem SqB.step {w0 w w1 w2 : World} {v v' : Value} {i n g : Nat} {x : Int} {r : Nat → Nat} (h : SqB w0 w v i n x r) (hb : Below w.heap.size w w1) (hg : w.heap.size ≤ g) (hB : Blk w1 g 3 (List.replicate n (.int .i64 x)).toArray)
  (ho : w2.ownsRow w0.heap.size 35 1 v' (i + 1) ((List.range i).map (fun k => .slice (some ⟨r k, 0, none⟩) n n) ++ [.slice (some ⟨g, 0, none⟩) n n])) (hgr : w1.grownBy w2 v.ownBlock) (hv : v'.ownBlock = v.ownBlock ∨ v'.ownBlock = some w1.heap.size) :
  SqB w0 w2 v' (i + 1) n x (fun k => if k = i then g else r k) := by
 have hlt := hB.lt
 have h1 := h.below hb
 have hvo : ∀ b, some b = v.ownBlock → w0.heap.size ≤ b ∧ b < w.heap.size := fun b q => ownLt h.o q
 have hbs := h.b.size
 refine ⟨h1.b.trans (belowGrew hgr h1.b.size (fun b q => (hvo b q).1)), ?_, fun k hk => ?_, fun j hj k hk e => ?_⟩
 ·have e : (List.range (i + 1)).map (fun k => Value.slice (some ⟨(if k = i then g else r k), 0, none⟩) n n) = (List.range i).map (fun k => .slice (some ⟨r k, 0, none⟩) n n) ++ [.slice (some ⟨g, 0, none⟩) n n] := by
   rw [List.range_succ, List.map_append]
   congr 1
   ·refine List.map_congr_left fun k hk => ?_
    rw [if_neg (by have := List.mem_range.1 hk; omega)]
   ·simp
  rw [e]; exact ho
 ·show w0.heap.size ≤ (if k = i then g else r k) ∧ Blk w2 (if k = i then g else r k) 3 _ ∧ some (if k = i then g else r k) ≠ v'.ownBlock
  by_cases e : k = i
  ·rw [if_pos e]
   have hne : some g ≠ v.ownBlock := fun q => by have := (hvo g q).2; omega
   refine ⟨by omega, hB.grew hgr hne, fun q => ?_⟩
   rcases hv with hv | hv
   ·exact hne (q.trans hv)
   ·rw [hv] at q; have := Option.some.inj q; omega
  ·rw [if_neg e]
   obtain ⟨q1, q2, q3⟩ := h1.rk k (by omega)
   refine ⟨q1, q2.grew hgr q3, fun q => ?_⟩
   rcases hv with hv | hv
   ·exact q3 (q.trans hv)
   ·rw [hv] at q; have := Option.some.inj q; have := q2.lt; omega
 ·have hold : ∀ k, k < i → r k < w.heap.size := fun k hk => (h.rk k hk).2.1.lt
  by_cases e1 : j = i
  ·by_cases e2 : k = i
   ·omega
   ·rw [if_pos e1, if_neg e2] at e; have := hold k (by omega); omega
  ·by_cases e2 : k = i
   ·rw [if_neg e1, if_pos e2] at e; have := hold j (by omega); omega
   ·rw [if_neg e1, if_neg e2] at e; exact h.d j (by omega) k (by omega) e
end Go.Proofs.YtlambeiafdpkgaaGreat

namespace Go.Proofs.YtlambeiafdpkgaaGreat
open Go Go.RowKit Go.Proofs
set_option maxRecDepth 100000
set_option maxHeartbeats 4000000
structure Look where
 T : Tbl
 xl : Int
 xh : Int
 yl : Int
 yh : Int
def Look.on (k : Look) : Bool := lkE k.T k.xl k.xh k.yl k.yh
end Go.Proofs.YtlambeiafdpkgaaGreat

namespace Go.Proofs.YtlambeiafdpkgaaGreat
open Go Go.RowKit Go.Proofs
set_option maxRecDepth 100000
set_option maxHeartbeats 4000000
end Go.Proofs.YtlambeiafdpkgaaGreat
