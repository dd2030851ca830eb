/- Contract of weather.cut: a span is cut by another one, in place. -/
import Derived.Test.YtfcjblnebaemgaaGreatWeA
import Derived.Test.YtfcjblnebaemgaaGreatRgL
import Derived.Test.YtfcjblnebaemgaaGreatKR
set_option linter.all false
namespace Go.Proofs.YtfcjblnebaemgaaGreat
open Go Go.RowKit Go.Proofs
set_option maxRecDepth 100000
set_option maxHeartbeats 4000000

def cuL (al ah bl bh : Int) : Int := if max al bl ≤ min ah bh then max al bl else bl
def cuH (al ah bl bh : Int) : Int := if max al bl ≤ min ah bh then min ah bh else bh
def cuF (al ah bl bh : Int) : Bool := !decide (max al bl ≤ min ah bh)

def cutR (w0 : Nat) (g o : Nat) (al ah bl bh ml mh me : Int) : Nat → Value → World → Prop
  | 0, v, _ => v = .pointer (some ⟨g, o, none⟩)
  | 1, v, _ => v = .pointer (some ⟨g, o, none⟩)
  | 2, v, _ => v = .agg #[.int .i64 al, .int .i64 ah]
  | 3, v, _ => v = .agg #[.int .i64 bl, .int .i64 bh]
  | 4, v, _ => v = .tuple #[.agg #[.int .i64 ml, .int .i64 mh], .int .i64 me]
  | 5, v, _ => v = .tuple #[.agg #[.int .i64 ml, .int .i64 mh], .int .i64 me]
  | 6, v, _ => v = .agg #[.int .i64 ml, .int .i64 mh]
  | 7, v, _ => v = .int .i64 me
  | 8, v, w => NewBlk w0 23 #[.int .i64 0, .int .i64 0] v w
  | _, _, _ => True
theorem cutR_below {w0 : Nat} {g o : Nat} {al ah bl bh ml mh me : Int} (k : Nat) (v : Value) (w w' : World) (hb : Below w.heap.size w w') (h : cutR w0 g o al ah bl bh ml mh me k v w) : cutR w0 g o al ah bl bh ml mh me k v w' := by
  unfold cutR at *
  split at h <;> first | exact h | exact NewBlk.below hb h

theorem cut_c (g o : Nat) (al ah bl bh : Int) (w : World) (ha : vspan al ah = true) (hb : vspan bl bh = true) (h0 : w.cell? ⟨g, o, none⟩ = some (.int .i64 al)) (h1 : w.cell? ⟨g, o + 1, none⟩ = some (.int .i64 ah))
    (f0 : w.frozen? ⟨g, o, none⟩ = false) (f1 : w.frozen? ⟨g, o + 1, none⟩ = false) :
   Calls Tryz.prog 71 #[.pointer (some ⟨g, o, none⟩), .agg #[.int .i64 bl, .int .i64 bh]] w fun e w' => e = .returned (.bool (cuF al ah bl bh)) ∧
     ∃ wm, Below w.heap.size w wm ∧ w' = (wm.setCell ⟨g, o, none⟩ (.int .i64 (cuL al ah bl bh))).setCell ⟨g, o + 1, none⟩ (.int .i64 (cuH al ah bl bh)) := by
  have hg : g < w.heap.size := blk_lt h0
  have HG := Lib.hid (And.intro (fun w1 (h : Below w.heap.size w w1) => (h.cell (p := ⟨g, o, none⟩) hg).trans h0) (And.intro (fun w1 (h : Below w.heap.size w w1) => (h.cell (p := ⟨g, o + 1, none⟩) hg).trans h1)
    (And.intro (fun w1 (h : Below w.heap.size w w1) => (h.frozen (p := ⟨g, o, none⟩) hg).trans f0) (fun w1 (h : Below w.heap.size w w1) => (h.frozen (p := ⟨g, o + 1, none⟩) hg).trans f1))))
  have hm := fun w1 => Meet_c al ah bl bh w1 ha hb
  unfold cuL cuH cuF
  clear h0 h1 f0 f1 ha hb
  unfold meL meH meE at hm
  by_cases h : max al bl ≤ min ah bh
  · rw [if_pos h, if_pos h, if_pos h] at hm
    rw [if_pos h, if_pos h, show (!decide (max al bl ≤ min ah bh)) = false by simp [h]]
    generalize max al bl = ml at *
    generalize min ah bh = mh at *
    have HM := Lib.hid hm
    clear hm h
    go_enter Tryz.func71, Tryz.ntmps71
    go_wp2_with (fail)
    have bHX : Blk (w.alloc (.cells #[.int .i64 bl, .int .i64 bh] 23)) (w.heap.size) 23 #[.int .i64 bl, .int .i64 bh] := (by repeat (first | (refine Blk.newAt _ _ _ ?_; first | rfl | (simp; done)) | refine Blk.alloc ?_ _))
    have bHB : Below w.heap.size w (w.alloc (.cells #[.int .i64 bl, .int .i64 bh] 23)) := (by repeat' (first | exact Below.refl _ _ | assumption | refine Below.drew ?_ | refine bdn ?_ _ | refine bal ?_ _ | refine Below.setCell ?_ (by first | (simp; done) | omega | (simp; omega)) _))
    generalize (w.alloc (.cells #[.int .i64 bl, .int .i64 bh] 23)) = W at *
    have zW := bHX.lt
    have HX := Lib.hid bHX
    have HB := Lib.hid bHB
    clear bHX bHB
    refine wp_region_specL 9 [7] (cutR W.heap.size g o al ah bl bh ml mh 0) (fun i => decide (i = 8)) (by kernel_rfl) (by kernel_rfl) (by decide) cutR_below ?hop1 ?htail1
    case hop1 =>
      simp only [List.take_succ_cons, List.take_zero, allOps]
      refine ⟨?_, ?_, ?_, ?_, ?_, ?_, ?_, ?_, ?_, trivial⟩
      all_goals intro u A w1 hA hb hd
      all_goals simp only [putAll, dstOf, List.getElem?_toArray, List.getElem?_cons_succ, List.getElem?_cons_zero, Option.bind_some, Option.bind, Act.put, List.setIfInBounds_toArray, List.set_cons_succ, List.set_cons_zero] at hA; subst hA
      all_goals have HB1 := Lib.hid hb
      · refine OpOk.now rfl ?_
        clear hb hd
        go_wp2
        exact ⟨_, rfl, Below.refl _ _, rfl, fun h => absurd h (by decide)⟩
      · refine OpOk.now rfl ?_
        have d0 : u 0 = _ := hd 0 (by omega) (by kernel_rfl)
        clear hb hd
        rw [d0]
        clear d0
        go_wp2
        exact ⟨_, rfl, Below.refl _ _, rfl, fun h => absurd h (by decide)⟩
      · refine OpOk.now rfl ?_
        have d1 : u 1 = _ := hd 1 (by omega) (by kernel_rfl)
        clear hb hd
        rw [d1]
        clear d1
        have c0 := HG.out.1 _ (bthen HB.out HB1.out)
        have c1 := HG.out.2.1 _ (bthen HB.out HB1.out)
        go_wp2
        exact ⟨_, rfl, Below.refl _ _, rfl, fun h => absurd h (by decide)⟩
      · refine OpOk.now rfl ?_
        clear hb hd
        have c0 := (HX.out.below HB1.out).cell 0
        have c1 := (HX.out.below HB1.out).cell 1
        go_wp2
        exact ⟨_, rfl, Below.refl _ _, rfl, fun h => absurd h (by decide)⟩
      · refine OpOk.now rfl ?_
        have d2 : u 2 = _ := hd 2 (by omega) (by kernel_rfl)
        have d3 : u 3 = _ := hd 3 (by omega) (by kernel_rfl)
        clear hb hd
        rw [d2, d3]
        clear d2 d3
        go_wp2_with (go_at_call 87; (with_reducible refine (HM.out _).mono ?_); rintro e w2 ⟨rfl, hb2⟩)
        exact ⟨_, rfl, hb2, rfl, fun h => absurd h (by decide)⟩
      · refine OpOk.now rfl ?_
        have d4 : u 4 = _ := hd 4 (by omega) (by kernel_rfl)
        clear hb hd
        rw [d4]
        clear d4
        go_wp2
        exact ⟨_, rfl, Below.refl _ _, rfl, fun h => absurd h (by decide)⟩
      · refine OpOk.now rfl ?_
        have d5 : u 5 = _ := hd 5 (by omega) (by kernel_rfl)
        clear hb hd
        rw [d5]
        clear d5
        go_wp2
        exact ⟨_, rfl, Below.refl _ _, rfl, fun h => absurd h (by decide)⟩
      · have d5 : u 5 = _ := hd 5 (by omega) (by kernel_rfl)
        clear hb hd
        rw [d5]
        clear d5
        refine OpOk.late rfl ?_
        exact ⟨_, yields_extract rfl _ _ rfl _ rfl _ rfl, rfl⟩
      · refine OpOk.now rfl ?_
        have zz := hb.size
        clear hb hd
        go_wp2
        exact ⟨_, rfl, bal (Below.refl _ _) _, ⟨_, rfl, by omega, Blk.new _ _ _⟩, fun _ => ⟨_, rfl, Nat.le_refl _, by simp⟩⟩
    case htail1 =>
      intro u A w1 hA hb hd hf
      simp only [putAll, dstOf, List.getElem?_toArray, List.getElem?_cons_succ, List.getElem?_cons_zero, Option.bind_some, Option.bind, Act.put, List.setIfInBounds_toArray, List.set_cons_succ, List.set_cons_zero] at hA; subst hA
      have e0 : u 0 = _ := hd 0 (by omega)
      have e1 : u 1 = _ := hd 1 (by omega)
      have e2 : u 2 = _ := hd 2 (by omega)
      have e3 : u 3 = _ := hd 3 (by omega)
      have e4 : u 4 = _ := hd 4 (by omega)
      have e5 : u 5 = _ := hd 5 (by omega)
      have e6 : u 6 = _ := hd 6 (by omega)
      have e7 : u 7 = _ := hd 7 (by omega)
      obtain ⟨g8, e8, z8, b8⟩ := hd 8 (by omega)
      first | rw [e0, e1, e2, e3, e4, e5, e6, e7, e8] | simp only [e0, e1, e2, e3, e4, e5, e6, e7, e8]
      clear e0 e1 e2 e3 e4 e5 e6 e7 e8
      clear hd hf
      have nHX := Lib.hid (HX.out.below hb)
      have nHB := Lib.hid (bthen HB.out hb)
      have zz := hb.size
      have HZ := Lib.hid b8
      have x0 := b8.cell 0
      have x1 := b8.cell 1
      have x2 := fun i => b8.frozen i
      clear hb b8 HX HB
      go_wp2
      dsimp only [NoPanic]
      have HZ2 := Lib.hid ((HZ.out.set_ 0 (.int .i64 ml)).set_ 1 (.int .i64 mh))
      have HX2 := Lib.hid ((nHX.out.far' (f := g8) (by omega) (i := 0) (.int .i64 ml)).far' (f := g8) (by omega) (i := 1) (.int .i64 mh))
      have HB := Lib.hid (bset (bset nHB.out (g := g8) (by omega) (i := 0) (.int .i64 ml)) (g := g8) (by omega) (i := 1) (.int .i64 mh))
      clear x0 x1 x2 HZ nHX nHB
      generalize (w1.setCell ⟨g8, 0, none⟩ (.int .i64 ml)).setCell ⟨g8, 1, none⟩ (.int .i64 mh) = W3 at *
      have x0 := HX2.out.cell 0
      have x1 := HX2.out.cell 1
      have z0 := HZ2.out.cell 0
      have z1 := HZ2.out.cell 1
      have c0 := HG.out.1 _ HB.out
      have c1 := HG.out.2.1 _ HB.out
      have f0 := HG.out.2.2.1 _ HB.out
      have f1 := HG.out.2.2.2 _ HB.out
      simp at x0 x1 z0 z1
      go_wp2
      go_ret
      exact ⟨rfl, W3, HB.out, rfl⟩
  · rw [if_neg h, if_neg h, if_neg h] at hm
    rw [if_neg h, if_neg h, show (!decide (max al bl ≤ min ah bh)) = true by simp [h]]
    clear h
    have HM := Lib.hid hm
    clear hm
    go_enter Tryz.func71, Tryz.ntmps71
    go_wp2_with (fail)
    have bHX : Blk (w.alloc (.cells #[.int .i64 bl, .int .i64 bh] 23)) (w.heap.size) 23 #[.int .i64 bl, .int .i64 bh] := (by repeat (first | (refine Blk.newAt _ _ _ ?_; first | rfl | (simp; done)) | refine Blk.alloc ?_ _))
    have bHB : Below w.heap.size w (w.alloc (.cells #[.int .i64 bl, .int .i64 bh] 23)) := (by repeat' (first | exact Below.refl _ _ | assumption | refine Below.drew ?_ | refine bdn ?_ _ | refine bal ?_ _ | refine Below.setCell ?_ (by first | (simp; done) | omega | (simp; omega)) _))
    generalize (w.alloc (.cells #[.int .i64 bl, .int .i64 bh] 23)) = W at *
    have zW := bHX.lt
    have HX := Lib.hid bHX
    have HB := Lib.hid bHB
    clear bHX bHB
    refine wp_region_specL 9 [7] (cutR W.heap.size g o al ah bl bh (0 : Int) (0 : Int) 3) (fun i => decide (i = 8)) (by kernel_rfl) (by kernel_rfl) (by decide) cutR_below ?hop2 ?htail2
    case hop2 =>
      simp only [List.take_succ_cons, List.take_zero, allOps]
      refine ⟨?_, ?_, ?_, ?_, ?_, ?_, ?_, ?_, ?_, trivial⟩
      all_goals intro u A w1 hA hb hd
      all_goals simp only [putAll, dstOf, List.getElem?_toArray, List.getElem?_cons_succ, List.getElem?_cons_zero, Option.bind_some, Option.bind, Act.put, List.setIfInBounds_toArray, List.set_cons_succ, List.set_cons_zero] at hA; subst hA
      all_goals have HB1 := Lib.hid hb
      · refine OpOk.now rfl ?_
        clear hb hd
        go_wp2
        exact ⟨_, rfl, Below.refl _ _, rfl, fun h => absurd h (by decide)⟩
      · refine OpOk.now rfl ?_
        have d0 : u 0 = _ := hd 0 (by omega) (by kernel_rfl)
        clear hb hd
        rw [d0]
        clear d0
        go_wp2
        exact ⟨_, rfl, Below.refl _ _, rfl, fun h => absurd h (by decide)⟩
      · refine OpOk.now rfl ?_
        have d1 : u 1 = _ := hd 1 (by omega) (by kernel_rfl)
        clear hb hd
        rw [d1]
        clear d1
        have c0 := HG.out.1 _ (bthen HB.out HB1.out)
        have c1 := HG.out.2.1 _ (bthen HB.out HB1.out)
        go_wp2
        exact ⟨_, rfl, Below.refl _ _, rfl, fun h => absurd h (by decide)⟩
      · refine OpOk.now rfl ?_
        clear hb hd
        have c0 := (HX.out.below HB1.out).cell 0
        have c1 := (HX.out.below HB1.out).cell 1
        go_wp2
        exact ⟨_, rfl, Below.refl _ _, rfl, fun h => absurd h (by decide)⟩
      · refine OpOk.now rfl ?_
        have d2 : u 2 = _ := hd 2 (by omega) (by kernel_rfl)
        have d3 : u 3 = _ := hd 3 (by omega) (by kernel_rfl)
        clear hb hd
        rw [d2, d3]
        clear d2 d3
        go_wp2_with (go_at_call 87; (with_reducible refine (HM.out _).mono ?_); rintro e w2 ⟨rfl, hb2⟩)
        exact ⟨_, rfl, hb2, rfl, fun h => absurd h (by decide)⟩
      · refine OpOk.now rfl ?_
        have d4 : u 4 = _ := hd 4 (by omega) (by kernel_rfl)
        clear hb hd
        rw [d4]
        clear d4
        go_wp2
        exact ⟨_, rfl, Below.refl _ _, rfl, fun h => absurd h (by decide)⟩
      · refine OpOk.now rfl ?_
        have d5 : u 5 = _ := hd 5 (by omega) (by kernel_rfl)
        clear hb hd
        rw [d5]
        clear d5
        go_wp2
        exact ⟨_, rfl, Below.refl _ _, rfl, fun h => absurd h (by decide)⟩
      · have d5 : u 5 = _ := hd 5 (by omega) (by kernel_rfl)
        clear hb hd
        rw [d5]
        clear d5
        refine OpOk.late rfl ?_
        exact ⟨_, yields_extract rfl _ _ rfl _ rfl _ rfl, rfl⟩
      · refine OpOk.now rfl ?_
        have zz := hb.size
        clear hb hd
        go_wp2
        exact ⟨_, rfl, bal (Below.refl _ _) _, ⟨_, rfl, by omega, Blk.new _ _ _⟩, fun _ => ⟨_, rfl, Nat.le_refl _, by simp⟩⟩
    case htail2 =>
      intro u A w1 hA hb hd hf
      simp only [putAll, dstOf, List.getElem?_toArray, List.getElem?_cons_succ, List.getElem?_cons_zero, Option.bind_some, Option.bind, Act.put, List.setIfInBounds_toArray, List.set_cons_succ, List.set_cons_zero] at hA; subst hA
      have e0 : u 0 = _ := hd 0 (by omega)
      have e1 : u 1 = _ := hd 1 (by omega)
      have e2 : u 2 = _ := hd 2 (by omega)
      have e3 : u 3 = _ := hd 3 (by omega)
      have e4 : u 4 = _ := hd 4 (by omega)
      have e5 : u 5 = _ := hd 5 (by omega)
      have e6 : u 6 = _ := hd 6 (by omega)
      have e7 : u 7 = _ := hd 7 (by omega)
      obtain ⟨g8, e8, z8, b8⟩ := hd 8 (by omega)
      first | rw [e0, e1, e2, e3, e4, e5, e6, e7, e8] | simp only [e0, e1, e2, e3, e4, e5, e6, e7, e8]
      clear e0 e1 e2 e3 e4 e5 e6 e7 e8
      clear hd hf
      have nHX := Lib.hid (HX.out.below hb)
      have nHB := Lib.hid (bthen HB.out hb)
      have zz := hb.size
      have HZ := Lib.hid b8
      have x0 := b8.cell 0
      have x1 := b8.cell 1
      have x2 := fun i => b8.frozen i
      clear hb b8 HX HB
      go_wp2
      dsimp only [NoPanic]
      have HZ2 := Lib.hid ((HZ.out.set_ 0 (.int .i64 (0 : Int))).set_ 1 (.int .i64 (0 : Int)))
      have HX2 := Lib.hid ((nHX.out.far' (f := g8) (by omega) (i := 0) (.int .i64 (0 : Int))).far' (f := g8) (by omega) (i := 1) (.int .i64 (0 : Int)))
      have HB := Lib.hid (bset (bset nHB.out (g := g8) (by omega) (i := 0) (.int .i64 (0 : Int))) (g := g8) (by omega) (i := 1) (.int .i64 (0 : Int)))
      clear x0 x1 x2 HZ nHX nHB
      generalize (w1.setCell ⟨g8, 0, none⟩ (.int .i64 (0 : Int))).setCell ⟨g8, 1, none⟩ (.int .i64 (0 : Int)) = W3 at *
      have x0 := HX2.out.cell 0
      have x1 := HX2.out.cell 1
      have z0 := HZ2.out.cell 0
      have z1 := HZ2.out.cell 1
      have c0 := HG.out.1 _ HB.out
      have c1 := HG.out.2.1 _ HB.out
      have f0 := HG.out.2.2.1 _ HB.out
      have f1 := HG.out.2.2.2 _ HB.out
      simp at x0 x1 z0 z1
      go_wp2
      go_ret
      exact ⟨rfl, W3, HB.out, rfl⟩
end Go.Proofs.YtfcjblnebaemgaaGreat
