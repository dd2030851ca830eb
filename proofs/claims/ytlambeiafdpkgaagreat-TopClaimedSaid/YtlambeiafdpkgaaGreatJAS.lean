/- Texts joined: JAS. -/
import Derived.Test.YtlambeiafdpkgaaGreatJAQ
import Derived.Test.YtlambeiafdpkgaaGreatJAR
import Derived.Test.YtlambeiafdpkgaaGreatJAG
import Derived.Test.YtlambeiafdpkgaaGreatJAO
set_option linter.all false
namespace Go.Proofs.YtlambeiafdpkgaaGreat
open Go Go.RowKit Go.Proofs
set_option maxRecDepth 100000
set_option maxHeartbeats 8000000
def appE (M : MetD) (a : AppD) : Int := if inB a.size 1 1000000 then (if inB a.weight 1 1000000 then (if opE M a.lw a.ls a.lc a.place 0 = 0 then (if insB a.lo a.hi 719 then 0 else 62) else 62) else 62) else 62
theorem dapproach_c (D : DekD) (vA vB vC : Value) (M : MetD) (vF vS vP vR vV : Value) (a : AppD) (w : World) (hA : MetAt w vF vS M) :
  Calls Tryz.prog 46 #[.agg #[.int .i64 D.size, .int .i64 D.load, .int .i64 D.wind, vA, .int .i64 D.pitch, .int .i64 D.roll, .int .i64 D.heave, .int .i64 D.fire, vB, vC, .int .i64 M.places, .int .i64 M.any.a0, .int .i64 M.any.a1, .int .i64 M.any.a2, .int .i64 M.any.a3, .int .i64 M.any.a4, .int .i64 M.any.a5, .bool M.any.i, .bool M.any.s, .int .i64 M.mw, .int .i64 M.ms, .int .i64 M.mc, vF, vS, vP, vR, vV], .agg #[.int .i64 a.size, .int .i64 a.weight, .int .i64 a.lw, .int .i64 a.ls, .int .i64 a.lc, .bool a.li, .bool a.lt, .int .i64 a.place, .int .i64 a.lo, .int .i64 a.hi]] w fun e w' => e = .returned (.int .i64 (appE M a)) ∧ Below w.heap.size w w' := by
 have HA := hI9 hA
 have hop := fun w1 h => wOpen_c M vF vS a.lw a.ls a.lc a.li a.lt a.place 0 w1 h
 have hdi := fun w1 => ddirs_c a.lo a.hi w1
 clear hA
 unfold appE
 generalize openV M a.lw a.ls a.lc a.li a.lt a.place 0 = V at *
 cases b0 : inB a.size 1 1000000
 ·rw [if_neg (by decide)]
  generalize opE M a.lw a.ls a.lc a.place 0 = E at *
  have HOP := hI9 hop
  have HDI := hI9 hdi
  clear hop hdi
  go_enter Tryz.func46, Tryz.ntmps46
  go_wp2_with (fail)
  have _x := frm2 w #[.int .i64 D.size, .int .i64 D.load, .int .i64 D.wind, vA, .int .i64 D.pitch, .int .i64 D.roll, .int .i64 D.heave, .int .i64 D.fire, vB, vC, .int .i64 M.places, .int .i64 M.any.a0, .int .i64 M.any.a1, .int .i64 M.any.a2, .int .i64 M.any.a3, .int .i64 M.any.a4, .int .i64 M.any.a5, .bool M.any.i, .bool M.any.s, .int .i64 M.mw, .int .i64 M.ms, .int .i64 M.mc, vF, vS, vP, vR, vV] 98 #[.int .i64 a.size, .int .i64 a.weight, .int .i64 a.lw, .int .i64 a.ls, .int .i64 a.lc, .bool a.li, .bool a.lt, .int .i64 a.place, .int .i64 a.lo, .int .i64 a.hi] 43
  have HX := hI9 _x.1
  have HY := hI9 _x.2.1
  have HB := hI9 _x.2.2.1
  have zW := _x.2.2.2
  clear _x
  generalize World.alloc (World.alloc w _) _ = W at *
  have zHY := HY.out.lt
  have cHY2 := HY.out.cell 2
  have cHY3 := HY.out.cell 3
  have cHY4 := HY.out.cell 4
  have cHY5 := HY.out.cell 5
  have cHY6 := HY.out.cell 6
  have cHY7 := HY.out.cell 7
  go_wp2_with (first | (refine wpl_mid rfl 34 _ rfl w.heap.size 10 rfl 98 _ #[.int .i64 M.places, .int .i64 M.any.a0, .int .i64 M.any.a1, .int .i64 M.any.a2, .int .i64 M.any.a3, .int .i64 M.any.a4, .int .i64 M.any.a5, .bool M.any.i, .bool M.any.s, .int .i64 M.mw, .int .i64 M.ms, .int .i64 M.mc, vF, vS] 14 HX.out Tryz.rowMet [.int .i64 D.size, .int .i64 D.load, .int .i64 D.wind, vA, .int .i64 D.pitch, .int .i64 D.roll, .int .i64 D.heave, .int .i64 D.fire, vB, vC] [vP, vR, vV] rfl rfl rfl ?_; simp only [Act.put]) | (go_at_call 11; (with_reducible refine (HOP.out _ (HA.out.below HB.out)).mono ?_); rintro e w1 ⟨rfl, hb1⟩; have nHX := hI9 (HX.out.below hb1); have nHY := hI9 (HY.out.below hb1); have nHB := hI9 (bthen HB.out hb1); have zz1 := hb1.size; clear HX HY HB hb1; have HX := nHX; have HY := nHY; have HB := nHB; clear nHX nHY nHB; (try clear zHY); have zHY := HY.out.lt; (try clear cHY0); have cHY0 := HY.out.cell 0; (try clear cHY1); have cHY1 := HY.out.cell 1; (try clear cHY8); have cHY8 := HY.out.cell 8; (try clear cHY9); have cHY9 := HY.out.cell 9) | (go_at_call 34; (with_reducible refine (dwithin_c _ _ _ _).mono ?_); rintro e w1 ⟨rfl, rfl⟩) | (go_at_call 95; (with_reducible refine (HDI.out _).mono ?_); rintro e w1 ⟨rfl, hb1⟩; have nHX := hI9 (HX.out.below hb1); have nHY := hI9 (HY.out.below hb1); have nHB := hI9 (bthen HB.out hb1); have zz1 := hb1.size; clear HX HY HB hb1; have HX := nHX; have HY := nHY; have HB := nHB; clear nHX nHY nHB))
  go_ret
  exact ⟨rfl, HB.out⟩
 rw [if_pos rfl]
 cases b1 : inB a.weight 1 1000000
 ·rw [if_neg (by decide)]
  generalize opE M a.lw a.ls a.lc a.place 0 = E at *
  have HOP := hI9 hop
  have HDI := hI9 hdi
  clear hop hdi
  go_enter Tryz.func46, Tryz.ntmps46
  go_wp2_with (fail)
  have _x := frm2 w #[.int .i64 D.size, .int .i64 D.load, .int .i64 D.wind, vA, .int .i64 D.pitch, .int .i64 D.roll, .int .i64 D.heave, .int .i64 D.fire, vB, vC, .int .i64 M.places, .int .i64 M.any.a0, .int .i64 M.any.a1, .int .i64 M.any.a2, .int .i64 M.any.a3, .int .i64 M.any.a4, .int .i64 M.any.a5, .bool M.any.i, .bool M.any.s, .int .i64 M.mw, .int .i64 M.ms, .int .i64 M.mc, vF, vS, vP, vR, vV] 98 #[.int .i64 a.size, .int .i64 a.weight, .int .i64 a.lw, .int .i64 a.ls, .int .i64 a.lc, .bool a.li, .bool a.lt, .int .i64 a.place, .int .i64 a.lo, .int .i64 a.hi] 43
  have HX := hI9 _x.1
  have HY := hI9 _x.2.1
  have HB := hI9 _x.2.2.1
  have zW := _x.2.2.2
  clear _x
  generalize World.alloc (World.alloc w _) _ = W at *
  have zHY := HY.out.lt
  have cHY2 := HY.out.cell 2
  have cHY3 := HY.out.cell 3
  have cHY4 := HY.out.cell 4
  have cHY5 := HY.out.cell 5
  have cHY6 := HY.out.cell 6
  have cHY7 := HY.out.cell 7
  go_wp2_with (first | (refine wpl_mid rfl 34 _ rfl w.heap.size 10 rfl 98 _ #[.int .i64 M.places, .int .i64 M.any.a0, .int .i64 M.any.a1, .int .i64 M.any.a2, .int .i64 M.any.a3, .int .i64 M.any.a4, .int .i64 M.any.a5, .bool M.any.i, .bool M.any.s, .int .i64 M.mw, .int .i64 M.ms, .int .i64 M.mc, vF, vS] 14 HX.out Tryz.rowMet [.int .i64 D.size, .int .i64 D.load, .int .i64 D.wind, vA, .int .i64 D.pitch, .int .i64 D.roll, .int .i64 D.heave, .int .i64 D.fire, vB, vC] [vP, vR, vV] rfl rfl rfl ?_; simp only [Act.put]) | (go_at_call 11; (with_reducible refine (HOP.out _ (HA.out.below HB.out)).mono ?_); rintro e w1 ⟨rfl, hb1⟩; have nHX := hI9 (HX.out.below hb1); have nHY := hI9 (HY.out.below hb1); have nHB := hI9 (bthen HB.out hb1); have zz1 := hb1.size; clear HX HY HB hb1; have HX := nHX; have HY := nHY; have HB := nHB; clear nHX nHY nHB; (try clear zHY); have zHY := HY.out.lt; (try clear cHY0); have cHY0 := HY.out.cell 0; (try clear cHY1); have cHY1 := HY.out.cell 1; (try clear cHY8); have cHY8 := HY.out.cell 8; (try clear cHY9); have cHY9 := HY.out.cell 9) | (go_at_call 34; (with_reducible refine (dwithin_c _ _ _ _).mono ?_); rintro e w1 ⟨rfl, rfl⟩) | (go_at_call 95; (with_reducible refine (HDI.out _).mono ?_); rintro e w1 ⟨rfl, hb1⟩; have nHX := hI9 (HX.out.below hb1); have nHY := hI9 (HY.out.below hb1); have nHB := hI9 (bthen HB.out hb1); have zz1 := hb1.size; clear HX HY HB hb1; have HX := nHX; have HY := nHY; have HB := nHB; clear nHX nHY nHB))
  go_ret
  exact ⟨rfl, HB.out⟩
 rw [if_pos rfl]
 by_cases he : opE M a.lw a.ls a.lc a.place 0 = 0
 ·rw [if_pos he]
  rw [he] at hop
  have HOP := hI9 hop
  cases hb : insB a.lo a.hi 719
  ·rw [hb] at hdi
   have HDI := hI9 hdi
   clear hop hdi he hb
   rw [if_neg (by decide)]
   go_enter Tryz.func46, Tryz.ntmps46
   go_wp2_with (fail)
   have _x := frm2 w #[.int .i64 D.size, .int .i64 D.load, .int .i64 D.wind, vA, .int .i64 D.pitch, .int .i64 D.roll, .int .i64 D.heave, .int .i64 D.fire, vB, vC, .int .i64 M.places, .int .i64 M.any.a0, .int .i64 M.any.a1, .int .i64 M.any.a2, .int .i64 M.any.a3, .int .i64 M.any.a4, .int .i64 M.any.a5, .bool M.any.i, .bool M.any.s, .int .i64 M.mw, .int .i64 M.ms, .int .i64 M.mc, vF, vS, vP, vR, vV] 98 #[.int .i64 a.size, .int .i64 a.weight, .int .i64 a.lw, .int .i64 a.ls, .int .i64 a.lc, .bool a.li, .bool a.lt, .int .i64 a.place, .int .i64 a.lo, .int .i64 a.hi] 43
   have HX := hI9 _x.1
   have HY := hI9 _x.2.1
   have HB := hI9 _x.2.2.1
   have zW := _x.2.2.2
   clear _x
   generalize World.alloc (World.alloc w _) _ = W at *
   have zHY := HY.out.lt
   have cHY2 := HY.out.cell 2
   have cHY3 := HY.out.cell 3
   have cHY4 := HY.out.cell 4
   have cHY5 := HY.out.cell 5
   have cHY6 := HY.out.cell 6
   have cHY7 := HY.out.cell 7
   go_wp2_with (first | (refine wpl_mid rfl 34 _ rfl w.heap.size 10 rfl 98 _ #[.int .i64 M.places, .int .i64 M.any.a0, .int .i64 M.any.a1, .int .i64 M.any.a2, .int .i64 M.any.a3, .int .i64 M.any.a4, .int .i64 M.any.a5, .bool M.any.i, .bool M.any.s, .int .i64 M.mw, .int .i64 M.ms, .int .i64 M.mc, vF, vS] 14 HX.out Tryz.rowMet [.int .i64 D.size, .int .i64 D.load, .int .i64 D.wind, vA, .int .i64 D.pitch, .int .i64 D.roll, .int .i64 D.heave, .int .i64 D.fire, vB, vC] [vP, vR, vV] rfl rfl rfl ?_; simp only [Act.put]) | (go_at_call 11; (with_reducible refine (HOP.out _ (HA.out.below HB.out)).mono ?_); rintro e w1 ⟨rfl, hb1⟩; have nHX := hI9 (HX.out.below hb1); have nHY := hI9 (HY.out.below hb1); have nHB := hI9 (bthen HB.out hb1); have zz1 := hb1.size; clear HX HY HB hb1; have HX := nHX; have HY := nHY; have HB := nHB; clear nHX nHY nHB; (try clear zHY); have zHY := HY.out.lt; (try clear cHY0); have cHY0 := HY.out.cell 0; (try clear cHY1); have cHY1 := HY.out.cell 1; (try clear cHY8); have cHY8 := HY.out.cell 8; (try clear cHY9); have cHY9 := HY.out.cell 9) | (go_at_call 34; (with_reducible refine (dwithin_c _ _ _ _).mono ?_); rintro e w1 ⟨rfl, rfl⟩) | (go_at_call 95; (with_reducible refine (HDI.out _).mono ?_); rintro e w1 ⟨rfl, hb1⟩; have nHX := hI9 (HX.out.below hb1); have nHY := hI9 (HY.out.below hb1); have nHB := hI9 (bthen HB.out hb1); have zz1 := hb1.size; clear HX HY HB hb1; have HX := nHX; have HY := nHY; have HB := nHB; clear nHX nHY nHB))
   go_ret
   exact ⟨rfl, HB.out⟩
  ·rw [hb] at hdi
   have HDI := hI9 hdi
   clear hop hdi he hb
   rw [if_pos rfl]
   go_enter Tryz.func46, Tryz.ntmps46
   go_wp2_with (fail)
   have _x := frm2 w #[.int .i64 D.size, .int .i64 D.load, .int .i64 D.wind, vA, .int .i64 D.pitch, .int .i64 D.roll, .int .i64 D.heave, .int .i64 D.fire, vB, vC, .int .i64 M.places, .int .i64 M.any.a0, .int .i64 M.any.a1, .int .i64 M.any.a2, .int .i64 M.any.a3, .int .i64 M.any.a4, .int .i64 M.any.a5, .bool M.any.i, .bool M.any.s, .int .i64 M.mw, .int .i64 M.ms, .int .i64 M.mc, vF, vS, vP, vR, vV] 98 #[.int .i64 a.size, .int .i64 a.weight, .int .i64 a.lw, .int .i64 a.ls, .int .i64 a.lc, .bool a.li, .bool a.lt, .int .i64 a.place, .int .i64 a.lo, .int .i64 a.hi] 43
   have HX := hI9 _x.1
   have HY := hI9 _x.2.1
   have HB := hI9 _x.2.2.1
   have zW := _x.2.2.2
   clear _x
   generalize World.alloc (World.alloc w _) _ = W at *
   have zHY := HY.out.lt
   have cHY2 := HY.out.cell 2
   have cHY3 := HY.out.cell 3
   have cHY4 := HY.out.cell 4
   have cHY5 := HY.out.cell 5
   have cHY6 := HY.out.cell 6
   have cHY7 := HY.out.cell 7
   go_wp2_with (first | (refine wpl_mid rfl 34 _ rfl w.heap.size 10 rfl 98 _ #[.int .i64 M.places, .int .i64 M.any.a0, .int .i64 M.any.a1, .int .i64 M.any.a2, .int .i64 M.any.a3, .int .i64 M.any.a4, .int .i64 M.any.a5, .bool M.any.i, .bool M.any.s, .int .i64 M.mw, .int .i64 M.ms, .int .i64 M.mc, vF, vS] 14 HX.out Tryz.rowMet [.int .i64 D.size, .int .i64 D.load, .int .i64 D.wind, vA, .int .i64 D.pitch, .int .i64 D.roll, .int .i64 D.heave, .int .i64 D.fire, vB, vC] [vP, vR, vV] rfl rfl rfl ?_; simp only [Act.put]) | (go_at_call 11; (with_reducible refine (HOP.out _ (HA.out.below HB.out)).mono ?_); rintro e w1 ⟨rfl, hb1⟩; have nHX := hI9 (HX.out.below hb1); have nHY := hI9 (HY.out.below hb1); have nHB := hI9 (bthen HB.out hb1); have zz1 := hb1.size; clear HX HY HB hb1; have HX := nHX; have HY := nHY; have HB := nHB; clear nHX nHY nHB; (try clear zHY); have zHY := HY.out.lt; (try clear cHY0); have cHY0 := HY.out.cell 0; (try clear cHY1); have cHY1 := HY.out.cell 1; (try clear cHY8); have cHY8 := HY.out.cell 8; (try clear cHY9); have cHY9 := HY.out.cell 9) | (go_at_call 34; (with_reducible refine (dwithin_c _ _ _ _).mono ?_); rintro e w1 ⟨rfl, rfl⟩) | (go_at_call 95; (with_reducible refine (HDI.out _).mono ?_); rintro e w1 ⟨rfl, hb1⟩; have nHX := hI9 (HX.out.below hb1); have nHY := hI9 (HY.out.below hb1); have nHB := hI9 (bthen HB.out hb1); have zz1 := hb1.size; clear HX HY HB hb1; have HX := nHX; have HY := nHY; have HB := nHB; clear nHX nHY nHB))
   go_ret
   exact ⟨rfl, HB.out⟩
 ·rw [if_neg he]
  have hez : (opE M a.lw a.ls a.lc a.place 0 != 0) = true := by simpa using he
  clear he
  generalize opE M a.lw a.ls a.lc a.place 0 = E at *
  have HOP := hI9 hop
  have HDI := hI9 hdi
  clear hop hdi
  go_enter Tryz.func46, Tryz.ntmps46
  go_wp2_with (fail)
  have _x := frm2 w #[.int .i64 D.size, .int .i64 D.load, .int .i64 D.wind, vA, .int .i64 D.pitch, .int .i64 D.roll, .int .i64 D.heave, .int .i64 D.fire, vB, vC, .int .i64 M.places, .int .i64 M.any.a0, .int .i64 M.any.a1, .int .i64 M.any.a2, .int .i64 M.any.a3, .int .i64 M.any.a4, .int .i64 M.any.a5, .bool M.any.i, .bool M.any.s, .int .i64 M.mw, .int .i64 M.ms, .int .i64 M.mc, vF, vS, vP, vR, vV] 98 #[.int .i64 a.size, .int .i64 a.weight, .int .i64 a.lw, .int .i64 a.ls, .int .i64 a.lc, .bool a.li, .bool a.lt, .int .i64 a.place, .int .i64 a.lo, .int .i64 a.hi] 43
  have HX := hI9 _x.1
  have HY := hI9 _x.2.1
  have HB := hI9 _x.2.2.1
  have zW := _x.2.2.2
  clear _x
  generalize World.alloc (World.alloc w _) _ = W at *
  have zHY := HY.out.lt
  have cHY2 := HY.out.cell 2
  have cHY3 := HY.out.cell 3
  have cHY4 := HY.out.cell 4
  have cHY5 := HY.out.cell 5
  have cHY6 := HY.out.cell 6
  have cHY7 := HY.out.cell 7
  go_wp2_with (first | (refine wpl_mid rfl 34 _ rfl w.heap.size 10 rfl 98 _ #[.int .i64 M.places, .int .i64 M.any.a0, .int .i64 M.any.a1, .int .i64 M.any.a2, .int .i64 M.any.a3, .int .i64 M.any.a4, .int .i64 M.any.a5, .bool M.any.i, .bool M.any.s, .int .i64 M.mw, .int .i64 M.ms, .int .i64 M.mc, vF, vS] 14 HX.out Tryz.rowMet [.int .i64 D.size, .int .i64 D.load, .int .i64 D.wind, vA, .int .i64 D.pitch, .int .i64 D.roll, .int .i64 D.heave, .int .i64 D.fire, vB, vC] [vP, vR, vV] rfl rfl rfl ?_; simp only [Act.put]) | (go_at_call 11; (with_reducible refine (HOP.out _ (HA.out.below HB.out)).mono ?_); rintro e w1 ⟨rfl, hb1⟩; have nHX := hI9 (HX.out.below hb1); have nHY := hI9 (HY.out.below hb1); have nHB := hI9 (bthen HB.out hb1); have zz1 := hb1.size; clear HX HY HB hb1; have HX := nHX; have HY := nHY; have HB := nHB; clear nHX nHY nHB; (try clear zHY); have zHY := HY.out.lt; (try clear cHY0); have cHY0 := HY.out.cell 0; (try clear cHY1); have cHY1 := HY.out.cell 1; (try clear cHY8); have cHY8 := HY.out.cell 8; (try clear cHY9); have cHY9 := HY.out.cell 9) | (go_at_call 34; (with_reducible refine (dwithin_c _ _ _ _).mono ?_); rintro e w1 ⟨rfl, rfl⟩) | (go_at_call 95; (with_reducible refine (HDI.out _).mono ?_); rintro e w1 ⟨rfl, hb1⟩; have nHX := hI9 (HX.out.below hb1); have nHY := hI9 (HY.out.below hb1); have nHB := hI9 (bthen HB.out hb1); have zz1 := hb1.size; clear HX HY HB hb1; have HX := nHX; have HY := nHY; have HB := nHB; clear nHX nHY nHB))
  go_ret
  exact ⟨rfl, HB.out⟩
def scE (D : DekD) (M : MetD) (Mo : MovD) : Int := if D.err = 0 then (if M.err = 0 then cmE D Mo else M.err) else D.err
theorem dscheck_c (D : DekD) (vA vB vC : Value) (M : MetD) (vF vS : Value) (Mo : MovD) (vP vR vV : Value) (w : World) (hD : DekAt w vA vB vC D) (hA : MetAt w vF vS M) (hV : MovAt w vP vR vV Mo) :
  Calls Tryz.prog 45 #[.agg #[.int .i64 D.size, .int .i64 D.load, .int .i64 D.wind, vA, .int .i64 D.pitch, .int .i64 D.roll, .int .i64 D.heave, .int .i64 D.fire, vB, vC, .int .i64 M.places, .int .i64 M.any.a0, .int .i64 M.any.a1, .int .i64 M.any.a2, .int .i64 M.any.a3, .int .i64 M.any.a4, .int .i64 M.any.a5, .bool M.any.i, .bool M.any.s, .int .i64 M.mw, .int .i64 M.ms, .int .i64 M.mc, vF, vS, vP, vR, vV]] w fun e w' => e = .returned (.int .i64 (scE D M Mo)) ∧ Below w.heap.size w w' := by
 have HD := hI9 hD
 have HA := hI9 hA
 have HV := hI9 hV
 have hck := fun w1 h => dCheck_c D vA vB vC w1 h
 have hwc := fun w1 h => wCheck_c M vF vS w1 h
 have hcm := fun w1 h h2 => dCheckMotion_c D vA vB vC Mo vP vR vV w1 h h2
 clear hD hA hV
 unfold scE
 by_cases he : D.err = 0
 ·rw [if_pos he]
  rw [he] at hck
  have HCK := hI9 hck
  clear hck he
  by_cases hm : M.err = 0
  ·rw [if_pos hm]
   rw [hm] at hwc
   generalize cmE D Mo = E2 at *
   have HWC := hI9 hwc
   have HCM := hI9 hcm
   clear hwc hcm hm
   go_enter Tryz.func45, Tryz.ntmps45
   go_wp2_with (fail)
   have _x := frm1 w #[.int .i64 D.size, .int .i64 D.load, .int .i64 D.wind, vA, .int .i64 D.pitch, .int .i64 D.roll, .int .i64 D.heave, .int .i64 D.fire, vB, vC, .int .i64 M.places, .int .i64 M.any.a0, .int .i64 M.any.a1, .int .i64 M.any.a2, .int .i64 M.any.a3, .int .i64 M.any.a4, .int .i64 M.any.a5, .bool M.any.i, .bool M.any.s, .int .i64 M.mw, .int .i64 M.ms, .int .i64 M.mc, vF, vS, vP, vR, vV] 98
   have HX := hI9 _x.1
   have HB := hI9 _x.2.1
   have zW := _x.2.2
   clear _x
   generalize World.alloc w _ = W at *
   go_wp2_with (first | (refine wpl_mid rfl 26 _ rfl w.heap.size 0 rfl 98 _ #[.int .i64 D.size, .int .i64 D.load, .int .i64 D.wind, vA, .int .i64 D.pitch, .int .i64 D.roll, .int .i64 D.heave, .int .i64 D.fire, vB, vC] 10 HX.out Tryz.rowDek [] [.int .i64 M.places, .int .i64 M.any.a0, .int .i64 M.any.a1, .int .i64 M.any.a2, .int .i64 M.any.a3, .int .i64 M.any.a4, .int .i64 M.any.a5, .bool M.any.i, .bool M.any.s, .int .i64 M.mw, .int .i64 M.ms, .int .i64 M.mc, vF, vS, vP, vR, vV] rfl rfl rfl ?_; simp only [Act.put]) | (refine wpl_mid rfl 34 _ rfl w.heap.size 10 rfl 98 _ #[.int .i64 M.places, .int .i64 M.any.a0, .int .i64 M.any.a1, .int .i64 M.any.a2, .int .i64 M.any.a3, .int .i64 M.any.a4, .int .i64 M.any.a5, .bool M.any.i, .bool M.any.s, .int .i64 M.mw, .int .i64 M.ms, .int .i64 M.mc, vF, vS] 14 HX.out Tryz.rowMet [.int .i64 D.size, .int .i64 D.load, .int .i64 D.wind, vA, .int .i64 D.pitch, .int .i64 D.roll, .int .i64 D.heave, .int .i64 D.fire, vB, vC] [vP, vR, vV] rfl rfl rfl ?_; simp only [Act.put]) | (refine wpl_mid rfl 37 _ rfl w.heap.size 24 rfl 98 _ #[vP, vR, vV] 3 HX.out Tryz.rowMov [.int .i64 D.size, .int .i64 D.load, .int .i64 D.wind, vA, .int .i64 D.pitch, .int .i64 D.roll, .int .i64 D.heave, .int .i64 D.fire, vB, vC, .int .i64 M.places, .int .i64 M.any.a0, .int .i64 M.any.a1, .int .i64 M.any.a2, .int .i64 M.any.a3, .int .i64 M.any.a4, .int .i64 M.any.a5, .bool M.any.i, .bool M.any.s, .int .i64 M.mw, .int .i64 M.ms, .int .i64 M.mc, vF, vS] [] rfl rfl rfl ?_; simp only [Act.put]) | (go_at_call 92; (with_reducible refine (HCK.out _ (HD.out.below HB.out)).mono ?_); rintro e w1 ⟨rfl, hb1⟩; have nHX := hI9 (HX.out.below hb1); have nHB := hI9 (bthen HB.out hb1); have zz1 := hb1.size; clear HX HB hb1; have HX := nHX; have HB := nHB; clear nHX nHB) | (go_at_call 93; (with_reducible refine (HWC.out _ (HA.out.below HB.out)).mono ?_); rintro e w1 ⟨rfl, hb1⟩; have nHX := hI9 (HX.out.below hb1); have nHB := hI9 (bthen HB.out hb1); have zz1 := hb1.size; clear HX HB hb1; have HX := nHX; have HB := nHB; clear nHX nHB) | (go_at_call 94; (with_reducible refine (HCM.out _ (HD.out.below HB.out) (HV.out.below HB.out)).mono ?_); rintro e w1 ⟨rfl, hb1⟩; have nHX := hI9 (HX.out.below hb1); have nHB := hI9 (bthen HB.out hb1); have zz1 := hb1.size; clear HX HB hb1; have HX := nHX; have HB := nHB; clear nHX nHB))
   go_ret
   exact ⟨rfl, HB.out⟩
  ·rw [if_neg hm]
   have hmz : (M.err != 0) = true := by simpa using hm
   clear hm
   generalize M.err = E at *
   have HWC := hI9 hwc
   have HCM := hI9 hcm
   clear hwc hcm
   go_enter Tryz.func45, Tryz.ntmps45
   go_wp2_with (fail)
   have _x := frm1 w #[.int .i64 D.size, .int .i64 D.load, .int .i64 D.wind, vA, .int .i64 D.pitch, .int .i64 D.roll, .int .i64 D.heave, .int .i64 D.fire, vB, vC, .int .i64 M.places, .int .i64 M.any.a0, .int .i64 M.any.a1, .int .i64 M.any.a2, .int .i64 M.any.a3, .int .i64 M.any.a4, .int .i64 M.any.a5, .bool M.any.i, .bool M.any.s, .int .i64 M.mw, .int .i64 M.ms, .int .i64 M.mc, vF, vS, vP, vR, vV] 98
   have HX := hI9 _x.1
   have HB := hI9 _x.2.1
   have zW := _x.2.2
   clear _x
   generalize World.alloc w _ = W at *
   go_wp2_with (first | (refine wpl_mid rfl 26 _ rfl w.heap.size 0 rfl 98 _ #[.int .i64 D.size, .int .i64 D.load, .int .i64 D.wind, vA, .int .i64 D.pitch, .int .i64 D.roll, .int .i64 D.heave, .int .i64 D.fire, vB, vC] 10 HX.out Tryz.rowDek [] [.int .i64 M.places, .int .i64 M.any.a0, .int .i64 M.any.a1, .int .i64 M.any.a2, .int .i64 M.any.a3, .int .i64 M.any.a4, .int .i64 M.any.a5, .bool M.any.i, .bool M.any.s, .int .i64 M.mw, .int .i64 M.ms, .int .i64 M.mc, vF, vS, vP, vR, vV] rfl rfl rfl ?_; simp only [Act.put]) | (refine wpl_mid rfl 34 _ rfl w.heap.size 10 rfl 98 _ #[.int .i64 M.places, .int .i64 M.any.a0, .int .i64 M.any.a1, .int .i64 M.any.a2, .int .i64 M.any.a3, .int .i64 M.any.a4, .int .i64 M.any.a5, .bool M.any.i, .bool M.any.s, .int .i64 M.mw, .int .i64 M.ms, .int .i64 M.mc, vF, vS] 14 HX.out Tryz.rowMet [.int .i64 D.size, .int .i64 D.load, .int .i64 D.wind, vA, .int .i64 D.pitch, .int .i64 D.roll, .int .i64 D.heave, .int .i64 D.fire, vB, vC] [vP, vR, vV] rfl rfl rfl ?_; simp only [Act.put]) | (refine wpl_mid rfl 37 _ rfl w.heap.size 24 rfl 98 _ #[vP, vR, vV] 3 HX.out Tryz.rowMov [.int .i64 D.size, .int .i64 D.load, .int .i64 D.wind, vA, .int .i64 D.pitch, .int .i64 D.roll, .int .i64 D.heave, .int .i64 D.fire, vB, vC, .int .i64 M.places, .int .i64 M.any.a0, .int .i64 M.any.a1, .int .i64 M.any.a2, .int .i64 M.any.a3, .int .i64 M.any.a4, .int .i64 M.any.a5, .bool M.any.i, .bool M.any.s, .int .i64 M.mw, .int .i64 M.ms, .int .i64 M.mc, vF, vS] [] rfl rfl rfl ?_; simp only [Act.put]) | (go_at_call 92; (with_reducible refine (HCK.out _ (HD.out.below HB.out)).mono ?_); rintro e w1 ⟨rfl, hb1⟩; have nHX := hI9 (HX.out.below hb1); have nHB := hI9 (bthen HB.out hb1); have zz1 := hb1.size; clear HX HB hb1; have HX := nHX; have HB := nHB; clear nHX nHB) | (go_at_call 93; (with_reducible refine (HWC.out _ (HA.out.below HB.out)).mono ?_); rintro e w1 ⟨rfl, hb1⟩; have nHX := hI9 (HX.out.below hb1); have nHB := hI9 (bthen HB.out hb1); have zz1 := hb1.size; clear HX HB hb1; have HX := nHX; have HB := nHB; clear nHX nHB) | (go_at_call 94; (with_reducible refine (HCM.out _ (HD.out.below HB.out) (HV.out.below HB.out)).mono ?_); rintro e w1 ⟨rfl, hb1⟩; have nHX := hI9 (HX.out.below hb1); have nHB := hI9 (bthen HB.out hb1); have zz1 := hb1.size; clear HX HB hb1; have HX := nHX; have HB := nHB; clear nHX nHB))
   go_ret
   exact ⟨rfl, HB.out⟩
 ·rw [if_neg he]
  have hez : (D.err != 0) = true := by simpa using he
  clear he
  generalize D.err = E at *
  have HCK := hI9 hck
  have HWC := hI9 hwc
  have HCM := hI9 hcm
  clear hck hwc hcm
  go_enter Tryz.func45, Tryz.ntmps45
  go_wp2_with (fail)
  have _x := frm1 w #[.int .i64 D.size, .int .i64 D.load, .int .i64 D.wind, vA, .int .i64 D.pitch, .int .i64 D.roll, .int .i64 D.heave, .int .i64 D.fire, vB, vC, .int .i64 M.places, .int .i64 M.any.a0, .int .i64 M.any.a1, .int .i64 M.any.a2, .int .i64 M.any.a3, .int .i64 M.any.a4, .int .i64 M.any.a5, .bool M.any.i, .bool M.any.s, .int .i64 M.mw, .int .i64 M.ms, .int .i64 M.mc, vF, vS, vP, vR, vV] 98
  have HX := hI9 _x.1
  have HB := hI9 _x.2.1
  have zW := _x.2.2
  clear _x
  generalize World.alloc w _ = W at *
  go_wp2_with (first | (refine wpl_mid rfl 26 _ rfl w.heap.size 0 rfl 98 _ #[.int .i64 D.size, .int .i64 D.load, .int .i64 D.wind, vA, .int .i64 D.pitch, .int .i64 D.roll, .int .i64 D.heave, .int .i64 D.fire, vB, vC] 10 HX.out Tryz.rowDek [] [.int .i64 M.places, .int .i64 M.any.a0, .int .i64 M.any.a1, .int .i64 M.any.a2, .int .i64 M.any.a3, .int .i64 M.any.a4, .int .i64 M.any.a5, .bool M.any.i, .bool M.any.s, .int .i64 M.mw, .int .i64 M.ms, .int .i64 M.mc, vF, vS, vP, vR, vV] rfl rfl rfl ?_; simp only [Act.put]) | (refine wpl_mid rfl 34 _ rfl w.heap.size 10 rfl 98 _ #[.int .i64 M.places, .int .i64 M.any.a0, .int .i64 M.any.a1, .int .i64 M.any.a2, .int .i64 M.any.a3, .int .i64 M.any.a4, .int .i64 M.any.a5, .bool M.any.i, .bool M.any.s, .int .i64 M.mw, .int .i64 M.ms, .int .i64 M.mc, vF, vS] 14 HX.out Tryz.rowMet [.int .i64 D.size, .int .i64 D.load, .int .i64 D.wind, vA, .int .i64 D.pitch, .int .i64 D.roll, .int .i64 D.heave, .int .i64 D.fire, vB, vC] [vP, vR, vV] rfl rfl rfl ?_; simp only [Act.put]) | (refine wpl_mid rfl 37 _ rfl w.heap.size 24 rfl 98 _ #[vP, vR, vV] 3 HX.out Tryz.rowMov [.int .i64 D.size, .int .i64 D.load, .int .i64 D.wind, vA, .int .i64 D.pitch, .int .i64 D.roll, .int .i64 D.heave, .int .i64 D.fire, vB, vC, .int .i64 M.places, .int .i64 M.any.a0, .int .i64 M.any.a1, .int .i64 M.any.a2, .int .i64 M.any.a3, .int .i64 M.any.a4, .int .i64 M.any.a5, .bool M.any.i, .bool M.any.s, .int .i64 M.mw, .int .i64 M.ms, .int .i64 M.mc, vF, vS] [] rfl rfl rfl ?_; simp only [Act.put]) | (go_at_call 92; (with_reducible refine (HCK.out _ (HD.out.below HB.out)).mono ?_); rintro e w1 ⟨rfl, hb1⟩; have nHX := hI9 (HX.out.below hb1); have nHB := hI9 (bthen HB.out hb1); have zz1 := hb1.size; clear HX HB hb1; have HX := nHX; have HB := nHB; clear nHX nHB) | (go_at_call 93; (with_reducible refine (HWC.out _ (HA.out.below HB.out)).mono ?_); rintro e w1 ⟨rfl, hb1⟩; have nHX := hI9 (HX.out.below hb1); have nHB := hI9 (bthen HB.out hb1); have zz1 := hb1.size; clear HX HB hb1; have HX := nHX; have HB := nHB; clear nHX nHB) | (go_at_call 94; (with_reducible refine (HCM.out _ (HD.out.below HB.out) (HV.out.below HB.out)).mono ?_); rintro e w1 ⟨rfl, hb1⟩; have nHX := hI9 (HX.out.below hb1); have nHB := hI9 (bthen HB.out hb1); have zz1 := hb1.size; clear HX HB hb1; have HX := nHX; have HB := nHB; clear nHX nHB))
  go_ret
  exact ⟨rfl, HB.out⟩
end Go.Proofs.YtlambeiafdpkgaaGreat

namespace Go.Proofs.YtlambeiafdpkgaaGreat
open Go Go.RowKit Go.Proofs
set_option maxRecDepth 100000
set_option maxHeartbeats 8000000
theorem rw_from_c (n lo hi : Int) (w : World) : Calls Tryz.prog 99 #[.int .i64 n, .int .i64 lo, .int .i64 hi] w fun e w' => e = .returned (.bool (inB n lo hi)) ∧ w = w' := by
 unfold inB
 by_cases h1 : lo ≤ n <;> by_cases h2 : n ≤ hi
 all_goals
  go_enter Tryz.func99, Tryz.ntmps99
  go_wp2
  go_ret
  exact ⟨by simp [h1, h2], rfl⟩
theorem insB_rng {lo hi m : Int} : insB lo hi m = (vspan lo hi && (decide (0 ≤ lo) && decide (hi ≤ m))) := by
 rw [Bool.eq_iff_iff, insB_iff]
 simp only [Bool.and_eq_true, decide_eq_true_eq]
 rw [vspan_iff']
 omega
theorem rw_ranged_c (lo hi m : Int) (w : World) : Calls Tryz.prog 147 #[.agg #[.int .i64 lo, .int .i64 hi], .int .i64 m] w fun e w' => e = .returned (.bool (insB lo hi m)) ∧ Below w.heap.size w w' := by
 rw [insB_rng]
 have HV := hI9 (fun w1 => rf_Valid_c lo hi w1)
 generalize vspan lo hi = V at *
 cases V
 ·go_enter Tryz.func147, Tryz.ntmps147
  go_wp2_with (fail)
  have _x := frm1 w #[.int .i64 lo, .int .i64 hi] 28
  have HX := hI9 _x.1
  have HB := hI9 _x.2.1
  have zW := _x.2.2
  clear _x
  generalize World.alloc w _ = W at *
  go_wp2_with (first | (go_at_call 98; (with_reducible refine (HV.out _).mono ?_); rintro e w1 ⟨rfl, hb1⟩; have nHX := hI9 (HX.out.below hb1); have nHB := hI9 (bthen HB.out hb1); have zz1 := hb1.size; clear HX HB hb1; have HX := nHX; have HB := nHB; clear nHX nHB; (try clear zHX); have zHX := HX.out.lt; (try clear cHX0); have cHX0 := HX.out.cell 0; (try clear cHX1); have cHX1 := HX.out.cell 1))
  go_ret
  exact ⟨rfl, HB.out⟩
 ·by_cases h1 : 0 ≤ lo <;> by_cases h2 : hi ≤ m
  all_goals
   go_enter Tryz.func147, Tryz.ntmps147
   go_wp2_with (fail)
   have _x := frm1 w #[.int .i64 lo, .int .i64 hi] 28
   have HX := hI9 _x.1
   have HB := hI9 _x.2.1
   have zW := _x.2.2
   clear _x
   generalize World.alloc w _ = W at *
   go_wp2_with (first | (go_at_call 98; (with_reducible refine (HV.out _).mono ?_); rintro e w1 ⟨rfl, hb1⟩; have nHX := hI9 (HX.out.below hb1); have nHB := hI9 (bthen HB.out hb1); have zz1 := hb1.size; clear HX HB hb1; have HX := nHX; have HB := nHB; clear nHX nHB; (try clear zHX); have zHX := HX.out.lt; (try clear cHX0); have cHX0 := HX.out.cell 0; (try clear cHX1); have cHX1 := HX.out.cell 1))
   go_ret
   exact ⟨by simp [h1, h2], HB.out⟩
theorem rw_ValidSky_c (x : Sk) (w : World) : Calls Tryz.prog 100 #[.agg #[.int .i64 x.a0, .int .i64 x.a1, .int .i64 x.a2, .int .i64 x.a3, .int .i64 x.a4, .int .i64 x.a5, .bool x.i, .bool x.s]] w fun e w' => e = .returned (.bool x.inr) ∧ Below w.heap.size w w' := by
 obtain ⟨a0, a1, a2, a3, a4, a5, xi, xs⟩ := x
 have h1 := fun w1 => rw_ranged_c a0 a1 300 w1
 have h2 := fun w1 => rw_ranged_c a2 a3 20000 w1
 have h3 := fun w1 => rw_ranged_c a4 a5 20000 w1
 show Calls _ _ _ _ fun e w' => e = .returned (.bool (insB a0 a1 300 && (insB a2 a3 20000 && insB a4 a5 20000))) ∧ Below w.heap.size w w'
 dsimp only
 generalize insB a0 a1 300 = B1 at *
 generalize insB a2 a3 20000 = B2 at *
 generalize insB a4 a5 20000 = B3 at *
 have H1 := hI9 h1
 have H2 := hI9 h2
 have H3 := hI9 h3
 clear h1 h2 h3
 cases B1 <;> cases B2
 all_goals
  go_enter Tryz.func100, Tryz.ntmps100
  go_wp2_with (fail)
  have _x := frm1 w #[.int .i64 a0, .int .i64 a1, .int .i64 a2, .int .i64 a3, .int .i64 a4, .int .i64 a5, .bool xi, .bool xs] 30
  have HX := hI9 _x.1
  have HB := hI9 _x.2.1
  have zW := _x.2.2
  clear _x
  generalize World.alloc w _ = W at *
  have zHX := HX.out.lt
  have cHX0 := HX.out.cell 0
  have cHX1 := HX.out.cell 1
  go_wp2_with (first | (go_at_call 147; (with_reducible refine (H1.out _).mono ?_); rintro e w1 ⟨rfl, hb1⟩; have nHX := hI9 (HX.out.below hb1); have nHB := hI9 (bthen HB.out hb1); have zz1 := hb1.size; clear HX HB hb1; have HX := nHX; have HB := nHB; clear nHX nHB; (try clear zHX); have zHX := HX.out.lt; (try clear cHX2); have cHX2 := HX.out.cell 2; (try clear cHX3); have cHX3 := HX.out.cell 3) | (go_at_call 147; (with_reducible refine (H2.out _).mono ?_); rintro e w1 ⟨rfl, hb1⟩; have nHX := hI9 (HX.out.below hb1); have nHB := hI9 (bthen HB.out hb1); have zz1 := hb1.size; clear HX HB hb1; have HX := nHX; have HB := nHB; clear nHX nHB; (try clear zHX); have zHX := HX.out.lt; (try clear cHX4); have cHX4 := HX.out.cell 4; (try clear cHX5); have cHX5 := HX.out.cell 5) | (go_at_call 147; (with_reducible refine (H3.out _).mono ?_); rintro e w1 ⟨rfl, hb1⟩; have nHX := hI9 (HX.out.below hb1); have nHB := hI9 (bthen HB.out hb1); have zz1 := hb1.size; clear HX HB hb1; have HX := nHX; have HB := nHB; clear nHX nHB))
  go_ret
  exact ⟨rfl, HB.out⟩
def wvB (a b c : Int) : Bool := inB a 0 300 && (inB b 0 20000 && inB c 0 20000)
theorem rw_ValidWeather_c (a b c : Int) (i s : Bool) (w : World) : Calls Tryz.prog 101 #[.agg #[.int .i64 a, .int .i64 b, .int .i64 c, .bool i, .bool s]] w fun e w' => e = .returned (.bool (wvB a b c)) ∧ Below w.heap.size w w' := by
 unfold wvB
 cases h1 : inB a 0 300 <;> cases h2 : inB b 0 20000
 all_goals
  go_enter Tryz.func101, Tryz.ntmps101
  go_wp2_with (first | (go_at_call 99; (with_reducible refine (rw_from_c _ _ _ _).mono ?_); rintro e w1 ⟨rfl, rfl⟩))
  go_ret
  exact ⟨rfl, (by repeat' (first | exact Below.refl _ _ | assumption | refine Below.drew ?_ | refine bdn ?_ _ | refine bal ?_ _ | refine Below.setCell ?_ (by first | (simp; done) | omega | (simp; omega)) _))⟩
end Go.Proofs.YtlambeiafdpkgaaGreat
