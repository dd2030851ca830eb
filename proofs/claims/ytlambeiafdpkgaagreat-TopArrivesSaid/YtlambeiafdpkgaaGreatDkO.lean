import Derived.Test.YtlambeiafdpkgaaGreatJAZ
import Derived.Test.YtlambeiafdpkgaaGreatDkH
set_option linter.all false
namespace Go.Proofs.YtlambeiafdpkgaaGreat
open Go Go.RowKit Go.Proofs
set_option maxRecDepth 100000
set_option maxHeartbeats 8000000
def appE (M : MetD) (a : AppD) : Int := if inB a.size 1 1000000 then (if inB a.weight 1 1000000 then (if opE M a.lw a.ls a.lc a.place 0 = 0 then (if insB a.lo a.hi 719 then 0 else 62) else 62) else 62) else 62
theorem dapproach_c (D : DekD) (vA vB vC : Value) (M : MetD) (vF vS vP vR vV : Value) (a : AppD) (w : World) (hA : MetAt w vF vS M) :
  Calls Tryz.prog 46 #[.agg #[.int .i64 D.size, .int .i64 D.load, .int .i64 D.wind, vA, .int .i64 D.pitch, .int .i64 D.roll, .int .i64 D.heave, .int .i64 D.fire, vB, vC, .int .i64 M.places, .int .i64 M.any.a0, .int .i64 M.any.a1, .int .i64 M.any.a2, .int .i64 M.any.a3, .int .i64 M.any.a4, .int .i64 M.any.a5, .bool M.any.i, .bool M.any.s, .int .i64 M.mw, .int .i64 M.ms, .int .i64 M.mc, vF, vS, vP, vR, vV], .agg #[.int .i64 a.size, .int .i64 a.weight, .int .i64 a.lw, .int .i64 a.ls, .int .i64 a.lc, .bool a.li, .bool a.lt, .int .i64 a.place, .int .i64 a.lo, .int .i64 a.hi]] w fun e w' => e = .returned (.int .i64 (appE M a)) ∧ Below w.heap.size w w' := by
 have HA := hI9 hA
 have hop := fun w1 h => wOpen_c M vF vS a.lw a.ls a.lc a.li a.lt a.place 0 w1 h
 have hdi := fun w1 => ddirs_c a.lo a.hi w1
 clear hA
 unfold appE
 generalize openV M a.lw a.ls a.lc a.li a.lt a.place 0 = V at *
 cases b0 : inB a.size 1 1000000
 ·rw [if_neg (by decide)]
  generalize opE M a.lw a.ls a.lc a.place 0 = E at *
  have HOP := hI9 hop
  have HDI := hI9 hdi
  clear hop hdi
  go_enter Tryz.func46, Tryz.ntmps46
  go_wp2_with (fail)
  have _x := frm2 w #[.int .i64 D.size, .int .i64 D.load, .int .i64 D.wind, vA, .int .i64 D.pitch, .int .i64 D.roll, .int .i64 D.heave, .int .i64 D.fire, vB, vC, .int .i64 M.places, .int .i64 M.any.a0, .int .i64 M.any.a1, .int .i64 M.any.a2, .int .i64 M.any.a3, .int .i64 M.any.a4, .int .i64 M.any.a5, .bool M.any.i, .bool M.any.s, .int .i64 M.mw, .int .i64 M.ms, .int .i64 M.mc, vF, vS, vP, vR, vV] 98 #[.int .i64 a.size, .int .i64 a.weight, .int .i64 a.lw, .int .i64 a.ls, .int .i64 a.lc, .bool a.li, .bool a.lt, .int .i64 a.place, .int .i64 a.lo, .int .i64 a.hi] 43
  have HX := hI9 _x.1
  have HY := hI9 _x.2.1
  have HB := hI9 _x.2.2.1
  have zW := _x.2.2.2
  clear _x
  generalize World.alloc (World.alloc w _) _ = W at *
  have zHY := HY.out.lt
  have cHY2 := HY.out.cell 2
  have cHY3 := HY.out.cell 3
  have cHY4 := HY.out.cell 4
  have cHY5 := HY.out.cell 5
  have cHY6 := HY.out.cell 6
  have cHY7 := HY.out.cell 7
  go_wp2_with (first | (refine wpl_mid rfl 34 _ rfl w.heap.size 10 rfl 98 _ #[.int .i64 M.places, .int .i64 M.any.a0, .int .i64 M.any.a1, .int .i64 M.any.a2, .int .i64 M.any.a3, .int .i64 M.any.a4, .int .i64 M.any.a5, .bool M.any.i, .bool M.any.s, .int .i64 M.mw, .int .i64 M.ms, .int .i64 M.mc, vF, vS] 14 HX.out Tryz.rowMet [.int .i64 D.size, .int .i64 D.load, .int .i64 D.wind, vA, .int .i64 D.pitch, .int .i64 D.roll, .int .i64 D.heave, .int .i64 D.fire, vB, vC] [vP, vR, vV] rfl rfl rfl ?_; simp only [Act.put]) | (go_at_call 11; (with_reducible refine (HOP.out _ (HA.out.below HB.out)).mono ?_); rintro e w1 ⟨rfl, hb1⟩; have nHX := hI9 (HX.out.below hb1); have nHY := hI9 (HY.out.below hb1); have nHB := hI9 (bthen HB.out hb1); have zz1 := hb1.size; clear HX HY HB hb1; have HX := nHX; have HY := nHY; have HB := nHB; clear nHX nHY nHB; (try clear zHY); have zHY := HY.out.lt; (try clear cHY0); have cHY0 := HY.out.cell 0; (try clear cHY1); have cHY1 := HY.out.cell 1; (try clear cHY8); have cHY8 := HY.out.cell 8; (try clear cHY9); have cHY9 := HY.out.cell 9) | (go_at_call 34; (with_reducible refine (dwithin_c _ _ _ _).mono ?_); rintro e w1 ⟨rfl, rfl⟩) | (go_at_call 95; (with_reducible refine (HDI.out _).mono ?_); rintro e w1 ⟨rfl, hb1⟩; have nHX := hI9 (HX.out.below hb1); have nHY := hI9 (HY.out.below hb1); have nHB := hI9 (bthen HB.out hb1); have zz1 := hb1.size; clear HX HY HB hb1; have HX := nHX; have HY := nHY; have HB := nHB; clear nHX nHY nHB))
  go_ret
  exact ⟨rfl, HB.out⟩
 rw [if_pos rfl]
 cases b1 : inB a.weight 1 1000000
 ·rw [if_neg (by decide)]
  generalize opE M a.lw a.ls a.lc a.place 0 = E at *
  have HOP := hI9 hop
  have HDI := hI9 hdi
  clear hop hdi
  go_enter Tryz.func46, Tryz.ntmps46
  go_wp2_with (fail)
  have _x := frm2 w #[.int .i64 D.size, .int .i64 D.load, .int .i64 D.wind, vA, .int .i64 D.pitch, .int .i64 D.roll, .int .i64 D.heave, .int .i64 D.fire, vB, vC, .int .i64 M.places, .int .i64 M.any.a0, .int .i64 M.any.a1, .int .i64 M.any.a2, .int .i64 M.any.a3, .int .i64 M.any.a4, .int .i64 M.any.a5, .bool M.any.i, .bool M.any.s, .int .i64 M.mw, .int .i64 M.ms, .int .i64 M.mc, vF, vS, vP, vR, vV] 98 #[.int .i64 a.size, .int .i64 a.weight, .int .i64 a.lw, .int .i64 a.ls, .int .i64 a.lc, .bool a.li, .bool a.lt, .int .i64 a.place, .int .i64 a.lo, .int .i64 a.hi] 43
  have HX := hI9 _x.1
  have HY := hI9 _x.2.1
  have HB := hI9 _x.2.2.1
  have zW := _x.2.2.2
  clear _x
  generalize World.alloc (World.alloc w _) _ = W at *
  have zHY := HY.out.lt
  have cHY2 := HY.out.cell 2
  have cHY3 := HY.out.cell 3
  have cHY4 := HY.out.cell 4
  have cHY5 := HY.out.cell 5
  have cHY6 := HY.out.cell 6
  have cHY7 := HY.out.cell 7
  go_wp2_with (first | (refine wpl_mid rfl 34 _ rfl w.heap.size 10 rfl 98 _ #[.int .i64 M.places, .int .i64 M.any.a0, .int .i64 M.any.a1, .int .i64 M.any.a2, .int .i64 M.any.a3, .int .i64 M.any.a4, .int .i64 M.any.a5, .bool M.any.i, .bool M.any.s, .int .i64 M.mw, .int .i64 M.ms, .int .i64 M.mc, vF, vS] 14 HX.out Tryz.rowMet [.int .i64 D.size, .int .i64 D.load, .int .i64 D.wind, vA, .int .i64 D.pitch, .int .i64 D.roll, .int .i64 D.heave, .int .i64 D.fire, vB, vC] [vP, vR, vV] rfl rfl rfl ?_; simp only [Act.put]) | (go_at_call 11; (with_reducible refine (HOP.out _ (HA.out.below HB.out)).mono ?_); rintro e w1 ⟨rfl, hb1⟩; have nHX := hI9 (HX.out.below hb1); have nHY := hI9 (HY.out.below hb1); have nHB := hI9 (bthen HB.out hb1); have zz1 := hb1.size; clear HX HY HB hb1; have HX := nHX; have HY := nHY; have HB := nHB; clear nHX nHY nHB; (try clear zHY); have zHY := HY.out.lt; (try clear cHY0); have cHY0 := HY.out.cell 0; (try clear cHY1); have cHY1 := HY.out.cell 1; (try clear cHY8); have cHY8 := HY.out.cell 8; (try clear cHY9); have cHY9 := HY.out.cell 9) | (go_at_call 34; (with_reducible refine (dwithin_c _ _ _ _).mono ?_); rintro e w1 ⟨rfl, rfl⟩) | (go_at_call 95; (with_reducible refine (HDI.out _).mono ?_); rintro e w1 ⟨rfl, hb1⟩; have nHX := hI9 (HX.out.below hb1); have nHY := hI9 (HY.out.below hb1); have nHB := hI9 (bthen HB.out hb1); have zz1 := hb1.size; clear HX HY HB hb1; have HX := nHX; have HY := nHY; have HB := nHB; clear nHX nHY nHB))
  go_ret
  exact ⟨rfl, HB.out⟩
 rw [if_pos rfl]
 by_cases he : opE M a.lw a.ls a.lc a.place 0 = 0
 ·rw [if_pos he]
  rw [he] at hop
  have HOP := hI9 hop
  cases hb : insB a.lo a.hi 719
  ·rw [hb] at hdi
   have HDI := hI9 hdi
   clear hop hdi he hb
   rw [if_neg (by decide)]
   go_enter Tryz.func46, Tryz.ntmps46
   go_wp2_with (fail)
   have _x := frm2 w #[.int .i64 D.size, .int .i64 D.load, .int .i64 D.wind, vA, .int .i64 D.pitch, .int .i64 D.roll, .int .i64 D.heave, .int .i64 D.fire, vB, vC, .int .i64 M.places, .int .i64 M.any.a0, .int .i64 M.any.a1, .int .i64 M.any.a2, .int .i64 M.any.a3, .int .i64 M.any.a4, .int .i64 M.any.a5, .bool M.any.i, .bool M.any.s, .int .i64 M.mw, .int .i64 M.ms, .int .i64 M.mc, vF, vS, vP, vR, vV] 98 #[.int .i64 a.size, .int .i64 a.weight, .int .i64 a.lw, .int .i64 a.ls, .int .i64 a.lc, .bool a.li, .bool a.lt, .int .i64 a.place, .int .i64 a.lo, .int .i64 a.hi] 43
   have HX := hI9 _x.1
   have HY := hI9 _x.2.1
   have HB := hI9 _x.2.2.1
   have zW := _x.2.2.2
   clear _x
   generalize World.alloc (World.alloc w _) _ = W at *
   have zHY := HY.out.lt
   have cHY2 := HY.out.cell 2
   have cHY3 := HY.out.cell 3
   have cHY4 := HY.out.cell 4
   have cHY5 := HY.out.cell 5
   have cHY6 := HY.out.cell 6
   have cHY7 := HY.out.cell 7
   go_wp2_with (first | (refine wpl_mid rfl 34 _ rfl w.heap.size 10 rfl 98 _ #[.int .i64 M.places, .int .i64 M.any.a0, .int .i64 M.any.a1, .int .i64 M.any.a2, .int .i64 M.any.a3, .int .i64 M.any.a4, .int .i64 M.any.a5, .bool M.any.i, .bool M.any.s, .int .i64 M.mw, .int .i64 M.ms, .int .i64 M.mc, vF, vS] 14 HX.out Tryz.rowMet [.int .i64 D.size, .int .i64 D.load, .int .i64 D.wind, vA, .int .i64 D.pitch, .int .i64 D.roll, .int .i64 D.heave, .int .i64 D.fire, vB, vC] [vP, vR, vV] rfl rfl rfl ?_; simp only [Act.put]) | (go_at_call 11; (with_reducible refine (HOP.out _ (HA.out.below HB.out)).mono ?_); rintro e w1 ⟨rfl, hb1⟩; have nHX := hI9 (HX.out.below hb1); have nHY := hI9 (HY.out.below hb1); have nHB := hI9 (bthen HB.out hb1); have zz1 := hb1.size; clear HX HY HB hb1; have HX := nHX; have HY := nHY; have HB := nHB; clear nHX nHY nHB; (try clear zHY); have zHY := HY.out.lt; (try clear cHY0); have cHY0 := HY.out.cell 0; (try clear cHY1); have cHY1 := HY.out.cell 1; (try clear cHY8); have cHY8 := HY.out.cell 8; (try clear cHY9); have cHY9 := HY.out.cell 9) | (go_at_call 34; (with_reducible refine (dwithin_c _ _ _ _).mono ?_); rintro e w1 ⟨rfl, rfl⟩) | (go_at_call 95; (with_reducible refine (HDI.out _).mono ?_); rintro e w1 ⟨rfl, hb1⟩; have nHX := hI9 (HX.out.below hb1); have nHY := hI9 (HY.out.below hb1); have nHB := hI9 (bthen HB.out hb1); have zz1 := hb1.size; clear HX HY HB hb1; have HX := nHX; have HY := nHY; have HB := nHB; clear nHX nHY nHB))
   go_ret
   exact ⟨rfl, HB.out⟩
  ·rw [hb] at hdi
   have HDI := hI9 hdi
   clear hop hdi he hb
   rw [if_pos rfl]
   go_enter Tryz.func46, Tryz.ntmps46
   go_wp2_with (fail)
   have _x := frm2 w #[.int .i64 D.size, .int .i64 D.load, .int .i64 D.wind, vA, .int .i64 D.pitch, .int .i64 D.roll, .int .i64 D.heave, .int .i64 D.fire, vB, vC, .int .i64 M.places, .int .i64 M.any.a0, .int .i64 M.any.a1, .int .i64 M.any.a2, .int .i64 M.any.a3, .int .i64 M.any.a4, .int .i64 M.any.a5, .bool M.any.i, .bool M.any.s, .int .i64 M.mw, .int .i64 M.ms, .int .i64 M.mc, vF, vS, vP, vR, vV] 98 #[.int .i64 a.size, .int .i64 a.weight, .int .i64 a.lw, .int .i64 a.ls, .int .i64 a.lc, .bool a.li, .bool a.lt, .int .i64 a.place, .int .i64 a.lo, .int .i64 a.hi] 43
   have HX := hI9 _x.1
   have HY := hI9 _x.2.1
   have HB := hI9 _x.2.2.1
   have zW := _x.2.2.2
   clear _x
   generalize World.alloc (World.alloc w _) _ = W at *
   have zHY := HY.out.lt
   have cHY2 := HY.out.cell 2
   have cHY3 := HY.out.cell 3
   have cHY4 := HY.out.cell 4
   have cHY5 := HY.out.cell 5
   have cHY6 := HY.out.cell 6
   have cHY7 := HY.out.cell 7
   go_wp2_with (first | (refine wpl_mid rfl 34 _ rfl w.heap.size 10 rfl 98 _ #[.int .i64 M.places, .int .i64 M.any.a0, .int .i64 M.any.a1, .int .i64 M.any.a2, .int .i64 M.any.a3, .int .i64 M.any.a4, .int .i64 M.any.a5, .bool M.any.i, .bool M.any.s, .int .i64 M.mw, .int .i64 M.ms, .int .i64 M.mc, vF, vS] 14 HX.out Tryz.rowMet [.int .i64 D.size, .int .i64 D.load, .int .i64 D.wind, vA, .int .i64 D.pitch, .int .i64 D.roll, .int .i64 D.heave, .int .i64 D.fire, vB, vC] [vP, vR, vV] rfl rfl rfl ?_; simp only [Act.put]) | (go_at_call 11; (with_reducible refine (HOP.out _ (HA.out.below HB.out)).mono ?_); rintro e w1 ⟨rfl, hb1⟩; have nHX := hI9 (HX.out.below hb1); have nHY := hI9 (HY.out.below hb1); have nHB := hI9 (bthen HB.out hb1); have zz1 := hb1.size; clear HX HY HB hb1; have HX := nHX; have HY := nHY; have HB := nHB; clear nHX nHY nHB; (try clear zHY); have zHY := HY.out.lt; (try clear cHY0); have cHY0 := HY.out.cell 0; (try clear cHY1); have cHY1 := HY.out.cell 1; (try clear cHY8); have cHY8 := HY.out.cell 8; (try clear cHY9); have cHY9 := HY.out.cell 9) | (go_at_call 34; (with_reducible refine (dwithin_c _ _ _ _).mono ?_); rintro e w1 ⟨rfl, rfl⟩) | (go_at_call 95; (with_reducible refine (HDI.out _).mono ?_); rintro e w1 ⟨rfl, hb1⟩; have nHX := hI9 (HX.out.below hb1); have nHY := hI9 (HY.out.below hb1); have nHB := hI9 (bthen HB.out hb1); have zz1 := hb1.size; clear HX HY HB hb1; have HX := nHX; have HY := nHY; have HB := nHB; clear nHX nHY nHB))
   go_ret
   exact ⟨rfl, HB.out⟩
 ·rw [if_neg he]
  have hez : (opE M a.lw a.ls a.lc a.place 0 != 0) = true := by simpa using he
  clear he
  generalize opE M a.lw a.ls a.lc a.place 0 = E at *
  have HOP := hI9 hop
  have HDI := hI9 hdi
  clear hop hdi
  go_enter Tryz.func46, Tryz.ntmps46
  go_wp2_with (fail)
  have _x := frm2 w #[.int .i64 D.size, .int .i64 D.load, .int .i64 D.wind, vA, .int .i64 D.pitch, .int .i64 D.roll, .int .i64 D.heave, .int .i64 D.fire, vB, vC, .int .i64 M.places, .int .i64 M.any.a0, .int .i64 M.any.a1, .int .i64 M.any.a2, .int .i64 M.any.a3, .int .i64 M.any.a4, .int .i64 M.any.a5, .bool M.any.i, .bool M.any.s, .int .i64 M.mw, .int .i64 M.ms, .int .i64 M.mc, vF, vS, vP, vR, vV] 98 #[.int .i64 a.size, .int .i64 a.weight, .int .i64 a.lw, .int .i64 a.ls, .int .i64 a.lc, .bool a.li, .bool a.lt, .int .i64 a.place, .int .i64 a.lo, .int .i64 a.hi] 43
  have HX := hI9 _x.1
  have HY := hI9 _x.2.1
  have HB := hI9 _x.2.2.1
  have zW := _x.2.2.2
  clear _x
  generalize World.alloc (World.alloc w _) _ = W at *
  have zHY := HY.out.lt
  have cHY2 := HY.out.cell 2
  have cHY3 := HY.out.cell 3
  have cHY4 := HY.out.cell 4
  have cHY5 := HY.out.cell 5
  have cHY6 := HY.out.cell 6
  have cHY7 := HY.out.cell 7
  go_wp2_with (first | (refine wpl_mid rfl 34 _ rfl w.heap.size 10 rfl 98 _ #[.int .i64 M.places, .int .i64 M.any.a0, .int .i64 M.any.a1, .int .i64 M.any.a2, .int .i64 M.any.a3, .int .i64 M.any.a4, .int .i64 M.any.a5, .bool M.any.i, .bool M.any.s, .int .i64 M.mw, .int .i64 M.ms, .int .i64 M.mc, vF, vS] 14 HX.out Tryz.rowMet [.int .i64 D.size, .int .i64 D.load, .int .i64 D.wind, vA, .int .i64 D.pitch, .int .i64 D.roll, .int .i64 D.heave, .int .i64 D.fire, vB, vC] [vP, vR, vV] rfl rfl rfl ?_; simp only [Act.put]) | (go_at_call 11; (with_reducible refine (HOP.out _ (HA.out.below HB.out)).mono ?_); rintro e w1 ⟨rfl, hb1⟩; have nHX := hI9 (HX.out.below hb1); have nHY := hI9 (HY.out.below hb1); have nHB := hI9 (bthen HB.out hb1); have zz1 := hb1.size; clear HX HY HB hb1; have HX := nHX; have HY := nHY; have HB := nHB; clear nHX nHY nHB; (try clear zHY); have zHY := HY.out.lt; (try clear cHY0); have cHY0 := HY.out.cell 0; (try clear cHY1); have cHY1 := HY.out.cell 1; (try clear cHY8); have cHY8 := HY.out.cell 8; (try clear cHY9); have cHY9 := HY.out.cell 9) | (go_at_call 34; (with_reducible refine (dwithin_c _ _ _ _).mono ?_); rintro e w1 ⟨rfl, rfl⟩) | (go_at_call 95; (with_reducible refine (HDI.out _).mono ?_); rintro e w1 ⟨rfl, hb1⟩; have nHX := hI9 (HX.out.below hb1); have nHY := hI9 (HY.out.below hb1); have nHB := hI9 (bthen HB.out hb1); have zz1 := hb1.size; clear HX HY HB hb1; have HX := nHX; have HY := nHY; have HB := nHB; clear nHX nHY nHB))
  go_ret
  exact ⟨rfl, HB.out⟩
def scE (D : DekD) (M : MetD) (Mo : MovD) : Int := if D.err = 0 then (if M.err = 0 then cmE D Mo else M.err) else D.err
theorem dscheck_c (D : DekD) (vA vB vC : Value) (M : MetD) (vF vS : Value) (Mo : MovD) (vP vR vV : Value) (w : World) (hD : DekAt w vA vB vC D) (hA : MetAt w vF vS M) (hV : MovAt w vP vR vV Mo) :
  Calls Tryz.prog 45 #[.agg #[.int .i64 D.size, .int .i64 D.load, .int .i64 D.wind, vA, .int .i64 D.pitch, .int .i64 D.roll, .int .i64 D.heave, .int .i64 D.fire, vB, vC, .int .i64 M.places, .int .i64 M.any.a0, .int .i64 M.any.a1, .int .i64 M.any.a2, .int .i64 M.any.a3, .int .i64 M.any.a4, .int .i64 M.any.a5, .bool M.any.i, .bool M.any.s, .int .i64 M.mw, .int .i64 M.ms, .int .i64 M.mc, vF, vS, vP, vR, vV]] w fun e w' => e = .returned (.int .i64 (scE D M Mo)) ∧ Below w.heap.size w w' := by
 have HD := hI9 hD
 have HA := hI9 hA
 have HV := hI9 hV
 have hck := fun w1 h => dCheck_c D vA vB vC w1 h
 have hwc := fun w1 h => wCheck_c M vF vS w1 h
 have hcm := fun w1 h h2 => dCheckMotion_c D vA vB vC Mo vP vR vV w1 h h2
 clear hD hA hV
 unfold scE
 by_cases he : D.err = 0
 ·rw [if_pos he]
  rw [he] at hck
  have HCK := hI9 hck
  clear hck he
  by_cases hm : M.err = 0
  ·rw [if_pos hm]
   rw [hm] at hwc
   generalize cmE D Mo = E2 at *
   have HWC := hI9 hwc
   have HCM := hI9 hcm
   clear hwc hcm hm
   go_enter Tryz.func45, Tryz.ntmps45
   go_wp2_with (fail)
   have _x := frm1 w #[.int .i64 D.size, .int .i64 D.load, .int .i64 D.wind, vA, .int .i64 D.pitch, .int .i64 D.roll, .int .i64 D.heave, .int .i64 D.fire, vB, vC, .int .i64 M.places, .int .i64 M.any.a0, .int .i64 M.any.a1, .int .i64 M.any.a2, .int .i64 M.any.a3, .int .i64 M.any.a4, .int .i64 M.any.a5, .bool M.any.i, .bool M.any.s, .int .i64 M.mw, .int .i64 M.ms, .int .i64 M.mc, vF, vS, vP, vR, vV] 98
   have HX := hI9 _x.1
   have HB := hI9 _x.2.1
   have zW := _x.2.2
   clear _x
   generalize World.alloc w _ = W at *
   go_wp2_with (first | (refine wpl_mid rfl 26 _ rfl w.heap.size 0 rfl 98 _ #[.int .i64 D.size, .int .i64 D.load, .int .i64 D.wind, vA, .int .i64 D.pitch, .int .i64 D.roll, .int .i64 D.heave, .int .i64 D.fire, vB, vC] 10 HX.out Tryz.rowDek [] [.int .i64 M.places, .int .i64 M.any.a0, .int .i64 M.any.a1, .int .i64 M.any.a2, .int .i64 M.any.a3, .int .i64 M.any.a4, .int .i64 M.any.a5, .bool M.any.i, .bool M.any.s, .int .i64 M.mw, .int .i64 M.ms, .int .i64 M.mc, vF, vS, vP, vR, vV] rfl rfl rfl ?_; simp only [Act.put]) | (refine wpl_mid rfl 34 _ rfl w.heap.size 10 rfl 98 _ #[.int .i64 M.places, .int .i64 M.any.a0, .int .i64 M.any.a1, .int .i64 M.any.a2, .int .i64 M.any.a3, .int .i64 M.any.a4, .int .i64 M.any.a5, .bool M.any.i, .bool M.any.s, .int .i64 M.mw, .int .i64 M.ms, .int .i64 M.mc, vF, vS] 14 HX.out Tryz.rowMet [.int .i64 D.size, .int .i64 D.load, .int .i64 D.wind, vA, .int .i64 D.pitch, .int .i64 D.roll, .int .i64 D.heave, .int .i64 D.fire, vB, vC] [vP, vR, vV] rfl rfl rfl ?_; simp only [Act.put]) | (refine wpl_mid rfl 37 _ rfl w.heap.size 24 rfl 98 _ #[vP, vR, vV] 3 HX.out Tryz.rowMov [.int .i64 D.size, .int .i64 D.load, .int .i64 D.wind, vA, .int .i64 D.pitch, .int .i64 D.roll, .int .i64 D.heave, .int .i64 D.fire, vB, vC, .int .i64 M.places, .int .i64 M.any.a0, .int .i64 M.any.a1, .int .i64 M.any.a2, .int .i64 M.any.a3, .int .i64 M.any.a4, .int .i64 M.any.a5, .bool M.any.i, .bool M.any.s, .int .i64 M.mw, .int .i64 M.ms, .int .i64 M.mc, vF, vS] [] rfl rfl rfl ?_; simp only [Act.put]) | (go_at_call 92; (with_reducible refine (HCK.out _ (HD.out.below HB.out)).mono ?_); rintro e w1 ⟨rfl, hb1⟩; have nHX := hI9 (HX.out.below hb1); have nHB := hI9 (bthen HB.out hb1); have zz1 := hb1.size; clear HX HB hb1; have HX := nHX; have HB := nHB; clear nHX nHB) | (go_at_call 93; (with_reducible refine (HWC.out _ (HA.out.below HB.out)).mono ?_); rintro e w1 ⟨rfl, hb1⟩; have nHX := hI9 (HX.out.below hb1); have nHB := hI9 (bthen HB.out hb1); have zz1 := hb1.size; clear HX HB hb1; have HX := nHX; have HB := nHB; clear nHX nHB) | (go_at_call 94; (with_reducible refine (HCM.out _ (HD.out.below HB.out) (HV.out.below HB.out)).mono ?_); rintro e w1 ⟨rfl, hb1⟩; have nHX := hI9 (HX.out.below hb1); have nHB := hI9 (bthen HB.out hb1); have zz1 := hb1.size; clear HX HB hb1; have HX := nHX; have HB := nHB; clear nHX nHB))
   go_ret
   exact ⟨rfl, HB.out⟩
  ·rw [if_neg hm]
   have hmz : (M.err != 0) = true := by simpa using hm
   clear hm
   generalize M.err = E at *
   have HWC := hI9 hwc
   have HCM := hI9 hcm
   clear hwc hcm
   go_enter Tryz.func45, Tryz.ntmps45
   go_wp2_with (fail)
   have _x := frm1 w #[.int .i64 D.size, .int .i64 D.load, .int .i64 D.wind, vA, .int .i64 D.pitch, .int .i64 D.roll, .int .i64 D.heave, .int .i64 D.fire, vB, vC, .int .i64 M.places, .int .i64 M.any.a0, .int .i64 M.any.a1, .int .i64 M.any.a2, .int .i64 M.any.a3, .int .i64 M.any.a4, .int .i64 M.any.a5, .bool M.any.i, .bool M.any.s, .int .i64 M.mw, .int .i64 M.ms, .int .i64 M.mc, vF, vS, vP, vR, vV] 98
   have HX := hI9 _x.1
   have HB := hI9 _x.2.1
   have zW := _x.2.2
   clear _x
   generalize World.alloc w _ = W at *
   go_wp2_with (first | (refine wpl_mid rfl 26 _ rfl w.heap.size 0 rfl 98 _ #[.int .i64 D.size, .int .i64 D.load, .int .i64 D.wind, vA, .int .i64 D.pitch, .int .i64 D.roll, .int .i64 D.heave, .int .i64 D.fire, vB, vC] 10 HX.out Tryz.rowDek [] [.int .i64 M.places, .int .i64 M.any.a0, .int .i64 M.any.a1, .int .i64 M.any.a2, .int .i64 M.any.a3, .int .i64 M.any.a4, .int .i64 M.any.a5, .bool M.any.i, .bool M.any.s, .int .i64 M.mw, .int .i64 M.ms, .int .i64 M.mc, vF, vS, vP, vR, vV] rfl rfl rfl ?_; simp only [Act.put]) | (refine wpl_mid rfl 34 _ rfl w.heap.size 10 rfl 98 _ #[.int .i64 M.places, .int .i64 M.any.a0, .int .i64 M.any.a1, .int .i64 M.any.a2, .int .i64 M.any.a3, .int .i64 M.any.a4, .int .i64 M.any.a5, .bool M.any.i, .bool M.any.s, .int .i64 M.mw, .int .i64 M.ms, .int .i64 M.mc, vF, vS] 14 HX.out Tryz.rowMet [.int .i64 D.size, .int .i64 D.load, .int .i64 D.wind, vA, .int .i64 D.pitch, .int .i64 D.roll, .int .i64 D.heave, .int .i64 D.fire, vB, vC] [vP, vR, vV] rfl rfl rfl ?_; simp only [Act.put]) | (refine wpl_mid rfl 37 _ rfl w.heap.size 24 rfl 98 _ #[vP, vR, vV] 3 HX.out Tryz.rowMov [.int .i64 D.size, .int .i64 D.load, .int .i64 D.wind, vA, .int .i64 D.pitch, .int .i64 D.roll, .int .i64 D.heave, .int .i64 D.fire, vB, vC, .int .i64 M.places, .int .i64 M.any.a0, .int .i64 M.any.a1, .int .i64 M.any.a2, .int .i64 M.any.a3, .int .i64 M.any.a4, .int .i64 M.any.a5, .bool M.any.i, .bool M.any.s, .int .i64 M.mw, .int .i64 M.ms, .int .i64 M.mc, vF, vS] [] rfl rfl rfl ?_; simp only [Act.put]) | (go_at_call 92; (with_reducible refine (HCK.out _ (HD.out.below HB.out)).mono ?_); rintro e w1 ⟨rfl, hb1⟩; have nHX := hI9 (HX.out.below hb1); have nHB := hI9 (bthen HB.out hb1); have zz1 := hb1.size; clear HX HB hb1; have HX := nHX; have HB := nHB; clear nHX nHB) | (go_at_call 93; (with_reducible refine (HWC.out _ (HA.out.below HB.out)).mono ?_); rintro e w1 ⟨rfl, hb1⟩; have nHX := hI9 (HX.out.below hb1); have nHB := hI9 (bthen HB.out hb1); have zz1 := hb1.size; clear HX HB hb1; have HX := nHX; have HB := nHB; clear nHX nHB) | (go_at_call 94; (with_reducible refine (HCM.out _ (HD.out.below HB.out) (HV.out.below HB.out)).mono ?_); rintro e w1 ⟨rfl, hb1⟩; have nHX := hI9 (HX.out.below hb1); have nHB := hI9 (bthen HB.out hb1); have zz1 := hb1.size; clear HX HB hb1; have HX := nHX; have HB := nHB; clear nHX nHB))
   go_ret
   exact ⟨rfl, HB.out⟩
 ·rw [if_neg he]
  have hez : (D.err != 0) = true := by simpa using he
  clear he
  generalize D.err = E at *
  have HCK := hI9 hck
  have HWC := hI9 hwc
  have HCM := hI9 hcm
  clear hck hwc hcm
  go_enter Tryz.func45, Tryz.ntmps45
  go_wp2_with (fail)
  have _x := frm1 w #[.int .i64 D.size, .int .i64 D.load, .int .i64 D.wind, vA, .int .i64 D.pitch, .int .i64 D.roll, .int .i64 D.heave, .int .i64 D.fire, vB, vC, .int .i64 M.places, .int .i64 M.any.a0, .int .i64 M.any.a1, .int .i64 M.any.a2, .int .i64 M.any.a3, .int .i64 M.any.a4, .int .i64 M.any.a5, .bool M.any.i, .bool M.any.s, .int .i64 M.mw, .int .i64 M.ms, .int .i64 M.mc, vF, vS, vP, vR, vV] 98
  have HX := hI9 _x.1
  have HB := hI9 _x.2.1
  have zW := _x.2.2
  clear _x
  generalize World.alloc w _ = W at *
  go_wp2_with (first | (refine wpl_mid rfl 26 _ rfl w.heap.size 0 rfl 98 _ #[.int .i64 D.size, .int .i64 D.load, .int .i64 D.wind, vA, .int .i64 D.pitch, .int .i64 D.roll, .int .i64 D.heave, .int .i64 D.fire, vB, vC] 10 HX.out Tryz.rowDek [] [.int .i64 M.places, .int .i64 M.any.a0, .int .i64 M.any.a1, .int .i64 M.any.a2, .int .i64 M.any.a3, .int .i64 M.any.a4, .int .i64 M.any.a5, .bool M.any.i, .bool M.any.s, .int .i64 M.mw, .int .i64 M.ms, .int .i64 M.mc, vF, vS, vP, vR, vV] rfl rfl rfl ?_; simp only [Act.put]) | (refine wpl_mid rfl 34 _ rfl w.heap.size 10 rfl 98 _ #[.int .i64 M.places, .int .i64 M.any.a0, .int .i64 M.any.a1, .int .i64 M.any.a2, .int .i64 M.any.a3, .int .i64 M.any.a4, .int .i64 M.any.a5, .bool M.any.i, .bool M.any.s, .int .i64 M.mw, .int .i64 M.ms, .int .i64 M.mc, vF, vS] 14 HX.out Tryz.rowMet [.int .i64 D.size, .int .i64 D.load, .int .i64 D.wind, vA, .int .i64 D.pitch, .int .i64 D.roll, .int .i64 D.heave, .int .i64 D.fire, vB, vC] [vP, vR, vV] rfl rfl rfl ?_; simp only [Act.put]) | (refine wpl_mid rfl 37 _ rfl w.heap.size 24 rfl 98 _ #[vP, vR, vV] 3 HX.out Tryz.rowMov [.int .i64 D.size, .int .i64 D.load, .int .i64 D.wind, vA, .int .i64 D.pitch, .int .i64 D.roll, .int .i64 D.heave, .int .i64 D.fire, vB, vC, .int .i64 M.places, .int .i64 M.any.a0, .int .i64 M.any.a1, .int .i64 M.any.a2, .int .i64 M.any.a3, .int .i64 M.any.a4, .int .i64 M.any.a5, .bool M.any.i, .bool M.any.s, .int .i64 M.mw, .int .i64 M.ms, .int .i64 M.mc, vF, vS] [] rfl rfl rfl ?_; simp only [Act.put]) | (go_at_call 92; (with_reducible refine (HCK.out _ (HD.out.below HB.out)).mono ?_); rintro e w1 ⟨rfl, hb1⟩; have nHX := hI9 (HX.out.below hb1); have nHB := hI9 (bthen HB.out hb1); have zz1 := hb1.size; clear HX HB hb1; have HX := nHX; have HB := nHB; clear nHX nHB) | (go_at_call 93; (with_reducible refine (HWC.out _ (HA.out.below HB.out)).mono ?_); rintro e w1 ⟨rfl, hb1⟩; have nHX := hI9 (HX.out.below hb1); have nHB := hI9 (bthen HB.out hb1); have zz1 := hb1.size; clear HX HB hb1; have HX := nHX; have HB := nHB; clear nHX nHB) | (go_at_call 94; (with_reducible refine (HCM.out _ (HD.out.below HB.out) (HV.out.below HB.out)).mono ?_); rintro e w1 ⟨rfl, hb1⟩; have nHX := hI9 (HX.out.below hb1); have nHB := hI9 (bthen HB.out hb1); have zz1 := hb1.size; clear HX HB hb1; have HX := nHX; have HB := nHB; clear nHX nHB))
  go_ret
  exact ⟨rfl, HB.out⟩
end Go.Proofs.YtlambeiafdpkgaaGreat
