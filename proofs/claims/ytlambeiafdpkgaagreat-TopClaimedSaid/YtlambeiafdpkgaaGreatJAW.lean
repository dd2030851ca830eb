/- Texts joined: JAW. -/
import Derived.Test.YtlambeiafdpkgaaGreatJAU
import Derived.Test.YtlambeiafdpkgaaGreatJAV
import Derived.Test.YtlambeiafdpkgaaGreatJAN
set_option linter.all false
namespace Go.Proofs.YtlambeiafdpkgaaGreat
open Go Go.RowKit Go.Proofs
set_option maxRecDepth 100000
set_option maxHeartbeats 8000000
theorem dFar_c (D : DekD) (vA vB vC : Value) (M : MetD) (vF vS : Value) (Mo : MovD) (vP vR vV : Value) (w : World) (hD : DekAt w vA vB vC D) (hA : MetAt w vF vS M) (hV : MovAt w vP vR vV Mo) :
  Calls Tryz.prog 5 #[.agg #[.int .i64 D.size, .int .i64 D.load, .int .i64 D.wind, vA, .int .i64 D.pitch, .int .i64 D.roll, .int .i64 D.heave, .int .i64 D.fire, vB, vC, .int .i64 M.places, .int .i64 M.any.a0, .int .i64 M.any.a1, .int .i64 M.any.a2, .int .i64 M.any.a3, .int .i64 M.any.a4, .int .i64 M.any.a5, .bool M.any.i, .bool M.any.s, .int .i64 M.mw, .int .i64 M.ms, .int .i64 M.mc, vF, vS, vP, vR, vV]] w fun e w' => e = .returned (.bool (farP D M Mo)) ∧ Below w.heap.size w w' := by
 have HA := hI9 hA
 have hfr := fun w1 h => wFar_c M vF vS w1 h
 obtain ⟨A1, k1, rfl, -, -, -⟩ := hD.s.e
 obtain ⟨A2, k2, rfl, -, -, -⟩ := hD.h.e
 obtain ⟨A3, k3, rfl, -, -, -⟩ := hD.u.e
 obtain ⟨⟨A4, k4, rfl, -, -, -⟩, ⟨A5, k5, rfl, -, -, -⟩⟩ := hA
 obtain ⟨A6, k6, rfl, -, -, -⟩ := hV.p.e
 obtain ⟨A7, k7, rfl, -, -, -⟩ := hV.r.e
 obtain ⟨A8, k8, rfl, -, -, -⟩ := hV.v.e
 clear hD hV
 have HFR0 := hI9 hfr
 clear hfr
 unfold farP
 by_cases n1 : 12 < D.ns
 ·rw [decide_eq_true n1, Bool.true_or]
  have z1 : (12 : Int) < (D.ns : Int) := by omega
  go_enter Tryz.func5, Tryz.ntmps5
  go_wp2_with (fail)
  have _x := frm1 w #[.int .i64 D.size, .int .i64 D.load, .int .i64 D.wind, .slice A1 D.ns k1, .int .i64 D.pitch, .int .i64 D.roll, .int .i64 D.heave, .int .i64 D.fire, .slice A2 D.nh k2, .slice A3 D.nu k3, .int .i64 M.places, .int .i64 M.any.a0, .int .i64 M.any.a1, .int .i64 M.any.a2, .int .i64 M.any.a3, .int .i64 M.any.a4, .int .i64 M.any.a5, .bool M.any.i, .bool M.any.s, .int .i64 M.mw, .int .i64 M.ms, .int .i64 M.mc, .slice A4 M.n k4, .slice A5 M.m k5, .slice A6 Mo.np k6, .slice A7 Mo.nr k7, .slice A8 Mo.nv k8] 39
  have HX := hI9 _x.1
  have HB := hI9 _x.2.1
  have zW := _x.2.2
  clear _x
  generalize World.alloc w _ = W at *
  have zHX := HX.out.lt
  have cHX3 := HX.out.cell 3
  have cHX8 := HX.out.cell 8
  have cHX9 := HX.out.cell 9
  have cHX10 := HX.out.cell 10
  have cHX11 := HX.out.cell 11
  have cHX12 := HX.out.cell 12
  have cHX13 := HX.out.cell 13
  have cHX14 := HX.out.cell 14
  have cHX15 := HX.out.cell 15
  have cHX16 := HX.out.cell 16
  have cHX17 := HX.out.cell 17
  have cHX18 := HX.out.cell 18
  have cHX19 := HX.out.cell 19
  have cHX20 := HX.out.cell 20
  have cHX21 := HX.out.cell 21
  have cHX22 := HX.out.cell 22
  have cHX23 := HX.out.cell 23
  have cHX24 := HX.out.cell 24
  have cHX25 := HX.out.cell 25
  have cHX26 := HX.out.cell 26
  go_wp2_with (first | (go_at_call 23; (with_reducible refine (HFR.out _ (HA.out.below HB.out)).mono ?_); rintro e w1 ⟨rfl, hb1⟩; have nHX := hI9 (HX.out.below hb1); have nHB := hI9 (bthen HB.out hb1); have zz1 := hb1.size; clear HX HB hb1; have HX := nHX; have HB := nHB; clear nHX nHB; (try clear zHX); have zHX := HX.out.lt; (try clear cHX24); have cHX24 := HX.out.cell 24; (try clear cHX25); have cHX25 := HX.out.cell 25; (try clear cHX26); have cHX26 := HX.out.cell 26))
  go_ret
  exact ⟨by first | rfl | exact ret_bool (by simp; omega) | exact ret_bool (by simp), HB.out⟩
 rw [decide_eq_false n1, Bool.false_or]
 have z1 : ¬ (12 : Int) < (D.ns : Int) := by omega
 by_cases n2 : 20 < D.nh
 ·rw [decide_eq_true n2, Bool.true_or]
  have z2 : (20 : Int) < (D.nh : Int) := by omega
  go_enter Tryz.func5, Tryz.ntmps5
  go_wp2_with (fail)
  have _x := frm1 w #[.int .i64 D.size, .int .i64 D.load, .int .i64 D.wind, .slice A1 D.ns k1, .int .i64 D.pitch, .int .i64 D.roll, .int .i64 D.heave, .int .i64 D.fire, .slice A2 D.nh k2, .slice A3 D.nu k3, .int .i64 M.places, .int .i64 M.any.a0, .int .i64 M.any.a1, .int .i64 M.any.a2, .int .i64 M.any.a3, .int .i64 M.any.a4, .int .i64 M.any.a5, .bool M.any.i, .bool M.any.s, .int .i64 M.mw, .int .i64 M.ms, .int .i64 M.mc, .slice A4 M.n k4, .slice A5 M.m k5, .slice A6 Mo.np k6, .slice A7 Mo.nr k7, .slice A8 Mo.nv k8] 39
  have HX := hI9 _x.1
  have HB := hI9 _x.2.1
  have zW := _x.2.2
  clear _x
  generalize World.alloc w _ = W at *
  have zHX := HX.out.lt
  have cHX3 := HX.out.cell 3
  have cHX8 := HX.out.cell 8
  have cHX9 := HX.out.cell 9
  have cHX10 := HX.out.cell 10
  have cHX11 := HX.out.cell 11
  have cHX12 := HX.out.cell 12
  have cHX13 := HX.out.cell 13
  have cHX14 := HX.out.cell 14
  have cHX15 := HX.out.cell 15
  have cHX16 := HX.out.cell 16
  have cHX17 := HX.out.cell 17
  have cHX18 := HX.out.cell 18
  have cHX19 := HX.out.cell 19
  have cHX20 := HX.out.cell 20
  have cHX21 := HX.out.cell 21
  have cHX22 := HX.out.cell 22
  have cHX23 := HX.out.cell 23
  have cHX24 := HX.out.cell 24
  have cHX25 := HX.out.cell 25
  have cHX26 := HX.out.cell 26
  go_wp2_with (first | (go_at_call 23; (with_reducible refine (HFR.out _ (HA.out.below HB.out)).mono ?_); rintro e w1 ⟨rfl, hb1⟩; have nHX := hI9 (HX.out.below hb1); have nHB := hI9 (bthen HB.out hb1); have zz1 := hb1.size; clear HX HB hb1; have HX := nHX; have HB := nHB; clear nHX nHB; (try clear zHX); have zHX := HX.out.lt; (try clear cHX24); have cHX24 := HX.out.cell 24; (try clear cHX25); have cHX25 := HX.out.cell 25; (try clear cHX26); have cHX26 := HX.out.cell 26))
  go_ret
  exact ⟨by first | rfl | exact ret_bool (by simp; omega) | exact ret_bool (by simp), HB.out⟩
 rw [decide_eq_false n2, Bool.false_or]
 have z2 : ¬ (20 : Int) < (D.nh : Int) := by omega
 by_cases n3 : 20 < D.nu
 ·rw [decide_eq_true n3, Bool.true_or]
  have z3 : (20 : Int) < (D.nu : Int) := by omega
  go_enter Tryz.func5, Tryz.ntmps5
  go_wp2_with (fail)
  have _x := frm1 w #[.int .i64 D.size, .int .i64 D.load, .int .i64 D.wind, .slice A1 D.ns k1, .int .i64 D.pitch, .int .i64 D.roll, .int .i64 D.heave, .int .i64 D.fire, .slice A2 D.nh k2, .slice A3 D.nu k3, .int .i64 M.places, .int .i64 M.any.a0, .int .i64 M.any.a1, .int .i64 M.any.a2, .int .i64 M.any.a3, .int .i64 M.any.a4, .int .i64 M.any.a5, .bool M.any.i, .bool M.any.s, .int .i64 M.mw, .int .i64 M.ms, .int .i64 M.mc, .slice A4 M.n k4, .slice A5 M.m k5, .slice A6 Mo.np k6, .slice A7 Mo.nr k7, .slice A8 Mo.nv k8] 39
  have HX := hI9 _x.1
  have HB := hI9 _x.2.1
  have zW := _x.2.2
  clear _x
  generalize World.alloc w _ = W at *
  have zHX := HX.out.lt
  have cHX3 := HX.out.cell 3
  have cHX8 := HX.out.cell 8
  have cHX9 := HX.out.cell 9
  have cHX10 := HX.out.cell 10
  have cHX11 := HX.out.cell 11
  have cHX12 := HX.out.cell 12
  have cHX13 := HX.out.cell 13
  have cHX14 := HX.out.cell 14
  have cHX15 := HX.out.cell 15
  have cHX16 := HX.out.cell 16
  have cHX17 := HX.out.cell 17
  have cHX18 := HX.out.cell 18
  have cHX19 := HX.out.cell 19
  have cHX20 := HX.out.cell 20
  have cHX21 := HX.out.cell 21
  have cHX22 := HX.out.cell 22
  have cHX23 := HX.out.cell 23
  have cHX24 := HX.out.cell 24
  have cHX25 := HX.out.cell 25
  have cHX26 := HX.out.cell 26
  go_wp2_with (first | (go_at_call 23; (with_reducible refine (HFR.out _ (HA.out.below HB.out)).mono ?_); rintro e w1 ⟨rfl, hb1⟩; have nHX := hI9 (HX.out.below hb1); have nHB := hI9 (bthen HB.out hb1); have zz1 := hb1.size; clear HX HB hb1; have HX := nHX; have HB := nHB; clear nHX nHB; (try clear zHX); have zHX := HX.out.lt; (try clear cHX24); have cHX24 := HX.out.cell 24; (try clear cHX25); have cHX25 := HX.out.cell 25; (try clear cHX26); have cHX26 := HX.out.cell 26))
  go_ret
  exact ⟨by first | rfl | exact ret_bool (by simp; omega) | exact ret_bool (by simp), HB.out⟩
 rw [decide_eq_false n3, Bool.false_or]
 have z3 : ¬ (20 : Int) < (D.nu : Int) := by omega
 have hfr := HFR0.out
 cases hf : M.far
 case true =>
  rw [hf] at hfr
  have HFR := hI9 hfr
  clear hfr HFR0 hf
  rw [Bool.true_or]
  go_enter Tryz.func5, Tryz.ntmps5
  go_wp2_with (fail)
  have _x := frm1 w #[.int .i64 D.size, .int .i64 D.load, .int .i64 D.wind, .slice A1 D.ns k1, .int .i64 D.pitch, .int .i64 D.roll, .int .i64 D.heave, .int .i64 D.fire, .slice A2 D.nh k2, .slice A3 D.nu k3, .int .i64 M.places, .int .i64 M.any.a0, .int .i64 M.any.a1, .int .i64 M.any.a2, .int .i64 M.any.a3, .int .i64 M.any.a4, .int .i64 M.any.a5, .bool M.any.i, .bool M.any.s, .int .i64 M.mw, .int .i64 M.ms, .int .i64 M.mc, .slice A4 M.n k4, .slice A5 M.m k5, .slice A6 Mo.np k6, .slice A7 Mo.nr k7, .slice A8 Mo.nv k8] 39
  have HX := hI9 _x.1
  have HB := hI9 _x.2.1
  have zW := _x.2.2
  clear _x
  generalize World.alloc w _ = W at *
  have zHX := HX.out.lt
  have cHX3 := HX.out.cell 3
  have cHX8 := HX.out.cell 8
  have cHX9 := HX.out.cell 9
  have cHX10 := HX.out.cell 10
  have cHX11 := HX.out.cell 11
  have cHX12 := HX.out.cell 12
  have cHX13 := HX.out.cell 13
  have cHX14 := HX.out.cell 14
  have cHX15 := HX.out.cell 15
  have cHX16 := HX.out.cell 16
  have cHX17 := HX.out.cell 17
  have cHX18 := HX.out.cell 18
  have cHX19 := HX.out.cell 19
  have cHX20 := HX.out.cell 20
  have cHX21 := HX.out.cell 21
  have cHX22 := HX.out.cell 22
  have cHX23 := HX.out.cell 23
  have cHX24 := HX.out.cell 24
  have cHX25 := HX.out.cell 25
  have cHX26 := HX.out.cell 26
  go_wp2_with (first | (go_at_call 23; (with_reducible refine (HFR.out _ (HA.out.below HB.out)).mono ?_); rintro e w1 ⟨rfl, hb1⟩; have nHX := hI9 (HX.out.below hb1); have nHB := hI9 (bthen HB.out hb1); have zz1 := hb1.size; clear HX HB hb1; have HX := nHX; have HB := nHB; clear nHX nHB; (try clear zHX); have zHX := HX.out.lt; (try clear cHX24); have cHX24 := HX.out.cell 24; (try clear cHX25); have cHX25 := HX.out.cell 25; (try clear cHX26); have cHX26 := HX.out.cell 26))
  go_ret
  exact ⟨by first | rfl | exact ret_bool (by simp; omega) | exact ret_bool (by simp), HB.out⟩
 rw [hf] at hfr
 have HFR := hI9 hfr
 clear hfr HFR0 hf
 rw [Bool.false_or]
 by_cases n4 : 200 < Mo.np
 ·rw [decide_eq_true n4, Bool.true_or]
  have z4 : (200 : Int) < (Mo.np : Int) := by omega
  go_enter Tryz.func5, Tryz.ntmps5
  go_wp2_with (fail)
  have _x := frm1 w #[.int .i64 D.size, .int .i64 D.load, .int .i64 D.wind, .slice A1 D.ns k1, .int .i64 D.pitch, .int .i64 D.roll, .int .i64 D.heave, .int .i64 D.fire, .slice A2 D.nh k2, .slice A3 D.nu k3, .int .i64 M.places, .int .i64 M.any.a0, .int .i64 M.any.a1, .int .i64 M.any.a2, .int .i64 M.any.a3, .int .i64 M.any.a4, .int .i64 M.any.a5, .bool M.any.i, .bool M.any.s, .int .i64 M.mw, .int .i64 M.ms, .int .i64 M.mc, .slice A4 M.n k4, .slice A5 M.m k5, .slice A6 Mo.np k6, .slice A7 Mo.nr k7, .slice A8 Mo.nv k8] 39
  have HX := hI9 _x.1
  have HB := hI9 _x.2.1
  have zW := _x.2.2
  clear _x
  generalize World.alloc w _ = W at *
  have zHX := HX.out.lt
  have cHX3 := HX.out.cell 3
  have cHX8 := HX.out.cell 8
  have cHX9 := HX.out.cell 9
  have cHX10 := HX.out.cell 10
  have cHX11 := HX.out.cell 11
  have cHX12 := HX.out.cell 12
  have cHX13 := HX.out.cell 13
  have cHX14 := HX.out.cell 14
  have cHX15 := HX.out.cell 15
  have cHX16 := HX.out.cell 16
  have cHX17 := HX.out.cell 17
  have cHX18 := HX.out.cell 18
  have cHX19 := HX.out.cell 19
  have cHX20 := HX.out.cell 20
  have cHX21 := HX.out.cell 21
  have cHX22 := HX.out.cell 22
  have cHX23 := HX.out.cell 23
  have cHX24 := HX.out.cell 24
  have cHX25 := HX.out.cell 25
  have cHX26 := HX.out.cell 26
  go_wp2_with (first | (go_at_call 23; (with_reducible refine (HFR.out _ (HA.out.below HB.out)).mono ?_); rintro e w1 ⟨rfl, hb1⟩; have nHX := hI9 (HX.out.below hb1); have nHB := hI9 (bthen HB.out hb1); have zz1 := hb1.size; clear HX HB hb1; have HX := nHX; have HB := nHB; clear nHX nHB; (try clear zHX); have zHX := HX.out.lt; (try clear cHX24); have cHX24 := HX.out.cell 24; (try clear cHX25); have cHX25 := HX.out.cell 25; (try clear cHX26); have cHX26 := HX.out.cell 26))
  go_ret
  exact ⟨by first | rfl | exact ret_bool (by simp; omega) | exact ret_bool (by simp), HB.out⟩
 rw [decide_eq_false n4, Bool.false_or]
 have z4 : ¬ (200 : Int) < (Mo.np : Int) := by omega
 by_cases n5 : 200 < Mo.nr
 ·rw [decide_eq_true n5, Bool.true_or]
  have z5 : (200 : Int) < (Mo.nr : Int) := by omega
  go_enter Tryz.func5, Tryz.ntmps5
  go_wp2_with (fail)
  have _x := frm1 w #[.int .i64 D.size, .int .i64 D.load, .int .i64 D.wind, .slice A1 D.ns k1, .int .i64 D.pitch, .int .i64 D.roll, .int .i64 D.heave, .int .i64 D.fire, .slice A2 D.nh k2, .slice A3 D.nu k3, .int .i64 M.places, .int .i64 M.any.a0, .int .i64 M.any.a1, .int .i64 M.any.a2, .int .i64 M.any.a3, .int .i64 M.any.a4, .int .i64 M.any.a5, .bool M.any.i, .bool M.any.s, .int .i64 M.mw, .int .i64 M.ms, .int .i64 M.mc, .slice A4 M.n k4, .slice A5 M.m k5, .slice A6 Mo.np k6, .slice A7 Mo.nr k7, .slice A8 Mo.nv k8] 39
  have HX := hI9 _x.1
  have HB := hI9 _x.2.1
  have zW := _x.2.2
  clear _x
  generalize World.alloc w _ = W at *
  have zHX := HX.out.lt
  have cHX3 := HX.out.cell 3
  have cHX8 := HX.out.cell 8
  have cHX9 := HX.out.cell 9
  have cHX10 := HX.out.cell 10
  have cHX11 := HX.out.cell 11
  have cHX12 := HX.out.cell 12
  have cHX13 := HX.out.cell 13
  have cHX14 := HX.out.cell 14
  have cHX15 := HX.out.cell 15
  have cHX16 := HX.out.cell 16
  have cHX17 := HX.out.cell 17
  have cHX18 := HX.out.cell 18
  have cHX19 := HX.out.cell 19
  have cHX20 := HX.out.cell 20
  have cHX21 := HX.out.cell 21
  have cHX22 := HX.out.cell 22
  have cHX23 := HX.out.cell 23
  have cHX24 := HX.out.cell 24
  have cHX25 := HX.out.cell 25
  have cHX26 := HX.out.cell 26
  go_wp2_with (first | (go_at_call 23; (with_reducible refine (HFR.out _ (HA.out.below HB.out)).mono ?_); rintro e w1 ⟨rfl, hb1⟩; have nHX := hI9 (HX.out.below hb1); have nHB := hI9 (bthen HB.out hb1); have zz1 := hb1.size; clear HX HB hb1; have HX := nHX; have HB := nHB; clear nHX nHB; (try clear zHX); have zHX := HX.out.lt; (try clear cHX24); have cHX24 := HX.out.cell 24; (try clear cHX25); have cHX25 := HX.out.cell 25; (try clear cHX26); have cHX26 := HX.out.cell 26))
  go_ret
  exact ⟨by first | rfl | exact ret_bool (by simp; omega) | exact ret_bool (by simp), HB.out⟩
 rw [decide_eq_false n5, Bool.false_or]
 have z5 : ¬ (200 : Int) < (Mo.nr : Int) := by omega
 by_cases n6 : 200 < Mo.nv
 ·rw [decide_eq_true n6]
  have z6 : (200 : Int) < (Mo.nv : Int) := by omega
  go_enter Tryz.func5, Tryz.ntmps5
  go_wp2_with (fail)
  have _x := frm1 w #[.int .i64 D.size, .int .i64 D.load, .int .i64 D.wind, .slice A1 D.ns k1, .int .i64 D.pitch, .int .i64 D.roll, .int .i64 D.heave, .int .i64 D.fire, .slice A2 D.nh k2, .slice A3 D.nu k3, .int .i64 M.places, .int .i64 M.any.a0, .int .i64 M.any.a1, .int .i64 M.any.a2, .int .i64 M.any.a3, .int .i64 M.any.a4, .int .i64 M.any.a5, .bool M.any.i, .bool M.any.s, .int .i64 M.mw, .int .i64 M.ms, .int .i64 M.mc, .slice A4 M.n k4, .slice A5 M.m k5, .slice A6 Mo.np k6, .slice A7 Mo.nr k7, .slice A8 Mo.nv k8] 39
  have HX := hI9 _x.1
  have HB := hI9 _x.2.1
  have zW := _x.2.2
  clear _x
  generalize World.alloc w _ = W at *
  have zHX := HX.out.lt
  have cHX3 := HX.out.cell 3
  have cHX8 := HX.out.cell 8
  have cHX9 := HX.out.cell 9
  have cHX10 := HX.out.cell 10
  have cHX11 := HX.out.cell 11
  have cHX12 := HX.out.cell 12
  have cHX13 := HX.out.cell 13
  have cHX14 := HX.out.cell 14
  have cHX15 := HX.out.cell 15
  have cHX16 := HX.out.cell 16
  have cHX17 := HX.out.cell 17
  have cHX18 := HX.out.cell 18
  have cHX19 := HX.out.cell 19
  have cHX20 := HX.out.cell 20
  have cHX21 := HX.out.cell 21
  have cHX22 := HX.out.cell 22
  have cHX23 := HX.out.cell 23
  have cHX24 := HX.out.cell 24
  have cHX25 := HX.out.cell 25
  have cHX26 := HX.out.cell 26
  go_wp2_with (first | (go_at_call 23; (with_reducible refine (HFR.out _ (HA.out.below HB.out)).mono ?_); rintro e w1 ⟨rfl, hb1⟩; have nHX := hI9 (HX.out.below hb1); have nHB := hI9 (bthen HB.out hb1); have zz1 := hb1.size; clear HX HB hb1; have HX := nHX; have HB := nHB; clear nHX nHB; (try clear zHX); have zHX := HX.out.lt; (try clear cHX24); have cHX24 := HX.out.cell 24; (try clear cHX25); have cHX25 := HX.out.cell 25; (try clear cHX26); have cHX26 := HX.out.cell 26))
  go_ret
  exact ⟨by first | rfl | exact ret_bool (by simp; omega) | exact ret_bool (by simp), HB.out⟩
 ·rw [decide_eq_false n6]
  have z6 : ¬ (200 : Int) < (Mo.nv : Int) := by omega
  go_enter Tryz.func5, Tryz.ntmps5
  go_wp2_with (fail)
  have _x := frm1 w #[.int .i64 D.size, .int .i64 D.load, .int .i64 D.wind, .slice A1 D.ns k1, .int .i64 D.pitch, .int .i64 D.roll, .int .i64 D.heave, .int .i64 D.fire, .slice A2 D.nh k2, .slice A3 D.nu k3, .int .i64 M.places, .int .i64 M.any.a0, .int .i64 M.any.a1, .int .i64 M.any.a2, .int .i64 M.any.a3, .int .i64 M.any.a4, .int .i64 M.any.a5, .bool M.any.i, .bool M.any.s, .int .i64 M.mw, .int .i64 M.ms, .int .i64 M.mc, .slice A4 M.n k4, .slice A5 M.m k5, .slice A6 Mo.np k6, .slice A7 Mo.nr k7, .slice A8 Mo.nv k8] 39
  have HX := hI9 _x.1
  have HB := hI9 _x.2.1
  have zW := _x.2.2
  clear _x
  generalize World.alloc w _ = W at *
  have zHX := HX.out.lt
  have cHX3 := HX.out.cell 3
  have cHX8 := HX.out.cell 8
  have cHX9 := HX.out.cell 9
  have cHX10 := HX.out.cell 10
  have cHX11 := HX.out.cell 11
  have cHX12 := HX.out.cell 12
  have cHX13 := HX.out.cell 13
  have cHX14 := HX.out.cell 14
  have cHX15 := HX.out.cell 15
  have cHX16 := HX.out.cell 16
  have cHX17 := HX.out.cell 17
  have cHX18 := HX.out.cell 18
  have cHX19 := HX.out.cell 19
  have cHX20 := HX.out.cell 20
  have cHX21 := HX.out.cell 21
  have cHX22 := HX.out.cell 22
  have cHX23 := HX.out.cell 23
  have cHX24 := HX.out.cell 24
  have cHX25 := HX.out.cell 25
  have cHX26 := HX.out.cell 26
  go_wp2_with (first | (go_at_call 23; (with_reducible refine (HFR.out _ (HA.out.below HB.out)).mono ?_); rintro e w1 ⟨rfl, hb1⟩; have nHX := hI9 (HX.out.below hb1); have nHB := hI9 (bthen HB.out hb1); have zz1 := hb1.size; clear HX HB hb1; have HX := nHX; have HB := nHB; clear nHX nHB; (try clear zHX); have zHX := HX.out.lt; (try clear cHX24); have cHX24 := HX.out.cell 24; (try clear cHX25); have cHX25 := HX.out.cell 25; (try clear cHX26); have cHX26 := HX.out.cell 26))
  go_ret
  exact ⟨by first | rfl | exact ret_bool (by simp; omega) | exact ret_bool (by simp), HB.out⟩
end Go.Proofs.YtlambeiafdpkgaaGreat

namespace Go.Proofs.YtlambeiafdpkgaaGreat
open Go Go.RowKit Go.Proofs
set_option maxRecDepth 100000
set_option maxHeartbeats 8000000
theorem tri_r (w : World) (c1 c2 c3 : Array Value) (T1 T2 T3 : TypeId) : Blk (((w.alloc (.cells c1 T1)).alloc (.cells c2 T2)).alloc (.cells c3 T3)) w.heap.size T1 c1 ∧ Blk (((w.alloc (.cells c1 T1)).alloc (.cells c2 T2)).alloc (.cells c3 T3)) (w.heap.size + 1) T2 c2 ∧
  Blk (((w.alloc (.cells c1 T1)).alloc (.cells c2 T2)).alloc (.cells c3 T3)) (w.heap.size + 1 + 1) T3 c3 ∧ RowKit.Below w.heap.size w (((w.alloc (.cells c1 T1)).alloc (.cells c2 T2)).alloc (.cells c3 T3)) :=
 ⟨((Blk.new w T1 c1).alloc _).alloc _, (Blk.newA (g := w.heap.size + 1) (w.alloc (.cells c1 T1)) T2 c2 (by simp)).alloc _, Blk.newA (g := w.heap.size + 1 + 1) _ T3 c3 (by simp), bal (bal (bal (RowKit.Below.refl _ _) _) _) _⟩
end Go.Proofs.YtlambeiafdpkgaaGreat

namespace Go.Proofs.YtlambeiafdpkgaaGreat
open Go Go.RowKit Go.Proofs
set_option maxRecDepth 100000
set_option maxHeartbeats 8000000
theorem all64 {xs : List Int} (h : (xs.all fun x => decide (-9223372036854775808 ≤ x) && decide (x ≤ 9223372036854775807)) = true) : ∀ x ∈ xs, I64 x := by
 intro x hx; rw [List.all_eq_true] at h; have := h x hx; simp only [Bool.and_eq_true, decide_eq_true_eq] at this; exact this
def msT : Tbl := ⟨[0, 10, 20], [0, 5], [[0, 10], [20, 30], [10, 50]]⟩
theorem ms_fits : Fits msT 5 15 0 5 := ⟨by kernel_rfl, by kernel_rfl, by kernel_rfl, by kernel_rfl, by kernel_rfl⟩
theorem ms_lo : bndLo msT 5 15 0 5 = 10 := by kernel_rfl
theorem ms_hi : bndHi msT 5 15 0 5 = 40 := by kernel_rfl
theorem msBound_c (x y v : Value) (w : World) (hT : TblAt w x y v msT) :
  Calls Tryz.prog 26 #[.agg #[x, y, v], .agg #[.int .i64 5, .int .i64 15], .agg #[.int .i64 0, .int .i64 5]] w fun e w' => e = .returned (.tuple #[.agg #[.int .i64 10, .int .i64 40], .int .i64 0]) ∧ RowKit.Below w.heap.size w w' := by
 have := Bound_c x y v msT 5 15 0 5 w hT ms_fits
 rwa [ms_lo, ms_hi] at this
theorem ints_blk {w : World} {g : Nat} {T : TypeId} (xs : List Int) (h : Blk w g T (xs.map (Value.int .i64)).toArray) (h64 : (xs.all fun x => decide (-9223372036854775808 ≤ x) && decide (x ≤ 9223372036854775807)) = true) (hl : xs.length ≤ 100) : Ints w (.slice (some ⟨g, 0, none⟩) xs.length xs.length) xs := by
 refine ⟨_, _, rfl, Nat.le_refl _, by omega, all64 h64, fun hp => ⟨g, 0, rfl, h.lt, fun k hk => ?_⟩⟩
 rw [Nat.zero_add, h.cell k]
 simp [nth, List.getD_eq_getElem?_getD, List.getElem?_eq_getElem hk]
theorem measures_c (w : World) : Calls Tryz.prog 7 #[] w fun e w' => e = .returned (.bool true) ∧ RowKit.Below w.heap.size w w' := by
 go_enter Tryz.func7, Tryz.ntmps7
 go_wp2_with (fail)
 obtain ⟨b1, b2, b3, b4, b5, b6, hb, hz⟩ := frm6 w #[.int .i64 0, .int .i64 10, .int .i64 20] 3 #[.int .i64 0, .int .i64 5] 3 #[.int .i64 0, .int .i64 10] 3 #[.int .i64 20, .int .i64 30] 3 #[.int .i64 10, .int .i64 50] 3 #[.slice (some ⟨w.heap.size + 1 + 1, 0, none⟩) 2 2, .slice (some ⟨w.heap.size + 1 + 1 + 1, 0, none⟩) 2 2, .slice (some ⟨w.heap.size + 1 + 1 + 1 + 1, 0, none⟩) 2 2] 35
 generalize World.alloc (World.alloc (World.alloc (World.alloc (World.alloc (World.alloc w _) _) _) _) _) _ = W at *
 have hT : TblAt W (.slice (some ⟨w.heap.size, 0, none⟩) 3 3) (.slice (some ⟨w.heap.size + 1, 0, none⟩) 2 2) (.slice (some ⟨w.heap.size + 1 + 1 + 1 + 1 + 1, 0, none⟩) 3 3) msT := by
  refine ⟨ints_blk [0, 10, 20] b1 rfl (by decide), ints_blk [0, 5] b2 rfl (by decide), ⟨_, 3, fun k => [Value.slice (some ⟨w.heap.size + 1 + 1, 0, none⟩) 2 2, .slice (some ⟨w.heap.size + 1 + 1 + 1, 0, none⟩) 2 2, .slice (some ⟨w.heap.size + 1 + 1 + 1 + 1, 0, none⟩) 2 2].getD k undef, rfl, by decide, by decide, fun hp => ⟨_, 0, rfl, b6.lt, fun k hk => ?_⟩, fun k hk => ?_⟩⟩
  ·rw [Nat.zero_add, b6.cell k]
   match k, hk with
   | 0, _ => rfl
   | 1, _ => rfl
   | 2, _ => rfl
   | k + 3, hk => exact absurd hk (by show ¬ k + 3 < 3; omega)
  ·match k, hk with
   | 0, _ => exact ints_blk [0, 10] b3 rfl (by decide)
   | 1, _ => exact ints_blk [20, 30] b4 rfl (by decide)
   | 2, _ => exact ints_blk [10, 50] b5 rfl (by decide)
   | k + 3, hk => exact absurd hk (by show ¬ k + 3 < 3; omega)
 refine (msBound_c _ _ _ _ (hT.below (bal (RowKit.Below.refl _ _) _))).mono ?_
 rintro e w1 ⟨rfl, hb1⟩
 have HB := hI9 (bthen (bal hb _) hb1)
 clear b1 b2 b3 b4 b5 b6 hb hz hT hb1
 go_wp2_with (fail)
 go_ret
 exact ⟨rfl, by first | exact HB.out | exact bal HB.out _⟩
end Go.Proofs.YtlambeiafdpkgaaGreat
