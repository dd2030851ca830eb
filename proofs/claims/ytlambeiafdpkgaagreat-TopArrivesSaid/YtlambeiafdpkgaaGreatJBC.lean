/- Texts joined: JBC. -/
import Derived.Test.YtlambeiafdpkgaaGreatJBB
set_option linter.all false
namespace Go.Proofs.YtlambeiafdpkgaaGreat
open Go Go.RowKit Go.Proofs
set_option maxRecDepth 100000
set_option maxHeartbeats 8000000
def DekV (D : DekD) (n0 : Nat) (v : Value) (w : World) : Prop := ∃ vA vB vC, v = .agg #[.int .i64 D.size, .int .i64 D.load, .int .i64 D.wind, vA, .int .i64 D.pitch, .int .i64 D.roll, .int .i64 D.heave, .int .i64 D.fire, vB, vC] ∧ SlN n0 w vA D.ns 3 (iV D.S) ∧ SlN n0 w vB D.nh 3 (iV D.H) ∧ SlN n0 w vC D.nu 2 (iV D.U)
theorem DekV.below {D : DekD} {n0 : Nat} {v : Value} {w w' : World} (h : DekV D n0 v w) (hb : Below w.heap.size w w') : DekV D n0 v w' := by
 obtain ⟨vA, vB, vC, e, h1, h2, h3⟩ := h
 exact ⟨vA, vB, vC, e, h1.below hb, h2.below hb, h3.below hb⟩
def MetV2 (M : MetD) (n0 : Nat) (v : Value) (w : World) : Prop := ∃ vF vS, v = .agg #[.int .i64 M.places, .int .i64 M.any.a0, .int .i64 M.any.a1, .int .i64 M.any.a2, .int .i64 M.any.a3, .int .i64 M.any.a4, .int .i64 M.any.a5, .bool M.any.i, .bool M.any.s, .int .i64 M.mw, .int .i64 M.ms, .int .i64 M.mc, vF, vS] ∧ MetAt w vF vS M ∧ (∀ b, some b = vF.ownBlock → n0 ≤ b) ∧ ∀ b, some b = vS.ownBlock → n0 ≤ b
theorem MetV2.below {M : MetD} {n0 : Nat} {v : Value} {w w' : World} (h : MetV2 M n0 v w) (hb : Below w.heap.size w w') : MetV2 M n0 v w' := by
 obtain ⟨vF, vS, e, h1, h2, h3⟩ := h
 exact ⟨vF, vS, e, h1.below hb, h2, h3⟩
def MovV (Mo : MovD) (n0 : Nat) (v : Value) (w : World) : Prop := ∃ vP vR vV, v = .agg #[vP, vR, vV] ∧ SlN n0 w vP Mo.np 1 (lV Mo.P) ∧ SlN n0 w vR Mo.nr 1 (lV Mo.R) ∧ SlN n0 w vV Mo.nv 1 (lV Mo.V)
theorem MovV.below {Mo : MovD} {n0 : Nat} {v : Value} {w w' : World} (h : MovV Mo n0 v w) (hb : Below w.heap.size w w') : MovV Mo n0 v w' := by
 obtain ⟨vP, vR, vV, e, h1, h2, h3⟩ := h
 exact ⟨vP, vR, vV, e, h1.below hb, h2.below hb, h3.below hb⟩
def farP (D : DekD) (M : MetD) (Mo : MovD) : Bool := decide (12 < D.ns) || (decide (20 < D.nh) || (decide (20 < D.nu) || (M.far || (decide (200 < Mo.np) || (decide (200 < Mo.nr) || decide (200 < Mo.nv))))))
end Go.Proofs.YtlambeiafdpkgaaGreat

namespace Go.Proofs.YtlambeiafdpkgaaGreat
open Go Go.RowKit Go.Proofs
set_option maxRecDepth 100000
set_option maxHeartbeats 8000000
theorem dFar_c (D : DekD) (vA vB vC : Value) (M : MetD) (vF vS : Value) (Mo : MovD) (vP vR vV : Value) (w : World) (hD : DekAt w vA vB vC D) (hA : MetAt w vF vS M) (hV : MovAt w vP vR vV Mo) :
  Calls Tryz.prog 5 #[.agg #[.int .i64 D.size, .int .i64 D.load, .int .i64 D.wind, vA, .int .i64 D.pitch, .int .i64 D.roll, .int .i64 D.heave, .int .i64 D.fire, vB, vC, .int .i64 M.places, .int .i64 M.any.a0, .int .i64 M.any.a1, .int .i64 M.any.a2, .int .i64 M.any.a3, .int .i64 M.any.a4, .int .i64 M.any.a5, .bool M.any.i, .bool M.any.s, .int .i64 M.mw, .int .i64 M.ms, .int .i64 M.mc, vF, vS, vP, vR, vV]] w fun e w' => e = .returned (.bool (farP D M Mo)) ∧ Below w.heap.size w w' := by
 have HA := hI9 hA
 have hfr := fun w1 h => wFar_c M vF vS w1 h
 obtain ⟨A1, k1, rfl, -, -, -⟩ := hD.s.e
 obtain ⟨A2, k2, rfl, -, -, -⟩ := hD.h.e
 obtain ⟨A3, k3, rfl, -, -, -⟩ := hD.u.e
 obtain ⟨⟨A4, k4, rfl, -, -, -⟩, ⟨A5, k5, rfl, -, -, -⟩⟩ := hA
 obtain ⟨A6, k6, rfl, -, -, -⟩ := hV.p.e
 obtain ⟨A7, k7, rfl, -, -, -⟩ := hV.r.e
 obtain ⟨A8, k8, rfl, -, -, -⟩ := hV.v.e
 clear hD hV
 have HFR0 := hI9 hfr
 clear hfr
 unfold farP
 by_cases n1 : 12 < D.ns
 ·rw [decide_eq_true n1, Bool.true_or]
  have z1 : (12 : Int) < (D.ns : Int) := by omega
  go_enter Tryz.func5, Tryz.ntmps5
  go_wp2_with (fail)
  have _x := frm1 w #[.int .i64 D.size, .int .i64 D.load, .int .i64 D.wind, .slice A1 D.ns k1, .int .i64 D.pitch, .int .i64 D.roll, .int .i64 D.heave, .int .i64 D.fire, .slice A2 D.nh k2, .slice A3 D.nu k3, .int .i64 M.places, .int .i64 M.any.a0, .int .i64 M.any.a1, .int .i64 M.any.a2, .int .i64 M.any.a3, .int .i64 M.any.a4, .int .i64 M.any.a5, .bool M.any.i, .bool M.any.s, .int .i64 M.mw, .int .i64 M.ms, .int .i64 M.mc, .slice A4 M.n k4, .slice A5 M.m k5, .slice A6 Mo.np k6, .slice A7 Mo.nr k7, .slice A8 Mo.nv k8] 39
  have HX := hI9 _x.1
  have HB := hI9 _x.2.1
  have zW := _x.2.2
  clear _x
  generalize World.alloc w _ = W at *
  have zHX := HX.out.lt
  have cHX3 := HX.out.cell 3
  have cHX8 := HX.out.cell 8
  have cHX9 := HX.out.cell 9
  have cHX10 := HX.out.cell 10
  have cHX11 := HX.out.cell 11
  have cHX12 := HX.out.cell 12
  have cHX13 := HX.out.cell 13
  have cHX14 := HX.out.cell 14
  have cHX15 := HX.out.cell 15
  have cHX16 := HX.out.cell 16
  have cHX17 := HX.out.cell 17
  have cHX18 := HX.out.cell 18
  have cHX19 := HX.out.cell 19
  have cHX20 := HX.out.cell 20
  have cHX21 := HX.out.cell 21
  have cHX22 := HX.out.cell 22
  have cHX23 := HX.out.cell 23
  have cHX24 := HX.out.cell 24
  have cHX25 := HX.out.cell 25
  have cHX26 := HX.out.cell 26
  go_wp2_with (first | (go_at_call 23; (with_reducible refine (HFR.out _ (HA.out.below HB.out)).mono ?_); rintro e w1 ⟨rfl, hb1⟩; have nHX := hI9 (HX.out.below hb1); have nHB := hI9 (bthen HB.out hb1); have zz1 := hb1.size; clear HX HB hb1; have HX := nHX; have HB := nHB; clear nHX nHB; (try clear zHX); have zHX := HX.out.lt; (try clear cHX24); have cHX24 := HX.out.cell 24; (try clear cHX25); have cHX25 := HX.out.cell 25; (try clear cHX26); have cHX26 := HX.out.cell 26))
  go_ret
  exact ⟨by first | rfl | exact ret_bool (by simp; omega) | exact ret_bool (by simp), HB.out⟩
 rw [decide_eq_false n1, Bool.false_or]
 have z1 : ¬ (12 : Int) < (D.ns : Int) := by omega
 by_cases n2 : 20 < D.nh
 ·rw [decide_eq_true n2, Bool.true_or]
  have z2 : (20 : Int) < (D.nh : Int) := by omega
  go_enter Tryz.func5, Tryz.ntmps5
  go_wp2_with (fail)
  have _x := frm1 w #[.int .i64 D.size, .int .i64 D.load, .int .i64 D.wind, .slice A1 D.ns k1, .int .i64 D.pitch, .int .i64 D.roll, .int .i64 D.heave, .int .i64 D.fire, .slice A2 D.nh k2, .slice A3 D.nu k3, .int .i64 M.places, .int .i64 M.any.a0, .int .i64 M.any.a1, .int .i64 M.any.a2, .int .i64 M.any.a3, .int .i64 M.any.a4, .int .i64 M.any.a5, .bool M.any.i, .bool M.any.s, .int .i64 M.mw, .int .i64 M.ms, .int .i64 M.mc, .slice A4 M.n k4, .slice A5 M.m k5, .slice A6 Mo.np k6, .slice A7 Mo.nr k7, .slice A8 Mo.nv k8] 39
  have HX := hI9 _x.1
  have HB := hI9 _x.2.1
  have zW := _x.2.2
  clear _x
  generalize World.alloc w _ = W at *
  have zHX := HX.out.lt
  have cHX3 := HX.out.cell 3
  have cHX8 := HX.out.cell 8
  have cHX9 := HX.out.cell 9
  have cHX10 := HX.out.cell 10
  have cHX11 := HX.out.cell 11
  have cHX12 := HX.out.cell 12
  have cHX13 := HX.out.cell 13
  have cHX14 := HX.out.cell 14
  have cHX15 := HX.out.cell 15
  have cHX16 := HX.out.cell 16
  have cHX17 := HX.out.cell 17
  have cHX18 := HX.out.cell 18
  have cHX19 := HX.out.cell 19
  have cHX20 := HX.out.cell 20
  have cHX21 := HX.out.cell 21
  have cHX22 := HX.out.cell 22
  have cHX23 := HX.out.cell 23
  have cHX24 := HX.out.cell 24
  have cHX25 := HX.out.cell 25
  have cHX26 := HX.out.cell 26
  go_wp2_with (first | (go_at_call 23; (with_reducible refine (HFR.out _ (HA.out.below HB.out)).mono ?_); rintro e w1 ⟨rfl, hb1⟩; have nHX := hI9 (HX.out.below hb1); have nHB := hI9 (bthen HB.out hb1); have zz1 := hb1.size; clear HX HB hb1; have HX := nHX; have HB := nHB; clear nHX nHB; (try clear zHX); have zHX := HX.out.lt; (try clear cHX24); have cHX24 := HX.out.cell 24; (try clear cHX25); have cHX25 := HX.out.cell 25; (try clear cHX26); have cHX26 := HX.out.cell 26))
  go_ret
  exact ⟨by first | rfl | exact ret_bool (by simp; omega) | exact ret_bool (by simp), HB.out⟩
 rw [decide_eq_false n2, Bool.false_or]
 have z2 : ¬ (20 : Int) < (D.nh : Int) := by omega
 by_cases n3 : 20 < D.nu
 ·rw [decide_eq_true n3, Bool.true_or]
  have z3 : (20 : Int) < (D.nu : Int) := by omega
  go_enter Tryz.func5, Tryz.ntmps5
  go_wp2_with (fail)
  have _x := frm1 w #[.int .i64 D.size, .int .i64 D.load, .int .i64 D.wind, .slice A1 D.ns k1, .int .i64 D.pitch, .int .i64 D.roll, .int .i64 D.heave, .int .i64 D.fire, .slice A2 D.nh k2, .slice A3 D.nu k3, .int .i64 M.places, .int .i64 M.any.a0, .int .i64 M.any.a1, .int .i64 M.any.a2, .int .i64 M.any.a3, .int .i64 M.any.a4, .int .i64 M.any.a5, .bool M.any.i, .bool M.any.s, .int .i64 M.mw, .int .i64 M.ms, .int .i64 M.mc, .slice A4 M.n k4, .slice A5 M.m k5, .slice A6 Mo.np k6, .slice A7 Mo.nr k7, .slice A8 Mo.nv k8] 39
  have HX := hI9 _x.1
  have HB := hI9 _x.2.1
  have zW := _x.2.2
  clear _x
  generalize World.alloc w _ = W at *
  have zHX := HX.out.lt
  have cHX3 := HX.out.cell 3
  have cHX8 := HX.out.cell 8
  have cHX9 := HX.out.cell 9
  have cHX10 := HX.out.cell 10
  have cHX11 := HX.out.cell 11
  have cHX12 := HX.out.cell 12
  have cHX13 := HX.out.cell 13
  have cHX14 := HX.out.cell 14
  have cHX15 := HX.out.cell 15
  have cHX16 := HX.out.cell 16
  have cHX17 := HX.out.cell 17
  have cHX18 := HX.out.cell 18
  have cHX19 := HX.out.cell 19
  have cHX20 := HX.out.cell 20
  have cHX21 := HX.out.cell 21
  have cHX22 := HX.out.cell 22
  have cHX23 := HX.out.cell 23
  have cHX24 := HX.out.cell 24
  have cHX25 := HX.out.cell 25
  have cHX26 := HX.out.cell 26
  go_wp2_with (first | (go_at_call 23; (with_reducible refine (HFR.out _ (HA.out.below HB.out)).mono ?_); rintro e w1 ⟨rfl, hb1⟩; have nHX := hI9 (HX.out.below hb1); have nHB := hI9 (bthen HB.out hb1); have zz1 := hb1.size; clear HX HB hb1; have HX := nHX; have HB := nHB; clear nHX nHB; (try clear zHX); have zHX := HX.out.lt; (try clear cHX24); have cHX24 := HX.out.cell 24; (try clear cHX25); have cHX25 := HX.out.cell 25; (try clear cHX26); have cHX26 := HX.out.cell 26))
  go_ret
  exact ⟨by first | rfl | exact ret_bool (by simp; omega) | exact ret_bool (by simp), HB.out⟩
 rw [decide_eq_false n3, Bool.false_or]
 have z3 : ¬ (20 : Int) < (D.nu : Int) := by omega
 have hfr := HFR0.out
 cases hf : M.far
 case true =>
  rw [hf] at hfr
  have HFR := hI9 hfr
  clear hfr HFR0 hf
  rw [Bool.true_or]
  go_enter Tryz.func5, Tryz.ntmps5
  go_wp2_with (fail)
  have _x := frm1 w #[.int .i64 D.size, .int .i64 D.load, .int .i64 D.wind, .slice A1 D.ns k1, .int .i64 D.pitch, .int .i64 D.roll, .int .i64 D.heave, .int .i64 D.fire, .slice A2 D.nh k2, .slice A3 D.nu k3, .int .i64 M.places, .int .i64 M.any.a0, .int .i64 M.any.a1, .int .i64 M.any.a2, .int .i64 M.any.a3, .int .i64 M.any.a4, .int .i64 M.any.a5, .bool M.any.i, .bool M.any.s, .int .i64 M.mw, .int .i64 M.ms, .int .i64 M.mc, .slice A4 M.n k4, .slice A5 M.m k5, .slice A6 Mo.np k6, .slice A7 Mo.nr k7, .slice A8 Mo.nv k8] 39
  have HX := hI9 _x.1
  have HB := hI9 _x.2.1
  have zW := _x.2.2
  clear _x
  generalize World.alloc w _ = W at *
  have zHX := HX.out.lt
  have cHX3 := HX.out.cell 3
  have cHX8 := HX.out.cell 8
  have cHX9 := HX.out.cell 9
  have cHX10 := HX.out.cell 10
  have cHX11 := HX.out.cell 11
  have cHX12 := HX.out.cell 12
  have cHX13 := HX.out.cell 13
  have cHX14 := HX.out.cell 14
  have cHX15 := HX.out.cell 15
  have cHX16 := HX.out.cell 16
  have cHX17 := HX.out.cell 17
  have cHX18 := HX.out.cell 18
  have cHX19 := HX.out.cell 19
  have cHX20 := HX.out.cell 20
  have cHX21 := HX.out.cell 21
  have cHX22 := HX.out.cell 22
  have cHX23 := HX.out.cell 23
  have cHX24 := HX.out.cell 24
  have cHX25 := HX.out.cell 25
  have cHX26 := HX.out.cell 26
  go_wp2_with (first | (go_at_call 23; (with_reducible refine (HFR.out _ (HA.out.below HB.out)).mono ?_); rintro e w1 ⟨rfl, hb1⟩; have nHX := hI9 (HX.out.below hb1); have nHB := hI9 (bthen HB.out hb1); have zz1 := hb1.size; clear HX HB hb1; have HX := nHX; have HB := nHB; clear nHX nHB; (try clear zHX); have zHX := HX.out.lt; (try clear cHX24); have cHX24 := HX.out.cell 24; (try clear cHX25); have cHX25 := HX.out.cell 25; (try clear cHX26); have cHX26 := HX.out.cell 26))
  go_ret
  exact ⟨by first | rfl | exact ret_bool (by simp; omega) | exact ret_bool (by simp), HB.out⟩
 rw [hf] at hfr
 have HFR := hI9 hfr
 clear hfr HFR0 hf
 rw [Bool.false_or]
 by_cases n4 : 200 < Mo.np
 ·rw [decide_eq_true n4, Bool.true_or]
  have z4 : (200 : Int) < (Mo.np : Int) := by omega
  go_enter Tryz.func5, Tryz.ntmps5
  go_wp2_with (fail)
  have _x := frm1 w #[.int .i64 D.size, .int .i64 D.load, .int .i64 D.wind, .slice A1 D.ns k1, .int .i64 D.pitch, .int .i64 D.roll, .int .i64 D.heave, .int .i64 D.fire, .slice A2 D.nh k2, .slice A3 D.nu k3, .int .i64 M.places, .int .i64 M.any.a0, .int .i64 M.any.a1, .int .i64 M.any.a2, .int .i64 M.any.a3, .int .i64 M.any.a4, .int .i64 M.any.a5, .bool M.any.i, .bool M.any.s, .int .i64 M.mw, .int .i64 M.ms, .int .i64 M.mc, .slice A4 M.n k4, .slice A5 M.m k5, .slice A6 Mo.np k6, .slice A7 Mo.nr k7, .slice A8 Mo.nv k8] 39
  have HX := hI9 _x.1
  have HB := hI9 _x.2.1
  have zW := _x.2.2
  clear _x
  generalize World.alloc w _ = W at *
  have zHX := HX.out.lt
  have cHX3 := HX.out.cell 3
  have cHX8 := HX.out.cell 8
  have cHX9 := HX.out.cell 9
  have cHX10 := HX.out.cell 10
  have cHX11 := HX.out.cell 11
  have cHX12 := HX.out.cell 12
  have cHX13 := HX.out.cell 13
  have cHX14 := HX.out.cell 14
  have cHX15 := HX.out.cell 15
  have cHX16 := HX.out.cell 16
  have cHX17 := HX.out.cell 17
  have cHX18 := HX.out.cell 18
  have cHX19 := HX.out.cell 19
  have cHX20 := HX.out.cell 20
  have cHX21 := HX.out.cell 21
  have cHX22 := HX.out.cell 22
  have cHX23 := HX.out.cell 23
  have cHX24 := HX.out.cell 24
  have cHX25 := HX.out.cell 25
  have cHX26 := HX.out.cell 26
  go_wp2_with (first | (go_at_call 23; (with_reducible refine (HFR.out _ (HA.out.below HB.out)).mono ?_); rintro e w1 ⟨rfl, hb1⟩; have nHX := hI9 (HX.out.below hb1); have nHB := hI9 (bthen HB.out hb1); have zz1 := hb1.size; clear HX HB hb1; have HX := nHX; have HB := nHB; clear nHX nHB; (try clear zHX); have zHX := HX.out.lt; (try clear cHX24); have cHX24 := HX.out.cell 24; (try clear cHX25); have cHX25 := HX.out.cell 25; (try clear cHX26); have cHX26 := HX.out.cell 26))
  go_ret
  exact ⟨by first | rfl | exact ret_bool (by simp; omega) | exact ret_bool (by simp), HB.out⟩
 rw [decide_eq_false n4, Bool.false_or]
 have z4 : ¬ (200 : Int) < (Mo.np : Int) := by omega
 by_cases n5 : 200 < Mo.nr
 ·rw [decide_eq_true n5, Bool.true_or]
  have z5 : (200 : Int) < (Mo.nr : Int) := by omega
  go_enter Tryz.func5, Tryz.ntmps5
  go_wp2_with (fail)
  have _x := frm1 w #[.int .i64 D.size, .int .i64 D.load, .int .i64 D.wind, .slice A1 D.ns k1, .int .i64 D.pitch, .int .i64 D.roll, .int .i64 D.heave, .int .i64 D.fire, .slice A2 D.nh k2, .slice A3 D.nu k3, .int .i64 M.places, .int .i64 M.any.a0, .int .i64 M.any.a1, .int .i64 M.any.a2, .int .i64 M.any.a3, .int .i64 M.any.a4, .int .i64 M.any.a5, .bool M.any.i, .bool M.any.s, .int .i64 M.mw, .int .i64 M.ms, .int .i64 M.mc, .slice A4 M.n k4, .slice A5 M.m k5, .slice A6 Mo.np k6, .slice A7 Mo.nr k7, .slice A8 Mo.nv k8] 39
  have HX := hI9 _x.1
  have HB := hI9 _x.2.1
  have zW := _x.2.2
  clear _x
  generalize World.alloc w _ = W at *
  have zHX := HX.out.lt
  have cHX3 := HX.out.cell 3
  have cHX8 := HX.out.cell 8
  have cHX9 := HX.out.cell 9
  have cHX10 := HX.out.cell 10
  have cHX11 := HX.out.cell 11
  have cHX12 := HX.out.cell 12
  have cHX13 := HX.out.cell 13
  have cHX14 := HX.out.cell 14
  have cHX15 := HX.out.cell 15
  have cHX16 := HX.out.cell 16
  have cHX17 := HX.out.cell 17
  have cHX18 := HX.out.cell 18
  have cHX19 := HX.out.cell 19
  have cHX20 := HX.out.cell 20
  have cHX21 := HX.out.cell 21
  have cHX22 := HX.out.cell 22
  have cHX23 := HX.out.cell 23
  have cHX24 := HX.out.cell 24
  have cHX25 := HX.out.cell 25
  have cHX26 := HX.out.cell 26
  go_wp2_with (first | (go_at_call 23; (with_reducible refine (HFR.out _ (HA.out.below HB.out)).mono ?_); rintro e w1 ⟨rfl, hb1⟩; have nHX := hI9 (HX.out.below hb1); have nHB := hI9 (bthen HB.out hb1); have zz1 := hb1.size; clear HX HB hb1; have HX := nHX; have HB := nHB; clear nHX nHB; (try clear zHX); have zHX := HX.out.lt; (try clear cHX24); have cHX24 := HX.out.cell 24; (try clear cHX25); have cHX25 := HX.out.cell 25; (try clear cHX26); have cHX26 := HX.out.cell 26))
  go_ret
  exact ⟨by first | rfl | exact ret_bool (by simp; omega) | exact ret_bool (by simp), HB.out⟩
 rw [decide_eq_false n5, Bool.false_or]
 have z5 : ¬ (200 : Int) < (Mo.nr : Int) := by omega
 by_cases n6 : 200 < Mo.nv
 ·rw [decide_eq_true n6]
  have z6 : (200 : Int) < (Mo.nv : Int) := by omega
  go_enter Tryz.func5, Tryz.ntmps5
  go_wp2_with (fail)
  have _x := frm1 w #[.int .i64 D.size, .int .i64 D.load, .int .i64 D.wind, .slice A1 D.ns k1, .int .i64 D.pitch, .int .i64 D.roll, .int .i64 D.heave, .int .i64 D.fire, .slice A2 D.nh k2, .slice A3 D.nu k3, .int .i64 M.places, .int .i64 M.any.a0, .int .i64 M.any.a1, .int .i64 M.any.a2, .int .i64 M.any.a3, .int .i64 M.any.a4, .int .i64 M.any.a5, .bool M.any.i, .bool M.any.s, .int .i64 M.mw, .int .i64 M.ms, .int .i64 M.mc, .slice A4 M.n k4, .slice A5 M.m k5, .slice A6 Mo.np k6, .slice A7 Mo.nr k7, .slice A8 Mo.nv k8] 39
  have HX := hI9 _x.1
  have HB := hI9 _x.2.1
  have zW := _x.2.2
  clear _x
  generalize World.alloc w _ = W at *
  have zHX := HX.out.lt
  have cHX3 := HX.out.cell 3
  have cHX8 := HX.out.cell 8
  have cHX9 := HX.out.cell 9
  have cHX10 := HX.out.cell 10
  have cHX11 := HX.out.cell 11
  have cHX12 := HX.out.cell 12
  have cHX13 := HX.out.cell 13
  have cHX14 := HX.out.cell 14
  have cHX15 := HX.out.cell 15
  have cHX16 := HX.out.cell 16
  have cHX17 := HX.out.cell 17
  have cHX18 := HX.out.cell 18
  have cHX19 := HX.out.cell 19
  have cHX20 := HX.out.cell 20
  have cHX21 := HX.out.cell 21
  have cHX22 := HX.out.cell 22
  have cHX23 := HX.out.cell 23
  have cHX24 := HX.out.cell 24
  have cHX25 := HX.out.cell 25
  have cHX26 := HX.out.cell 26
  go_wp2_with (first | (go_at_call 23; (with_reducible refine (HFR.out _ (HA.out.below HB.out)).mono ?_); rintro e w1 ⟨rfl, hb1⟩; have nHX := hI9 (HX.out.below hb1); have nHB := hI9 (bthen HB.out hb1); have zz1 := hb1.size; clear HX HB hb1; have HX := nHX; have HB := nHB; clear nHX nHB; (try clear zHX); have zHX := HX.out.lt; (try clear cHX24); have cHX24 := HX.out.cell 24; (try clear cHX25); have cHX25 := HX.out.cell 25; (try clear cHX26); have cHX26 := HX.out.cell 26))
  go_ret
  exact ⟨by first | rfl | exact ret_bool (by simp; omega) | exact ret_bool (by simp), HB.out⟩
 ·rw [decide_eq_false n6]
  have z6 : ¬ (200 : Int) < (Mo.nv : Int) := by omega
  go_enter Tryz.func5, Tryz.ntmps5
  go_wp2_with (fail)
  have _x := frm1 w #[.int .i64 D.size, .int .i64 D.load, .int .i64 D.wind, .slice A1 D.ns k1, .int .i64 D.pitch, .int .i64 D.roll, .int .i64 D.heave, .int .i64 D.fire, .slice A2 D.nh k2, .slice A3 D.nu k3, .int .i64 M.places, .int .i64 M.any.a0, .int .i64 M.any.a1, .int .i64 M.any.a2, .int .i64 M.any.a3, .int .i64 M.any.a4, .int .i64 M.any.a5, .bool M.any.i, .bool M.any.s, .int .i64 M.mw, .int .i64 M.ms, .int .i64 M.mc, .slice A4 M.n k4, .slice A5 M.m k5, .slice A6 Mo.np k6, .slice A7 Mo.nr k7, .slice A8 Mo.nv k8] 39
  have HX := hI9 _x.1
  have HB := hI9 _x.2.1
  have zW := _x.2.2
  clear _x
  generalize World.alloc w _ = W at *
  have zHX := HX.out.lt
  have cHX3 := HX.out.cell 3
  have cHX8 := HX.out.cell 8
  have cHX9 := HX.out.cell 9
  have cHX10 := HX.out.cell 10
  have cHX11 := HX.out.cell 11
  have cHX12 := HX.out.cell 12
  have cHX13 := HX.out.cell 13
  have cHX14 := HX.out.cell 14
  have cHX15 := HX.out.cell 15
  have cHX16 := HX.out.cell 16
  have cHX17 := HX.out.cell 17
  have cHX18 := HX.out.cell 18
  have cHX19 := HX.out.cell 19
  have cHX20 := HX.out.cell 20
  have cHX21 := HX.out.cell 21
  have cHX22 := HX.out.cell 22
  have cHX23 := HX.out.cell 23
  have cHX24 := HX.out.cell 24
  have cHX25 := HX.out.cell 25
  have cHX26 := HX.out.cell 26
  go_wp2_with (first | (go_at_call 23; (with_reducible refine (HFR.out _ (HA.out.below HB.out)).mono ?_); rintro e w1 ⟨rfl, hb1⟩; have nHX := hI9 (HX.out.below hb1); have nHB := hI9 (bthen HB.out hb1); have zz1 := hb1.size; clear HX HB hb1; have HX := nHX; have HB := nHB; clear nHX nHB; (try clear zHX); have zHX := HX.out.lt; (try clear cHX24); have cHX24 := HX.out.cell 24; (try clear cHX25); have cHX25 := HX.out.cell 25; (try clear cHX26); have cHX26 := HX.out.cell 26))
  go_ret
  exact ⟨by first | rfl | exact ret_bool (by simp; omega) | exact ret_bool (by simp), HB.out⟩
end Go.Proofs.YtlambeiafdpkgaaGreat
