/- Texts joined: JAX. -/
import Derived.Test.YtlambeiafdpkgaaGreatRdA
import Derived.Test.YtlambeiafdpkgaaGreatJAQ
import Derived.Test.YtlambeiafdpkgaaGreatJAT
import Derived.Test.YtlambeiafdpkgaaGreatJAA
set_option linter.all false
namespace Go.Proofs.YtlambeiafdpkgaaGreat
open Go Go.RowKit Go.Proofs
set_option maxRecDepth 100000
set_option maxHeartbeats 8000000
theorem rd_Moves_c (Mo : MovD) (vP vR vV : Value) (w : World) (hV : MovAt w vP vR vV Mo) :
  Calls Tryz.prog 49 #[.agg #[vP, vR, vV]] w fun e w' => RetB e (Mo.ok = true) ∧ Below w.heap.size w w' := by
 have HV := hI9 hV
 obtain ⟨A6, k6, rfl, -, -, -⟩ := hV.p.e
 obtain ⟨A7, k7, rfl, -, -, -⟩ := hV.r.e
 obtain ⟨A8, k8, rfl, -, -, -⟩ := hV.v.e
 clear hV
 by_cases q1 : Mo.nr = Mo.np
 case neg =>
  have z1 : ((Mo.nr : Int) != (Mo.np : Int)) = true := by simp; omega
  clear q1
  go_enter Tryz.func49, Tryz.ntmps49
  go_wp2_with (fail)
  have _x := frm1 w #[.slice A6 Mo.np k6, .slice A7 Mo.nr k7, .slice A8 Mo.nv k8] 37
  have HX := hI9 _x.1
  have HB := hI9 _x.2.1
  have zW := _x.2.2
  clear _x
  generalize World.alloc w _ = W at *
  have zHX := HX.out.lt
  have cHX0 := HX.out.cell 0
  have cHX1 := HX.out.cell 1
  have cHX2 := HX.out.cell 2
  simp only [gtA, gtS, gtZ] at cHX0 cHX1 cHX2
  go_wp2_with (fail)
  go_ret
  exact ⟨⟨false, rfl, fun h => nomatch h⟩, HB.out⟩
 have z1 : ((Mo.nr : Int) != (Mo.np : Int)) = false := by simp; omega
 by_cases q2 : Mo.nv = Mo.np
 case neg =>
  have z2 : ((Mo.nv : Int) != (Mo.np : Int)) = true := by simp; omega
  clear q2
  have Q1 := hI9 q1
  clear q1
  go_enter Tryz.func49, Tryz.ntmps49
  go_wp2_with (fail)
  have _x := frm1 w #[.slice A6 Mo.np k6, .slice A7 Mo.nr k7, .slice A8 Mo.nv k8] 37
  have HX := hI9 _x.1
  have HB := hI9 _x.2.1
  have zW := _x.2.2
  clear _x
  generalize World.alloc w _ = W at *
  have zHX := HX.out.lt
  have cHX0 := HX.out.cell 0
  have cHX1 := HX.out.cell 1
  have cHX2 := HX.out.cell 2
  simp only [gtA, gtS, gtZ] at cHX0 cHX1 cHX2
  go_wp2_with (fail)
  go_ret
  exact ⟨⟨false, rfl, fun h => nomatch h⟩, HB.out⟩
 have z2 : ((Mo.nv : Int) != (Mo.np : Int)) = false := by simp; omega
 have Q1 := hI9 q1
 have Q2 := hI9 q2
 clear q1 q2
 by_cases q3 : 2001 < Mo.np
 ·have z3 : decide ((2001 : Int) < (Mo.np : Int)) = true := decide_eq_true (by omega)
  clear q3
  go_enter Tryz.func49, Tryz.ntmps49
  go_wp2_with (fail)
  have _x := frm1 w #[.slice A6 Mo.np k6, .slice A7 Mo.nr k7, .slice A8 Mo.nv k8] 37
  have HX := hI9 _x.1
  have HB := hI9 _x.2.1
  have zW := _x.2.2
  clear _x
  generalize World.alloc w _ = W at *
  have zHX := HX.out.lt
  have cHX0 := HX.out.cell 0
  have cHX1 := HX.out.cell 1
  have cHX2 := HX.out.cell 2
  simp only [gtA, gtS, gtZ] at cHX0 cHX1 cHX2
  go_wp2_with (fail)
  go_ret
  exact ⟨⟨false, rfl, fun h => nomatch h⟩, HB.out⟩
 have z3 : decide ((2001 : Int) < (Mo.np : Int)) = false := decide_eq_false (by omega)
 go_enter Tryz.func49, Tryz.ntmps49
 go_wp2_with (fail)
 have _x := frm1 w #[.slice A6 Mo.np k6, .slice A7 Mo.nr k7, .slice A8 Mo.nv k8] 37
 have HX := hI9 _x.1
 have HB := hI9 _x.2.1
 have zW := _x.2.2
 clear _x
 generalize World.alloc w _ = W at *
 have zHX := HX.out.lt
 have cHX0 := HX.out.cell 0
 have cHX1 := HX.out.cell 1
 have cHX2 := HX.out.cell 2
 simp only [gtA, gtS, gtZ] at cHX0 cHX1 cHX2
 go_wp2_with (fail)
 have K0 := hI9 (show OneK w 37 #[.slice A6 Mo.np k6, .slice A7 Mo.nr k7, .slice A8 Mo.nv k8] W from ⟨HB.out, HX.out⟩)
 clear HX HB z1 z2 z3
 go_loopg [4] Mo.np (fun gx i wr => ∃ k : Nat, i = .int .i64 k ∧ k ≤ Mo.np ∧ Mo.np - k ≤ gx ∧ Hid (OneK w 37 #[.slice A6 Mo.np k6, .slice A7 Mo.nr k7, .slice A8 Mo.nv k8] wr) ∧ Hid (∀ j, j < k → inB (Mo.P j) (-300) 300 = true ∧ inB (Mo.R j) (-300) 300 = true ∧ inB (Mo.V j) (-300) 300 = true))
 case atStart => exact ⟨0, rfl, Nat.zero_le _, Nat.le_refl _, K0, hI9 (fun j h => absurd h (Nat.not_lt_zero _))⟩
 case round =>
  clear K0
  obtain ⟨k, rfl, hk, hgx, K0, HS1⟩ := hrel
  have cHX0 := K0.out.m.cell 0
  have cHX1 := K0.out.m.cell 1
  have cHX2 := K0.out.m.cell 2
  simp only [gtA, gtS, gtZ] at cHX0 cHX1 cHX2
  by_cases hlt : k < Mo.np
  ·have hltz : (k : Int) < (Mo.np : Int) := by omega
   have hltr : (k : Int) < (Mo.nr : Int) := by have := Q1.out; omega
   have hltv : (k : Int) < (Mo.nv : Int) := by have := Q2.out; omega
   obtain ⟨b1, o1, c1, h1, hb1, hc1⟩ := HV.out.p.ints (by omega)
   obtain ⟨b2, o2, c2, h2, hb2, hc2⟩ := HV.out.r.ints (by have := Q1.out; omega)
   obtain ⟨b3, o3, c3, h3, hb3, hc3⟩ := HV.out.v.ints (by have := Q2.out; omega)
   simp only [Value.slice.injEq] at h1 h2 h3
   obtain ⟨rfl, -, rfl⟩ := h1
   obtain ⟨rfl, -, rfl⟩ := h2
   obtain ⟨rfl, -, rfl⟩ := h3
   have d1 : wr.cell? ⟨b1, o1 + k, none⟩ = some (.int .i64 (Mo.P k)) := (K0.out.b.cell (p := ⟨b1, o1 + k, none⟩) hb1).trans (hc1 k (by omega))
   have d2 : wr.cell? ⟨b2, o2 + k, none⟩ = some (.int .i64 (Mo.R k)) := (K0.out.b.cell (p := ⟨b2, o2 + k, none⟩) hb2).trans (hc2 k (by omega))
   have d3 : wr.cell? ⟨b3, o3 + k, none⟩ = some (.int .i64 (Mo.V k)) := (K0.out.b.cell (p := ⟨b3, o3 + k, none⟩) hb3).trans (hc3 k (by omega))
   clear hc1 hc2 hc3
   cases e1 : inB (Mo.P k) (-300) 300
   case false =>
    go_wp2_with (first | (go_at_call 96; (with_reducible refine (rd_swell_c _ _ _).mono ?_); rintro e w1 ⟨rfl, rfl⟩))
    go_ret
    exact ⟨⟨false, rfl, fun h => nomatch h⟩, K0.out.b⟩
   cases e2 : inB (Mo.R k) (-300) 300
   case false =>
    go_wp2_with (first | (go_at_call 96; (with_reducible refine (rd_swell_c _ _ _).mono ?_); rintro e w1 ⟨rfl, rfl⟩))
    go_ret
    exact ⟨⟨false, rfl, fun h => nomatch h⟩, K0.out.b⟩
   cases e3 : inB (Mo.V k) (-300) 300
   case false =>
    go_wp2_with (first | (go_at_call 96; (with_reducible refine (rd_swell_c _ _ _).mono ?_); rintro e w1 ⟨rfl, rfl⟩))
    go_ret
    exact ⟨⟨false, rfl, fun h => nomatch h⟩, K0.out.b⟩
   go_wp2_with (first | (go_at_call 96; (with_reducible refine (rd_swell_c _ _ _).mono ?_); rintro e w1 ⟨rfl, rfl⟩))
   go_roundg (Mo.np - (k + 1))
   case measure => omega
   case rel => exact ⟨k + 1, by first | rfl | go_num | (congr 1; omega), by omega, Nat.le_refl _, K0, hI9 (fun j h => by
    by_cases e : j = k
    ·subst e; exact ⟨e1, e2, e3⟩
    ·exact HS1.out j (by omega))⟩
  ·obtain rfl : k = Mo.np := by omega
   go_wp2_with (fail)
   go_ret
   exact ⟨⟨true, rfl, fun _ => by
    unfold MovD.ok
    simp only [Bool.and_eq_true, decide_eq_true_eq, List.all_eq_true, List.mem_range]
    exact ⟨Q1.out, Q2.out, by omega, fun j h => HS1.out j h⟩⟩, K0.out.b⟩
theorem atE_zero {M : MetD} {p : Int} (hb : M.bad = false) (h : inB p 0 (M.places - 1) = true) : atE M p 0 = 0 := by
 unfold atE
 rw [hb, if_neg (by decide), h]
 rfl
theorem rd_approaches_c (M : MetD) (vF vS : Value) (a : AppD) (w : World) (hA : MetAt w vF vS M) :
  Calls Tryz.prog 25 #[.agg #[.int .i64 M.places, .int .i64 M.any.a0, .int .i64 M.any.a1, .int .i64 M.any.a2, .int .i64 M.any.a3, .int .i64 M.any.a4, .int .i64 M.any.a5, .bool M.any.i, .bool M.any.s, .int .i64 M.mw, .int .i64 M.ms, .int .i64 M.mc, vF, vS], .agg #[.int .i64 a.size, .int .i64 a.weight, .int .i64 a.lw, .int .i64 a.ls, .int .i64 a.lc, .bool a.li, .bool a.lt, .int .i64 a.place, .int .i64 a.lo, .int .i64 a.hi]] w fun e w' => RetB e (appE M a = 0) ∧ Below w.heap.size w w' := by
 have HA := hI9 hA
 have hmn := fun w1 h => rw_CheckMinima_c M vF vS a.lw a.ls a.lc a.li a.lt w1 h
 have HBL := hI9 (fun w1 => rd_blows_c a.lo a.hi w1)
 clear hA
 cases b1 : inB a.size 1 1000000
 case false =>
  have HMN := hI9 hmn
  clear hmn
  go_enter Tryz.func25, Tryz.ntmps25
  go_wp2_with (fail)
  have _x := frm2 w #[.int .i64 M.places, .int .i64 M.any.a0, .int .i64 M.any.a1, .int .i64 M.any.a2, .int .i64 M.any.a3, .int .i64 M.any.a4, .int .i64 M.any.a5, .bool M.any.i, .bool M.any.s, .int .i64 M.mw, .int .i64 M.ms, .int .i64 M.mc, vF, vS] 34 #[.int .i64 a.size, .int .i64 a.weight, .int .i64 a.lw, .int .i64 a.ls, .int .i64 a.lc, .bool a.li, .bool a.lt, .int .i64 a.place, .int .i64 a.lo, .int .i64 a.hi] 43
  have HX := hI9 _x.1
  have HY := hI9 _x.2.1
  have HB := hI9 _x.2.2.1
  have zW := _x.2.2.2
  clear _x
  generalize World.alloc (World.alloc w _) _ = W at *
  have zHX := HX.out.lt
  have cHX0 := HX.out.cell 0
  have zHY := HY.out.lt
  have cHY0 := HY.out.cell 0
  have cHY1 := HY.out.cell 1
  have cHY2 := HY.out.cell 2
  have cHY3 := HY.out.cell 3
  have cHY4 := HY.out.cell 4
  have cHY5 := HY.out.cell 5
  have cHY6 := HY.out.cell 6
  have cHY7 := HY.out.cell 7
  have cHY8 := HY.out.cell 8
  have cHY9 := HY.out.cell 9
  simp only [gtA, gtS, gtZ] at cHX0 cHY0 cHY1 cHY2 cHY3 cHY4 cHY5 cHY6 cHY7 cHY8 cHY9
  go_wp2_with (first | (go_at_call 50; (with_reducible refine (rd_from_c _ _ _ _).mono ?_); rintro e w1 ⟨rfl, rfl⟩) | (refine wpl_row_g ?_ 34 (.tmp 2) rfl _ rfl _ 14 HX.out Tryz.rowMet rfl ?_; (focus rfl); simp only [Act.put]) | (go_at_call 51; (with_reducible refine (HMN.out _ (HA.out.below HB.out)).mono ?_); rintro e w1 ⟨rfl, hb1⟩; have nHX := hI9 (HX.out.below hb1); have nHY := hI9 (HY.out.below hb1); have nHB := hI9 (bthen HB.out hb1); have zz1 := hb1.size; clear HX HY HB hb1; have HX := nHX; have HY := nHY; have HB := nHB; clear nHX nHY nHB; (try clear zHX); have zHX := HX.out.lt; (try clear cHX0); have cHX0 := HX.out.cell 0; (try clear zHY); have zHY := HY.out.lt; (try clear cHY0); have cHY0 := HY.out.cell 0; (try clear cHY1); have cHY1 := HY.out.cell 1; (try clear cHY2); have cHY2 := HY.out.cell 2; (try clear cHY3); have cHY3 := HY.out.cell 3; (try clear cHY4); have cHY4 := HY.out.cell 4; (try clear cHY5); have cHY5 := HY.out.cell 5; (try clear cHY6); have cHY6 := HY.out.cell 6; (try clear cHY7); have cHY7 := HY.out.cell 7; (try clear cHY8); have cHY8 := HY.out.cell 8; (try clear cHY9); have cHY9 := HY.out.cell 9) | (go_at_call 52; (with_reducible refine (HBL.out _).mono ?_); rintro e w1 ⟨⟨b, rfl, hbl⟩, hb1⟩; skip; have nHX := hI9 (HX.out.below hb1); have nHY := hI9 (HY.out.below hb1); have nHB := hI9 (bthen HB.out hb1); have zz1 := hb1.size; clear HX HY HB hb1; have HX := nHX; have HY := nHY; have HB := nHB; clear nHX nHY nHB))
  go_ret
  exact ⟨⟨false, rfl, fun h => nomatch h⟩, HB.out⟩
 cases b2 : inB a.weight 1 1000000
 case false =>
  have HMN := hI9 hmn
  clear hmn
  go_enter Tryz.func25, Tryz.ntmps25
  go_wp2_with (fail)
  have _x := frm2 w #[.int .i64 M.places, .int .i64 M.any.a0, .int .i64 M.any.a1, .int .i64 M.any.a2, .int .i64 M.any.a3, .int .i64 M.any.a4, .int .i64 M.any.a5, .bool M.any.i, .bool M.any.s, .int .i64 M.mw, .int .i64 M.ms, .int .i64 M.mc, vF, vS] 34 #[.int .i64 a.size, .int .i64 a.weight, .int .i64 a.lw, .int .i64 a.ls, .int .i64 a.lc, .bool a.li, .bool a.lt, .int .i64 a.place, .int .i64 a.lo, .int .i64 a.hi] 43
  have HX := hI9 _x.1
  have HY := hI9 _x.2.1
  have HB := hI9 _x.2.2.1
  have zW := _x.2.2.2
  clear _x
  generalize World.alloc (World.alloc w _) _ = W at *
  have zHX := HX.out.lt
  have cHX0 := HX.out.cell 0
  have zHY := HY.out.lt
  have cHY0 := HY.out.cell 0
  have cHY1 := HY.out.cell 1
  have cHY2 := HY.out.cell 2
  have cHY3 := HY.out.cell 3
  have cHY4 := HY.out.cell 4
  have cHY5 := HY.out.cell 5
  have cHY6 := HY.out.cell 6
  have cHY7 := HY.out.cell 7
  have cHY8 := HY.out.cell 8
  have cHY9 := HY.out.cell 9
  simp only [gtA, gtS, gtZ] at cHX0 cHY0 cHY1 cHY2 cHY3 cHY4 cHY5 cHY6 cHY7 cHY8 cHY9
  go_wp2_with (first | (go_at_call 50; (with_reducible refine (rd_from_c _ _ _ _).mono ?_); rintro e w1 ⟨rfl, rfl⟩) | (refine wpl_row_g ?_ 34 (.tmp 2) rfl _ rfl _ 14 HX.out Tryz.rowMet rfl ?_; (focus rfl); simp only [Act.put]) | (go_at_call 51; (with_reducible refine (HMN.out _ (HA.out.below HB.out)).mono ?_); rintro e w1 ⟨rfl, hb1⟩; have nHX := hI9 (HX.out.below hb1); have nHY := hI9 (HY.out.below hb1); have nHB := hI9 (bthen HB.out hb1); have zz1 := hb1.size; clear HX HY HB hb1; have HX := nHX; have HY := nHY; have HB := nHB; clear nHX nHY nHB; (try clear zHX); have zHX := HX.out.lt; (try clear cHX0); have cHX0 := HX.out.cell 0; (try clear zHY); have zHY := HY.out.lt; (try clear cHY0); have cHY0 := HY.out.cell 0; (try clear cHY1); have cHY1 := HY.out.cell 1; (try clear cHY2); have cHY2 := HY.out.cell 2; (try clear cHY3); have cHY3 := HY.out.cell 3; (try clear cHY4); have cHY4 := HY.out.cell 4; (try clear cHY5); have cHY5 := HY.out.cell 5; (try clear cHY6); have cHY6 := HY.out.cell 6; (try clear cHY7); have cHY7 := HY.out.cell 7; (try clear cHY8); have cHY8 := HY.out.cell 8; (try clear cHY9); have cHY9 := HY.out.cell 9) | (go_at_call 52; (with_reducible refine (HBL.out _).mono ?_); rintro e w1 ⟨⟨b, rfl, hbl⟩, hb1⟩; skip; have nHX := hI9 (HX.out.below hb1); have nHY := hI9 (HY.out.below hb1); have nHB := hI9 (bthen HB.out hb1); have zz1 := hb1.size; clear HX HY HB hb1; have HX := nHX; have HY := nHY; have HB := nHB; clear nHX nHY nHB))
  go_ret
  exact ⟨⟨false, rfl, fun h => nomatch h⟩, HB.out⟩
 by_cases he : minE M a.lw a.ls a.lc = 0
 case neg =>
  have hez : (minE M a.lw a.ls a.lc == 0) = false := by simpa using he
  generalize minE M a.lw a.ls a.lc = E at *
  have HMN := hI9 hmn
  clear hmn he
  go_enter Tryz.func25, Tryz.ntmps25
  go_wp2_with (fail)
  have _x := frm2 w #[.int .i64 M.places, .int .i64 M.any.a0, .int .i64 M.any.a1, .int .i64 M.any.a2, .int .i64 M.any.a3, .int .i64 M.any.a4, .int .i64 M.any.a5, .bool M.any.i, .bool M.any.s, .int .i64 M.mw, .int .i64 M.ms, .int .i64 M.mc, vF, vS] 34 #[.int .i64 a.size, .int .i64 a.weight, .int .i64 a.lw, .int .i64 a.ls, .int .i64 a.lc, .bool a.li, .bool a.lt, .int .i64 a.place, .int .i64 a.lo, .int .i64 a.hi] 43
  have HX := hI9 _x.1
  have HY := hI9 _x.2.1
  have HB := hI9 _x.2.2.1
  have zW := _x.2.2.2
  clear _x
  generalize World.alloc (World.alloc w _) _ = W at *
  have zHX := HX.out.lt
  have cHX0 := HX.out.cell 0
  have zHY := HY.out.lt
  have cHY0 := HY.out.cell 0
  have cHY1 := HY.out.cell 1
  have cHY2 := HY.out.cell 2
  have cHY3 := HY.out.cell 3
  have cHY4 := HY.out.cell 4
  have cHY5 := HY.out.cell 5
  have cHY6 := HY.out.cell 6
  have cHY7 := HY.out.cell 7
  have cHY8 := HY.out.cell 8
  have cHY9 := HY.out.cell 9
  simp only [gtA, gtS, gtZ] at cHX0 cHY0 cHY1 cHY2 cHY3 cHY4 cHY5 cHY6 cHY7 cHY8 cHY9
  go_wp2_with (first | (go_at_call 50; (with_reducible refine (rd_from_c _ _ _ _).mono ?_); rintro e w1 ⟨rfl, rfl⟩) | (refine wpl_row_g ?_ 34 (.tmp 2) rfl _ rfl _ 14 HX.out Tryz.rowMet rfl ?_; (focus rfl); simp only [Act.put]) | (go_at_call 51; (with_reducible refine (HMN.out _ (HA.out.below HB.out)).mono ?_); rintro e w1 ⟨rfl, hb1⟩; have nHX := hI9 (HX.out.below hb1); have nHY := hI9 (HY.out.below hb1); have nHB := hI9 (bthen HB.out hb1); have zz1 := hb1.size; clear HX HY HB hb1; have HX := nHX; have HY := nHY; have HB := nHB; clear nHX nHY nHB; (try clear zHX); have zHX := HX.out.lt; (try clear cHX0); have cHX0 := HX.out.cell 0; (try clear zHY); have zHY := HY.out.lt; (try clear cHY0); have cHY0 := HY.out.cell 0; (try clear cHY1); have cHY1 := HY.out.cell 1; (try clear cHY2); have cHY2 := HY.out.cell 2; (try clear cHY3); have cHY3 := HY.out.cell 3; (try clear cHY4); have cHY4 := HY.out.cell 4; (try clear cHY5); have cHY5 := HY.out.cell 5; (try clear cHY6); have cHY6 := HY.out.cell 6; (try clear cHY7); have cHY7 := HY.out.cell 7; (try clear cHY8); have cHY8 := HY.out.cell 8; (try clear cHY9); have cHY9 := HY.out.cell 9) | (go_at_call 52; (with_reducible refine (HBL.out _).mono ?_); rintro e w1 ⟨⟨b, rfl, hbl⟩, hb1⟩; skip; have nHX := hI9 (HX.out.below hb1); have nHY := hI9 (HY.out.below hb1); have nHB := hI9 (bthen HB.out hb1); have zz1 := hb1.size; clear HX HY HB hb1; have HX := nHX; have HY := nHY; have HB := nHB; clear nHX nHY nHB))
  go_ret
  exact ⟨⟨false, rfl, fun h => nomatch h⟩, HB.out⟩
 rw [he] at hmn
 have HMN := hI9 hmn
 have hb := minE_bad he
 have hp := (MetD.ok_of hb).places
 have hp1 := hp.1
 have hp2 := hp.2
 have HE := hI9 (And.intro he hb)
 clear hmn he hb hp
 cases b3 : inB a.place 0 (M.places - 1)
 case false =>
  go_enter Tryz.func25, Tryz.ntmps25
  go_wp2_with (fail)
  have _x := frm2 w #[.int .i64 M.places, .int .i64 M.any.a0, .int .i64 M.any.a1, .int .i64 M.any.a2, .int .i64 M.any.a3, .int .i64 M.any.a4, .int .i64 M.any.a5, .bool M.any.i, .bool M.any.s, .int .i64 M.mw, .int .i64 M.ms, .int .i64 M.mc, vF, vS] 34 #[.int .i64 a.size, .int .i64 a.weight, .int .i64 a.lw, .int .i64 a.ls, .int .i64 a.lc, .bool a.li, .bool a.lt, .int .i64 a.place, .int .i64 a.lo, .int .i64 a.hi] 43
  have HX := hI9 _x.1
  have HY := hI9 _x.2.1
  have HB := hI9 _x.2.2.1
  have zW := _x.2.2.2
  clear _x
  generalize World.alloc (World.alloc w _) _ = W at *
  have zHX := HX.out.lt
  have cHX0 := HX.out.cell 0
  have zHY := HY.out.lt
  have cHY0 := HY.out.cell 0
  have cHY1 := HY.out.cell 1
  have cHY2 := HY.out.cell 2
  have cHY3 := HY.out.cell 3
  have cHY4 := HY.out.cell 4
  have cHY5 := HY.out.cell 5
  have cHY6 := HY.out.cell 6
  have cHY7 := HY.out.cell 7
  have cHY8 := HY.out.cell 8
  have cHY9 := HY.out.cell 9
  simp only [gtA, gtS, gtZ] at cHX0 cHY0 cHY1 cHY2 cHY3 cHY4 cHY5 cHY6 cHY7 cHY8 cHY9
  go_wp2_with (first | (go_at_call 50; (with_reducible refine (rd_from_c _ _ _ _).mono ?_); rintro e w1 ⟨rfl, rfl⟩) | (refine wpl_row_g ?_ 34 (.tmp 2) rfl _ rfl _ 14 HX.out Tryz.rowMet rfl ?_; (focus rfl); simp only [Act.put]) | (go_at_call 51; (with_reducible refine (HMN.out _ (HA.out.below HB.out)).mono ?_); rintro e w1 ⟨rfl, hb1⟩; have nHX := hI9 (HX.out.below hb1); have nHY := hI9 (HY.out.below hb1); have nHB := hI9 (bthen HB.out hb1); have zz1 := hb1.size; clear HX HY HB hb1; have HX := nHX; have HY := nHY; have HB := nHB; clear nHX nHY nHB; (try clear zHX); have zHX := HX.out.lt; (try clear cHX0); have cHX0 := HX.out.cell 0; (try clear zHY); have zHY := HY.out.lt; (try clear cHY0); have cHY0 := HY.out.cell 0; (try clear cHY1); have cHY1 := HY.out.cell 1; (try clear cHY2); have cHY2 := HY.out.cell 2; (try clear cHY3); have cHY3 := HY.out.cell 3; (try clear cHY4); have cHY4 := HY.out.cell 4; (try clear cHY5); have cHY5 := HY.out.cell 5; (try clear cHY6); have cHY6 := HY.out.cell 6; (try clear cHY7); have cHY7 := HY.out.cell 7; (try clear cHY8); have cHY8 := HY.out.cell 8; (try clear cHY9); have cHY9 := HY.out.cell 9) | (go_at_call 52; (with_reducible refine (HBL.out _).mono ?_); rintro e w1 ⟨⟨b, rfl, hbl⟩, hb1⟩; skip; have nHX := hI9 (HX.out.below hb1); have nHY := hI9 (HY.out.below hb1); have nHB := hI9 (bthen HB.out hb1); have zz1 := hb1.size; clear HX HY HB hb1; have HX := nHX; have HY := nHY; have HB := nHB; clear nHX nHY nHB))
  go_ret
  exact ⟨⟨false, rfl, fun h => nomatch h⟩, HB.out⟩
 have HP := hI9 (appE_mk (M := M) (a := a) b1 b2 (opE_mk HE.out.1 (atE_zero HE.out.2 b3)))
 go_enter Tryz.func25, Tryz.ntmps25
 go_wp2_with (fail)
 have _x := frm2 w #[.int .i64 M.places, .int .i64 M.any.a0, .int .i64 M.any.a1, .int .i64 M.any.a2, .int .i64 M.any.a3, .int .i64 M.any.a4, .int .i64 M.any.a5, .bool M.any.i, .bool M.any.s, .int .i64 M.mw, .int .i64 M.ms, .int .i64 M.mc, vF, vS] 34 #[.int .i64 a.size, .int .i64 a.weight, .int .i64 a.lw, .int .i64 a.ls, .int .i64 a.lc, .bool a.li, .bool a.lt, .int .i64 a.place, .int .i64 a.lo, .int .i64 a.hi] 43
 have HX := hI9 _x.1
 have HY := hI9 _x.2.1
 have HB := hI9 _x.2.2.1
 have zW := _x.2.2.2
 clear _x
 generalize World.alloc (World.alloc w _) _ = W at *
 have zHX := HX.out.lt
 have cHX0 := HX.out.cell 0
 have zHY := HY.out.lt
 have cHY0 := HY.out.cell 0
 have cHY1 := HY.out.cell 1
 have cHY2 := HY.out.cell 2
 have cHY3 := HY.out.cell 3
 have cHY4 := HY.out.cell 4
 have cHY5 := HY.out.cell 5
 have cHY6 := HY.out.cell 6
 have cHY7 := HY.out.cell 7
 have cHY8 := HY.out.cell 8
 have cHY9 := HY.out.cell 9
 simp only [gtA, gtS, gtZ] at cHX0 cHY0 cHY1 cHY2 cHY3 cHY4 cHY5 cHY6 cHY7 cHY8 cHY9
 go_wp2_with (first | (go_at_call 50; (with_reducible refine (rd_from_c _ _ _ _).mono ?_); rintro e w1 ⟨rfl, rfl⟩) | (refine wpl_row_g ?_ 34 (.tmp 2) rfl _ rfl _ 14 HX.out Tryz.rowMet rfl ?_; (focus rfl); simp only [Act.put]) | (go_at_call 51; (with_reducible refine (HMN.out _ (HA.out.below HB.out)).mono ?_); rintro e w1 ⟨rfl, hb1⟩; have nHX := hI9 (HX.out.below hb1); have nHY := hI9 (HY.out.below hb1); have nHB := hI9 (bthen HB.out hb1); have zz1 := hb1.size; clear HX HY HB hb1; have HX := nHX; have HY := nHY; have HB := nHB; clear nHX nHY nHB; (try clear zHX); have zHX := HX.out.lt; (try clear cHX0); have cHX0 := HX.out.cell 0; (try clear zHY); have zHY := HY.out.lt; (try clear cHY0); have cHY0 := HY.out.cell 0; (try clear cHY1); have cHY1 := HY.out.cell 1; (try clear cHY2); have cHY2 := HY.out.cell 2; (try clear cHY3); have cHY3 := HY.out.cell 3; (try clear cHY4); have cHY4 := HY.out.cell 4; (try clear cHY5); have cHY5 := HY.out.cell 5; (try clear cHY6); have cHY6 := HY.out.cell 6; (try clear cHY7); have cHY7 := HY.out.cell 7; (try clear cHY8); have cHY8 := HY.out.cell 8; (try clear cHY9); have cHY9 := HY.out.cell 9) | (go_at_call 52; (with_reducible refine (HBL.out _).mono ?_); rintro e w1 ⟨⟨b, rfl, hbl⟩, hb1⟩; skip; have nHX := hI9 (HX.out.below hb1); have nHY := hI9 (HY.out.below hb1); have nHB := hI9 (bthen HB.out hb1); have zz1 := hb1.size; clear HX HY HB hb1; have HX := nHX; have HY := nHY; have HB := nHB; clear nHX nHY nHB))
 trace_state
 go_ret
 exact ⟨⟨_, rfl, fun h => HP.out (hbl h)⟩, HB.out⟩
end Go.Proofs.YtlambeiafdpkgaaGreat

namespace Go.Proofs.YtlambeiafdpkgaaGreat
open Go Go.RowKit Go.Proofs
set_option maxRecDepth 100000
set_option maxHeartbeats 8000000
theorem scE_mk {D : DekD} {M : MetD} {Mo : MovD} (h1 : D.bad = false) (h2 : M.err = 0) (h3 : Mo.ok = true) : scE D M Mo = 0 := by
 have h : D.err = 0 := by unfold DekD.err; rw [h1]; rfl
 unfold scE cmE
 rw [if_pos h, if_pos h2, if_pos h, h3]; rfl
theorem rd_CheckAll_c (D : DekD) (vA vB vC : Value) (M : MetD) (vF vS : Value) (Mo : MovD) (vP vR vV : Value) (w : World) (hD : DekAt w vA vB vC D) (hA : MetAt w vF vS M) (hV : MovAt w vP vR vV Mo) :
  Calls Tryz.prog 24 #[.agg #[.int .i64 D.size, .int .i64 D.load, .int .i64 D.wind, vA, .int .i64 D.pitch, .int .i64 D.roll, .int .i64 D.heave, .int .i64 D.fire, vB, vC], .agg #[.int .i64 M.places, .int .i64 M.any.a0, .int .i64 M.any.a1, .int .i64 M.any.a2, .int .i64 M.any.a3, .int .i64 M.any.a4, .int .i64 M.any.a5, .bool M.any.i, .bool M.any.s, .int .i64 M.mw, .int .i64 M.ms, .int .i64 M.mc, vF, vS], .agg #[vP, vR, vV]] w fun e w' => ∃ E, e = .returned (.int .i64 E) ∧ Below w.heap.size w w' ∧ (E = 0 → scE D M Mo = 0) := by
 have HD := hI9 hD
 have HA := hI9 hA
 have HV := hI9 hV
 have HCK := hI9 (fun w1 h => rd_Check_c D vA vB vC w1 h)
 have HMV := hI9 (fun w1 h => rd_Moves_c Mo vP vR vV w1 h)
 have hmc := fun w1 h => rw_Check_c M vF vS w1 h
 clear hD hA hV
 have HME : Hid (∀ E, E = M.err → E = 0 → M.err = 0) := hI9 (fun E h1 h2 => h1 ▸ h2)
 obtain ⟨ME, hME⟩ : ∃ E, E = M.err := ⟨_, rfl⟩
 rw [← hME] at hmc
 have HMC := hI9 hmc
 have HMZ := hI9 (HME.out ME hME)
 clear hmc hME HME
 go_enter Tryz.func24, Tryz.ntmps24
 go_wp2_with (fail)
 have _x := frm3 w #[.int .i64 D.size, .int .i64 D.load, .int .i64 D.wind, vA, .int .i64 D.pitch, .int .i64 D.roll, .int .i64 D.heave, .int .i64 D.fire, vB, vC] 26 #[.int .i64 M.places, .int .i64 M.any.a0, .int .i64 M.any.a1, .int .i64 M.any.a2, .int .i64 M.any.a3, .int .i64 M.any.a4, .int .i64 M.any.a5, .bool M.any.i, .bool M.any.s, .int .i64 M.mw, .int .i64 M.ms, .int .i64 M.mc, vF, vS] 34 #[vP, vR, vV] 37
 have HX := hI9 _x.1
 have HM := hI9 _x.2.1
 have HO := hI9 _x.2.2.1
 have HB := hI9 _x.2.2.2.1
 have zW := _x.2.2.2.2
 clear _x
 generalize World.alloc (World.alloc (World.alloc w _) _) _ = W at *
 go_wp2_with (first | (refine wpl_row rfl 26 _ rfl _ rfl _ 10 HX.out Tryz.rowDek rfl ?_; simp only [Act.put]))
 refine (HCK.out _ (HD.out.below HB.out)).mono ?_
 rintro e w1 ⟨E1, rfl, hb1, hE1⟩
 have HE1 := hI9 hE1
 clear hE1
 have nHX := hI9 (HX.out.below hb1)
 have nHM := hI9 (HM.out.below hb1)
 have nHO := hI9 (HO.out.below hb1)
 have nHB := hI9 (bthen HB.out hb1)
 clear HX HM HO HB hb1
 have HX := nHX
 have HM := nHM
 have HO := nHO
 have HB := nHB
 clear nHX nHM nHO nHB
 by_cases e1 : E1 = 0
 case neg =>
  have e1z : (E1 != 0) = true := by simpa using e1
  have e1n := hI9 e1
  clear e1
  go_wp2_with (fail)
  go_ret
  exact ⟨E1, rfl, HB.out, fun h => absurd h e1n.out⟩
 subst e1
 have HF1 := hI9 (HE1.out rfl)
 clear HE1
 by_cases e2 : ME = 0
 case neg =>
  have e2z : (ME != 0) = true := by simpa using e2
  have e2n := hI9 e2
  clear e2
  go_wp2_with (first | (refine wpl_row rfl 34 _ rfl _ rfl _ 14 HM.out Tryz.rowMet rfl ?_; simp only [Act.put]) | (go_at_call 48; (with_reducible refine (HMC.out _ (HA.out.below HB.out)).mono ?_); rintro e w1 ⟨rfl, hb1⟩; have nHX := hI9 (HX.out.below hb1); have nHM := hI9 (HM.out.below hb1); have nHO := hI9 (HO.out.below hb1); have nHB := hI9 (bthen HB.out hb1); have zz1 := hb1.size; clear HX HM HO HB hb1; have HX := nHX; have HM := nHM; have HO := nHO; have HB := nHB; clear nHX nHM nHO nHB))
  go_ret
  exact ⟨ME, rfl, HB.out, fun h => absurd h e2n.out⟩
 subst e2
 have HF2 := hI9 (HMZ.out rfl)
 clear HMZ
 go_wp2_with (first | (refine wpl_row rfl 34 _ rfl _ rfl _ 14 HM.out Tryz.rowMet rfl ?_; simp only [Act.put]) | (go_at_call 48; (with_reducible refine (HMC.out _ (HA.out.below HB.out)).mono ?_); rintro e w1 ⟨rfl, hb1⟩; have nHX := hI9 (HX.out.below hb1); have nHM := hI9 (HM.out.below hb1); have nHO := hI9 (HO.out.below hb1); have nHB := hI9 (bthen HB.out hb1); have zz1 := hb1.size; clear HX HM HO HB hb1; have HX := nHX; have HM := nHM; have HO := nHO; have HB := nHB; clear nHX nHM nHO nHB) | (refine wpl_row rfl 37 _ rfl _ rfl _ 3 HO.out Tryz.rowMov rfl ?_; simp only [Act.put]))
 refine (HMV.out _ (HV.out.below HB.out)).mono ?_
 rintro e w1 ⟨⟨b, rfl, hE3⟩, hb1⟩
 have HE3 := hI9 hE3
 clear hE3
 have nHX := hI9 (HX.out.below hb1)
 have nHM := hI9 (HM.out.below hb1)
 have nHO := hI9 (HO.out.below hb1)
 have nHB := hI9 (bthen HB.out hb1)
 clear HX HM HO HB hb1
 have HX := nHX
 have HM := nHM
 have HO := nHO
 have HB := nHB
 clear nHX nHM nHO nHB
 cases b
 ·go_wp2_with (fail)
  go_ret
  exact ⟨61, rfl, HB.out, fun h => absurd h (by decide)⟩
 ·go_wp2_with (fail)
  go_ret
  exact ⟨0, rfl, HB.out, fun _ => scE_mk HF1.out HF2.out (HE3.out (by first | rfl | trivial))⟩
theorem rd_CheckApproach_c (D : DekD) (vA vB vC : Value) (M : MetD) (vF vS : Value) (Mo : MovD) (vP vR vV : Value) (a : AppD) (w : World) (hD : DekAt w vA vB vC D) (hA : MetAt w vF vS M) (hV : MovAt w vP vR vV Mo) :
  Calls Tryz.prog 6 #[.agg #[.int .i64 D.size, .int .i64 D.load, .int .i64 D.wind, vA, .int .i64 D.pitch, .int .i64 D.roll, .int .i64 D.heave, .int .i64 D.fire, vB, vC], .agg #[.int .i64 M.places, .int .i64 M.any.a0, .int .i64 M.any.a1, .int .i64 M.any.a2, .int .i64 M.any.a3, .int .i64 M.any.a4, .int .i64 M.any.a5, .bool M.any.i, .bool M.any.s, .int .i64 M.mw, .int .i64 M.ms, .int .i64 M.mc, vF, vS], .agg #[vP, vR, vV], .agg #[.int .i64 a.size, .int .i64 a.weight, .int .i64 a.lw, .int .i64 a.ls, .int .i64 a.lc, .bool a.li, .bool a.lt, .int .i64 a.place, .int .i64 a.lo, .int .i64 a.hi]] w fun e w' => ∃ E, e = .returned (.int .i64 E) ∧ Below w.heap.size w w' ∧ (E = 0 → scE D M Mo = 0 ∧ appE M a = 0) := by
 have HD := hI9 hD
 have HA := hI9 hA
 have HV := hI9 hV
 have HCK := hI9 (fun w1 h1 h2 h3 => rd_CheckAll_c D vA vB vC M vF vS Mo vP vR vV w1 h1 h2 h3)
 have HAP := hI9 (fun w1 h => rd_approaches_c M vF vS a w1 h)
 clear hD hA hV
 go_enter Tryz.func6, Tryz.ntmps6
 go_wp2_with (fail)
 have _x := frm4 w #[.int .i64 D.size, .int .i64 D.load, .int .i64 D.wind, vA, .int .i64 D.pitch, .int .i64 D.roll, .int .i64 D.heave, .int .i64 D.fire, vB, vC] 26 #[.int .i64 M.places, .int .i64 M.any.a0, .int .i64 M.any.a1, .int .i64 M.any.a2, .int .i64 M.any.a3, .int .i64 M.any.a4, .int .i64 M.any.a5, .bool M.any.i, .bool M.any.s, .int .i64 M.mw, .int .i64 M.ms, .int .i64 M.mc, vF, vS] 34 #[vP, vR, vV] 37 #[.int .i64 a.size, .int .i64 a.weight, .int .i64 a.lw, .int .i64 a.ls, .int .i64 a.lc, .bool a.li, .bool a.lt, .int .i64 a.place, .int .i64 a.lo, .int .i64 a.hi] 43
 have HX := hI9 _x.1
 have HM := hI9 _x.2.1
 have HO := hI9 _x.2.2.1
 have HY := hI9 _x.2.2.2.1
 have HB := hI9 _x.2.2.2.2.1
 have zW := _x.2.2.2.2.2
 clear _x
 generalize World.alloc (World.alloc (World.alloc (World.alloc w _) _) _) _ = W at *
 go_wp2_with (first | (refine wpl_row rfl 26 _ rfl _ rfl _ 10 HX.out Tryz.rowDek rfl ?_; simp only [Act.put]) | (refine wpl_row rfl 34 _ rfl _ rfl _ 14 HM.out Tryz.rowMet rfl ?_; simp only [Act.put]) | (refine wpl_row rfl 37 _ rfl _ rfl _ 3 HO.out Tryz.rowMov rfl ?_; simp only [Act.put]))
 refine (HCK.out _ (HD.out.below HB.out) (HA.out.below HB.out) (HV.out.below HB.out)).mono ?_
 rintro e w1 ⟨E1, rfl, hb1, hE1⟩
 have HE1 := hI9 hE1
 clear hE1
 have nHX := hI9 (HX.out.below hb1)
 have nHM := hI9 (HM.out.below hb1)
 have nHO := hI9 (HO.out.below hb1)
 have nHY := hI9 (HY.out.below hb1)
 have nHB := hI9 (bthen HB.out hb1)
 clear HX HM HO HY HB hb1
 have HX := nHX
 have HM := nHM
 have HO := nHO
 have HY := nHY
 have HB := nHB
 clear nHX nHM nHO nHY nHB
 by_cases e1 : E1 = 0
 case neg =>
  have e1z : (E1 != 0) = true := by simpa using e1
  have e1n := hI9 e1
  clear e1
  go_wp2_with (fail)
  go_ret
  exact ⟨E1, rfl, HB.out, fun h => absurd h e1n.out⟩
 subst e1
 have HF1 := hI9 (HE1.out rfl)
 clear HE1
 go_wp2_with (first | (refine wpl_row rfl 34 _ rfl _ rfl _ 14 HM.out Tryz.rowMet rfl ?_; simp only [Act.put]) | (refine wpl_row rfl 43 _ rfl _ rfl _ 10 HY.out Tryz.rowApp rfl ?_; simp only [Act.put]))
 refine (HAP.out _ (HA.out.below HB.out)).mono ?_
 rintro e w1 ⟨⟨b, rfl, hE3⟩, hb1⟩
 have HE3 := hI9 hE3
 clear hE3
 have nHX := hI9 (HX.out.below hb1)
 have nHM := hI9 (HM.out.below hb1)
 have nHO := hI9 (HO.out.below hb1)
 have nHY := hI9 (HY.out.below hb1)
 have nHB := hI9 (bthen HB.out hb1)
 clear HX HM HO HY HB hb1
 have HX := nHX
 have HM := nHM
 have HO := nHO
 have HY := nHY
 have HB := nHB
 clear nHX nHM nHO nHY nHB
 cases b
 ·go_wp2_with (fail)
  go_ret
  exact ⟨62, rfl, HB.out, fun h => absurd h (by decide)⟩
 ·go_wp2_with (fail)
  go_ret
  exact ⟨0, rfl, HB.out, fun _ => ⟨HF1.out, HE3.out (by first | rfl | trivial)⟩⟩
end Go.Proofs.YtlambeiafdpkgaaGreat
