/- Contracts: what the reference of decks checks of a motion and an approach. -/
import Derived.Test.YtafkifjebimdaaaGreatRdA
import Derived.Test.YtafkifjebimdaaaGreatJAK
import Derived.Test.YtafkifjebimdaaaGreatJAP
set_option linter.all false
namespace Go.Proofs.YtafkifjebimdaaaGreat
open Go Go.RowKit Go.Proofs
set_option maxRecDepth 100000
set_option maxHeartbeats 8000000
theorem rd_Moves_c (Mo : MovD) (vP vR vV : Value) (w : World) (hV : MovAt w vP vR vV Mo) :
   Calls Tryz.prog 84 #[.agg #[vP, vR, vV]] w fun e w' => RetB e (Mo.ok = true) ∧ Below w.heap.size w w' := by
  have HV := Lib.hid hV
  obtain ⟨A6, k6, rfl, -, -, -⟩ := hV.p.e
  obtain ⟨A7, k7, rfl, -, -, -⟩ := hV.r.e
  obtain ⟨A8, k8, rfl, -, -, -⟩ := hV.v.e
  clear hV
  by_cases q1 : Mo.nr = Mo.np
  case neg =>
    have z1 : ((Mo.nr : Int) != (Mo.np : Int)) = true := by simp; omega
    clear q1
    go_enter Tryz.func84, Tryz.ntmps84
    go_wp2_with (fail)
    have bHX : Blk (w.alloc (.cells #[.slice A6 Mo.np k6, .slice A7 Mo.nr k7, .slice A8 Mo.nv k8] 37)) (w.heap.size) 37 #[.slice A6 Mo.np k6, .slice A7 Mo.nr k7, .slice A8 Mo.nv k8] := (by repeat (first | (refine Blk.newAt _ _ _ ?_; first | rfl | (simp; done)) | refine Blk.alloc ?_ _))
    have bHB : Below w.heap.size w (w.alloc (.cells #[.slice A6 Mo.np k6, .slice A7 Mo.nr k7, .slice A8 Mo.nv k8] 37)) := (by repeat' (first | exact Below.refl _ _ | assumption | refine Below.drew ?_ | refine bdn ?_ _ | refine bal ?_ _ | refine Below.setCell ?_ (by first | (simp; done) | omega | (simp; omega)) _))
    generalize (w.alloc (.cells #[.slice A6 Mo.np k6, .slice A7 Mo.nr k7, .slice A8 Mo.nv k8] 37)) = W at *
    have zW := bHX.lt
    have HX := Lib.hid bHX
    have HB := Lib.hid bHB
    clear bHX bHB
    have zHX := HX.out.lt
    have cHX0 := HX.out.cell 0
    have cHX1 := HX.out.cell 1
    have cHX2 := HX.out.cell 2
    simp only [List.getElem?_toArray, List.getElem?_cons_succ, List.getElem?_cons_zero] at cHX0 cHX1 cHX2
    go_wp2_with (fail)
    go_ret
    exact ⟨⟨false, rfl, fun h => nomatch h⟩, HB.out⟩
  have z1 : ((Mo.nr : Int) != (Mo.np : Int)) = false := by simp; omega
  by_cases q2 : Mo.nv = Mo.np
  case neg =>
    have z2 : ((Mo.nv : Int) != (Mo.np : Int)) = true := by simp; omega
    clear q2
    have Q1 := Lib.hid q1
    clear q1
    go_enter Tryz.func84, Tryz.ntmps84
    go_wp2_with (fail)
    have bHX : Blk (w.alloc (.cells #[.slice A6 Mo.np k6, .slice A7 Mo.nr k7, .slice A8 Mo.nv k8] 37)) (w.heap.size) 37 #[.slice A6 Mo.np k6, .slice A7 Mo.nr k7, .slice A8 Mo.nv k8] := (by repeat (first | (refine Blk.newAt _ _ _ ?_; first | rfl | (simp; done)) | refine Blk.alloc ?_ _))
    have bHB : Below w.heap.size w (w.alloc (.cells #[.slice A6 Mo.np k6, .slice A7 Mo.nr k7, .slice A8 Mo.nv k8] 37)) := (by repeat' (first | exact Below.refl _ _ | assumption | refine Below.drew ?_ | refine bdn ?_ _ | refine bal ?_ _ | refine Below.setCell ?_ (by first | (simp; done) | omega | (simp; omega)) _))
    generalize (w.alloc (.cells #[.slice A6 Mo.np k6, .slice A7 Mo.nr k7, .slice A8 Mo.nv k8] 37)) = W at *
    have zW := bHX.lt
    have HX := Lib.hid bHX
    have HB := Lib.hid bHB
    clear bHX bHB
    have zHX := HX.out.lt
    have cHX0 := HX.out.cell 0
    have cHX1 := HX.out.cell 1
    have cHX2 := HX.out.cell 2
    simp only [List.getElem?_toArray, List.getElem?_cons_succ, List.getElem?_cons_zero] at cHX0 cHX1 cHX2
    go_wp2_with (fail)
    go_ret
    exact ⟨⟨false, rfl, fun h => nomatch h⟩, HB.out⟩
  have z2 : ((Mo.nv : Int) != (Mo.np : Int)) = false := by simp; omega
  have Q1 := Lib.hid q1
  have Q2 := Lib.hid q2
  clear q1 q2
  by_cases q3 : 2001 < Mo.np
  · have z3 : decide ((2001 : Int) < (Mo.np : Int)) = true := decide_eq_true (by omega)
    clear q3
    go_enter Tryz.func84, Tryz.ntmps84
    go_wp2_with (fail)
    have bHX : Blk (w.alloc (.cells #[.slice A6 Mo.np k6, .slice A7 Mo.nr k7, .slice A8 Mo.nv k8] 37)) (w.heap.size) 37 #[.slice A6 Mo.np k6, .slice A7 Mo.nr k7, .slice A8 Mo.nv k8] := (by repeat (first | (refine Blk.newAt _ _ _ ?_; first | rfl | (simp; done)) | refine Blk.alloc ?_ _))
    have bHB : Below w.heap.size w (w.alloc (.cells #[.slice A6 Mo.np k6, .slice A7 Mo.nr k7, .slice A8 Mo.nv k8] 37)) := (by repeat' (first | exact Below.refl _ _ | assumption | refine Below.drew ?_ | refine bdn ?_ _ | refine bal ?_ _ | refine Below.setCell ?_ (by first | (simp; done) | omega | (simp; omega)) _))
    generalize (w.alloc (.cells #[.slice A6 Mo.np k6, .slice A7 Mo.nr k7, .slice A8 Mo.nv k8] 37)) = W at *
    have zW := bHX.lt
    have HX := Lib.hid bHX
    have HB := Lib.hid bHB
    clear bHX bHB
    have zHX := HX.out.lt
    have cHX0 := HX.out.cell 0
    have cHX1 := HX.out.cell 1
    have cHX2 := HX.out.cell 2
    simp only [List.getElem?_toArray, List.getElem?_cons_succ, List.getElem?_cons_zero] at cHX0 cHX1 cHX2
    go_wp2_with (fail)
    go_ret
    exact ⟨⟨false, rfl, fun h => nomatch h⟩, HB.out⟩
  have z3 : decide ((2001 : Int) < (Mo.np : Int)) = false := decide_eq_false (by omega)
  go_enter Tryz.func84, Tryz.ntmps84
  go_wp2_with (fail)
  have bHX : Blk (w.alloc (.cells #[.slice A6 Mo.np k6, .slice A7 Mo.nr k7, .slice A8 Mo.nv k8] 37)) (w.heap.size) 37 #[.slice A6 Mo.np k6, .slice A7 Mo.nr k7, .slice A8 Mo.nv k8] := (by repeat (first | (refine Blk.newAt _ _ _ ?_; first | rfl | (simp; done)) | refine Blk.alloc ?_ _))
  have bHB : Below w.heap.size w (w.alloc (.cells #[.slice A6 Mo.np k6, .slice A7 Mo.nr k7, .slice A8 Mo.nv k8] 37)) := (by repeat' (first | exact Below.refl _ _ | assumption | refine Below.drew ?_ | refine bdn ?_ _ | refine bal ?_ _ | refine Below.setCell ?_ (by first | (simp; done) | omega | (simp; omega)) _))
  generalize (w.alloc (.cells #[.slice A6 Mo.np k6, .slice A7 Mo.nr k7, .slice A8 Mo.nv k8] 37)) = W at *
  have zW := bHX.lt
  have HX := Lib.hid bHX
  have HB := Lib.hid bHB
  clear bHX bHB
  have zHX := HX.out.lt
  have cHX0 := HX.out.cell 0
  have cHX1 := HX.out.cell 1
  have cHX2 := HX.out.cell 2
  simp only [List.getElem?_toArray, List.getElem?_cons_succ, List.getElem?_cons_zero] at cHX0 cHX1 cHX2
  go_wp2_with (fail)
  have K0 := Lib.hid (show OneK w 37 #[.slice A6 Mo.np k6, .slice A7 Mo.nr k7, .slice A8 Mo.nv k8] W from ⟨HB.out, HX.out⟩)
  clear HX HB z1 z2 z3
  go_loopg [4] Mo.np (fun gx i wr => ∃ k : Nat, i = .int .i64 k ∧ k ≤ Mo.np ∧ Mo.np - k ≤ gx ∧ Hid (OneK w 37 #[.slice A6 Mo.np k6, .slice A7 Mo.nr k7, .slice A8 Mo.nv k8] wr) ∧ Hid (∀ j, j < k → inB (Mo.P j) (-300) 300 = true ∧ inB (Mo.R j) (-300) 300 = true ∧ inB (Mo.V j) (-300) 300 = true))
  case atStart => exact ⟨0, rfl, Nat.zero_le _, Nat.le_refl _, K0, Lib.hid (fun j h => absurd h (Nat.not_lt_zero _))⟩
  case round =>
    clear K0
    obtain ⟨k, rfl, hk, hgx, K0, HS1⟩ := hrel
    have cHX0 := K0.out.m.cell 0
    have cHX1 := K0.out.m.cell 1
    have cHX2 := K0.out.m.cell 2
    simp only [List.getElem?_toArray, List.getElem?_cons_succ, List.getElem?_cons_zero] at cHX0 cHX1 cHX2
    by_cases hlt : k < Mo.np
    · have hltz : (k : Int) < (Mo.np : Int) := by omega
      have hltr : (k : Int) < (Mo.nr : Int) := by have := Q1.out; omega
      have hltv : (k : Int) < (Mo.nv : Int) := by have := Q2.out; omega
      obtain ⟨b1, o1, c1, h1, hb1, hc1⟩ := HV.out.p.ints (by omega)
      obtain ⟨b2, o2, c2, h2, hb2, hc2⟩ := HV.out.r.ints (by have := Q1.out; omega)
      obtain ⟨b3, o3, c3, h3, hb3, hc3⟩ := HV.out.v.ints (by have := Q2.out; omega)
      simp only [Value.slice.injEq] at h1 h2 h3
      obtain ⟨rfl, -, rfl⟩ := h1
      obtain ⟨rfl, -, rfl⟩ := h2
      obtain ⟨rfl, -, rfl⟩ := h3
      have d1 : wr.cell? ⟨b1, o1 + k, none⟩ = some (.int .i64 (Mo.P k)) := (K0.out.b.cell (p := ⟨b1, o1 + k, none⟩) hb1).trans (hc1 k (by omega))
      have d2 : wr.cell? ⟨b2, o2 + k, none⟩ = some (.int .i64 (Mo.R k)) := (K0.out.b.cell (p := ⟨b2, o2 + k, none⟩) hb2).trans (hc2 k (by omega))
      have d3 : wr.cell? ⟨b3, o3 + k, none⟩ = some (.int .i64 (Mo.V k)) := (K0.out.b.cell (p := ⟨b3, o3 + k, none⟩) hb3).trans (hc3 k (by omega))
      clear hc1 hc2 hc3
      cases e1 : inB (Mo.P k) (-300) 300
      case false =>
        go_wp2_with (first | (go_at_call 110; (with_reducible refine (rd_swell_c _ _ _).mono ?_); rintro e w1 ⟨rfl, rfl⟩))
        go_ret
        exact ⟨⟨false, rfl, fun h => nomatch h⟩, K0.out.b⟩
      cases e2 : inB (Mo.R k) (-300) 300
      case false =>
        go_wp2_with (first | (go_at_call 110; (with_reducible refine (rd_swell_c _ _ _).mono ?_); rintro e w1 ⟨rfl, rfl⟩))
        go_ret
        exact ⟨⟨false, rfl, fun h => nomatch h⟩, K0.out.b⟩
      cases e3 : inB (Mo.V k) (-300) 300
      case false =>
        go_wp2_with (first | (go_at_call 110; (with_reducible refine (rd_swell_c _ _ _).mono ?_); rintro e w1 ⟨rfl, rfl⟩))
        go_ret
        exact ⟨⟨false, rfl, fun h => nomatch h⟩, K0.out.b⟩
      go_wp2_with (first | (go_at_call 110; (with_reducible refine (rd_swell_c _ _ _).mono ?_); rintro e w1 ⟨rfl, rfl⟩))
      go_roundg (Mo.np - (k + 1))
      case measure => omega
      case rel => exact ⟨k + 1, by first | rfl | go_num | (congr 1; omega), by omega, Nat.le_refl _, K0, Lib.hid (fun j h => by
        by_cases e : j = k
        · subst e; exact ⟨e1, e2, e3⟩
        · exact HS1.out j (by omega))⟩
    · obtain rfl : k = Mo.np := by omega
      go_wp2_with (fail)
      go_ret
      exact ⟨⟨true, rfl, fun _ => by
        unfold MovD.ok
        simp only [Bool.and_eq_true, decide_eq_true_eq, List.all_eq_true, List.mem_range]
        exact ⟨Q1.out, Q2.out, by omega, fun j h => HS1.out j h⟩⟩, K0.out.b⟩
theorem atE_zero {M : MetD} {p : Int} (hb : M.bad = false) (h : inB p 0 (M.places - 1) = true) : atE M p 0 = 0 := by
  unfold atE
  rw [hb, if_neg (by decide), h]
  rfl
theorem rd_approaches_c (M : MetD) (vF vS : Value) (a : AppD) (w : World) (hA : MetAt w vF vS M) :
   Calls Tryz.prog 51 #[.agg #[.int .i64 M.places, .int .i64 M.any.a0, .int .i64 M.any.a1, .int .i64 M.any.a2, .int .i64 M.any.a3, .int .i64 M.any.a4, .int .i64 M.any.a5, .bool M.any.i, .bool M.any.s, .int .i64 M.mw, .int .i64 M.ms, .int .i64 M.mc, vF, vS], .agg #[.int .i64 a.size, .int .i64 a.weight, .int .i64 a.lw, .int .i64 a.ls, .int .i64 a.lc, .bool a.li, .bool a.lt, .int .i64 a.place, .int .i64 a.lo, .int .i64 a.hi]] w fun e w' => RetB e (appE M a = 0) ∧ Below w.heap.size w w' := by
  have HA := Lib.hid hA
  have hmn := fun w1 h => rw_CheckMinima_c M vF vS a.lw a.ls a.lc a.li a.lt w1 h
  have HBL := Lib.hid (fun w1 => rd_blows_c a.lo a.hi w1)
  clear hA
  cases b1 : inB a.size 1 1000000
  case false =>
    have HMN := Lib.hid hmn
    clear hmn
    go_enter Tryz.func51, Tryz.ntmps51
    go_wp2_with (fail)
    have bHX : Blk ((w.alloc (.cells #[.int .i64 M.places, .int .i64 M.any.a0, .int .i64 M.any.a1, .int .i64 M.any.a2, .int .i64 M.any.a3, .int .i64 M.any.a4, .int .i64 M.any.a5, .bool M.any.i, .bool M.any.s, .int .i64 M.mw, .int .i64 M.ms, .int .i64 M.mc, vF, vS] 34)).alloc (.cells #[.int .i64 a.size, .int .i64 a.weight, .int .i64 a.lw, .int .i64 a.ls, .int .i64 a.lc, .bool a.li, .bool a.lt, .int .i64 a.place, .int .i64 a.lo, .int .i64 a.hi] 43)) (w.heap.size) 34 #[.int .i64 M.places, .int .i64 M.any.a0, .int .i64 M.any.a1, .int .i64 M.any.a2, .int .i64 M.any.a3, .int .i64 M.any.a4, .int .i64 M.any.a5, .bool M.any.i, .bool M.any.s, .int .i64 M.mw, .int .i64 M.ms, .int .i64 M.mc, vF, vS] := (by repeat (first | (refine Blk.newAt _ _ _ ?_; first | rfl | (simp; done)) | refine Blk.alloc ?_ _))
    have bHY : Blk ((w.alloc (.cells #[.int .i64 M.places, .int .i64 M.any.a0, .int .i64 M.any.a1, .int .i64 M.any.a2, .int .i64 M.any.a3, .int .i64 M.any.a4, .int .i64 M.any.a5, .bool M.any.i, .bool M.any.s, .int .i64 M.mw, .int .i64 M.ms, .int .i64 M.mc, vF, vS] 34)).alloc (.cells #[.int .i64 a.size, .int .i64 a.weight, .int .i64 a.lw, .int .i64 a.ls, .int .i64 a.lc, .bool a.li, .bool a.lt, .int .i64 a.place, .int .i64 a.lo, .int .i64 a.hi] 43)) (w.heap.size + 1) 43 #[.int .i64 a.size, .int .i64 a.weight, .int .i64 a.lw, .int .i64 a.ls, .int .i64 a.lc, .bool a.li, .bool a.lt, .int .i64 a.place, .int .i64 a.lo, .int .i64 a.hi] := (by repeat (first | (refine Blk.newAt _ _ _ ?_; first | rfl | (simp; done)) | refine Blk.alloc ?_ _))
    have bHB : Below w.heap.size w ((w.alloc (.cells #[.int .i64 M.places, .int .i64 M.any.a0, .int .i64 M.any.a1, .int .i64 M.any.a2, .int .i64 M.any.a3, .int .i64 M.any.a4, .int .i64 M.any.a5, .bool M.any.i, .bool M.any.s, .int .i64 M.mw, .int .i64 M.ms, .int .i64 M.mc, vF, vS] 34)).alloc (.cells #[.int .i64 a.size, .int .i64 a.weight, .int .i64 a.lw, .int .i64 a.ls, .int .i64 a.lc, .bool a.li, .bool a.lt, .int .i64 a.place, .int .i64 a.lo, .int .i64 a.hi] 43)) := (by repeat' (first | exact Below.refl _ _ | assumption | refine Below.drew ?_ | refine bdn ?_ _ | refine bal ?_ _ | refine Below.setCell ?_ (by first | (simp; done) | omega | (simp; omega)) _))
    generalize ((w.alloc (.cells #[.int .i64 M.places, .int .i64 M.any.a0, .int .i64 M.any.a1, .int .i64 M.any.a2, .int .i64 M.any.a3, .int .i64 M.any.a4, .int .i64 M.any.a5, .bool M.any.i, .bool M.any.s, .int .i64 M.mw, .int .i64 M.ms, .int .i64 M.mc, vF, vS] 34)).alloc (.cells #[.int .i64 a.size, .int .i64 a.weight, .int .i64 a.lw, .int .i64 a.ls, .int .i64 a.lc, .bool a.li, .bool a.lt, .int .i64 a.place, .int .i64 a.lo, .int .i64 a.hi] 43)) = W at *
    have zW := bHY.lt
    have HX := Lib.hid bHX
    have HY := Lib.hid bHY
    have HB := Lib.hid bHB
    clear bHX bHY bHB
    have zHX := HX.out.lt
    have cHX0 := HX.out.cell 0
    have zHY := HY.out.lt
    have cHY0 := HY.out.cell 0
    have cHY1 := HY.out.cell 1
    have cHY2 := HY.out.cell 2
    have cHY3 := HY.out.cell 3
    have cHY4 := HY.out.cell 4
    have cHY5 := HY.out.cell 5
    have cHY6 := HY.out.cell 6
    have cHY7 := HY.out.cell 7
    have cHY8 := HY.out.cell 8
    have cHY9 := HY.out.cell 9
    simp only [List.getElem?_toArray, List.getElem?_cons_succ, List.getElem?_cons_zero] at cHX0 cHY0 cHY1 cHY2 cHY3 cHY4 cHY5 cHY6 cHY7 cHY8 cHY9
    go_wp2_with (first | (go_at_call 85; (with_reducible refine (rd_from_c _ _ _ _).mono ?_); rintro e w1 ⟨rfl, rfl⟩) | (refine wpl_row_g ?_ 34 (.tmp 2) rfl _ rfl #[.int .i64 M.places, .int .i64 M.any.a0, .int .i64 M.any.a1, .int .i64 M.any.a2, .int .i64 M.any.a3, .int .i64 M.any.a4, .int .i64 M.any.a5, .bool M.any.i, .bool M.any.s, .int .i64 M.mw, .int .i64 M.ms, .int .i64 M.mc, vF, vS] 14 HX.out Tryz.rowMet rfl ?_; (focus rfl); simp only [Act.put]) | (go_at_call 86; (with_reducible refine (HMN.out _ (HA.out.below HB.out)).mono ?_); rintro e w1 ⟨rfl, hb1⟩; have nHX := Lib.hid (HX.out.below hb1); have nHY := Lib.hid (HY.out.below hb1); have nHB := Lib.hid (bthen HB.out hb1); have zz1 := hb1.size; clear HX HY HB hb1; have HX := nHX; have HY := nHY; have HB := nHB; clear nHX nHY nHB; (try clear zHX); have zHX := HX.out.lt; (try clear cHX0); have cHX0 := HX.out.cell 0; (try clear zHY); have zHY := HY.out.lt; (try clear cHY0); have cHY0 := HY.out.cell 0; (try clear cHY1); have cHY1 := HY.out.cell 1; (try clear cHY2); have cHY2 := HY.out.cell 2; (try clear cHY3); have cHY3 := HY.out.cell 3; (try clear cHY4); have cHY4 := HY.out.cell 4; (try clear cHY5); have cHY5 := HY.out.cell 5; (try clear cHY6); have cHY6 := HY.out.cell 6; (try clear cHY7); have cHY7 := HY.out.cell 7; (try clear cHY8); have cHY8 := HY.out.cell 8; (try clear cHY9); have cHY9 := HY.out.cell 9) | (go_at_call 87; (with_reducible refine (HBL.out _).mono ?_); rintro e w1 ⟨⟨b, rfl, hbl⟩, hb1⟩; skip; have nHX := Lib.hid (HX.out.below hb1); have nHY := Lib.hid (HY.out.below hb1); have nHB := Lib.hid (bthen HB.out hb1); have zz1 := hb1.size; clear HX HY HB hb1; have HX := nHX; have HY := nHY; have HB := nHB; clear nHX nHY nHB))
    go_ret
    exact ⟨⟨false, rfl, fun h => nomatch h⟩, HB.out⟩
  cases b2 : inB a.weight 1 1000000
  case false =>
    have HMN := Lib.hid hmn
    clear hmn
    go_enter Tryz.func51, Tryz.ntmps51
    go_wp2_with (fail)
    have bHX : Blk ((w.alloc (.cells #[.int .i64 M.places, .int .i64 M.any.a0, .int .i64 M.any.a1, .int .i64 M.any.a2, .int .i64 M.any.a3, .int .i64 M.any.a4, .int .i64 M.any.a5, .bool M.any.i, .bool M.any.s, .int .i64 M.mw, .int .i64 M.ms, .int .i64 M.mc, vF, vS] 34)).alloc (.cells #[.int .i64 a.size, .int .i64 a.weight, .int .i64 a.lw, .int .i64 a.ls, .int .i64 a.lc, .bool a.li, .bool a.lt, .int .i64 a.place, .int .i64 a.lo, .int .i64 a.hi] 43)) (w.heap.size) 34 #[.int .i64 M.places, .int .i64 M.any.a0, .int .i64 M.any.a1, .int .i64 M.any.a2, .int .i64 M.any.a3, .int .i64 M.any.a4, .int .i64 M.any.a5, .bool M.any.i, .bool M.any.s, .int .i64 M.mw, .int .i64 M.ms, .int .i64 M.mc, vF, vS] := (by repeat (first | (refine Blk.newAt _ _ _ ?_; first | rfl | (simp; done)) | refine Blk.alloc ?_ _))
    have bHY : Blk ((w.alloc (.cells #[.int .i64 M.places, .int .i64 M.any.a0, .int .i64 M.any.a1, .int .i64 M.any.a2, .int .i64 M.any.a3, .int .i64 M.any.a4, .int .i64 M.any.a5, .bool M.any.i, .bool M.any.s, .int .i64 M.mw, .int .i64 M.ms, .int .i64 M.mc, vF, vS] 34)).alloc (.cells #[.int .i64 a.size, .int .i64 a.weight, .int .i64 a.lw, .int .i64 a.ls, .int .i64 a.lc, .bool a.li, .bool a.lt, .int .i64 a.place, .int .i64 a.lo, .int .i64 a.hi] 43)) (w.heap.size + 1) 43 #[.int .i64 a.size, .int .i64 a.weight, .int .i64 a.lw, .int .i64 a.ls, .int .i64 a.lc, .bool a.li, .bool a.lt, .int .i64 a.place, .int .i64 a.lo, .int .i64 a.hi] := (by repeat (first | (refine Blk.newAt _ _ _ ?_; first | rfl | (simp; done)) | refine Blk.alloc ?_ _))
    have bHB : Below w.heap.size w ((w.alloc (.cells #[.int .i64 M.places, .int .i64 M.any.a0, .int .i64 M.any.a1, .int .i64 M.any.a2, .int .i64 M.any.a3, .int .i64 M.any.a4, .int .i64 M.any.a5, .bool M.any.i, .bool M.any.s, .int .i64 M.mw, .int .i64 M.ms, .int .i64 M.mc, vF, vS] 34)).alloc (.cells #[.int .i64 a.size, .int .i64 a.weight, .int .i64 a.lw, .int .i64 a.ls, .int .i64 a.lc, .bool a.li, .bool a.lt, .int .i64 a.place, .int .i64 a.lo, .int .i64 a.hi] 43)) := (by repeat' (first | exact Below.refl _ _ | assumption | refine Below.drew ?_ | refine bdn ?_ _ | refine bal ?_ _ | refine Below.setCell ?_ (by first | (simp; done) | omega | (simp; omega)) _))
    generalize ((w.alloc (.cells #[.int .i64 M.places, .int .i64 M.any.a0, .int .i64 M.any.a1, .int .i64 M.any.a2, .int .i64 M.any.a3, .int .i64 M.any.a4, .int .i64 M.any.a5, .bool M.any.i, .bool M.any.s, .int .i64 M.mw, .int .i64 M.ms, .int .i64 M.mc, vF, vS] 34)).alloc (.cells #[.int .i64 a.size, .int .i64 a.weight, .int .i64 a.lw, .int .i64 a.ls, .int .i64 a.lc, .bool a.li, .bool a.lt, .int .i64 a.place, .int .i64 a.lo, .int .i64 a.hi] 43)) = W at *
    have zW := bHY.lt
    have HX := Lib.hid bHX
    have HY := Lib.hid bHY
    have HB := Lib.hid bHB
    clear bHX bHY bHB
    have zHX := HX.out.lt
    have cHX0 := HX.out.cell 0
    have zHY := HY.out.lt
    have cHY0 := HY.out.cell 0
    have cHY1 := HY.out.cell 1
    have cHY2 := HY.out.cell 2
    have cHY3 := HY.out.cell 3
    have cHY4 := HY.out.cell 4
    have cHY5 := HY.out.cell 5
    have cHY6 := HY.out.cell 6
    have cHY7 := HY.out.cell 7
    have cHY8 := HY.out.cell 8
    have cHY9 := HY.out.cell 9
    simp only [List.getElem?_toArray, List.getElem?_cons_succ, List.getElem?_cons_zero] at cHX0 cHY0 cHY1 cHY2 cHY3 cHY4 cHY5 cHY6 cHY7 cHY8 cHY9
    go_wp2_with (first | (go_at_call 85; (with_reducible refine (rd_from_c _ _ _ _).mono ?_); rintro e w1 ⟨rfl, rfl⟩) | (refine wpl_row_g ?_ 34 (.tmp 2) rfl _ rfl #[.int .i64 M.places, .int .i64 M.any.a0, .int .i64 M.any.a1, .int .i64 M.any.a2, .int .i64 M.any.a3, .int .i64 M.any.a4, .int .i64 M.any.a5, .bool M.any.i, .bool M.any.s, .int .i64 M.mw, .int .i64 M.ms, .int .i64 M.mc, vF, vS] 14 HX.out Tryz.rowMet rfl ?_; (focus rfl); simp only [Act.put]) | (go_at_call 86; (with_reducible refine (HMN.out _ (HA.out.below HB.out)).mono ?_); rintro e w1 ⟨rfl, hb1⟩; have nHX := Lib.hid (HX.out.below hb1); have nHY := Lib.hid (HY.out.below hb1); have nHB := Lib.hid (bthen HB.out hb1); have zz1 := hb1.size; clear HX HY HB hb1; have HX := nHX; have HY := nHY; have HB := nHB; clear nHX nHY nHB; (try clear zHX); have zHX := HX.out.lt; (try clear cHX0); have cHX0 := HX.out.cell 0; (try clear zHY); have zHY := HY.out.lt; (try clear cHY0); have cHY0 := HY.out.cell 0; (try clear cHY1); have cHY1 := HY.out.cell 1; (try clear cHY2); have cHY2 := HY.out.cell 2; (try clear cHY3); have cHY3 := HY.out.cell 3; (try clear cHY4); have cHY4 := HY.out.cell 4; (try clear cHY5); have cHY5 := HY.out.cell 5; (try clear cHY6); have cHY6 := HY.out.cell 6; (try clear cHY7); have cHY7 := HY.out.cell 7; (try clear cHY8); have cHY8 := HY.out.cell 8; (try clear cHY9); have cHY9 := HY.out.cell 9) | (go_at_call 87; (with_reducible refine (HBL.out _).mono ?_); rintro e w1 ⟨⟨b, rfl, hbl⟩, hb1⟩; skip; have nHX := Lib.hid (HX.out.below hb1); have nHY := Lib.hid (HY.out.below hb1); have nHB := Lib.hid (bthen HB.out hb1); have zz1 := hb1.size; clear HX HY HB hb1; have HX := nHX; have HY := nHY; have HB := nHB; clear nHX nHY nHB))
    go_ret
    exact ⟨⟨false, rfl, fun h => nomatch h⟩, HB.out⟩
  by_cases he : minE M a.lw a.ls a.lc = 0
  case neg =>
    have hez : (minE M a.lw a.ls a.lc == 0) = false := by simpa using he
    generalize minE M a.lw a.ls a.lc = E at *
    have HMN := Lib.hid hmn
    clear hmn he
    go_enter Tryz.func51, Tryz.ntmps51
    go_wp2_with (fail)
    have bHX : Blk ((w.alloc (.cells #[.int .i64 M.places, .int .i64 M.any.a0, .int .i64 M.any.a1, .int .i64 M.any.a2, .int .i64 M.any.a3, .int .i64 M.any.a4, .int .i64 M.any.a5, .bool M.any.i, .bool M.any.s, .int .i64 M.mw, .int .i64 M.ms, .int .i64 M.mc, vF, vS] 34)).alloc (.cells #[.int .i64 a.size, .int .i64 a.weight, .int .i64 a.lw, .int .i64 a.ls, .int .i64 a.lc, .bool a.li, .bool a.lt, .int .i64 a.place, .int .i64 a.lo, .int .i64 a.hi] 43)) (w.heap.size) 34 #[.int .i64 M.places, .int .i64 M.any.a0, .int .i64 M.any.a1, .int .i64 M.any.a2, .int .i64 M.any.a3, .int .i64 M.any.a4, .int .i64 M.any.a5, .bool M.any.i, .bool M.any.s, .int .i64 M.mw, .int .i64 M.ms, .int .i64 M.mc, vF, vS] := (by repeat (first | (refine Blk.newAt _ _ _ ?_; first | rfl | (simp; done)) | refine Blk.alloc ?_ _))
    have bHY : Blk ((w.alloc (.cells #[.int .i64 M.places, .int .i64 M.any.a0, .int .i64 M.any.a1, .int .i64 M.any.a2, .int .i64 M.any.a3, .int .i64 M.any.a4, .int .i64 M.any.a5, .bool M.any.i, .bool M.any.s, .int .i64 M.mw, .int .i64 M.ms, .int .i64 M.mc, vF, vS] 34)).alloc (.cells #[.int .i64 a.size, .int .i64 a.weight, .int .i64 a.lw, .int .i64 a.ls, .int .i64 a.lc, .bool a.li, .bool a.lt, .int .i64 a.place, .int .i64 a.lo, .int .i64 a.hi] 43)) (w.heap.size + 1) 43 #[.int .i64 a.size, .int .i64 a.weight, .int .i64 a.lw, .int .i64 a.ls, .int .i64 a.lc, .bool a.li, .bool a.lt, .int .i64 a.place, .int .i64 a.lo, .int .i64 a.hi] := (by repeat (first | (refine Blk.newAt _ _ _ ?_; first | rfl | (simp; done)) | refine Blk.alloc ?_ _))
    have bHB : Below w.heap.size w ((w.alloc (.cells #[.int .i64 M.places, .int .i64 M.any.a0, .int .i64 M.any.a1, .int .i64 M.any.a2, .int .i64 M.any.a3, .int .i64 M.any.a4, .int .i64 M.any.a5, .bool M.any.i, .bool M.any.s, .int .i64 M.mw, .int .i64 M.ms, .int .i64 M.mc, vF, vS] 34)).alloc (.cells #[.int .i64 a.size, .int .i64 a.weight, .int .i64 a.lw, .int .i64 a.ls, .int .i64 a.lc, .bool a.li, .bool a.lt, .int .i64 a.place, .int .i64 a.lo, .int .i64 a.hi] 43)) := (by repeat' (first | exact Below.refl _ _ | assumption | refine Below.drew ?_ | refine bdn ?_ _ | refine bal ?_ _ | refine Below.setCell ?_ (by first | (simp; done) | omega | (simp; omega)) _))
    generalize ((w.alloc (.cells #[.int .i64 M.places, .int .i64 M.any.a0, .int .i64 M.any.a1, .int .i64 M.any.a2, .int .i64 M.any.a3, .int .i64 M.any.a4, .int .i64 M.any.a5, .bool M.any.i, .bool M.any.s, .int .i64 M.mw, .int .i64 M.ms, .int .i64 M.mc, vF, vS] 34)).alloc (.cells #[.int .i64 a.size, .int .i64 a.weight, .int .i64 a.lw, .int .i64 a.ls, .int .i64 a.lc, .bool a.li, .bool a.lt, .int .i64 a.place, .int .i64 a.lo, .int .i64 a.hi] 43)) = W at *
    have zW := bHY.lt
    have HX := Lib.hid bHX
    have HY := Lib.hid bHY
    have HB := Lib.hid bHB
    clear bHX bHY bHB
    have zHX := HX.out.lt
    have cHX0 := HX.out.cell 0
    have zHY := HY.out.lt
    have cHY0 := HY.out.cell 0
    have cHY1 := HY.out.cell 1
    have cHY2 := HY.out.cell 2
    have cHY3 := HY.out.cell 3
    have cHY4 := HY.out.cell 4
    have cHY5 := HY.out.cell 5
    have cHY6 := HY.out.cell 6
    have cHY7 := HY.out.cell 7
    have cHY8 := HY.out.cell 8
    have cHY9 := HY.out.cell 9
    simp only [List.getElem?_toArray, List.getElem?_cons_succ, List.getElem?_cons_zero] at cHX0 cHY0 cHY1 cHY2 cHY3 cHY4 cHY5 cHY6 cHY7 cHY8 cHY9
    go_wp2_with (first | (go_at_call 85; (with_reducible refine (rd_from_c _ _ _ _).mono ?_); rintro e w1 ⟨rfl, rfl⟩) | (refine wpl_row_g ?_ 34 (.tmp 2) rfl _ rfl #[.int .i64 M.places, .int .i64 M.any.a0, .int .i64 M.any.a1, .int .i64 M.any.a2, .int .i64 M.any.a3, .int .i64 M.any.a4, .int .i64 M.any.a5, .bool M.any.i, .bool M.any.s, .int .i64 M.mw, .int .i64 M.ms, .int .i64 M.mc, vF, vS] 14 HX.out Tryz.rowMet rfl ?_; (focus rfl); simp only [Act.put]) | (go_at_call 86; (with_reducible refine (HMN.out _ (HA.out.below HB.out)).mono ?_); rintro e w1 ⟨rfl, hb1⟩; have nHX := Lib.hid (HX.out.below hb1); have nHY := Lib.hid (HY.out.below hb1); have nHB := Lib.hid (bthen HB.out hb1); have zz1 := hb1.size; clear HX HY HB hb1; have HX := nHX; have HY := nHY; have HB := nHB; clear nHX nHY nHB; (try clear zHX); have zHX := HX.out.lt; (try clear cHX0); have cHX0 := HX.out.cell 0; (try clear zHY); have zHY := HY.out.lt; (try clear cHY0); have cHY0 := HY.out.cell 0; (try clear cHY1); have cHY1 := HY.out.cell 1; (try clear cHY2); have cHY2 := HY.out.cell 2; (try clear cHY3); have cHY3 := HY.out.cell 3; (try clear cHY4); have cHY4 := HY.out.cell 4; (try clear cHY5); have cHY5 := HY.out.cell 5; (try clear cHY6); have cHY6 := HY.out.cell 6; (try clear cHY7); have cHY7 := HY.out.cell 7; (try clear cHY8); have cHY8 := HY.out.cell 8; (try clear cHY9); have cHY9 := HY.out.cell 9) | (go_at_call 87; (with_reducible refine (HBL.out _).mono ?_); rintro e w1 ⟨⟨b, rfl, hbl⟩, hb1⟩; skip; have nHX := Lib.hid (HX.out.below hb1); have nHY := Lib.hid (HY.out.below hb1); have nHB := Lib.hid (bthen HB.out hb1); have zz1 := hb1.size; clear HX HY HB hb1; have HX := nHX; have HY := nHY; have HB := nHB; clear nHX nHY nHB))
    go_ret
    exact ⟨⟨false, rfl, fun h => nomatch h⟩, HB.out⟩
  rw [he] at hmn
  have HMN := Lib.hid hmn
  have hb := minE_bad he
  have hp := (MetD.ok_of hb).places
  have hp1 := hp.1
  have hp2 := hp.2
  have HE := Lib.hid (And.intro he hb)
  clear hmn he hb hp
  cases b3 : inB a.place 0 (M.places - 1)
  case false =>
    go_enter Tryz.func51, Tryz.ntmps51
    go_wp2_with (fail)
    have bHX : Blk ((w.alloc (.cells #[.int .i64 M.places, .int .i64 M.any.a0, .int .i64 M.any.a1, .int .i64 M.any.a2, .int .i64 M.any.a3, .int .i64 M.any.a4, .int .i64 M.any.a5, .bool M.any.i, .bool M.any.s, .int .i64 M.mw, .int .i64 M.ms, .int .i64 M.mc, vF, vS] 34)).alloc (.cells #[.int .i64 a.size, .int .i64 a.weight, .int .i64 a.lw, .int .i64 a.ls, .int .i64 a.lc, .bool a.li, .bool a.lt, .int .i64 a.place, .int .i64 a.lo, .int .i64 a.hi] 43)) (w.heap.size) 34 #[.int .i64 M.places, .int .i64 M.any.a0, .int .i64 M.any.a1, .int .i64 M.any.a2, .int .i64 M.any.a3, .int .i64 M.any.a4, .int .i64 M.any.a5, .bool M.any.i, .bool M.any.s, .int .i64 M.mw, .int .i64 M.ms, .int .i64 M.mc, vF, vS] := (by repeat (first | (refine Blk.newAt _ _ _ ?_; first | rfl | (simp; done)) | refine Blk.alloc ?_ _))
    have bHY : Blk ((w.alloc (.cells #[.int .i64 M.places, .int .i64 M.any.a0, .int .i64 M.any.a1, .int .i64 M.any.a2, .int .i64 M.any.a3, .int .i64 M.any.a4, .int .i64 M.any.a5, .bool M.any.i, .bool M.any.s, .int .i64 M.mw, .int .i64 M.ms, .int .i64 M.mc, vF, vS] 34)).alloc (.cells #[.int .i64 a.size, .int .i64 a.weight, .int .i64 a.lw, .int .i64 a.ls, .int .i64 a.lc, .bool a.li, .bool a.lt, .int .i64 a.place, .int .i64 a.lo, .int .i64 a.hi] 43)) (w.heap.size + 1) 43 #[.int .i64 a.size, .int .i64 a.weight, .int .i64 a.lw, .int .i64 a.ls, .int .i64 a.lc, .bool a.li, .bool a.lt, .int .i64 a.place, .int .i64 a.lo, .int .i64 a.hi] := (by repeat (first | (refine Blk.newAt _ _ _ ?_; first | rfl | (simp; done)) | refine Blk.alloc ?_ _))
    have bHB : Below w.heap.size w ((w.alloc (.cells #[.int .i64 M.places, .int .i64 M.any.a0, .int .i64 M.any.a1, .int .i64 M.any.a2, .int .i64 M.any.a3, .int .i64 M.any.a4, .int .i64 M.any.a5, .bool M.any.i, .bool M.any.s, .int .i64 M.mw, .int .i64 M.ms, .int .i64 M.mc, vF, vS] 34)).alloc (.cells #[.int .i64 a.size, .int .i64 a.weight, .int .i64 a.lw, .int .i64 a.ls, .int .i64 a.lc, .bool a.li, .bool a.lt, .int .i64 a.place, .int .i64 a.lo, .int .i64 a.hi] 43)) := (by repeat' (first | exact Below.refl _ _ | assumption | refine Below.drew ?_ | refine bdn ?_ _ | refine bal ?_ _ | refine Below.setCell ?_ (by first | (simp; done) | omega | (simp; omega)) _))
    generalize ((w.alloc (.cells #[.int .i64 M.places, .int .i64 M.any.a0, .int .i64 M.any.a1, .int .i64 M.any.a2, .int .i64 M.any.a3, .int .i64 M.any.a4, .int .i64 M.any.a5, .bool M.any.i, .bool M.any.s, .int .i64 M.mw, .int .i64 M.ms, .int .i64 M.mc, vF, vS] 34)).alloc (.cells #[.int .i64 a.size, .int .i64 a.weight, .int .i64 a.lw, .int .i64 a.ls, .int .i64 a.lc, .bool a.li, .bool a.lt, .int .i64 a.place, .int .i64 a.lo, .int .i64 a.hi] 43)) = W at *
    have zW := bHY.lt
    have HX := Lib.hid bHX
    have HY := Lib.hid bHY
    have HB := Lib.hid bHB
    clear bHX bHY bHB
    have zHX := HX.out.lt
    have cHX0 := HX.out.cell 0
    have zHY := HY.out.lt
    have cHY0 := HY.out.cell 0
    have cHY1 := HY.out.cell 1
    have cHY2 := HY.out.cell 2
    have cHY3 := HY.out.cell 3
    have cHY4 := HY.out.cell 4
    have cHY5 := HY.out.cell 5
    have cHY6 := HY.out.cell 6
    have cHY7 := HY.out.cell 7
    have cHY8 := HY.out.cell 8
    have cHY9 := HY.out.cell 9
    simp only [List.getElem?_toArray, List.getElem?_cons_succ, List.getElem?_cons_zero] at cHX0 cHY0 cHY1 cHY2 cHY3 cHY4 cHY5 cHY6 cHY7 cHY8 cHY9
    go_wp2_with (first | (go_at_call 85; (with_reducible refine (rd_from_c _ _ _ _).mono ?_); rintro e w1 ⟨rfl, rfl⟩) | (refine wpl_row_g ?_ 34 (.tmp 2) rfl _ rfl #[.int .i64 M.places, .int .i64 M.any.a0, .int .i64 M.any.a1, .int .i64 M.any.a2, .int .i64 M.any.a3, .int .i64 M.any.a4, .int .i64 M.any.a5, .bool M.any.i, .bool M.any.s, .int .i64 M.mw, .int .i64 M.ms, .int .i64 M.mc, vF, vS] 14 HX.out Tryz.rowMet rfl ?_; (focus rfl); simp only [Act.put]) | (go_at_call 86; (with_reducible refine (HMN.out _ (HA.out.below HB.out)).mono ?_); rintro e w1 ⟨rfl, hb1⟩; have nHX := Lib.hid (HX.out.below hb1); have nHY := Lib.hid (HY.out.below hb1); have nHB := Lib.hid (bthen HB.out hb1); have zz1 := hb1.size; clear HX HY HB hb1; have HX := nHX; have HY := nHY; have HB := nHB; clear nHX nHY nHB; (try clear zHX); have zHX := HX.out.lt; (try clear cHX0); have cHX0 := HX.out.cell 0; (try clear zHY); have zHY := HY.out.lt; (try clear cHY0); have cHY0 := HY.out.cell 0; (try clear cHY1); have cHY1 := HY.out.cell 1; (try clear cHY2); have cHY2 := HY.out.cell 2; (try clear cHY3); have cHY3 := HY.out.cell 3; (try clear cHY4); have cHY4 := HY.out.cell 4; (try clear cHY5); have cHY5 := HY.out.cell 5; (try clear cHY6); have cHY6 := HY.out.cell 6; (try clear cHY7); have cHY7 := HY.out.cell 7; (try clear cHY8); have cHY8 := HY.out.cell 8; (try clear cHY9); have cHY9 := HY.out.cell 9) | (go_at_call 87; (with_reducible refine (HBL.out _).mono ?_); rintro e w1 ⟨⟨b, rfl, hbl⟩, hb1⟩; skip; have nHX := Lib.hid (HX.out.below hb1); have nHY := Lib.hid (HY.out.below hb1); have nHB := Lib.hid (bthen HB.out hb1); have zz1 := hb1.size; clear HX HY HB hb1; have HX := nHX; have HY := nHY; have HB := nHB; clear nHX nHY nHB))
    go_ret
    exact ⟨⟨false, rfl, fun h => nomatch h⟩, HB.out⟩
  have HP := Lib.hid (appE_mk (M := M) (a := a) b1 b2 (opE_mk HE.out.1 (atE_zero HE.out.2 b3)))
  go_enter Tryz.func51, Tryz.ntmps51
  go_wp2_with (fail)
  have bHX : Blk ((w.alloc (.cells #[.int .i64 M.places, .int .i64 M.any.a0, .int .i64 M.any.a1, .int .i64 M.any.a2, .int .i64 M.any.a3, .int .i64 M.any.a4, .int .i64 M.any.a5, .bool M.any.i, .bool M.any.s, .int .i64 M.mw, .int .i64 M.ms, .int .i64 M.mc, vF, vS] 34)).alloc (.cells #[.int .i64 a.size, .int .i64 a.weight, .int .i64 a.lw, .int .i64 a.ls, .int .i64 a.lc, .bool a.li, .bool a.lt, .int .i64 a.place, .int .i64 a.lo, .int .i64 a.hi] 43)) (w.heap.size) 34 #[.int .i64 M.places, .int .i64 M.any.a0, .int .i64 M.any.a1, .int .i64 M.any.a2, .int .i64 M.any.a3, .int .i64 M.any.a4, .int .i64 M.any.a5, .bool M.any.i, .bool M.any.s, .int .i64 M.mw, .int .i64 M.ms, .int .i64 M.mc, vF, vS] := (by repeat (first | (refine Blk.newAt _ _ _ ?_; first | rfl | (simp; done)) | refine Blk.alloc ?_ _))
  have bHY : Blk ((w.alloc (.cells #[.int .i64 M.places, .int .i64 M.any.a0, .int .i64 M.any.a1, .int .i64 M.any.a2, .int .i64 M.any.a3, .int .i64 M.any.a4, .int .i64 M.any.a5, .bool M.any.i, .bool M.any.s, .int .i64 M.mw, .int .i64 M.ms, .int .i64 M.mc, vF, vS] 34)).alloc (.cells #[.int .i64 a.size, .int .i64 a.weight, .int .i64 a.lw, .int .i64 a.ls, .int .i64 a.lc, .bool a.li, .bool a.lt, .int .i64 a.place, .int .i64 a.lo, .int .i64 a.hi] 43)) (w.heap.size + 1) 43 #[.int .i64 a.size, .int .i64 a.weight, .int .i64 a.lw, .int .i64 a.ls, .int .i64 a.lc, .bool a.li, .bool a.lt, .int .i64 a.place, .int .i64 a.lo, .int .i64 a.hi] := (by repeat (first | (refine Blk.newAt _ _ _ ?_; first | rfl | (simp; done)) | refine Blk.alloc ?_ _))
  have bHB : Below w.heap.size w ((w.alloc (.cells #[.int .i64 M.places, .int .i64 M.any.a0, .int .i64 M.any.a1, .int .i64 M.any.a2, .int .i64 M.any.a3, .int .i64 M.any.a4, .int .i64 M.any.a5, .bool M.any.i, .bool M.any.s, .int .i64 M.mw, .int .i64 M.ms, .int .i64 M.mc, vF, vS] 34)).alloc (.cells #[.int .i64 a.size, .int .i64 a.weight, .int .i64 a.lw, .int .i64 a.ls, .int .i64 a.lc, .bool a.li, .bool a.lt, .int .i64 a.place, .int .i64 a.lo, .int .i64 a.hi] 43)) := (by repeat' (first | exact Below.refl _ _ | assumption | refine Below.drew ?_ | refine bdn ?_ _ | refine bal ?_ _ | refine Below.setCell ?_ (by first | (simp; done) | omega | (simp; omega)) _))
  generalize ((w.alloc (.cells #[.int .i64 M.places, .int .i64 M.any.a0, .int .i64 M.any.a1, .int .i64 M.any.a2, .int .i64 M.any.a3, .int .i64 M.any.a4, .int .i64 M.any.a5, .bool M.any.i, .bool M.any.s, .int .i64 M.mw, .int .i64 M.ms, .int .i64 M.mc, vF, vS] 34)).alloc (.cells #[.int .i64 a.size, .int .i64 a.weight, .int .i64 a.lw, .int .i64 a.ls, .int .i64 a.lc, .bool a.li, .bool a.lt, .int .i64 a.place, .int .i64 a.lo, .int .i64 a.hi] 43)) = W at *
  have zW := bHY.lt
  have HX := Lib.hid bHX
  have HY := Lib.hid bHY
  have HB := Lib.hid bHB
  clear bHX bHY bHB
  have zHX := HX.out.lt
  have cHX0 := HX.out.cell 0
  have zHY := HY.out.lt
  have cHY0 := HY.out.cell 0
  have cHY1 := HY.out.cell 1
  have cHY2 := HY.out.cell 2
  have cHY3 := HY.out.cell 3
  have cHY4 := HY.out.cell 4
  have cHY5 := HY.out.cell 5
  have cHY6 := HY.out.cell 6
  have cHY7 := HY.out.cell 7
  have cHY8 := HY.out.cell 8
  have cHY9 := HY.out.cell 9
  simp only [List.getElem?_toArray, List.getElem?_cons_succ, List.getElem?_cons_zero] at cHX0 cHY0 cHY1 cHY2 cHY3 cHY4 cHY5 cHY6 cHY7 cHY8 cHY9
  go_wp2_with (first | (go_at_call 85; (with_reducible refine (rd_from_c _ _ _ _).mono ?_); rintro e w1 ⟨rfl, rfl⟩) | (refine wpl_row_g ?_ 34 (.tmp 2) rfl _ rfl #[.int .i64 M.places, .int .i64 M.any.a0, .int .i64 M.any.a1, .int .i64 M.any.a2, .int .i64 M.any.a3, .int .i64 M.any.a4, .int .i64 M.any.a5, .bool M.any.i, .bool M.any.s, .int .i64 M.mw, .int .i64 M.ms, .int .i64 M.mc, vF, vS] 14 HX.out Tryz.rowMet rfl ?_; (focus rfl); simp only [Act.put]) | (go_at_call 86; (with_reducible refine (HMN.out _ (HA.out.below HB.out)).mono ?_); rintro e w1 ⟨rfl, hb1⟩; have nHX := Lib.hid (HX.out.below hb1); have nHY := Lib.hid (HY.out.below hb1); have nHB := Lib.hid (bthen HB.out hb1); have zz1 := hb1.size; clear HX HY HB hb1; have HX := nHX; have HY := nHY; have HB := nHB; clear nHX nHY nHB; (try clear zHX); have zHX := HX.out.lt; (try clear cHX0); have cHX0 := HX.out.cell 0; (try clear zHY); have zHY := HY.out.lt; (try clear cHY0); have cHY0 := HY.out.cell 0; (try clear cHY1); have cHY1 := HY.out.cell 1; (try clear cHY2); have cHY2 := HY.out.cell 2; (try clear cHY3); have cHY3 := HY.out.cell 3; (try clear cHY4); have cHY4 := HY.out.cell 4; (try clear cHY5); have cHY5 := HY.out.cell 5; (try clear cHY6); have cHY6 := HY.out.cell 6; (try clear cHY7); have cHY7 := HY.out.cell 7; (try clear cHY8); have cHY8 := HY.out.cell 8; (try clear cHY9); have cHY9 := HY.out.cell 9) | (go_at_call 87; (with_reducible refine (HBL.out _).mono ?_); rintro e w1 ⟨⟨b, rfl, hbl⟩, hb1⟩; skip; have nHX := Lib.hid (HX.out.below hb1); have nHY := Lib.hid (HY.out.below hb1); have nHB := Lib.hid (bthen HB.out hb1); have zz1 := hb1.size; clear HX HY HB hb1; have HX := nHX; have HY := nHY; have HB := nHB; clear nHX nHY nHB))
  trace_state
  go_ret
  exact ⟨⟨_, rfl, fun h => HP.out (hbl h)⟩, HB.out⟩
end Go.Proofs.YtafkifjebimdaaaGreat
