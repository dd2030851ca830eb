/- Contracts: CheckAll, CheckApproach of the reference of decks (what they accept, the program accepts). -/
import Derived.Test.YtafkifjebimdaaaGreatRdB
set_option linter.all false
namespace Go.Proofs.YtafkifjebimdaaaGreat
open Go Go.RowKit Go.Proofs
set_option maxRecDepth 100000
set_option maxHeartbeats 8000000
theorem scE_mk {D : DekD} {M : MetD} {Mo : MovD} (h1 : D.bad = false) (h2 : M.err = 0) (h3 : Mo.ok = true) : scE D M Mo = 0 := by
  have h : D.err = 0 := by unfold DekD.err; rw [h1]; rfl
  unfold scE cmE
  rw [if_pos h, if_pos h2, if_pos h, h3]; rfl
theorem rd_CheckAll_c (D : DekD) (vA vB vC : Value) (M : MetD) (vF vS : Value) (Mo : MovD) (vP vR vV : Value) (w : World) (hD : DekAt w vA vB vC D) (hA : MetAt w vF vS M) (hV : MovAt w vP vR vV Mo) :
   Calls Tryz.prog 50 #[.agg #[.int .i64 D.size, .int .i64 D.load, .int .i64 D.wind, vA, .int .i64 D.pitch, .int .i64 D.roll, .int .i64 D.heave, .int .i64 D.fire, vB, vC], .agg #[.int .i64 M.places, .int .i64 M.any.a0, .int .i64 M.any.a1, .int .i64 M.any.a2, .int .i64 M.any.a3, .int .i64 M.any.a4, .int .i64 M.any.a5, .bool M.any.i, .bool M.any.s, .int .i64 M.mw, .int .i64 M.ms, .int .i64 M.mc, vF, vS], .agg #[vP, vR, vV]] w fun e w' => ∃ E, e = .returned (.int .i64 E) ∧ Below w.heap.size w w' ∧ (E = 0 → scE D M Mo = 0) := by
  have HD := Lib.hid hD
  have HA := Lib.hid hA
  have HV := Lib.hid hV
  have HCK := Lib.hid (fun w1 h => rd_Check_c D vA vB vC w1 h)
  have HMV := Lib.hid (fun w1 h => rd_Moves_c Mo vP vR vV w1 h)
  have hmc := fun w1 h => rw_Check_c M vF vS w1 h
  clear hD hA hV
  have HME : Hid (∀ E, E = M.err → E = 0 → M.err = 0) := Lib.hid (fun E h1 h2 => h1 ▸ h2)
  obtain ⟨ME, hME⟩ : ∃ E, E = M.err := ⟨_, rfl⟩
  rw [← hME] at hmc
  have HMC := Lib.hid hmc
  have HMZ := Lib.hid (HME.out ME hME)
  clear hmc hME HME
  go_enter Tryz.func50, Tryz.ntmps50
  go_wp2_with (fail)
  have bHX : Blk (((w.alloc (.cells #[.int .i64 D.size, .int .i64 D.load, .int .i64 D.wind, vA, .int .i64 D.pitch, .int .i64 D.roll, .int .i64 D.heave, .int .i64 D.fire, vB, vC] 26)).alloc (.cells #[.int .i64 M.places, .int .i64 M.any.a0, .int .i64 M.any.a1, .int .i64 M.any.a2, .int .i64 M.any.a3, .int .i64 M.any.a4, .int .i64 M.any.a5, .bool M.any.i, .bool M.any.s, .int .i64 M.mw, .int .i64 M.ms, .int .i64 M.mc, vF, vS] 34)).alloc (.cells #[vP, vR, vV] 37)) (w.heap.size) 26 #[.int .i64 D.size, .int .i64 D.load, .int .i64 D.wind, vA, .int .i64 D.pitch, .int .i64 D.roll, .int .i64 D.heave, .int .i64 D.fire, vB, vC] := (by repeat (first | (refine Blk.newAt _ _ _ ?_; first | rfl | (simp; done)) | refine Blk.alloc ?_ _))
  have bHM : Blk (((w.alloc (.cells #[.int .i64 D.size, .int .i64 D.load, .int .i64 D.wind, vA, .int .i64 D.pitch, .int .i64 D.roll, .int .i64 D.heave, .int .i64 D.fire, vB, vC] 26)).alloc (.cells #[.int .i64 M.places, .int .i64 M.any.a0, .int .i64 M.any.a1, .int .i64 M.any.a2, .int .i64 M.any.a3, .int .i64 M.any.a4, .int .i64 M.any.a5, .bool M.any.i, .bool M.any.s, .int .i64 M.mw, .int .i64 M.ms, .int .i64 M.mc, vF, vS] 34)).alloc (.cells #[vP, vR, vV] 37)) (w.heap.size + 1) 34 #[.int .i64 M.places, .int .i64 M.any.a0, .int .i64 M.any.a1, .int .i64 M.any.a2, .int .i64 M.any.a3, .int .i64 M.any.a4, .int .i64 M.any.a5, .bool M.any.i, .bool M.any.s, .int .i64 M.mw, .int .i64 M.ms, .int .i64 M.mc, vF, vS] := (by repeat (first | (refine Blk.newAt _ _ _ ?_; first | rfl | (simp; done)) | refine Blk.alloc ?_ _))
  have bHO : Blk (((w.alloc (.cells #[.int .i64 D.size, .int .i64 D.load, .int .i64 D.wind, vA, .int .i64 D.pitch, .int .i64 D.roll, .int .i64 D.heave, .int .i64 D.fire, vB, vC] 26)).alloc (.cells #[.int .i64 M.places, .int .i64 M.any.a0, .int .i64 M.any.a1, .int .i64 M.any.a2, .int .i64 M.any.a3, .int .i64 M.any.a4, .int .i64 M.any.a5, .bool M.any.i, .bool M.any.s, .int .i64 M.mw, .int .i64 M.ms, .int .i64 M.mc, vF, vS] 34)).alloc (.cells #[vP, vR, vV] 37)) (w.heap.size + 1 + 1) 37 #[vP, vR, vV] := (by repeat (first | (refine Blk.newAt _ _ _ ?_; first | rfl | (simp; done)) | refine Blk.alloc ?_ _))
  have bHB : Below w.heap.size w (((w.alloc (.cells #[.int .i64 D.size, .int .i64 D.load, .int .i64 D.wind, vA, .int .i64 D.pitch, .int .i64 D.roll, .int .i64 D.heave, .int .i64 D.fire, vB, vC] 26)).alloc (.cells #[.int .i64 M.places, .int .i64 M.any.a0, .int .i64 M.any.a1, .int .i64 M.any.a2, .int .i64 M.any.a3, .int .i64 M.any.a4, .int .i64 M.any.a5, .bool M.any.i, .bool M.any.s, .int .i64 M.mw, .int .i64 M.ms, .int .i64 M.mc, vF, vS] 34)).alloc (.cells #[vP, vR, vV] 37)) := (by repeat' (first | exact Below.refl _ _ | assumption | refine Below.drew ?_ | refine bdn ?_ _ | refine bal ?_ _ | refine Below.setCell ?_ (by first | (simp; done) | omega | (simp; omega)) _))
  generalize (((w.alloc (.cells #[.int .i64 D.size, .int .i64 D.load, .int .i64 D.wind, vA, .int .i64 D.pitch, .int .i64 D.roll, .int .i64 D.heave, .int .i64 D.fire, vB, vC] 26)).alloc (.cells #[.int .i64 M.places, .int .i64 M.any.a0, .int .i64 M.any.a1, .int .i64 M.any.a2, .int .i64 M.any.a3, .int .i64 M.any.a4, .int .i64 M.any.a5, .bool M.any.i, .bool M.any.s, .int .i64 M.mw, .int .i64 M.ms, .int .i64 M.mc, vF, vS] 34)).alloc (.cells #[vP, vR, vV] 37)) = W at *
  have zW := bHO.lt
  have HX := Lib.hid bHX
  have HM := Lib.hid bHM
  have HO := Lib.hid bHO
  have HB := Lib.hid bHB
  clear bHX bHM bHO bHB
  go_wp2_with (first | (refine wpl_row rfl 26 _ rfl _ rfl #[.int .i64 D.size, .int .i64 D.load, .int .i64 D.wind, vA, .int .i64 D.pitch, .int .i64 D.roll, .int .i64 D.heave, .int .i64 D.fire, vB, vC] 10 HX.out Tryz.rowDek rfl ?_; simp only [Act.put]))
  refine (HCK.out _ (HD.out.below HB.out)).mono ?_
  rintro e w1 ⟨E1, rfl, hb1, hE1⟩
  have HE1 := Lib.hid hE1
  clear hE1
  have nHX := Lib.hid (HX.out.below hb1)
  have nHM := Lib.hid (HM.out.below hb1)
  have nHO := Lib.hid (HO.out.below hb1)
  have nHB := Lib.hid (bthen HB.out hb1)
  clear HX HM HO HB hb1
  have HX := nHX
  have HM := nHM
  have HO := nHO
  have HB := nHB
  clear nHX nHM nHO nHB
  by_cases e1 : E1 = 0
  case neg =>
    have e1z : (E1 != 0) = true := by simpa using e1
    have e1n := Lib.hid e1
    clear e1
    go_wp2_with (fail)
    go_ret
    exact ⟨E1, rfl, HB.out, fun h => absurd h e1n.out⟩
  subst e1
  have HF1 := Lib.hid (HE1.out rfl)
  clear HE1
  by_cases e2 : ME = 0
  case neg =>
    have e2z : (ME != 0) = true := by simpa using e2
    have e2n := Lib.hid e2
    clear e2
    go_wp2_with (first | (refine wpl_row rfl 34 _ rfl _ rfl #[.int .i64 M.places, .int .i64 M.any.a0, .int .i64 M.any.a1, .int .i64 M.any.a2, .int .i64 M.any.a3, .int .i64 M.any.a4, .int .i64 M.any.a5, .bool M.any.i, .bool M.any.s, .int .i64 M.mw, .int .i64 M.ms, .int .i64 M.mc, vF, vS] 14 HM.out Tryz.rowMet rfl ?_; simp only [Act.put]) | (go_at_call 83; (with_reducible refine (HMC.out _ (HA.out.below HB.out)).mono ?_); rintro e w1 ⟨rfl, hb1⟩; have nHX := Lib.hid (HX.out.below hb1); have nHM := Lib.hid (HM.out.below hb1); have nHO := Lib.hid (HO.out.below hb1); have nHB := Lib.hid (bthen HB.out hb1); have zz1 := hb1.size; clear HX HM HO HB hb1; have HX := nHX; have HM := nHM; have HO := nHO; have HB := nHB; clear nHX nHM nHO nHB))
    go_ret
    exact ⟨ME, rfl, HB.out, fun h => absurd h e2n.out⟩
  subst e2
  have HF2 := Lib.hid (HMZ.out rfl)
  clear HMZ
  go_wp2_with (first | (refine wpl_row rfl 34 _ rfl _ rfl #[.int .i64 M.places, .int .i64 M.any.a0, .int .i64 M.any.a1, .int .i64 M.any.a2, .int .i64 M.any.a3, .int .i64 M.any.a4, .int .i64 M.any.a5, .bool M.any.i, .bool M.any.s, .int .i64 M.mw, .int .i64 M.ms, .int .i64 M.mc, vF, vS] 14 HM.out Tryz.rowMet rfl ?_; simp only [Act.put]) | (go_at_call 83; (with_reducible refine (HMC.out _ (HA.out.below HB.out)).mono ?_); rintro e w1 ⟨rfl, hb1⟩; have nHX := Lib.hid (HX.out.below hb1); have nHM := Lib.hid (HM.out.below hb1); have nHO := Lib.hid (HO.out.below hb1); have nHB := Lib.hid (bthen HB.out hb1); have zz1 := hb1.size; clear HX HM HO HB hb1; have HX := nHX; have HM := nHM; have HO := nHO; have HB := nHB; clear nHX nHM nHO nHB) | (refine wpl_row rfl 37 _ rfl _ rfl #[vP, vR, vV] 3 HO.out Tryz.rowMov rfl ?_; simp only [Act.put]))
  refine (HMV.out _ (HV.out.below HB.out)).mono ?_
  rintro e w1 ⟨⟨b, rfl, hE3⟩, hb1⟩
  have HE3 := Lib.hid hE3
  clear hE3
  have nHX := Lib.hid (HX.out.below hb1)
  have nHM := Lib.hid (HM.out.below hb1)
  have nHO := Lib.hid (HO.out.below hb1)
  have nHB := Lib.hid (bthen HB.out hb1)
  clear HX HM HO HB hb1
  have HX := nHX
  have HM := nHM
  have HO := nHO
  have HB := nHB
  clear nHX nHM nHO nHB
  cases b
  · go_wp2_with (fail)
    go_ret
    exact ⟨61, rfl, HB.out, fun h => absurd h (by decide)⟩
  · go_wp2_with (fail)
    go_ret
    exact ⟨0, rfl, HB.out, fun _ => scE_mk HF1.out HF2.out (HE3.out (by first | rfl | trivial))⟩
theorem rd_CheckApproach_c (D : DekD) (vA vB vC : Value) (M : MetD) (vF vS : Value) (Mo : MovD) (vP vR vV : Value) (a : AppD) (w : World) (hD : DekAt w vA vB vC D) (hA : MetAt w vF vS M) (hV : MovAt w vP vR vV Mo) :
   Calls Tryz.prog 20 #[.agg #[.int .i64 D.size, .int .i64 D.load, .int .i64 D.wind, vA, .int .i64 D.pitch, .int .i64 D.roll, .int .i64 D.heave, .int .i64 D.fire, vB, vC], .agg #[.int .i64 M.places, .int .i64 M.any.a0, .int .i64 M.any.a1, .int .i64 M.any.a2, .int .i64 M.any.a3, .int .i64 M.any.a4, .int .i64 M.any.a5, .bool M.any.i, .bool M.any.s, .int .i64 M.mw, .int .i64 M.ms, .int .i64 M.mc, vF, vS], .agg #[vP, vR, vV], .agg #[.int .i64 a.size, .int .i64 a.weight, .int .i64 a.lw, .int .i64 a.ls, .int .i64 a.lc, .bool a.li, .bool a.lt, .int .i64 a.place, .int .i64 a.lo, .int .i64 a.hi]] w fun e w' => ∃ E, e = .returned (.int .i64 E) ∧ Below w.heap.size w w' ∧ (E = 0 → scE D M Mo = 0 ∧ appE M a = 0) := by
  have HD := Lib.hid hD
  have HA := Lib.hid hA
  have HV := Lib.hid hV
  have HCK := Lib.hid (fun w1 h1 h2 h3 => rd_CheckAll_c D vA vB vC M vF vS Mo vP vR vV w1 h1 h2 h3)
  have HAP := Lib.hid (fun w1 h => rd_approaches_c M vF vS a w1 h)
  clear hD hA hV
  go_enter Tryz.func20, Tryz.ntmps20
  go_wp2_with (fail)
  have bHX : Blk ((((w.alloc (.cells #[.int .i64 D.size, .int .i64 D.load, .int .i64 D.wind, vA, .int .i64 D.pitch, .int .i64 D.roll, .int .i64 D.heave, .int .i64 D.fire, vB, vC] 26)).alloc (.cells #[.int .i64 M.places, .int .i64 M.any.a0, .int .i64 M.any.a1, .int .i64 M.any.a2, .int .i64 M.any.a3, .int .i64 M.any.a4, .int .i64 M.any.a5, .bool M.any.i, .bool M.any.s, .int .i64 M.mw, .int .i64 M.ms, .int .i64 M.mc, vF, vS] 34)).alloc (.cells #[vP, vR, vV] 37)).alloc (.cells #[.int .i64 a.size, .int .i64 a.weight, .int .i64 a.lw, .int .i64 a.ls, .int .i64 a.lc, .bool a.li, .bool a.lt, .int .i64 a.place, .int .i64 a.lo, .int .i64 a.hi] 43)) (w.heap.size) 26 #[.int .i64 D.size, .int .i64 D.load, .int .i64 D.wind, vA, .int .i64 D.pitch, .int .i64 D.roll, .int .i64 D.heave, .int .i64 D.fire, vB, vC] := (by repeat (first | (refine Blk.newAt _ _ _ ?_; first | rfl | (simp; done)) | refine Blk.alloc ?_ _))
  have bHM : Blk ((((w.alloc (.cells #[.int .i64 D.size, .int .i64 D.load, .int .i64 D.wind, vA, .int .i64 D.pitch, .int .i64 D.roll, .int .i64 D.heave, .int .i64 D.fire, vB, vC] 26)).alloc (.cells #[.int .i64 M.places, .int .i64 M.any.a0, .int .i64 M.any.a1, .int .i64 M.any.a2, .int .i64 M.any.a3, .int .i64 M.any.a4, .int .i64 M.any.a5, .bool M.any.i, .bool M.any.s, .int .i64 M.mw, .int .i64 M.ms, .int .i64 M.mc, vF, vS] 34)).alloc (.cells #[vP, vR, vV] 37)).alloc (.cells #[.int .i64 a.size, .int .i64 a.weight, .int .i64 a.lw, .int .i64 a.ls, .int .i64 a.lc, .bool a.li, .bool a.lt, .int .i64 a.place, .int .i64 a.lo, .int .i64 a.hi] 43)) (w.heap.size + 1) 34 #[.int .i64 M.places, .int .i64 M.any.a0, .int .i64 M.any.a1, .int .i64 M.any.a2, .int .i64 M.any.a3, .int .i64 M.any.a4, .int .i64 M.any.a5, .bool M.any.i, .bool M.any.s, .int .i64 M.mw, .int .i64 M.ms, .int .i64 M.mc, vF, vS] := (by repeat (first | (refine Blk.newAt _ _ _ ?_; first | rfl | (simp; done)) | refine Blk.alloc ?_ _))
  have bHO : Blk ((((w.alloc (.cells #[.int .i64 D.size, .int .i64 D.load, .int .i64 D.wind, vA, .int .i64 D.pitch, .int .i64 D.roll, .int .i64 D.heave, .int .i64 D.fire, vB, vC] 26)).alloc (.cells #[.int .i64 M.places, .int .i64 M.any.a0, .int .i64 M.any.a1, .int .i64 M.any.a2, .int .i64 M.any.a3, .int .i64 M.any.a4, .int .i64 M.any.a5, .bool M.any.i, .bool M.any.s, .int .i64 M.mw, .int .i64 M.ms, .int .i64 M.mc, vF, vS] 34)).alloc (.cells #[vP, vR, vV] 37)).alloc (.cells #[.int .i64 a.size, .int .i64 a.weight, .int .i64 a.lw, .int .i64 a.ls, .int .i64 a.lc, .bool a.li, .bool a.lt, .int .i64 a.place, .int .i64 a.lo, .int .i64 a.hi] 43)) (w.heap.size + 1 + 1) 37 #[vP, vR, vV] := (by repeat (first | (refine Blk.newAt _ _ _ ?_; first | rfl | (simp; done)) | refine Blk.alloc ?_ _))
  have bHY : Blk ((((w.alloc (.cells #[.int .i64 D.size, .int .i64 D.load, .int .i64 D.wind, vA, .int .i64 D.pitch, .int .i64 D.roll, .int .i64 D.heave, .int .i64 D.fire, vB, vC] 26)).alloc (.cells #[.int .i64 M.places, .int .i64 M.any.a0, .int .i64 M.any.a1, .int .i64 M.any.a2, .int .i64 M.any.a3, .int .i64 M.any.a4, .int .i64 M.any.a5, .bool M.any.i, .bool M.any.s, .int .i64 M.mw, .int .i64 M.ms, .int .i64 M.mc, vF, vS] 34)).alloc (.cells #[vP, vR, vV] 37)).alloc (.cells #[.int .i64 a.size, .int .i64 a.weight, .int .i64 a.lw, .int .i64 a.ls, .int .i64 a.lc, .bool a.li, .bool a.lt, .int .i64 a.place, .int .i64 a.lo, .int .i64 a.hi] 43)) (w.heap.size + 1 + 1 + 1) 43 #[.int .i64 a.size, .int .i64 a.weight, .int .i64 a.lw, .int .i64 a.ls, .int .i64 a.lc, .bool a.li, .bool a.lt, .int .i64 a.place, .int .i64 a.lo, .int .i64 a.hi] := (by repeat (first | (refine Blk.newAt _ _ _ ?_; first | rfl | (simp; done)) | refine Blk.alloc ?_ _))
  have bHB : Below w.heap.size w ((((w.alloc (.cells #[.int .i64 D.size, .int .i64 D.load, .int .i64 D.wind, vA, .int .i64 D.pitch, .int .i64 D.roll, .int .i64 D.heave, .int .i64 D.fire, vB, vC] 26)).alloc (.cells #[.int .i64 M.places, .int .i64 M.any.a0, .int .i64 M.any.a1, .int .i64 M.any.a2, .int .i64 M.any.a3, .int .i64 M.any.a4, .int .i64 M.any.a5, .bool M.any.i, .bool M.any.s, .int .i64 M.mw, .int .i64 M.ms, .int .i64 M.mc, vF, vS] 34)).alloc (.cells #[vP, vR, vV] 37)).alloc (.cells #[.int .i64 a.size, .int .i64 a.weight, .int .i64 a.lw, .int .i64 a.ls, .int .i64 a.lc, .bool a.li, .bool a.lt, .int .i64 a.place, .int .i64 a.lo, .int .i64 a.hi] 43)) := (by repeat' (first | exact Below.refl _ _ | assumption | refine Below.drew ?_ | refine bdn ?_ _ | refine bal ?_ _ | refine Below.setCell ?_ (by first | (simp; done) | omega | (simp; omega)) _))
  generalize ((((w.alloc (.cells #[.int .i64 D.size, .int .i64 D.load, .int .i64 D.wind, vA, .int .i64 D.pitch, .int .i64 D.roll, .int .i64 D.heave, .int .i64 D.fire, vB, vC] 26)).alloc (.cells #[.int .i64 M.places, .int .i64 M.any.a0, .int .i64 M.any.a1, .int .i64 M.any.a2, .int .i64 M.any.a3, .int .i64 M.any.a4, .int .i64 M.any.a5, .bool M.any.i, .bool M.any.s, .int .i64 M.mw, .int .i64 M.ms, .int .i64 M.mc, vF, vS] 34)).alloc (.cells #[vP, vR, vV] 37)).alloc (.cells #[.int .i64 a.size, .int .i64 a.weight, .int .i64 a.lw, .int .i64 a.ls, .int .i64 a.lc, .bool a.li, .bool a.lt, .int .i64 a.place, .int .i64 a.lo, .int .i64 a.hi] 43)) = W at *
  have zW := bHY.lt
  have HX := Lib.hid bHX
  have HM := Lib.hid bHM
  have HO := Lib.hid bHO
  have HY := Lib.hid bHY
  have HB := Lib.hid bHB
  clear bHX bHM bHO bHY bHB
  go_wp2_with (first | (refine wpl_row rfl 26 _ rfl _ rfl #[.int .i64 D.size, .int .i64 D.load, .int .i64 D.wind, vA, .int .i64 D.pitch, .int .i64 D.roll, .int .i64 D.heave, .int .i64 D.fire, vB, vC] 10 HX.out Tryz.rowDek rfl ?_; simp only [Act.put]) | (refine wpl_row rfl 34 _ rfl _ rfl #[.int .i64 M.places, .int .i64 M.any.a0, .int .i64 M.any.a1, .int .i64 M.any.a2, .int .i64 M.any.a3, .int .i64 M.any.a4, .int .i64 M.any.a5, .bool M.any.i, .bool M.any.s, .int .i64 M.mw, .int .i64 M.ms, .int .i64 M.mc, vF, vS] 14 HM.out Tryz.rowMet rfl ?_; simp only [Act.put]) | (refine wpl_row rfl 37 _ rfl _ rfl #[vP, vR, vV] 3 HO.out Tryz.rowMov rfl ?_; simp only [Act.put]))
  refine (HCK.out _ (HD.out.below HB.out) (HA.out.below HB.out) (HV.out.below HB.out)).mono ?_
  rintro e w1 ⟨E1, rfl, hb1, hE1⟩
  have HE1 := Lib.hid hE1
  clear hE1
  have nHX := Lib.hid (HX.out.below hb1)
  have nHM := Lib.hid (HM.out.below hb1)
  have nHO := Lib.hid (HO.out.below hb1)
  have nHY := Lib.hid (HY.out.below hb1)
  have nHB := Lib.hid (bthen HB.out hb1)
  clear HX HM HO HY HB hb1
  have HX := nHX
  have HM := nHM
  have HO := nHO
  have HY := nHY
  have HB := nHB
  clear nHX nHM nHO nHY nHB
  by_cases e1 : E1 = 0
  case neg =>
    have e1z : (E1 != 0) = true := by simpa using e1
    have e1n := Lib.hid e1
    clear e1
    go_wp2_with (fail)
    go_ret
    exact ⟨E1, rfl, HB.out, fun h => absurd h e1n.out⟩
  subst e1
  have HF1 := Lib.hid (HE1.out rfl)
  clear HE1
  go_wp2_with (first | (refine wpl_row rfl 34 _ rfl _ rfl #[.int .i64 M.places, .int .i64 M.any.a0, .int .i64 M.any.a1, .int .i64 M.any.a2, .int .i64 M.any.a3, .int .i64 M.any.a4, .int .i64 M.any.a5, .bool M.any.i, .bool M.any.s, .int .i64 M.mw, .int .i64 M.ms, .int .i64 M.mc, vF, vS] 14 HM.out Tryz.rowMet rfl ?_; simp only [Act.put]) | (refine wpl_row rfl 43 _ rfl _ rfl #[.int .i64 a.size, .int .i64 a.weight, .int .i64 a.lw, .int .i64 a.ls, .int .i64 a.lc, .bool a.li, .bool a.lt, .int .i64 a.place, .int .i64 a.lo, .int .i64 a.hi] 10 HY.out Tryz.rowApp rfl ?_; simp only [Act.put]))
  refine (HAP.out _ (HA.out.below HB.out)).mono ?_
  rintro e w1 ⟨⟨b, rfl, hE3⟩, hb1⟩
  have HE3 := Lib.hid hE3
  clear hE3
  have nHX := Lib.hid (HX.out.below hb1)
  have nHM := Lib.hid (HM.out.below hb1)
  have nHO := Lib.hid (HO.out.below hb1)
  have nHY := Lib.hid (HY.out.below hb1)
  have nHB := Lib.hid (bthen HB.out hb1)
  clear HX HM HO HY HB hb1
  have HX := nHX
  have HM := nHM
  have HO := nHO
  have HY := nHY
  have HB := nHB
  clear nHX nHM nHO nHY nHB
  cases b
  · go_wp2_with (fail)
    go_ret
    exact ⟨62, rfl, HB.out, fun h => absurd h (by decide)⟩
  · go_wp2_with (fail)
    go_ret
    exact ⟨0, rfl, HB.out, fun _ => ⟨HF1.out, HE3.out (by first | rfl | trivial)⟩⟩
end Go.Proofs.YtafkifjebimdaaaGreat
