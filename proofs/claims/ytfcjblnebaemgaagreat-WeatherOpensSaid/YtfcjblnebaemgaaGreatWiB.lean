/- The law WeatherOpens: Open and Perhaps return what the document specifies. -/
import Derived.Test.YtfcjblnebaemgaaGreatRwK
import Derived.Test.YtfcjblnebaemgaaGreatWfD
set_option linter.all false
namespace Go.Proofs.YtfcjblnebaemgaaGreat
open Go Go.RowKit Go.Proofs
set_option maxRecDepth 100000
set_option maxHeartbeats 8000000
theorem WeatherOpens_c (M : MetD) (vF vS : Value) (lw ls lc : Int) (li lt : Bool) (p t : Int) (w : World) (hA : MetAt w vF vS M) :
   Calls Tryz.prog 3 #[.agg #[.int .i64 M.places, .int .i64 M.any.a0, .int .i64 M.any.a1, .int .i64 M.any.a2, .int .i64 M.any.a3, .int .i64 M.any.a4, .int .i64 M.any.a5, .bool M.any.i, .bool M.any.s, .int .i64 M.mw, .int .i64 M.ms, .int .i64 M.mc, vF, vS], .agg #[.int .i64 lw, .int .i64 ls, .int .i64 lc, .bool li, .bool lt], .agg #[.int .i64 p, .int .i64 t]] w fun e w' => e = .returned (.bool true) ∧ RowKit.Below w.heap.size w w' := by
  have HA := Lib.hid hA
  have HFR := Lib.hid (fun w1 h => wFar_c M vF vS w1 h)
  have HOW := Lib.hid (fun w1 h hn => wown2_c M vF vS w1 h hn)
  have h1 := fun w1 vF vS h => wOpen_c M vF vS lw ls lc li lt p t w1 h
  have h2 := fun w1 h => rw_Open_c M vF vS lw ls lc li lt p t w1 h
  have h3 := fun w1 vF vS h => wPerhaps_c M vF vS lw ls lc li lt p t w1 h
  have h4 := fun w1 h => rw_Perhaps_c M vF vS lw ls lc li lt p t w1 h
  generalize openV M lw ls lc li lt p t = V at *
  generalize perhV M lw ls lc li lt p t = V2 at *
  generalize opE M lw ls lc p t = E at *
  have H1 := Lib.hid h1
  have H2 := Lib.hid h2
  have H3 := Lib.hid h3
  have H4 := Lib.hid h4
  clear hA h1 h2 h3 h4
  cases hf : M.far
  · rw [hf] at HFR
    have HFF := Lib.hid hf
    clear hf
    go_enter Tryz.func3, Tryz.ntmps3
    go_wp2_with (first | (refine wpl_row rfl 29 _ rfl _ rfl #[.int .i64 M.places, .int .i64 M.any.a0, .int .i64 M.any.a1, .int .i64 M.any.a2, .int .i64 M.any.a3, .int .i64 M.any.a4, .int .i64 M.any.a5, .bool M.any.i, .bool M.any.s, .int .i64 M.mw, .int .i64 M.ms, .int .i64 M.mc, vF, vS] 14 ?_ Tryz.rowMet rfl ?_; (focus exact (by repeat (first | (refine Blk.newAt _ _ _ ?_; first | rfl | (simp; done)) | refine Blk.alloc ?_ _))); simp only [Act.put]))
    have bHX : Blk (((w.alloc (.cells #[.int .i64 M.places, .int .i64 M.any.a0, .int .i64 M.any.a1, .int .i64 M.any.a2, .int .i64 M.any.a3, .int .i64 M.any.a4, .int .i64 M.any.a5, .bool M.any.i, .bool M.any.s, .int .i64 M.mw, .int .i64 M.ms, .int .i64 M.mc, vF, vS] 29)).alloc (.cells #[.int .i64 lw, .int .i64 ls, .int .i64 lc, .bool li, .bool lt] 31)).alloc (.cells #[.int .i64 p, .int .i64 t] 33)) (w.heap.size) 29 #[.int .i64 M.places, .int .i64 M.any.a0, .int .i64 M.any.a1, .int .i64 M.any.a2, .int .i64 M.any.a3, .int .i64 M.any.a4, .int .i64 M.any.a5, .bool M.any.i, .bool M.any.s, .int .i64 M.mw, .int .i64 M.ms, .int .i64 M.mc, vF, vS] := (by repeat (first | (refine Blk.newAt _ _ _ ?_; first | rfl | (simp; done)) | refine Blk.alloc ?_ _))
    have bHL : Blk (((w.alloc (.cells #[.int .i64 M.places, .int .i64 M.any.a0, .int .i64 M.any.a1, .int .i64 M.any.a2, .int .i64 M.any.a3, .int .i64 M.any.a4, .int .i64 M.any.a5, .bool M.any.i, .bool M.any.s, .int .i64 M.mw, .int .i64 M.ms, .int .i64 M.mc, vF, vS] 29)).alloc (.cells #[.int .i64 lw, .int .i64 ls, .int .i64 lc, .bool li, .bool lt] 31)).alloc (.cells #[.int .i64 p, .int .i64 t] 33)) (w.heap.size + 1) 31 #[.int .i64 lw, .int .i64 ls, .int .i64 lc, .bool li, .bool lt] := (by repeat (first | (refine Blk.newAt _ _ _ ?_; first | rfl | (simp; done)) | refine Blk.alloc ?_ _))
    have bHP : Blk (((w.alloc (.cells #[.int .i64 M.places, .int .i64 M.any.a0, .int .i64 M.any.a1, .int .i64 M.any.a2, .int .i64 M.any.a3, .int .i64 M.any.a4, .int .i64 M.any.a5, .bool M.any.i, .bool M.any.s, .int .i64 M.mw, .int .i64 M.ms, .int .i64 M.mc, vF, vS] 29)).alloc (.cells #[.int .i64 lw, .int .i64 ls, .int .i64 lc, .bool li, .bool lt] 31)).alloc (.cells #[.int .i64 p, .int .i64 t] 33)) (w.heap.size + 1 + 1) 33 #[.int .i64 p, .int .i64 t] := (by repeat (first | (refine Blk.newAt _ _ _ ?_; first | rfl | (simp; done)) | refine Blk.alloc ?_ _))
    have bHB : Below w.heap.size w (((w.alloc (.cells #[.int .i64 M.places, .int .i64 M.any.a0, .int .i64 M.any.a1, .int .i64 M.any.a2, .int .i64 M.any.a3, .int .i64 M.any.a4, .int .i64 M.any.a5, .bool M.any.i, .bool M.any.s, .int .i64 M.mw, .int .i64 M.ms, .int .i64 M.mc, vF, vS] 29)).alloc (.cells #[.int .i64 lw, .int .i64 ls, .int .i64 lc, .bool li, .bool lt] 31)).alloc (.cells #[.int .i64 p, .int .i64 t] 33)) := (by repeat' (first | exact Below.refl _ _ | assumption | refine Below.drew ?_ | refine bdn ?_ _ | refine bal ?_ _ | refine Below.setCell ?_ (by first | (simp; done) | omega | (simp; omega)) _))
    generalize (((w.alloc (.cells #[.int .i64 M.places, .int .i64 M.any.a0, .int .i64 M.any.a1, .int .i64 M.any.a2, .int .i64 M.any.a3, .int .i64 M.any.a4, .int .i64 M.any.a5, .bool M.any.i, .bool M.any.s, .int .i64 M.mw, .int .i64 M.ms, .int .i64 M.mc, vF, vS] 29)).alloc (.cells #[.int .i64 lw, .int .i64 ls, .int .i64 lc, .bool li, .bool lt] 31)).alloc (.cells #[.int .i64 p, .int .i64 t] 33)) = W at *
    have zW := bHP.lt
    have HX := Lib.hid bHX
    have HL := Lib.hid bHL
    have HP := Lib.hid bHP
    have HB := Lib.hid bHB
    clear bHX bHL bHP bHB
    go_wp2_with (first | (refine wpl_row rfl 29 _ rfl _ rfl #[.int .i64 M.places, .int .i64 M.any.a0, .int .i64 M.any.a1, .int .i64 M.any.a2, .int .i64 M.any.a3, .int .i64 M.any.a4, .int .i64 M.any.a5, .bool M.any.i, .bool M.any.s, .int .i64 M.mw, .int .i64 M.ms, .int .i64 M.mc, vF, vS] 14 HX.out Tryz.rowMet rfl ?_; simp only [Act.put]) | (go_at_call 5; (with_reducible refine (HFR.out _ (HA.out.below HB.out)).mono ?_); rintro e w1 ⟨rfl, hb1⟩; have nHX := Lib.hid (HX.out.below hb1); have nHL := Lib.hid (HL.out.below hb1); have nHP := Lib.hid (HP.out.below hb1); have nHB := Lib.hid (bthen HB.out hb1); have zz1 := hb1.size; clear HX HL HP HB hb1; have HX := nHX; have HL := nHL; have HP := nHP; have HB := nHB; clear nHX nHL nHP nHB) | (go_at_call 6; (with_reducible refine (wworks_c _).mono ?_); rintro e w1 ⟨rfl, hb1⟩; have nHX := Lib.hid (HX.out.below hb1); have nHL := Lib.hid (HL.out.below hb1); have nHP := Lib.hid (HP.out.below hb1); have nHB := Lib.hid (bthen HB.out hb1); have zz1 := hb1.size; clear HX HL HP HB hb1; have HX := nHX; have HL := nHL; have HP := nHP; have HB := nHB; clear nHX nHL nHP nHB))
    refine (HOW.out _ (HA.out.below HB.out) HFF.out).mono ?_
    rintro e w1 ⟨A, cF, A2, cS, rfl, hb1, hA1⟩
    have HA1 := Lib.hid hA1
    clear hA1
    have nHX := Lib.hid (HX.out.below hb1)
    have nHL := Lib.hid (HL.out.below hb1)
    have nHP := Lib.hid (HP.out.below hb1)
    have nHB := Lib.hid (bthen HB.out hb1)
    clear HX HL HP HB hb1
    have HX := nHX
    have HL := nHL
    have HP := nHP
    have HB := nHB
    clear nHX nHL nHP nHB
    have tok : True := trivial
    have zHP := HP.out.lt
    have cHP0 := HP.out.cell 0
    have cHP1 := HP.out.cell 1
    go_wp2_with (first | (have _t := tok; refine wpl_store_newW rfl 29 (.tmp 7) (.tmp 20) rfl #[.int .i64 M.places, .int .i64 M.any.a0, .int .i64 M.any.a1, .int .i64 M.any.a2, .int .i64 M.any.a3, .int .i64 M.any.a4, .int .i64 M.any.a5, .bool M.any.i, .bool M.any.s, .int .i64 M.mw, .int .i64 M.ms, .int .i64 M.mc, .slice A M.n cF, .slice A2 M.m cS] _ _ rfl ?_ rfl Tryz.sizeMet rfl (oneM M A A2 _ _ _ _) ?_; (focus (simp; done)); simp only [Act.put]; clear tok) | (refine wpl_row rfl 29 (.tmp 7) rfl _ rfl #[.int .i64 M.places, .int .i64 M.any.a0, .int .i64 M.any.a1, .int .i64 M.any.a2, .int .i64 M.any.a3, .int .i64 M.any.a4, .int .i64 M.any.a5, .bool M.any.i, .bool M.any.s, .int .i64 M.mw, .int .i64 M.ms, .int .i64 M.mc, .slice A M.n cF, .slice A2 M.m cS] 14 (Blk.new _ _ _) Tryz.rowMet rfl ?_; simp only [Act.put]) | (refine wpl_row rfl 31 (.tmp 4) rfl _ rfl #[.int .i64 lw, .int .i64 ls, .int .i64 lc, .bool li, .bool lt] 5 (HL.out.alloc _) Tryz.rowMin rfl ?_; simp only [Act.put]))
    have bHQ := Blk.new w1 29 #[.int .i64 M.places, .int .i64 M.any.a0, .int .i64 M.any.a1, .int .i64 M.any.a2, .int .i64 M.any.a3, .int .i64 M.any.a4, .int .i64 M.any.a5, .bool M.any.i, .bool M.any.s, .int .i64 M.mw, .int .i64 M.ms, .int .i64 M.mc, .slice A M.n cF, .slice A2 M.m cS]
    have nHX := Lib.hid (HX.out.alloc (.cells #[.int .i64 M.places, .int .i64 M.any.a0, .int .i64 M.any.a1, .int .i64 M.any.a2, .int .i64 M.any.a3, .int .i64 M.any.a4, .int .i64 M.any.a5, .bool M.any.i, .bool M.any.s, .int .i64 M.mw, .int .i64 M.ms, .int .i64 M.mc, .slice A M.n cF, .slice A2 M.m cS] 29))
    have nHL := Lib.hid (HL.out.alloc (.cells #[.int .i64 M.places, .int .i64 M.any.a0, .int .i64 M.any.a1, .int .i64 M.any.a2, .int .i64 M.any.a3, .int .i64 M.any.a4, .int .i64 M.any.a5, .bool M.any.i, .bool M.any.s, .int .i64 M.mw, .int .i64 M.ms, .int .i64 M.mc, .slice A M.n cF, .slice A2 M.m cS] 29))
    have nHP := Lib.hid (HP.out.alloc (.cells #[.int .i64 M.places, .int .i64 M.any.a0, .int .i64 M.any.a1, .int .i64 M.any.a2, .int .i64 M.any.a3, .int .i64 M.any.a4, .int .i64 M.any.a5, .bool M.any.i, .bool M.any.s, .int .i64 M.mw, .int .i64 M.ms, .int .i64 M.mc, .slice A M.n cF, .slice A2 M.m cS] 29))
    have nHA1 := Lib.hid (HA1.out.alloc (.cells #[.int .i64 M.places, .int .i64 M.any.a0, .int .i64 M.any.a1, .int .i64 M.any.a2, .int .i64 M.any.a3, .int .i64 M.any.a4, .int .i64 M.any.a5, .bool M.any.i, .bool M.any.s, .int .i64 M.mw, .int .i64 M.ms, .int .i64 M.mc, .slice A M.n cF, .slice A2 M.m cS] 29))
    have nHB := Lib.hid (bal HB.out (.cells #[.int .i64 M.places, .int .i64 M.any.a0, .int .i64 M.any.a1, .int .i64 M.any.a2, .int .i64 M.any.a3, .int .i64 M.any.a4, .int .i64 M.any.a5, .bool M.any.i, .bool M.any.s, .int .i64 M.mw, .int .i64 M.ms, .int .i64 M.mc, .slice A M.n cF, .slice A2 M.m cS] 29))
    clear HX HL HP HA1 HB
    have HX := nHX
    have HL := nHL
    have HP := nHP
    have HA1 := nHA1
    have HB := nHB
    clear nHX nHL nHP nHA1 nHB
    generalize w1.alloc (.cells #[.int .i64 M.places, .int .i64 M.any.a0, .int .i64 M.any.a1, .int .i64 M.any.a2, .int .i64 M.any.a3, .int .i64 M.any.a4, .int .i64 M.any.a5, .bool M.any.i, .bool M.any.s, .int .i64 M.mw, .int .i64 M.ms, .int .i64 M.mc, .slice A M.n cF, .slice A2 M.m cS] 29) = W2 at *
    generalize w1.heap.size = gHQ at *
    have HQ := Lib.hid bHQ
    clear bHQ
    refine (H1.out _ _ _ HA1.out).mono ?_
    rintro e w1 ⟨rfl, hb1⟩
    have nHX := Lib.hid (HX.out.below hb1)
    have nHL := Lib.hid (HL.out.below hb1)
    have nHP := Lib.hid (HP.out.below hb1)
    have nHA1 := Lib.hid (HA1.out.below hb1)
    have nHQ := Lib.hid (HQ.out.below hb1)
    have nHB := Lib.hid (bthen HB.out hb1)
    clear HX HL HP HA1 HQ HB hb1
    have HX := nHX
    have HL := nHL
    have HP := nHP
    have HA1 := nHA1
    have HQ := nHQ
    have HB := nHB
    clear nHX nHL nHP nHA1 nHQ nHB
    have zHP := HP.out.lt
    have cHP0 := HP.out.cell 0
    have cHP1 := HP.out.cell 1
    go_wp2_with (first | (refine wpl_row rfl 29 (.tmp 3) rfl _ rfl #[.int .i64 M.places, .int .i64 M.any.a0, .int .i64 M.any.a1, .int .i64 M.any.a2, .int .i64 M.any.a3, .int .i64 M.any.a4, .int .i64 M.any.a5, .bool M.any.i, .bool M.any.s, .int .i64 M.mw, .int .i64 M.ms, .int .i64 M.mc, vF, vS] 14 HX.out Tryz.rowMet rfl ?_; simp only [Act.put]) | (refine wpl_row rfl 29 (.tmp 7) rfl _ rfl #[.int .i64 M.places, .int .i64 M.any.a0, .int .i64 M.any.a1, .int .i64 M.any.a2, .int .i64 M.any.a3, .int .i64 M.any.a4, .int .i64 M.any.a5, .bool M.any.i, .bool M.any.s, .int .i64 M.mw, .int .i64 M.ms, .int .i64 M.mc, .slice A M.n cF, .slice A2 M.m cS] 14 HQ.out Tryz.rowMet rfl ?_; simp only [Act.put]) | (refine wpl_row rfl 31 (.tmp 4) rfl _ rfl #[.int .i64 lw, .int .i64 ls, .int .i64 lc, .bool li, .bool lt] 5 HL.out Tryz.rowMin rfl ?_; simp only [Act.put]))
    refine (H2.out _ (HA.out.below HB.out)).mono ?_
    rintro e w1 ⟨rfl, hb1⟩
    have nHX := Lib.hid (HX.out.below hb1)
    have nHL := Lib.hid (HL.out.below hb1)
    have nHP := Lib.hid (HP.out.below hb1)
    have nHA1 := Lib.hid (HA1.out.below hb1)
    have nHQ := Lib.hid (HQ.out.below hb1)
    have nHB := Lib.hid (bthen HB.out hb1)
    clear HX HL HP HA1 HQ HB hb1
    have HX := nHX
    have HL := nHL
    have HP := nHP
    have HA1 := nHA1
    have HQ := nHQ
    have HB := nHB
    clear nHX nHL nHP nHA1 nHQ nHB
    have zHP := HP.out.lt
    have cHP0 := HP.out.cell 0
    have cHP1 := HP.out.cell 1
    go_wp2_with (first | (refine wpl_row rfl 29 (.tmp 3) rfl _ rfl #[.int .i64 M.places, .int .i64 M.any.a0, .int .i64 M.any.a1, .int .i64 M.any.a2, .int .i64 M.any.a3, .int .i64 M.any.a4, .int .i64 M.any.a5, .bool M.any.i, .bool M.any.s, .int .i64 M.mw, .int .i64 M.ms, .int .i64 M.mc, vF, vS] 14 HX.out Tryz.rowMet rfl ?_; simp only [Act.put]) | (refine wpl_row rfl 29 (.tmp 7) rfl _ rfl #[.int .i64 M.places, .int .i64 M.any.a0, .int .i64 M.any.a1, .int .i64 M.any.a2, .int .i64 M.any.a3, .int .i64 M.any.a4, .int .i64 M.any.a5, .bool M.any.i, .bool M.any.s, .int .i64 M.mw, .int .i64 M.ms, .int .i64 M.mc, .slice A M.n cF, .slice A2 M.m cS] 14 HQ.out Tryz.rowMet rfl ?_; simp only [Act.put]) | (refine wpl_row rfl 31 (.tmp 4) rfl _ rfl #[.int .i64 lw, .int .i64 ls, .int .i64 lc, .bool li, .bool lt] 5 HL.out Tryz.rowMin rfl ?_; simp only [Act.put]))
    refine (H3.out _ _ _ HA1.out).mono ?_
    rintro e w1 ⟨rfl, hb1⟩
    have nHX := Lib.hid (HX.out.below hb1)
    have nHL := Lib.hid (HL.out.below hb1)
    have nHP := Lib.hid (HP.out.below hb1)
    have nHA1 := Lib.hid (HA1.out.below hb1)
    have nHQ := Lib.hid (HQ.out.below hb1)
    have nHB := Lib.hid (bthen HB.out hb1)
    clear HX HL HP HA1 HQ HB hb1
    have HX := nHX
    have HL := nHL
    have HP := nHP
    have HA1 := nHA1
    have HQ := nHQ
    have HB := nHB
    clear nHX nHL nHP nHA1 nHQ nHB
    have zHP := HP.out.lt
    have cHP0 := HP.out.cell 0
    have cHP1 := HP.out.cell 1
    go_wp2_with (first | (refine wpl_row rfl 29 (.tmp 3) rfl _ rfl #[.int .i64 M.places, .int .i64 M.any.a0, .int .i64 M.any.a1, .int .i64 M.any.a2, .int .i64 M.any.a3, .int .i64 M.any.a4, .int .i64 M.any.a5, .bool M.any.i, .bool M.any.s, .int .i64 M.mw, .int .i64 M.ms, .int .i64 M.mc, vF, vS] 14 HX.out Tryz.rowMet rfl ?_; simp only [Act.put]) | (refine wpl_row rfl 29 (.tmp 7) rfl _ rfl #[.int .i64 M.places, .int .i64 M.any.a0, .int .i64 M.any.a1, .int .i64 M.any.a2, .int .i64 M.any.a3, .int .i64 M.any.a4, .int .i64 M.any.a5, .bool M.any.i, .bool M.any.s, .int .i64 M.mw, .int .i64 M.ms, .int .i64 M.mc, .slice A M.n cF, .slice A2 M.m cS] 14 HQ.out Tryz.rowMet rfl ?_; simp only [Act.put]) | (refine wpl_row rfl 31 (.tmp 4) rfl _ rfl #[.int .i64 lw, .int .i64 ls, .int .i64 lc, .bool li, .bool lt] 5 HL.out Tryz.rowMin rfl ?_; simp only [Act.put]))
    refine (H4.out _ (HA.out.below HB.out)).mono ?_
    have hEE : (E == E) = true := by simp
    have hVV : (V == V) = true := by simp
    have hUU : (V2 == V2) = true := by simp
    rintro e w1 ⟨rfl, hb1⟩
    have nHX := Lib.hid (HX.out.below hb1)
    have nHL := Lib.hid (HL.out.below hb1)
    have nHP := Lib.hid (HP.out.below hb1)
    have nHA1 := Lib.hid (HA1.out.below hb1)
    have nHQ := Lib.hid (HQ.out.below hb1)
    have nHB := Lib.hid (bthen HB.out hb1)
    clear HX HL HP HA1 HQ HB hb1
    have HX := nHX
    have HL := nHL
    have HP := nHP
    have HA1 := nHA1
    have HQ := nHQ
    have HB := nHB
    clear nHX nHL nHP nHA1 nHQ nHB
    go_wp2_with (first | (go_at_call 6; (with_reducible refine (wworks_c _).mono ?_); rintro e w1 ⟨rfl, hb1⟩; have nHQ := Lib.hid (HQ.out.below hb1); have nHL := Lib.hid (HL.out.below hb1); have nHB := Lib.hid (bthen HB.out hb1); have zz1 := hb1.size; clear HQ HL HB hb1; have HQ := nHQ; have HL := nHL; have HB := nHB; clear nHQ nHL nHB))
    go_ret
    exact ⟨rfl, HB.out⟩
  · rw [hf] at HFR
    clear hf
    go_enter Tryz.func3, Tryz.ntmps3
    go_wp2_with (first | (refine wpl_row rfl 29 _ rfl _ rfl #[.int .i64 M.places, .int .i64 M.any.a0, .int .i64 M.any.a1, .int .i64 M.any.a2, .int .i64 M.any.a3, .int .i64 M.any.a4, .int .i64 M.any.a5, .bool M.any.i, .bool M.any.s, .int .i64 M.mw, .int .i64 M.ms, .int .i64 M.mc, vF, vS] 14 ?_ Tryz.rowMet rfl ?_; (focus exact (by repeat (first | (refine Blk.newAt _ _ _ ?_; first | rfl | (simp; done)) | refine Blk.alloc ?_ _))); simp only [Act.put]))
    have bHX : Blk (((w.alloc (.cells #[.int .i64 M.places, .int .i64 M.any.a0, .int .i64 M.any.a1, .int .i64 M.any.a2, .int .i64 M.any.a3, .int .i64 M.any.a4, .int .i64 M.any.a5, .bool M.any.i, .bool M.any.s, .int .i64 M.mw, .int .i64 M.ms, .int .i64 M.mc, vF, vS] 29)).alloc (.cells #[.int .i64 lw, .int .i64 ls, .int .i64 lc, .bool li, .bool lt] 31)).alloc (.cells #[.int .i64 p, .int .i64 t] 33)) (w.heap.size) 29 #[.int .i64 M.places, .int .i64 M.any.a0, .int .i64 M.any.a1, .int .i64 M.any.a2, .int .i64 M.any.a3, .int .i64 M.any.a4, .int .i64 M.any.a5, .bool M.any.i, .bool M.any.s, .int .i64 M.mw, .int .i64 M.ms, .int .i64 M.mc, vF, vS] := (by repeat (first | (refine Blk.newAt _ _ _ ?_; first | rfl | (simp; done)) | refine Blk.alloc ?_ _))
    have bHL : Blk (((w.alloc (.cells #[.int .i64 M.places, .int .i64 M.any.a0, .int .i64 M.any.a1, .int .i64 M.any.a2, .int .i64 M.any.a3, .int .i64 M.any.a4, .int .i64 M.any.a5, .bool M.any.i, .bool M.any.s, .int .i64 M.mw, .int .i64 M.ms, .int .i64 M.mc, vF, vS] 29)).alloc (.cells #[.int .i64 lw, .int .i64 ls, .int .i64 lc, .bool li, .bool lt] 31)).alloc (.cells #[.int .i64 p, .int .i64 t] 33)) (w.heap.size + 1) 31 #[.int .i64 lw, .int .i64 ls, .int .i64 lc, .bool li, .bool lt] := (by repeat (first | (refine Blk.newAt _ _ _ ?_; first | rfl | (simp; done)) | refine Blk.alloc ?_ _))
    have bHP : Blk (((w.alloc (.cells #[.int .i64 M.places, .int .i64 M.any.a0, .int .i64 M.any.a1, .int .i64 M.any.a2, .int .i64 M.any.a3, .int .i64 M.any.a4, .int .i64 M.any.a5, .bool M.any.i, .bool M.any.s, .int .i64 M.mw, .int .i64 M.ms, .int .i64 M.mc, vF, vS] 29)).alloc (.cells #[.int .i64 lw, .int .i64 ls, .int .i64 lc, .bool li, .bool lt] 31)).alloc (.cells #[.int .i64 p, .int .i64 t] 33)) (w.heap.size + 1 + 1) 33 #[.int .i64 p, .int .i64 t] := (by repeat (first | (refine Blk.newAt _ _ _ ?_; first | rfl | (simp; done)) | refine Blk.alloc ?_ _))
    have bHB : Below w.heap.size w (((w.alloc (.cells #[.int .i64 M.places, .int .i64 M.any.a0, .int .i64 M.any.a1, .int .i64 M.any.a2, .int .i64 M.any.a3, .int .i64 M.any.a4, .int .i64 M.any.a5, .bool M.any.i, .bool M.any.s, .int .i64 M.mw, .int .i64 M.ms, .int .i64 M.mc, vF, vS] 29)).alloc (.cells #[.int .i64 lw, .int .i64 ls, .int .i64 lc, .bool li, .bool lt] 31)).alloc (.cells #[.int .i64 p, .int .i64 t] 33)) := (by repeat' (first | exact Below.refl _ _ | assumption | refine Below.drew ?_ | refine bdn ?_ _ | refine bal ?_ _ | refine Below.setCell ?_ (by first | (simp; done) | omega | (simp; omega)) _))
    generalize (((w.alloc (.cells #[.int .i64 M.places, .int .i64 M.any.a0, .int .i64 M.any.a1, .int .i64 M.any.a2, .int .i64 M.any.a3, .int .i64 M.any.a4, .int .i64 M.any.a5, .bool M.any.i, .bool M.any.s, .int .i64 M.mw, .int .i64 M.ms, .int .i64 M.mc, vF, vS] 29)).alloc (.cells #[.int .i64 lw, .int .i64 ls, .int .i64 lc, .bool li, .bool lt] 31)).alloc (.cells #[.int .i64 p, .int .i64 t] 33)) = W at *
    have zW := bHP.lt
    have HX := Lib.hid bHX
    have HL := Lib.hid bHL
    have HP := Lib.hid bHP
    have HB := Lib.hid bHB
    clear bHX bHL bHP bHB
    go_wp2_with (first | (refine wpl_row rfl 29 _ rfl _ rfl #[.int .i64 M.places, .int .i64 M.any.a0, .int .i64 M.any.a1, .int .i64 M.any.a2, .int .i64 M.any.a3, .int .i64 M.any.a4, .int .i64 M.any.a5, .bool M.any.i, .bool M.any.s, .int .i64 M.mw, .int .i64 M.ms, .int .i64 M.mc, vF, vS] 14 HX.out Tryz.rowMet rfl ?_; simp only [Act.put]) | (go_at_call 5; (with_reducible refine (HFR.out _ (HA.out.below HB.out)).mono ?_); rintro e w1 ⟨rfl, hb1⟩; have nHX := Lib.hid (HX.out.below hb1); have nHL := Lib.hid (HL.out.below hb1); have nHP := Lib.hid (HP.out.below hb1); have nHB := Lib.hid (bthen HB.out hb1); have zz1 := hb1.size; clear HX HL HP HB hb1; have HX := nHX; have HL := nHL; have HP := nHP; have HB := nHB; clear nHX nHL nHP nHB) | (go_at_call 6; (with_reducible refine (wworks_c _).mono ?_); rintro e w1 ⟨rfl, hb1⟩; have nHX := Lib.hid (HX.out.below hb1); have nHL := Lib.hid (HL.out.below hb1); have nHP := Lib.hid (HP.out.below hb1); have nHB := Lib.hid (bthen HB.out hb1); have zz1 := hb1.size; clear HX HL HP HB hb1; have HX := nHX; have HL := nHL; have HP := nHP; have HB := nHB; clear nHX nHL nHP nHB))
    go_ret
    exact ⟨rfl, HB.out⟩
end Go.Proofs.YtfcjblnebaemgaaGreat
