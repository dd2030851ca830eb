/- Law: RouteReturns. -/
import Derived.Test.YtbgkbdhdkpjcdaaGreatNbK
import Derived.Test.YtbgkbdhdkpjcdaaGreatNbS
set_option linter.all false
namespace Go.Proofs.YtbgkbdhdkpjcdaaGreat
open Go Go.RowKit Go.Proofs
set_option maxRecDepth 100000
set_option maxHeartbeats 8000000
theorem RouteReturns_c (M : MetD) (vF vS : Value) (lw ls lc : Int) (li lb : Bool) (A : Option Addr) (n c : Nat) (S : Tab) (F : FliD) (vR : Value) (w : World) (hM : MetAt w vF vS M) (hc1 : n ≤ c) (hc2 : c ≤ 9223372036854775807) (hL : RecsAt w A n 3 (nV S)) (hR : SlI w vR F.m F.R) :
   Calls Tryz.prog 10 #[.agg #[.int .i64 M.places, .int .i64 M.any.a0, .int .i64 M.any.a1, .int .i64 M.any.a2, .int .i64 M.any.a3, .int .i64 M.any.a4, .int .i64 M.any.a5, .bool M.any.i, .bool M.any.s, .int .i64 M.mw, .int .i64 M.ms, .int .i64 M.mc, vF, vS, .int .i64 lw, .int .i64 ls, .int .i64 lc, .bool li, .bool lb, .slice A n c], .agg #[vR, .int .i64 F.dep, .int .i64 F.fuel, .int .i64 F.burn, .int .i64 F.res]] w fun e w' => e = .returned (.bool true) ∧ RowKit.Below w.heap.size w w' := by
  have HM := Lib.hid hM
  have HL := Lib.hid hL
  have HR := Lib.hid hR
  have HLO := Lib.hid (fun w1 h1 h2 h3 => l5Long_c M vF vS lw ls lc li lb A n c S F vR w1 h1 hc1 hc2 h2 h3)
  have hn1 := fun w1 h1 h2 h3 => rNoReturn_c M vF vS A n c S F vR w1 h1 hc1 hc2 h2 h3
  have hn2 := fun w1 h1 h2 h3 => r5NoReturn_c M vF vS A n c S F vR w1 h1 hc1 hc2 h2 h3
  have hm1 := fun w1 h1 h2 h3 => rMiddle_c M vF vS A n c S F vR w1 h1 hc1 hc2 h2 h3
  have hm2 := fun w1 h1 h2 h3 => r5Middle_c M vF vS A n c S F vR w1 h1 hc1 hc2 h2 h3
  clear hM hL hR
  generalize norE (nfE (netE M S n) M S n F) S n M.places.toNat F = X at *
  generalize midE (nfE (netE M S n) M S n F) S n M.places.toNat F = Y at *
  obtain ⟨x1, x2⟩ := X
  obtain ⟨y1, y2⟩ := Y
  dsimp only at hn1 hn2 hm1 hm2
  have HN1 := Lib.hid hn1
  have HN2 := Lib.hid hn2
  have HM1 := Lib.hid hm1
  have HM2 := Lib.hid hm2
  clear hn1 hn2 hm1 hm2
  have xe1 : (x1 != x1) = false := by simp
  have xe2 : (x2 != x2) = false := by simp
  have ye1 : (y1 == y1) = true := by simp
  have ye2 : (y2 == y2) = true := by simp
  have tok : True := trivial
  have tok2 : True := trivial
  have tok0 : True := trivial
  go_enter Tryz.func10, Tryz.ntmps10
  go_wp2_with (first | (have _t := tok0; generalize hWX : World.alloc (World.alloc w _) _ = W; clear tok0; have _x := duo_r w #[.int .i64 M.places, .int .i64 M.any.a0, .int .i64 M.any.a1, .int .i64 M.any.a2, .int .i64 M.any.a3, .int .i64 M.any.a4, .int .i64 M.any.a5, .bool M.any.i, .bool M.any.s, .int .i64 M.mw, .int .i64 M.ms, .int .i64 M.mc, vF, vS, .int .i64 lw, .int .i64 ls, .int .i64 lc, .bool li, .bool lb, .slice A n c] #[vR, .int .i64 F.dep, .int .i64 F.fuel, .int .i64 F.burn, .int .i64 F.res] 34 37; rw [hWX] at _x; clear hWX; have HX := Lib.hid _x.1; have HY := Lib.hid _x.2.1; have HB := Lib.hid _x.2.2; clear _x) | (have _t := tok; refine wpl_row rfl 34 (.tmp 2) rfl _ rfl #[.int .i64 M.places, .int .i64 M.any.a0, .int .i64 M.any.a1, .int .i64 M.any.a2, .int .i64 M.any.a3, .int .i64 M.any.a4, .int .i64 M.any.a5, .bool M.any.i, .bool M.any.s, .int .i64 M.mw, .int .i64 M.ms, .int .i64 M.mc, vF, vS, .int .i64 lw, .int .i64 ls, .int .i64 lc, .bool li, .bool lb, .slice A n c] 20 HX.out Tryz.rowPlan rfl ?_; simp only [Act.put]; clear tok) | (have _t := tok2; refine wpl_row rfl 37 (.tmp 3) rfl _ rfl #[vR, .int .i64 F.dep, .int .i64 F.fuel, .int .i64 F.burn, .int .i64 F.res] 5 HY.out Tryz.rowFli rfl ?_; simp only [Act.put]; clear tok2))
  refine (HLO.out _ (HM.out.below HB.out) (HL.out.below HB.out) (HR.out.below HB.out)).mono ?_
  rintro e w1 ⟨⟨bb, rfl⟩, hb1⟩
  have nHX := Lib.hid (HX.out.below hb1)
  have nHY := Lib.hid (HY.out.below hb1)
  have nHB := Lib.hid (bthen HB.out hb1)
  clear HX HY HB hb1
  have HX := nHX
  have HY := nHY
  have HB := nHB
  clear nHX nHY nHB
  cases bb
  case true =>
    go_wp2_with (first | (go_at_call 26; (with_reducible refine (rworks_c _).mono ?_); rintro e w1 ⟨rfl, hb1⟩; have nHX := Lib.hid (HX.out.below hb1); have nHY := Lib.hid (HY.out.below hb1); have nHB := Lib.hid (bthen HB.out hb1); have zz1 := hb1.size; clear HX HY HB hb1; have HX := nHX; have HY := nHY; have HB := nHB; clear nHX nHY nHB))
    go_ret
    exact ⟨rfl, HB.out⟩
  have x19 := HX.out.cell 19
  simp only [List.getElem?_toArray, List.getElem?_cons_succ, List.getElem?_cons_zero] at x19
  have tok2 : True := trivial
  have tok3 : True := trivial
  go_wp2_with (first | (have _t := tok3; refine wpl_mid rfl 29 _ rfl w.heap.size 0 rfl 34 #[.int .i64 M.places, .int .i64 M.any.a0, .int .i64 M.any.a1, .int .i64 M.any.a2, .int .i64 M.any.a3, .int .i64 M.any.a4, .int .i64 M.any.a5, .bool M.any.i, .bool M.any.s, .int .i64 M.mw, .int .i64 M.ms, .int .i64 M.mc, vF, vS, .int .i64 lw, .int .i64 ls, .int .i64 lc, .bool li, .bool lb, .slice A n c] #[.int .i64 M.places, .int .i64 M.any.a0, .int .i64 M.any.a1, .int .i64 M.any.a2, .int .i64 M.any.a3, .int .i64 M.any.a4, .int .i64 M.any.a5, .bool M.any.i, .bool M.any.s, .int .i64 M.mw, .int .i64 M.ms, .int .i64 M.mc, vF, vS] 14 HX.out Tryz.rowMet [] [.int .i64 lw, .int .i64 ls, .int .i64 lc, .bool li, .bool lb, .slice A n c] rfl rfl rfl ?_; simp only [Act.put]; clear tok3) | (have _t := tok2; refine wpl_row rfl 37 (.tmp 3) rfl _ rfl #[vR, .int .i64 F.dep, .int .i64 F.fuel, .int .i64 F.burn, .int .i64 F.res] 5 HY.out Tryz.rowFli rfl ?_; simp only [Act.put]; clear tok2))
  refine (HN1.out _ (HM.out.below HB.out) (HL.out.below HB.out) (HR.out.below HB.out)).mono ?_
  rintro e w2 ⟨rfl, hb2⟩
  clear x19
  have nHX := Lib.hid (HX.out.below hb2)
  have nHY := Lib.hid (HY.out.below hb2)
  have nHB := Lib.hid (bthen HB.out hb2)
  clear HX HY HB hb2
  have HX := nHX
  have HY := nHY
  have HB := nHB
  clear nHX nHY nHB
  have x19 := HX.out.cell 19
  simp only [List.getElem?_toArray, List.getElem?_cons_succ, List.getElem?_cons_zero] at x19
  have tok2 : True := trivial
  have tok3 : True := trivial
  go_wp2_with (first | (have _t := tok3; refine wpl_mid rfl 29 _ rfl w.heap.size 0 rfl 34 #[.int .i64 M.places, .int .i64 M.any.a0, .int .i64 M.any.a1, .int .i64 M.any.a2, .int .i64 M.any.a3, .int .i64 M.any.a4, .int .i64 M.any.a5, .bool M.any.i, .bool M.any.s, .int .i64 M.mw, .int .i64 M.ms, .int .i64 M.mc, vF, vS, .int .i64 lw, .int .i64 ls, .int .i64 lc, .bool li, .bool lb, .slice A n c] #[.int .i64 M.places, .int .i64 M.any.a0, .int .i64 M.any.a1, .int .i64 M.any.a2, .int .i64 M.any.a3, .int .i64 M.any.a4, .int .i64 M.any.a5, .bool M.any.i, .bool M.any.s, .int .i64 M.mw, .int .i64 M.ms, .int .i64 M.mc, vF, vS] 14 HX.out Tryz.rowMet [] [.int .i64 lw, .int .i64 ls, .int .i64 lc, .bool li, .bool lb, .slice A n c] rfl rfl rfl ?_; simp only [Act.put]; clear tok3) | (have _t := tok2; refine wpl_row rfl 37 (.tmp 3) rfl _ rfl #[vR, .int .i64 F.dep, .int .i64 F.fuel, .int .i64 F.burn, .int .i64 F.res] 5 HY.out Tryz.rowFli rfl ?_; simp only [Act.put]; clear tok2))
  refine (HN2.out _ (HM.out.below HB.out) (HL.out.below HB.out) (HR.out.below HB.out)).mono ?_
  rintro e w3 ⟨rfl, hb3⟩
  clear x19
  have nHX := Lib.hid (HX.out.below hb3)
  have nHY := Lib.hid (HY.out.below hb3)
  have nHB := Lib.hid (bthen HB.out hb3)
  clear HX HY HB hb3
  have HX := nHX
  have HY := nHY
  have HB := nHB
  clear nHX nHY nHB
  have x19 := HX.out.cell 19
  simp only [List.getElem?_toArray, List.getElem?_cons_succ, List.getElem?_cons_zero] at x19
  have tok2 : True := trivial
  have tok3 : True := trivial
  go_wp2_with (first | (have _t := tok3; refine wpl_mid rfl 29 _ rfl w.heap.size 0 rfl 34 #[.int .i64 M.places, .int .i64 M.any.a0, .int .i64 M.any.a1, .int .i64 M.any.a2, .int .i64 M.any.a3, .int .i64 M.any.a4, .int .i64 M.any.a5, .bool M.any.i, .bool M.any.s, .int .i64 M.mw, .int .i64 M.ms, .int .i64 M.mc, vF, vS, .int .i64 lw, .int .i64 ls, .int .i64 lc, .bool li, .bool lb, .slice A n c] #[.int .i64 M.places, .int .i64 M.any.a0, .int .i64 M.any.a1, .int .i64 M.any.a2, .int .i64 M.any.a3, .int .i64 M.any.a4, .int .i64 M.any.a5, .bool M.any.i, .bool M.any.s, .int .i64 M.mw, .int .i64 M.ms, .int .i64 M.mc, vF, vS] 14 HX.out Tryz.rowMet [] [.int .i64 lw, .int .i64 ls, .int .i64 lc, .bool li, .bool lb, .slice A n c] rfl rfl rfl ?_; simp only [Act.put]; clear tok3) | (have _t := tok2; refine wpl_row rfl 37 (.tmp 3) rfl _ rfl #[vR, .int .i64 F.dep, .int .i64 F.fuel, .int .i64 F.burn, .int .i64 F.res] 5 HY.out Tryz.rowFli rfl ?_; simp only [Act.put]; clear tok2))
  refine (HM1.out _ (HM.out.below HB.out) (HL.out.below HB.out) (HR.out.below HB.out)).mono ?_
  rintro e w4 ⟨rfl, hb4⟩
  clear x19
  have nHX := Lib.hid (HX.out.below hb4)
  have nHY := Lib.hid (HY.out.below hb4)
  have nHB := Lib.hid (bthen HB.out hb4)
  clear HX HY HB hb4
  have HX := nHX
  have HY := nHY
  have HB := nHB
  clear nHX nHY nHB
  have x19 := HX.out.cell 19
  simp only [List.getElem?_toArray, List.getElem?_cons_succ, List.getElem?_cons_zero] at x19
  have tok2 : True := trivial
  have tok3 : True := trivial
  go_wp2_with (first | (have _t := tok3; refine wpl_mid rfl 29 _ rfl w.heap.size 0 rfl 34 #[.int .i64 M.places, .int .i64 M.any.a0, .int .i64 M.any.a1, .int .i64 M.any.a2, .int .i64 M.any.a3, .int .i64 M.any.a4, .int .i64 M.any.a5, .bool M.any.i, .bool M.any.s, .int .i64 M.mw, .int .i64 M.ms, .int .i64 M.mc, vF, vS, .int .i64 lw, .int .i64 ls, .int .i64 lc, .bool li, .bool lb, .slice A n c] #[.int .i64 M.places, .int .i64 M.any.a0, .int .i64 M.any.a1, .int .i64 M.any.a2, .int .i64 M.any.a3, .int .i64 M.any.a4, .int .i64 M.any.a5, .bool M.any.i, .bool M.any.s, .int .i64 M.mw, .int .i64 M.ms, .int .i64 M.mc, vF, vS] 14 HX.out Tryz.rowMet [] [.int .i64 lw, .int .i64 ls, .int .i64 lc, .bool li, .bool lb, .slice A n c] rfl rfl rfl ?_; simp only [Act.put]; clear tok3) | (have _t := tok2; refine wpl_row rfl 37 (.tmp 3) rfl _ rfl #[vR, .int .i64 F.dep, .int .i64 F.fuel, .int .i64 F.burn, .int .i64 F.res] 5 HY.out Tryz.rowFli rfl ?_; simp only [Act.put]; clear tok2))
  refine (HM2.out _ (HM.out.below HB.out) (HL.out.below HB.out) (HR.out.below HB.out)).mono ?_
  rintro e w5 ⟨rfl, hb5⟩
  clear x19
  have nHX := Lib.hid (HX.out.below hb5)
  have nHY := Lib.hid (HY.out.below hb5)
  have nHB := Lib.hid (bthen HB.out hb5)
  clear HX HY HB hb5
  have HX := nHX
  have HY := nHY
  have HB := nHB
  clear nHX nHY nHB
  go_wp2_with (first | (go_at_call 26; (with_reducible refine (rworks_c _).mono ?_); rintro e w1 ⟨rfl, hb1⟩; have nHX := Lib.hid (HX.out.below hb1); have nHY := Lib.hid (HY.out.below hb1); have nHB := Lib.hid (bthen HB.out hb1); have zz1 := hb1.size; clear HX HY HB hb1; have HX := nHX; have HY := nHY; have HB := nHB; clear nHX nHY nHB))
  go_ret
  exact ⟨rfl, HB.out⟩
end Go.Proofs.YtbgkbdhdkpjcdaaGreat
