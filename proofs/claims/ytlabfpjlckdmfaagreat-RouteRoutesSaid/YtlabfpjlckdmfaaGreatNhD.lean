import Derived.Test.YtlabfpjlckdmfaaGreatNhC
import Derived.Test.YtlabfpjlckdmfaaGreatKAV
import Derived.Test.YtlabfpjlckdmfaaGreatKAY
import Derived.Test.YtlabfpjlckdmfaaGreatKZG
import Derived.Test.YtlabfpjlckdmfaaGreatKAS
set_option linter.all false
namespace Go.Proofs.YtlabfpjlckdmfaaGreat
open Go Go.RowKit Go.Proofs
set_option maxRecDepth 100000
set_option maxHeartbeats 80000000
theorem RtOut.same {RE : Int} {b : Option (List Nat)} {w : World} {v1 v2 : Value} (h1 : RtOut RE b w v1) (h2 : RtOut RE b w v2) : ∃ n R, SlI w v1 n R ∧ SlI w v2 n R := by
 by_cases h : RE = 0
 ·obtain ⟨ys, e, k1⟩ := h1.1 h
  obtain ⟨zs, e2, k2⟩ := h2.1 h
  rw [e] at e2
  cases e2
  exact ⟨_, _, k1, k2⟩
 ·rw [h1.2 h, h2.2 h]
  exact ⟨0, fun _ => 0, ⟨none, 0, rfl, Nat.le_refl _, by decide, fun q => by cases q⟩, ⟨none, 0, rfl, Nat.le_refl _, by decide, fun q => by cases q⟩⟩
theorem RtOut.below {RE : Int} {b : Option (List Nat)} {w w' : World} {v : Value} (h : RtOut RE b w v) (hb : RowKit.Below w.heap.size w w') : RtOut RE b w' v := ⟨fun e => by obtain ⟨ys, q1, q2⟩ := h.1 e; exact ⟨ys, q1, q2.below hb⟩, h.2⟩
theorem RouteRoutes_c (M : MetD) (vF vS : Value) (lw ls lc : Int) (li lb : Bool) (A : Option Addr) (n c : Nat) (S : Tab) (F : FliD) (vR : Value) (tg : Int) (w : World) (hM : MetAt w vF vS M) (hc1 : n ≤ c) (hc2 : c ≤ 9223372036854775807) (hL : RecsAt w A n 3 (nV S)) (hR : SlI w vR F.m F.R) :
  Calls Tryz.prog 4 #[.agg #[.int .i64 M.places, .int .i64 M.any.a0, .int .i64 M.any.a1, .int .i64 M.any.a2, .int .i64 M.any.a3, .int .i64 M.any.a4, .int .i64 M.any.a5, .bool M.any.i, .bool M.any.s, .int .i64 M.mw, .int .i64 M.ms, .int .i64 M.mc, vF, vS, .int .i64 lw, .int .i64 ls, .int .i64 lc, .bool li, .bool lb, .slice A n c], .agg #[vR, .int .i64 F.dep, .int .i64 F.fuel, .int .i64 F.burn, .int .i64 F.res], .int .i64 tg] w fun e w' => e = .returned (.bool true) ∧ RowKit.Below w.heap.size w w' := by
 have HM := hI9 hM
 have HL := hI9 hL
 have HR := hI9 hR
 have HLO := hI9 (fun w1 h1 h2 h3 => l5Long_c M vF vS lw ls lc li lb A n c S F vR w1 h1 hc1 hc2 h2 h3)
 have HSL := hI9 (fun w1 h2 => slow_c M vF vS lw ls lc li lb A n c S w1 hc1 hc2 h2)
 have hh1 := fun w1 h1 h2 h3 => rRoute_c M vF vS lw ls lc li lb A n c S F vR tg w1 h1 hc1 hc2 h2 h3
 have hh2 := fun w1 h1 h2 h3 => r5Route_c M vF vS lw ls lc li lb A n c S F vR tg w1 h1 hc1 hc2 h2 h3
 clear hM hL hR
 generalize F.bestR M.places.toNat (lgT S n) (timT S n M.places.toNat) (opM M lw ls lc li lb) (rtsL M.places.toNat (lgT S n) tg.toNat 7 [(F.R 0).toNat] (F.R 0).toNat) = BE at *
 generalize rtE (nfE (netME M lw ls lc S n) M S n F) M.places.toNat tg BE = RE at *
 have HH1 := hI9 hh1
 have HH2 := hI9 hh2
 clear hh1 hh2
 have ree : (RE == RE) = true := by simp
 have tok : True := trivial
 have tok2 : True := trivial
 go_enter Tryz.func4, Tryz.ntmps4
 go_upto_region 1 with fail
 have _x := frm2 w #[.int .i64 M.places, .int .i64 M.any.a0, .int .i64 M.any.a1, .int .i64 M.any.a2, .int .i64 M.any.a3, .int .i64 M.any.a4, .int .i64 M.any.a5, .bool M.any.i, .bool M.any.s, .int .i64 M.mw, .int .i64 M.ms, .int .i64 M.mc, vF, vS, .int .i64 lw, .int .i64 ls, .int .i64 lc, .bool li, .bool lb, .slice A n c] 34 #[vR, .int .i64 F.dep, .int .i64 F.fuel, .int .i64 F.burn, .int .i64 F.res] 37
 have HX := hI9 _x.1
 have HY := hI9 _x.2.1
 have HB := hI9 _x.2.2.1
 have zW := _x.2.2.2
 clear _x
 generalize World.alloc (World.alloc w _) _ = W at *
 go_wp2_with (first | (have _t := tok; refine wpl_row rfl 34 (.tmp 3) rfl _ rfl _ 20 HX.out Tryz.rowPlan rfl ?_; simp only [Act.put]; clear tok) | (have _t := tok2; refine wpl_row rfl 37 (.tmp 4) rfl _ rfl _ 5 HY.out Tryz.rowFli rfl ?_; simp only [Act.put]; clear tok2))
 refine (HLO.out _ (HM.out.below HB.out) (HL.out.below HB.out) (HR.out.below HB.out)).mono ?_
 rintro e w1 ⟨⟨bb, rfl⟩, hb1⟩
 have nHX := hI9 (HX.out.below hb1)
 have nHY := hI9 (HY.out.below hb1)
 have nHB := hI9 (bthen HB.out hb1)
 clear HX HY HB hb1
 have HX := nHX
 have HY := nHY
 have HB := nHB
 clear nHX nHY nHB
 clear HLO
 cases bb
 case true =>
  go_wp2_with (first | (go_at_call 7; (with_reducible refine (rworks_c _).mono ?_); rintro e w1 ⟨rfl, hb1⟩; have nHX := hI9 (HX.out.below hb1); have nHY := hI9 (HY.out.below hb1); have nHB := hI9 (bthen HB.out hb1); have zz1 := hb1.size; clear HX HY HB hb1; have HX := nHX; have HY := nHY; have HB := nHB; clear nHX nHY nHB))
  go_ret
  exact ⟨rfl, HB.out⟩
 have tok : True := trivial
 go_wp2_with (first | (have _t := tok; refine wpl_row_g ?_ 34 (.tmp 3) rfl _ rfl _ 20 HX.out Tryz.rowPlan rfl ?_; (focus rfl); simp only [Act.put]; clear tok))
 refine (HSL.out _ (HL.out.below HB.out)).mono ?_
 rintro e w2 ⟨⟨bb, rfl⟩, hb1⟩
 have nHX := hI9 (HX.out.below hb1)
 have nHY := hI9 (HY.out.below hb1)
 have nHB := hI9 (bthen HB.out hb1)
 clear HX HY HB hb1
 have HX := nHX
 have HY := nHY
 have HB := nHB
 clear nHX nHY nHB
 cases bb
 case true =>
  go_wp2_with (first | (go_at_call 7; (with_reducible refine (rworks_c _).mono ?_); rintro e w1 ⟨rfl, hb1⟩; have nHX := hI9 (HX.out.below hb1); have nHY := hI9 (HY.out.below hb1); have nHB := hI9 (bthen HB.out hb1); have zz1 := hb1.size; clear HX HY HB hb1; have HX := nHX; have HY := nHY; have HB := nHB; clear nHX nHY nHB))
  go_ret
  exact ⟨rfl, HB.out⟩
 clear HSL
 have x19 := HX.out.cell 19
 simp only [gtA, gtS, gtZ] at x19
 have tok2 : True := trivial
 have tok3 : True := trivial
 have tok4 : True := trivial
 go_wp2_with (first | (have _t := tok3; refine wpl_mid rfl 29 _ rfl w.heap.size 0 rfl 34 _ #[.int .i64 M.places, .int .i64 M.any.a0, .int .i64 M.any.a1, .int .i64 M.any.a2, .int .i64 M.any.a3, .int .i64 M.any.a4, .int .i64 M.any.a5, .bool M.any.i, .bool M.any.s, .int .i64 M.mw, .int .i64 M.ms, .int .i64 M.mc, vF, vS] 14 HX.out Tryz.rowMet [] [.int .i64 lw, .int .i64 ls, .int .i64 lc, .bool li, .bool lb, .slice A n c] rfl rfl rfl ?_; simp only [Act.put]; clear tok3) | (have _t := tok4; refine wpl_mid rfl 31 _ rfl w.heap.size 14 rfl 34 _ #[.int .i64 lw, .int .i64 ls, .int .i64 lc, .bool li, .bool lb] 5 HX.out Tryz.rowMin [.int .i64 M.places, .int .i64 M.any.a0, .int .i64 M.any.a1, .int .i64 M.any.a2, .int .i64 M.any.a3, .int .i64 M.any.a4, .int .i64 M.any.a5, .bool M.any.i, .bool M.any.s, .int .i64 M.mw, .int .i64 M.ms, .int .i64 M.mc, vF, vS] [.slice A n c] rfl rfl rfl ?_; simp only [Act.put]; clear tok4) | (have _t := tok2; refine wpl_row rfl 37 (.tmp 4) rfl _ rfl _ 5 HY.out Tryz.rowFli rfl ?_; simp only [Act.put]; clear tok2))
 refine (HH1.out _ (HM.out.below HB.out) (HL.out.below HB.out) (HR.out.below HB.out)).mono ?_
 rintro e w3 ⟨v1, rfl, hb3, hs1⟩
 clear x19 HH1
 have HS1 := hI9 hs1
 clear hs1
 have nHX := hI9 (HX.out.below hb3)
 have nHY := hI9 (HY.out.below hb3)
 have nHB := hI9 (bthen HB.out hb3)
 clear HX HY HB hb3
 have HX := nHX
 have HY := nHY
 have HB := nHB
 clear nHX nHY nHB
 have x19 := HX.out.cell 19
 simp only [gtA, gtS, gtZ] at x19
 have tok2 : True := trivial
 have tok3 : True := trivial
 have tok4 : True := trivial
 go_wp2_with (first | (have _t := tok3; refine wpl_mid rfl 29 _ rfl w.heap.size 0 rfl 34 _ #[.int .i64 M.places, .int .i64 M.any.a0, .int .i64 M.any.a1, .int .i64 M.any.a2, .int .i64 M.any.a3, .int .i64 M.any.a4, .int .i64 M.any.a5, .bool M.any.i, .bool M.any.s, .int .i64 M.mw, .int .i64 M.ms, .int .i64 M.mc, vF, vS] 14 HX.out Tryz.rowMet [] [.int .i64 lw, .int .i64 ls, .int .i64 lc, .bool li, .bool lb, .slice A n c] rfl rfl rfl ?_; simp only [Act.put]; clear tok3) | (have _t := tok4; refine wpl_mid rfl 31 _ rfl w.heap.size 14 rfl 34 _ #[.int .i64 lw, .int .i64 ls, .int .i64 lc, .bool li, .bool lb] 5 HX.out Tryz.rowMin [.int .i64 M.places, .int .i64 M.any.a0, .int .i64 M.any.a1, .int .i64 M.any.a2, .int .i64 M.any.a3, .int .i64 M.any.a4, .int .i64 M.any.a5, .bool M.any.i, .bool M.any.s, .int .i64 M.mw, .int .i64 M.ms, .int .i64 M.mc, vF, vS] [.slice A n c] rfl rfl rfl ?_; simp only [Act.put]; clear tok4) | (have _t := tok2; refine wpl_row rfl 37 (.tmp 4) rfl _ rfl _ 5 HY.out Tryz.rowFli rfl ?_; simp only [Act.put]; clear tok2))
 refine (HH2.out _ (HM.out.below HB.out) (HL.out.below HB.out) (HR.out.below HB.out)).mono ?_
 rintro e w4 ⟨v2, rfl, hb4, hs2⟩
 obtain ⟨k, R, h1, h2⟩ := (HS1.out.below hb4).same hs2
 have HSM := hI9 (And.intro h1 h2)
 clear x19 HH2 HS1 hs2 h1 h2
 have nHX := hI9 (HX.out.below hb4)
 have nHY := hI9 (HY.out.below hb4)
 have nHB := hI9 (bthen HB.out hb4)
 clear HX HY HB hb4
 have HX := nHX
 have HY := nHY
 have HB := nHB
 clear nHX nHY nHB
 go_wp2_with (fail)
 refine (l5same_c v1 v2 k R R _ HSM.out.1 HSM.out.2 (fun _ _ => rfl)).mono ?_
 rintro e w5 ⟨rfl, hb5⟩
 have nHX := hI9 (HX.out.below hb5)
 have nHY := hI9 (HY.out.below hb5)
 have nHB := hI9 (bthen HB.out hb5)
 clear HX HY HB hb5
 have HX := nHX
 have HY := nHY
 have HB := nHB
 clear nHX nHY nHB
 go_wp2_with (first | (go_at_call 7; (with_reducible refine (rworks_c _).mono ?_); rintro e w1 ⟨rfl, hb1⟩; have nHX := hI9 (HX.out.below hb1); have nHY := hI9 (HY.out.below hb1); have nHB := hI9 (bthen HB.out hb1); have zz1 := hb1.size; clear HX HY HB hb1; have HX := nHX; have HY := nHY; have HB := nHB; clear nHX nHY nHB))
 go_ret
 exact ⟨rfl, HB.out⟩
end Go.Proofs.YtlabfpjlckdmfaaGreat
