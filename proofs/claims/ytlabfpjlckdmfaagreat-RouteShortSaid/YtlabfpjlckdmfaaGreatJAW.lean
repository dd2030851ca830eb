/- Texts joined: JAW. -/
import Derived.Test.YtlabfpjlckdmfaaGreatJAR
import Derived.Test.YtlabfpjlckdmfaaGreatNbE
import Derived.Test.YtlabfpjlckdmfaaGreatJAA
import Derived.Test.YtlabfpjlckdmfaaGreatJAP
set_option linter.all false
namespace Go.Proofs.YtlabfpjlckdmfaaGreat
open Go Go.RowKit Go.Proofs
set_option maxRecDepth 100000
set_option maxHeartbeats 8000000
def LgB (e : Ending) : Prop := ∃ b : Bool, e = .returned (.bool b)
theorem l5Long_c (M : MetD) (vF vS : Value) (lw ls lc : Int) (li lb : Bool) (A : Option Addr) (n c : Nat) (S : Tab) (F : FliD) (vR : Value) (w : World) (hM : MetAt w vF vS M) (hc1 : n ≤ c) (hc2 : c ≤ 9223372036854775807) (hL : RecsAt w A n 3 (nV S)) (hR : SlI w vR F.m F.R) :
  Calls Tryz.prog 11 #[.agg #[.int .i64 M.places, .int .i64 M.any.a0, .int .i64 M.any.a1, .int .i64 M.any.a2, .int .i64 M.any.a3, .int .i64 M.any.a4, .int .i64 M.any.a5, .bool M.any.i, .bool M.any.s, .int .i64 M.mw, .int .i64 M.ms, .int .i64 M.mc, vF, vS, .int .i64 lw, .int .i64 ls, .int .i64 lc, .bool li, .bool lb, .slice A n c], .agg #[vR, .int .i64 F.dep, .int .i64 F.fuel, .int .i64 F.burn, .int .i64 F.res]] w fun e w' => LgB e ∧ RowKit.Below w.heap.size w w' := by
 have hal := fun w1 h1 h2 h3 => r5Arrive_c M vF vS A n c S F vR w1 h1 hc1 hc2 h2 h3
 have HM := hI9 hM
 have HL := hI9 hL
 have HR := hI9 hR
 obtain ⟨⟨A1, c1, rfl, -⟩, ⟨A2, c2, rfl, -⟩⟩ := id hM
 have HAL := hI9 hal
 clear hM hL hR hal
 have hok : nfE (netE M S n) M S n F = 0 → 1 ≤ F.m := fun h => by
  unfold nfE at h
  by_cases h1 : netE M S n = 0
  ·rw [if_pos h1] at h
   cases e : F.okB M.places.toNat (lgT S n)
   ·rw [e] at h; cases h
   ·exact (FliD.nums_iff.1 (FliD.okB_iff.1 e).1).1.1
  ·rw [if_neg h1] at h; exact absurd h h1
 generalize nfE (netE M S n) M S n F = NE at *
 have HOK := hI9 hok
 clear hok
 have tok : True := trivial
 have tok0 : True := trivial
 obtain ⟨q, hq1⟩ : ∃ q, IntKind.i64.wrap ((M.n : Int) + (M.m : Int)) = q := ⟨_, rfl⟩
 have hq2 : wrap64 ((M.n : Int) + (M.m : Int)) = q := by rw [← hq1, IntKind.wrap_i64, wrap64]
 go_enter Tryz.func11, Tryz.ntmps11
 go_wp2_with (first | (have _t := tok0; generalize hWX : World.alloc (World.alloc w _) _ = W; clear tok0; have _x := duo_r w #[.int .i64 M.places, .int .i64 M.any.a0, .int .i64 M.any.a1, .int .i64 M.any.a2, .int .i64 M.any.a3, .int .i64 M.any.a4, .int .i64 M.any.a5, .bool M.any.i, .bool M.any.s, .int .i64 M.mw, .int .i64 M.ms, .int .i64 M.mc, .slice A1 M.n c1, .slice A2 M.m c2, .int .i64 lw, .int .i64 ls, .int .i64 lc, .bool li, .bool lb, .slice A n c] #[vR, .int .i64 F.dep, .int .i64 F.fuel, .int .i64 F.burn, .int .i64 F.res] 34 37; rw [hWX] at _x; clear hWX; have HX := hI9 _x.1; have HY := hI9 _x.2.1; have HB := hI9 _x.2.2; clear _x; have x12 := HX.out.cell 12; have x13 := HX.out.cell 13; have x19 := HX.out.cell 19; simp only [gtA, gtS, gtZ] at x12 x13 x19) | (refine wpl_mid rfl 29 _ rfl w.heap.size 0 rfl 34 _ #[.int .i64 M.places, .int .i64 M.any.a0, .int .i64 M.any.a1, .int .i64 M.any.a2, .int .i64 M.any.a3, .int .i64 M.any.a4, .int .i64 M.any.a5, .bool M.any.i, .bool M.any.s, .int .i64 M.mw, .int .i64 M.ms, .int .i64 M.mc, .slice A1 M.n c1, .slice A2 M.m c2] 14 HX.out Tryz.rowMet [] [.int .i64 lw, .int .i64 ls, .int .i64 lc, .bool li, .bool lb, .slice A n c] rfl rfl rfl ?_; simp only [Act.put]) | (have _t := tok; refine wpl_row rfl 37 (.tmp 3) rfl _ rfl _ 5 HY.out Tryz.rowFli rfl ?_; simp only [Act.put]; clear tok))
 ·go_ret
  exact ⟨⟨_, rfl⟩, HB.out⟩
 ·skip
  refine (HAL.out _ (HM.out.below HB.out) (HL.out.below HB.out) (HR.out.below HB.out)).mono ?_
  rintro e w2 ⟨v, rfl, hb2, hv⟩
  have y1 : w2.cell? ⟨w.heap.size + 1, 1, none⟩ = some (.int .i64 F.dep) := (HY.out.below hb2).cell 1
  have HB2 := hI9 (bthen HB.out hb2)
  clear HX HY HB hb2
  by_cases h0 : NE = 0
  ·subst h0
   obtain ⟨A7, c7, rfl, e2, e3, e4⟩ := hv.1 rfl
   have hm1 := HOK.out rfl
   obtain ⟨b2, o2, rfl, hbb, hc2⟩ := e4 (by omega)
   obtain ⟨m, hme⟩ : ∃ m, m = F.m - 1 := ⟨_, rfl⟩
   have cl : w2.cell? ⟨b2, o2 + m, none⟩ = some (.int .i64 (F.at_ (lgT S n) m)) := by have := hc2 m (by omega) 0 (by omega); rw [Nat.mul_one, Nat.add_zero] at this; exact this
   have hmz : IntKind.i64.wrap ((F.m : Int) - 1) = (m : Int) := by rw [IntKind.wrap_i64]; omega
   have hmz2 : (m : Int) < (F.m : Int) := by omega
   clear hc2 e4 hv hme
   generalize F.at_ (lgT S n) m = D at *
   go_wp2_with (fail)
   (refine wp_region_drawnt 14 (by kernel_rfl) (by kernel_rfl) ?_; simp only [List.take_succ_cons, List.take_zero, List.drop_succ_cons, List.drop_zero]; (repeat (go_big_quiet_step ( fail))); refine wpQuiet_nil ?_; rintro _ ⟨nq, rfl⟩)
   go_wp2_with (fail)
   go_ret
   exact ⟨⟨_, rfl⟩, bdn HB2.out _⟩
  ·have h0z : (NE == 0) = false := by simpa using h0
   obtain rfl := hv.2 h0
   clear hv
   go_wp2_with (fail)
   (refine wp_region_drawnt 14 (by kernel_rfl) (by kernel_rfl) ?_; simp only [List.take_succ_cons, List.take_zero, List.drop_succ_cons, List.drop_zero]; (repeat (go_big_quiet_step ( fail))); refine wpQuiet_nil ?_; rintro _ ⟨nq, rfl⟩)
   go_wp2_with (fail)
   go_ret
   exact ⟨⟨_, rfl⟩, bdn HB2.out _⟩
 ·skip
  refine (HAL.out _ (HM.out.below HB.out) (HL.out.below HB.out) (HR.out.below HB.out)).mono ?_
  rintro e w2 ⟨v, rfl, hb2, hv⟩
  have y1 : w2.cell? ⟨w.heap.size + 1, 1, none⟩ = some (.int .i64 F.dep) := (HY.out.below hb2).cell 1
  have HB2 := hI9 (bthen HB.out hb2)
  clear HX HY HB hb2
  by_cases h0 : NE = 0
  ·subst h0
   obtain ⟨A7, c7, rfl, e2, e3, e4⟩ := hv.1 rfl
   have hm1 := HOK.out rfl
   obtain ⟨b2, o2, rfl, hbb, hc2⟩ := e4 (by omega)
   obtain ⟨m, hme⟩ : ∃ m, m = F.m - 1 := ⟨_, rfl⟩
   have cl : w2.cell? ⟨b2, o2 + m, none⟩ = some (.int .i64 (F.at_ (lgT S n) m)) := by have := hc2 m (by omega) 0 (by omega); rw [Nat.mul_one, Nat.add_zero] at this; exact this
   have hmz : IntKind.i64.wrap ((F.m : Int) - 1) = (m : Int) := by rw [IntKind.wrap_i64]; omega
   have hmz2 : (m : Int) < (F.m : Int) := by omega
   clear hc2 e4 hv hme
   generalize F.at_ (lgT S n) m = D at *
   go_wp2_with (fail)
   (refine wp_region_drawnt 14 (by kernel_rfl) (by kernel_rfl) ?_; simp only [List.take_succ_cons, List.take_zero, List.drop_succ_cons, List.drop_zero]; (repeat (go_big_quiet_step ( fail))); refine wpQuiet_nil ?_; rintro _ ⟨nq, rfl⟩)
   go_wp2_with (fail)
   go_ret
   exact ⟨⟨_, rfl⟩, bdn HB2.out _⟩
  ·have h0z : (NE == 0) = false := by simpa using h0
   obtain rfl := hv.2 h0
   clear hv
   go_wp2_with (fail)
   (refine wp_region_drawnt 14 (by kernel_rfl) (by kernel_rfl) ?_; simp only [List.take_succ_cons, List.take_zero, List.drop_succ_cons, List.drop_zero]; (repeat (go_big_quiet_step ( fail))); refine wpQuiet_nil ?_; rintro _ ⟨nq, rfl⟩)
   go_wp2_with (fail)
   go_ret
   exact ⟨⟨_, rfl⟩, bdn HB2.out _⟩
 ·skip
  refine (HAL.out _ (HM.out.below HB.out) (HL.out.below HB.out) (HR.out.below HB.out)).mono ?_
  rintro e w2 ⟨v, rfl, hb2, hv⟩
  have y1 : w2.cell? ⟨w.heap.size + 1, 1, none⟩ = some (.int .i64 F.dep) := (HY.out.below hb2).cell 1
  have HB2 := hI9 (bthen HB.out hb2)
  clear HX HY HB hb2
  by_cases h0 : NE = 0
  ·subst h0
   obtain ⟨A7, c7, rfl, e2, e3, e4⟩ := hv.1 rfl
   have hm1 := HOK.out rfl
   obtain ⟨b2, o2, rfl, hbb, hc2⟩ := e4 (by omega)
   obtain ⟨m, hme⟩ : ∃ m, m = F.m - 1 := ⟨_, rfl⟩
   have cl : w2.cell? ⟨b2, o2 + m, none⟩ = some (.int .i64 (F.at_ (lgT S n) m)) := by have := hc2 m (by omega) 0 (by omega); rw [Nat.mul_one, Nat.add_zero] at this; exact this
   have hmz : IntKind.i64.wrap ((F.m : Int) - 1) = (m : Int) := by rw [IntKind.wrap_i64]; omega
   have hmz2 : (m : Int) < (F.m : Int) := by omega
   clear hc2 e4 hv hme
   generalize F.at_ (lgT S n) m = D at *
   go_wp2_with (fail)
   (refine wp_region_drawnt 14 (by kernel_rfl) (by kernel_rfl) ?_; simp only [List.take_succ_cons, List.take_zero, List.drop_succ_cons, List.drop_zero]; (repeat (go_big_quiet_step ( fail))); refine wpQuiet_nil ?_; rintro _ ⟨nq, rfl⟩)
   go_wp2_with (fail)
   go_ret
   exact ⟨⟨_, rfl⟩, bdn HB2.out _⟩
  ·have h0z : (NE == 0) = false := by simpa using h0
   obtain rfl := hv.2 h0
   clear hv
   go_wp2_with (fail)
   (refine wp_region_drawnt 14 (by kernel_rfl) (by kernel_rfl) ?_; simp only [List.take_succ_cons, List.take_zero, List.drop_succ_cons, List.drop_zero]; (repeat (go_big_quiet_step ( fail))); refine wpQuiet_nil ?_; rintro _ ⟨nq, rfl⟩)
   go_wp2_with (fail)
   go_ret
   exact ⟨⟨_, rfl⟩, bdn HB2.out _⟩
end Go.Proofs.YtlabfpjlckdmfaaGreat

namespace Go.Proofs.YtlabfpjlckdmfaaGreat
open Go Go.RowKit Go.Proofs
set_option maxRecDepth 100000
set_option maxHeartbeats 8000000
def RtB (X : Prop) (e : Ending) : Prop := ∃ b : Bool, e = .returned (.bool b) ∧ (b = true → X)
theorem l5right_c (M : MetD) (vF vS : Value) (lw ls lc : Int) (li lb : Bool) (A : Option Addr) (n c : Nat) (S : Tab) (F : FliD) (vR : Value) (w : World) (hM : MetAt w vF vS M) (hc1 : n ≤ c) (hc2 : c ≤ 9223372036854775807) (hL : RecsAt w A n 3 (nV S)) (hR : SlI w vR F.m F.R) :
  Calls Tryz.prog 16 #[.agg #[.int .i64 M.places, .int .i64 M.any.a0, .int .i64 M.any.a1, .int .i64 M.any.a2, .int .i64 M.any.a3, .int .i64 M.any.a4, .int .i64 M.any.a5, .bool M.any.i, .bool M.any.s, .int .i64 M.mw, .int .i64 M.ms, .int .i64 M.mc, vF, vS, .int .i64 lw, .int .i64 ls, .int .i64 lc, .bool li, .bool lb, .slice A n c], .agg #[vR, .int .i64 F.dep, .int .i64 F.fuel, .int .i64 F.burn, .int .i64 F.res]] w fun e w' => RtB (minE M lw ls lc = 0 ∧ nfE (netE M S n) M S n F = 0) e ∧ RowKit.Below w.heap.size w w' := by
 have HM := hI9 hM
 have HL := hI9 hL
 have HR := hI9 hR
 have HCM := hI9 (fun w1 h => rw_CheckMinima_c M vF vS lw ls lc li lb w1 h)
 have HCK := hI9 (fun w1 h1 h2 h3 => r5Check_c M vF vS A n c S F vR w1 h1 hc1 hc2 h2 h3)
 have HLO := hI9 (fun w1 h1 h2 h3 => l5Long_c M vF vS lw ls lc li lb A n c S F vR w1 h1 hc1 hc2 h2 h3)
 clear hM hL hR
 generalize minE M lw ls lc = ME at *
 generalize nfE (netE M S n) M S n F = KE at *
 have tok0 : True := trivial
 have tok3 : True := trivial
 have tok4 : True := trivial
 have tok5 : True := trivial
 have tok6 : True := trivial
 have tok7 : True := trivial
 have tok8 : True := trivial
 by_cases h0 : ME = 0
 case neg =>
  have hz : (ME == 0) = false := by simpa using h0
  clear h0
  go_enter Tryz.func16, Tryz.ntmps16
  go_wp2_with (first | (have _t := tok0; generalize hWX : World.alloc (World.alloc w _) _ = W; clear tok0; have _x := duo_r w #[.int .i64 M.places, .int .i64 M.any.a0, .int .i64 M.any.a1, .int .i64 M.any.a2, .int .i64 M.any.a3, .int .i64 M.any.a4, .int .i64 M.any.a5, .bool M.any.i, .bool M.any.s, .int .i64 M.mw, .int .i64 M.ms, .int .i64 M.mc, vF, vS, .int .i64 lw, .int .i64 ls, .int .i64 lc, .bool li, .bool lb, .slice A n c] #[vR, .int .i64 F.dep, .int .i64 F.fuel, .int .i64 F.burn, .int .i64 F.res] 34 37; rw [hWX] at _x; clear hWX; have HX := hI9 _x.1; have HY := hI9 _x.2.1; have HB := hI9 _x.2.2; clear _x; have x19 := HX.out.cell 19; simp only [gtA, gtS, gtZ] at x19) | (have _t := tok3; refine wpl_mid rfl 29 _ rfl w.heap.size 0 rfl 34 _ #[.int .i64 M.places, .int .i64 M.any.a0, .int .i64 M.any.a1, .int .i64 M.any.a2, .int .i64 M.any.a3, .int .i64 M.any.a4, .int .i64 M.any.a5, .bool M.any.i, .bool M.any.s, .int .i64 M.mw, .int .i64 M.ms, .int .i64 M.mc, vF, vS] 14 HX.out Tryz.rowMet [] [.int .i64 lw, .int .i64 ls, .int .i64 lc, .bool li, .bool lb, .slice A n c] rfl rfl rfl ?_; simp only [Act.put]; clear tok3) | (have _t := tok4; refine wpl_mid rfl 31 _ rfl w.heap.size 14 rfl 34 _ #[.int .i64 lw, .int .i64 ls, .int .i64 lc, .bool li, .bool lb] 5 HX.out Tryz.rowMin [.int .i64 M.places, .int .i64 M.any.a0, .int .i64 M.any.a1, .int .i64 M.any.a2, .int .i64 M.any.a3, .int .i64 M.any.a4, .int .i64 M.any.a5, .bool M.any.i, .bool M.any.s, .int .i64 M.mw, .int .i64 M.ms, .int .i64 M.mc, vF, vS] [.slice A n c] rfl rfl rfl ?_; simp only [Act.put]; clear tok4) | (go_at_call 37; (with_reducible refine (HCM.out _ (HM.out.below HB.out)).mono ?_); rintro e w1 ⟨rfl, hb1⟩; have nHX := hI9 (HX.out.below hb1); have nHY := hI9 (HY.out.below hb1); have nHB := hI9 (bthen HB.out hb1); have zz1 := hb1.size; clear HX HY HB hb1; have HX := nHX; have HY := nHY; have HB := nHB; clear nHX nHY nHB; (try clear zHX); have zHX := HX.out.lt; (try clear cHX19); have cHX19 := HX.out.cell 19))
  go_ret
  exact ⟨⟨false, rfl, fun h => nomatch h⟩, HB.out⟩
 subst h0
 by_cases h1 : KE = 0
 case neg =>
  have hz : (KE == 0) = false := by simpa using h1
  clear h1
  go_enter Tryz.func16, Tryz.ntmps16
  go_wp2_with (first | (have _t := tok0; generalize hWX : World.alloc (World.alloc w _) _ = W; clear tok0; have _x := duo_r w #[.int .i64 M.places, .int .i64 M.any.a0, .int .i64 M.any.a1, .int .i64 M.any.a2, .int .i64 M.any.a3, .int .i64 M.any.a4, .int .i64 M.any.a5, .bool M.any.i, .bool M.any.s, .int .i64 M.mw, .int .i64 M.ms, .int .i64 M.mc, vF, vS, .int .i64 lw, .int .i64 ls, .int .i64 lc, .bool li, .bool lb, .slice A n c] #[vR, .int .i64 F.dep, .int .i64 F.fuel, .int .i64 F.burn, .int .i64 F.res] 34 37; rw [hWX] at _x; clear hWX; have HX := hI9 _x.1; have HY := hI9 _x.2.1; have HB := hI9 _x.2.2; clear _x; have x19 := HX.out.cell 19; simp only [gtA, gtS, gtZ] at x19) | (have _t := tok3; refine wpl_mid rfl 29 _ rfl w.heap.size 0 rfl 34 _ #[.int .i64 M.places, .int .i64 M.any.a0, .int .i64 M.any.a1, .int .i64 M.any.a2, .int .i64 M.any.a3, .int .i64 M.any.a4, .int .i64 M.any.a5, .bool M.any.i, .bool M.any.s, .int .i64 M.mw, .int .i64 M.ms, .int .i64 M.mc, vF, vS] 14 HX.out Tryz.rowMet [] [.int .i64 lw, .int .i64 ls, .int .i64 lc, .bool li, .bool lb, .slice A n c] rfl rfl rfl ?_; simp only [Act.put]; clear tok3) | (have _t := tok4; refine wpl_mid rfl 31 _ rfl w.heap.size 14 rfl 34 _ #[.int .i64 lw, .int .i64 ls, .int .i64 lc, .bool li, .bool lb] 5 HX.out Tryz.rowMin [.int .i64 M.places, .int .i64 M.any.a0, .int .i64 M.any.a1, .int .i64 M.any.a2, .int .i64 M.any.a3, .int .i64 M.any.a4, .int .i64 M.any.a5, .bool M.any.i, .bool M.any.s, .int .i64 M.mw, .int .i64 M.ms, .int .i64 M.mc, vF, vS] [.slice A n c] rfl rfl rfl ?_; simp only [Act.put]; clear tok4) | (go_at_call 37; (with_reducible refine (HCM.out _ (HM.out.below HB.out)).mono ?_); rintro e w1 ⟨rfl, hb1⟩; have nHX := hI9 (HX.out.below hb1); have nHY := hI9 (HY.out.below hb1); have nHB := hI9 (bthen HB.out hb1); have zz1 := hb1.size; clear HX HY HB hb1; have HX := nHX; have HY := nHY; have HB := nHB; clear nHX nHY nHB; (try clear zHX); have zHX := HX.out.lt; (try clear cHX19); have cHX19 := HX.out.cell 19) | (have _t := tok5; refine wpl_mid_g ?_ 29 _ rfl w.heap.size 0 rfl 34 _ #[.int .i64 M.places, .int .i64 M.any.a0, .int .i64 M.any.a1, .int .i64 M.any.a2, .int .i64 M.any.a3, .int .i64 M.any.a4, .int .i64 M.any.a5, .bool M.any.i, .bool M.any.s, .int .i64 M.mw, .int .i64 M.ms, .int .i64 M.mc, vF, vS] 14 HX.out Tryz.rowMet [] [.int .i64 lw, .int .i64 ls, .int .i64 lc, .bool li, .bool lb, .slice A n c] rfl rfl rfl ?_; (focus rfl); simp only [Act.put]; clear tok5) | (have _t := tok6; refine wpl_row_g ?_ 37 (.tmp 3) rfl _ rfl _ 5 HY.out Tryz.rowFli rfl ?_; (focus rfl); simp only [Act.put]; clear tok6) | ((with_reducible refine (HCK.out _ (HM.out.below HB.out) (HL.out.below HB.out) (HR.out.below HB.out)).mono ?_); rintro e w1 ⟨rfl, hb1⟩; have nHX := hI9 (HX.out.below hb1); have nHY := hI9 (HY.out.below hb1); have nHB := hI9 (bthen HB.out hb1); have zz1 := hb1.size; clear HX HY HB hb1; have HX := nHX; have HY := nHY; have HB := nHB; clear nHX nHY nHB; (try clear zHX); have zHX := HX.out.lt; (try clear cHX19); have cHX19 := HX.out.cell 19))
  go_ret
  exact ⟨⟨false, rfl, fun h => nomatch h⟩, HB.out⟩
 subst h1
 go_enter Tryz.func16, Tryz.ntmps16
 go_wp2_with (first | (have _t := tok0; generalize hWX : World.alloc (World.alloc w _) _ = W; clear tok0; have _x := duo_r w #[.int .i64 M.places, .int .i64 M.any.a0, .int .i64 M.any.a1, .int .i64 M.any.a2, .int .i64 M.any.a3, .int .i64 M.any.a4, .int .i64 M.any.a5, .bool M.any.i, .bool M.any.s, .int .i64 M.mw, .int .i64 M.ms, .int .i64 M.mc, vF, vS, .int .i64 lw, .int .i64 ls, .int .i64 lc, .bool li, .bool lb, .slice A n c] #[vR, .int .i64 F.dep, .int .i64 F.fuel, .int .i64 F.burn, .int .i64 F.res] 34 37; rw [hWX] at _x; clear hWX; have HX := hI9 _x.1; have HY := hI9 _x.2.1; have HB := hI9 _x.2.2; clear _x; have x19 := HX.out.cell 19; simp only [gtA, gtS, gtZ] at x19) | (have _t := tok3; refine wpl_mid rfl 29 _ rfl w.heap.size 0 rfl 34 _ #[.int .i64 M.places, .int .i64 M.any.a0, .int .i64 M.any.a1, .int .i64 M.any.a2, .int .i64 M.any.a3, .int .i64 M.any.a4, .int .i64 M.any.a5, .bool M.any.i, .bool M.any.s, .int .i64 M.mw, .int .i64 M.ms, .int .i64 M.mc, vF, vS] 14 HX.out Tryz.rowMet [] [.int .i64 lw, .int .i64 ls, .int .i64 lc, .bool li, .bool lb, .slice A n c] rfl rfl rfl ?_; simp only [Act.put]; clear tok3) | (have _t := tok4; refine wpl_mid rfl 31 _ rfl w.heap.size 14 rfl 34 _ #[.int .i64 lw, .int .i64 ls, .int .i64 lc, .bool li, .bool lb] 5 HX.out Tryz.rowMin [.int .i64 M.places, .int .i64 M.any.a0, .int .i64 M.any.a1, .int .i64 M.any.a2, .int .i64 M.any.a3, .int .i64 M.any.a4, .int .i64 M.any.a5, .bool M.any.i, .bool M.any.s, .int .i64 M.mw, .int .i64 M.ms, .int .i64 M.mc, vF, vS] [.slice A n c] rfl rfl rfl ?_; simp only [Act.put]; clear tok4) | (go_at_call 37; (with_reducible refine (HCM.out _ (HM.out.below HB.out)).mono ?_); rintro e w1 ⟨rfl, hb1⟩; have nHX := hI9 (HX.out.below hb1); have nHY := hI9 (HY.out.below hb1); have nHB := hI9 (bthen HB.out hb1); have zz1 := hb1.size; clear HX HY HB hb1; have HX := nHX; have HY := nHY; have HB := nHB; clear nHX nHY nHB; (try clear zHX); have zHX := HX.out.lt; (try clear cHX19); have cHX19 := HX.out.cell 19) | (have _t := tok5; refine wpl_mid_g ?_ 29 _ rfl w.heap.size 0 rfl 34 _ #[.int .i64 M.places, .int .i64 M.any.a0, .int .i64 M.any.a1, .int .i64 M.any.a2, .int .i64 M.any.a3, .int .i64 M.any.a4, .int .i64 M.any.a5, .bool M.any.i, .bool M.any.s, .int .i64 M.mw, .int .i64 M.ms, .int .i64 M.mc, vF, vS] 14 HX.out Tryz.rowMet [] [.int .i64 lw, .int .i64 ls, .int .i64 lc, .bool li, .bool lb, .slice A n c] rfl rfl rfl ?_; (focus rfl); simp only [Act.put]; clear tok5) | (have _t := tok6; refine wpl_row_g ?_ 37 (.tmp 3) rfl _ rfl _ 5 HY.out Tryz.rowFli rfl ?_; (focus rfl); simp only [Act.put]; clear tok6) | ((with_reducible refine (HCK.out _ (HM.out.below HB.out) (HL.out.below HB.out) (HR.out.below HB.out)).mono ?_); rintro e w1 ⟨rfl, hb1⟩; have nHX := hI9 (HX.out.below hb1); have nHY := hI9 (HY.out.below hb1); have nHB := hI9 (bthen HB.out hb1); have zz1 := hb1.size; clear HX HY HB hb1; have HX := nHX; have HY := nHY; have HB := nHB; clear nHX nHY nHB; (try clear zHX); have zHX := HX.out.lt; (try clear cHX19); have cHX19 := HX.out.cell 19) | (have _t := tok7; refine wpl_row_g ?_ 34 (.tmp 2) rfl _ rfl _ 20 HX.out Tryz.rowPlan rfl ?_; (focus rfl); simp only [Act.put]; clear tok7) | (have _t := tok8; refine wpl_row_g ?_ 37 (.tmp 3) rfl _ rfl _ 5 HY.out Tryz.rowFli rfl ?_; (focus rfl); simp only [Act.put]; clear tok8))
 refine (HLO.out _ (HM.out.below HB.out) (HL.out.below HB.out) (HR.out.below HB.out)).mono ?_
 rintro e w2 ⟨⟨bb, rfl⟩, hb2⟩
 have HB2 := hI9 (bthen HB.out hb2)
 clear HX HY HB hb2
 cases bb
 ·go_wp2_with (fail)
  go_ret
  exact ⟨⟨_, rfl, fun _ => by constructor <;> trivial⟩, HB2.out⟩
 ·go_wp2_with (fail)
  go_ret
  exact ⟨⟨_, rfl, fun _ => by constructor <;> trivial⟩, HB2.out⟩
end Go.Proofs.YtlabfpjlckdmfaaGreat
