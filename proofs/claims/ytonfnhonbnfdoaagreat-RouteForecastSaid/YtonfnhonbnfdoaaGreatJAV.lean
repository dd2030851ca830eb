/- Texts joined: JAV. -/
import Derived.Test.YtonfnhonbnfdoaaGreatJAT
import Derived.Test.YtonfnhonbnfdoaaGreatJAU
import Derived.Test.YtonfnhonbnfdoaaGreatJAQ
import Derived.Test.YtonfnhonbnfdoaaGreatJAN
set_option linter.all false
namespace Go.Proofs.YtonfnhonbnfdoaaGreat
open Go Go.RowKit Go.Proofs
set_option maxRecDepth 100000
set_option maxHeartbeats 8000000
def RtB (X : Prop) (e : Ending) : Prop := ∃ b : Bool, e = .returned (.bool b) ∧ (b = true → X)
theorem l5right_c (M : MetD) (vF vS : Value) (lw ls lc : Int) (li lb : Bool) (A : Option Addr) (n c : Nat) (S : Tab) (F : FliD) (vR : Value) (w : World) (hM : MetAt w vF vS M) (hc1 : n ≤ c) (hc2 : c ≤ 9223372036854775807) (hL : RecsAt w A n 3 (nV S)) (hR : SlI w vR F.m F.R) :
   Calls Tryz.prog 21 #[.agg #[.int .i64 M.places, .int .i64 M.any.a0, .int .i64 M.any.a1, .int .i64 M.any.a2, .int .i64 M.any.a3, .int .i64 M.any.a4, .int .i64 M.any.a5, .bool M.any.i, .bool M.any.s, .int .i64 M.mw, .int .i64 M.ms, .int .i64 M.mc, vF, vS, .int .i64 lw, .int .i64 ls, .int .i64 lc, .bool li, .bool lb, .slice A n c], .agg #[vR, .int .i64 F.dep, .int .i64 F.fuel, .int .i64 F.burn, .int .i64 F.res]] w fun e w' => RtB (minE M lw ls lc = 0 ∧ nfE (netE M S n) M S n F = 0) e ∧ RowKit.Below w.heap.size w w' := by
  have HM := Lib.hid hM
  have HL := Lib.hid hL
  have HR := Lib.hid hR
  have HCM := Lib.hid (fun w1 h => rw_CheckMinima_c M vF vS lw ls lc li lb w1 h)
  have HCK := Lib.hid (fun w1 h1 h2 h3 => r5Check_c M vF vS A n c S F vR w1 h1 hc1 hc2 h2 h3)
  have HLO := Lib.hid (fun w1 h1 h2 h3 => l5Long_c M vF vS lw ls lc li lb A n c S F vR w1 h1 hc1 hc2 h2 h3)
  clear hM hL hR
  generalize minE M lw ls lc = ME at *
  generalize nfE (netE M S n) M S n F = KE at *
  have tok0 : True := trivial
  have tok3 : True := trivial
  have tok4 : True := trivial
  have tok5 : True := trivial
  have tok6 : True := trivial
  have tok7 : True := trivial
  have tok8 : True := trivial
  by_cases h0 : ME = 0
  case neg =>
    have hz : (ME == 0) = false := by simpa using h0
    clear h0
    go_enter Tryz.func21, Tryz.ntmps21
    go_wp2_with (first | (have _t := tok0; generalize hWX : World.alloc (World.alloc w _) _ = W; clear tok0; have _x := duo_r w #[.int .i64 M.places, .int .i64 M.any.a0, .int .i64 M.any.a1, .int .i64 M.any.a2, .int .i64 M.any.a3, .int .i64 M.any.a4, .int .i64 M.any.a5, .bool M.any.i, .bool M.any.s, .int .i64 M.mw, .int .i64 M.ms, .int .i64 M.mc, vF, vS, .int .i64 lw, .int .i64 ls, .int .i64 lc, .bool li, .bool lb, .slice A n c] #[vR, .int .i64 F.dep, .int .i64 F.fuel, .int .i64 F.burn, .int .i64 F.res] 34 37; rw [hWX] at _x; clear hWX; have HX := Lib.hid _x.1; have HY := Lib.hid _x.2.1; have HB := Lib.hid _x.2.2; clear _x; have x19 := HX.out.cell 19; simp only [List.getElem?_toArray, List.getElem?_cons_succ, List.getElem?_cons_zero] at x19) | (have _t := tok3; refine wpl_mid rfl 29 _ rfl w.heap.size 0 rfl 34 #[.int .i64 M.places, .int .i64 M.any.a0, .int .i64 M.any.a1, .int .i64 M.any.a2, .int .i64 M.any.a3, .int .i64 M.any.a4, .int .i64 M.any.a5, .bool M.any.i, .bool M.any.s, .int .i64 M.mw, .int .i64 M.ms, .int .i64 M.mc, vF, vS, .int .i64 lw, .int .i64 ls, .int .i64 lc, .bool li, .bool lb, .slice A n c] #[.int .i64 M.places, .int .i64 M.any.a0, .int .i64 M.any.a1, .int .i64 M.any.a2, .int .i64 M.any.a3, .int .i64 M.any.a4, .int .i64 M.any.a5, .bool M.any.i, .bool M.any.s, .int .i64 M.mw, .int .i64 M.ms, .int .i64 M.mc, vF, vS] 14 HX.out Tryz.rowMet [] [.int .i64 lw, .int .i64 ls, .int .i64 lc, .bool li, .bool lb, .slice A n c] rfl rfl rfl ?_; simp only [Act.put]; clear tok3) | (have _t := tok4; refine wpl_mid rfl 31 _ rfl w.heap.size 14 rfl 34 #[.int .i64 M.places, .int .i64 M.any.a0, .int .i64 M.any.a1, .int .i64 M.any.a2, .int .i64 M.any.a3, .int .i64 M.any.a4, .int .i64 M.any.a5, .bool M.any.i, .bool M.any.s, .int .i64 M.mw, .int .i64 M.ms, .int .i64 M.mc, vF, vS, .int .i64 lw, .int .i64 ls, .int .i64 lc, .bool li, .bool lb, .slice A n c] #[.int .i64 lw, .int .i64 ls, .int .i64 lc, .bool li, .bool lb] 5 HX.out Tryz.rowMin [.int .i64 M.places, .int .i64 M.any.a0, .int .i64 M.any.a1, .int .i64 M.any.a2, .int .i64 M.any.a3, .int .i64 M.any.a4, .int .i64 M.any.a5, .bool M.any.i, .bool M.any.s, .int .i64 M.mw, .int .i64 M.ms, .int .i64 M.mc, vF, vS] [.slice A n c] rfl rfl rfl ?_; simp only [Act.put]; clear tok4) | (go_at_call 9; (with_reducible refine (HCM.out _ (HM.out.below HB.out)).mono ?_); rintro e w1 ⟨rfl, hb1⟩; have nHX := Lib.hid (HX.out.below hb1); have nHY := Lib.hid (HY.out.below hb1); have nHB := Lib.hid (bthen HB.out hb1); have zz1 := hb1.size; clear HX HY HB hb1; have HX := nHX; have HY := nHY; have HB := nHB; clear nHX nHY nHB; (try clear zHX); have zHX := HX.out.lt; (try clear cHX19); have cHX19 := HX.out.cell 19))
    go_ret
    exact ⟨⟨false, rfl, fun h => nomatch h⟩, HB.out⟩
  subst h0
  by_cases h1 : KE = 0
  case neg =>
    have hz : (KE == 0) = false := by simpa using h1
    clear h1
    go_enter Tryz.func21, Tryz.ntmps21
    go_wp2_with (first | (have _t := tok0; generalize hWX : World.alloc (World.alloc w _) _ = W; clear tok0; have _x := duo_r w #[.int .i64 M.places, .int .i64 M.any.a0, .int .i64 M.any.a1, .int .i64 M.any.a2, .int .i64 M.any.a3, .int .i64 M.any.a4, .int .i64 M.any.a5, .bool M.any.i, .bool M.any.s, .int .i64 M.mw, .int .i64 M.ms, .int .i64 M.mc, vF, vS, .int .i64 lw, .int .i64 ls, .int .i64 lc, .bool li, .bool lb, .slice A n c] #[vR, .int .i64 F.dep, .int .i64 F.fuel, .int .i64 F.burn, .int .i64 F.res] 34 37; rw [hWX] at _x; clear hWX; have HX := Lib.hid _x.1; have HY := Lib.hid _x.2.1; have HB := Lib.hid _x.2.2; clear _x; have x19 := HX.out.cell 19; simp only [List.getElem?_toArray, List.getElem?_cons_succ, List.getElem?_cons_zero] at x19) | (have _t := tok3; refine wpl_mid rfl 29 _ rfl w.heap.size 0 rfl 34 #[.int .i64 M.places, .int .i64 M.any.a0, .int .i64 M.any.a1, .int .i64 M.any.a2, .int .i64 M.any.a3, .int .i64 M.any.a4, .int .i64 M.any.a5, .bool M.any.i, .bool M.any.s, .int .i64 M.mw, .int .i64 M.ms, .int .i64 M.mc, vF, vS, .int .i64 lw, .int .i64 ls, .int .i64 lc, .bool li, .bool lb, .slice A n c] #[.int .i64 M.places, .int .i64 M.any.a0, .int .i64 M.any.a1, .int .i64 M.any.a2, .int .i64 M.any.a3, .int .i64 M.any.a4, .int .i64 M.any.a5, .bool M.any.i, .bool M.any.s, .int .i64 M.mw, .int .i64 M.ms, .int .i64 M.mc, vF, vS] 14 HX.out Tryz.rowMet [] [.int .i64 lw, .int .i64 ls, .int .i64 lc, .bool li, .bool lb, .slice A n c] rfl rfl rfl ?_; simp only [Act.put]; clear tok3) | (have _t := tok4; refine wpl_mid rfl 31 _ rfl w.heap.size 14 rfl 34 #[.int .i64 M.places, .int .i64 M.any.a0, .int .i64 M.any.a1, .int .i64 M.any.a2, .int .i64 M.any.a3, .int .i64 M.any.a4, .int .i64 M.any.a5, .bool M.any.i, .bool M.any.s, .int .i64 M.mw, .int .i64 M.ms, .int .i64 M.mc, vF, vS, .int .i64 lw, .int .i64 ls, .int .i64 lc, .bool li, .bool lb, .slice A n c] #[.int .i64 lw, .int .i64 ls, .int .i64 lc, .bool li, .bool lb] 5 HX.out Tryz.rowMin [.int .i64 M.places, .int .i64 M.any.a0, .int .i64 M.any.a1, .int .i64 M.any.a2, .int .i64 M.any.a3, .int .i64 M.any.a4, .int .i64 M.any.a5, .bool M.any.i, .bool M.any.s, .int .i64 M.mw, .int .i64 M.ms, .int .i64 M.mc, vF, vS] [.slice A n c] rfl rfl rfl ?_; simp only [Act.put]; clear tok4) | (go_at_call 9; (with_reducible refine (HCM.out _ (HM.out.below HB.out)).mono ?_); rintro e w1 ⟨rfl, hb1⟩; have nHX := Lib.hid (HX.out.below hb1); have nHY := Lib.hid (HY.out.below hb1); have nHB := Lib.hid (bthen HB.out hb1); have zz1 := hb1.size; clear HX HY HB hb1; have HX := nHX; have HY := nHY; have HB := nHB; clear nHX nHY nHB; (try clear zHX); have zHX := HX.out.lt; (try clear cHX19); have cHX19 := HX.out.cell 19) | (have _t := tok5; refine wpl_mid_g ?_ 29 _ rfl w.heap.size 0 rfl 34 #[.int .i64 M.places, .int .i64 M.any.a0, .int .i64 M.any.a1, .int .i64 M.any.a2, .int .i64 M.any.a3, .int .i64 M.any.a4, .int .i64 M.any.a5, .bool M.any.i, .bool M.any.s, .int .i64 M.mw, .int .i64 M.ms, .int .i64 M.mc, vF, vS, .int .i64 lw, .int .i64 ls, .int .i64 lc, .bool li, .bool lb, .slice A n c] #[.int .i64 M.places, .int .i64 M.any.a0, .int .i64 M.any.a1, .int .i64 M.any.a2, .int .i64 M.any.a3, .int .i64 M.any.a4, .int .i64 M.any.a5, .bool M.any.i, .bool M.any.s, .int .i64 M.mw, .int .i64 M.ms, .int .i64 M.mc, vF, vS] 14 HX.out Tryz.rowMet [] [.int .i64 lw, .int .i64 ls, .int .i64 lc, .bool li, .bool lb, .slice A n c] rfl rfl rfl ?_; (focus rfl); simp only [Act.put]; clear tok5) | (have _t := tok6; refine wpl_row_g ?_ 37 (.tmp 3) rfl _ rfl #[vR, .int .i64 F.dep, .int .i64 F.fuel, .int .i64 F.burn, .int .i64 F.res] 5 HY.out Tryz.rowFli rfl ?_; (focus rfl); simp only [Act.put]; clear tok6) | ((with_reducible refine (HCK.out _ (HM.out.below HB.out) (HL.out.below HB.out) (HR.out.below HB.out)).mono ?_); rintro e w1 ⟨rfl, hb1⟩; have nHX := Lib.hid (HX.out.below hb1); have nHY := Lib.hid (HY.out.below hb1); have nHB := Lib.hid (bthen HB.out hb1); have zz1 := hb1.size; clear HX HY HB hb1; have HX := nHX; have HY := nHY; have HB := nHB; clear nHX nHY nHB; (try clear zHX); have zHX := HX.out.lt; (try clear cHX19); have cHX19 := HX.out.cell 19))
    go_ret
    exact ⟨⟨false, rfl, fun h => nomatch h⟩, HB.out⟩
  subst h1
  go_enter Tryz.func21, Tryz.ntmps21
  go_wp2_with (first | (have _t := tok0; generalize hWX : World.alloc (World.alloc w _) _ = W; clear tok0; have _x := duo_r w #[.int .i64 M.places, .int .i64 M.any.a0, .int .i64 M.any.a1, .int .i64 M.any.a2, .int .i64 M.any.a3, .int .i64 M.any.a4, .int .i64 M.any.a5, .bool M.any.i, .bool M.any.s, .int .i64 M.mw, .int .i64 M.ms, .int .i64 M.mc, vF, vS, .int .i64 lw, .int .i64 ls, .int .i64 lc, .bool li, .bool lb, .slice A n c] #[vR, .int .i64 F.dep, .int .i64 F.fuel, .int .i64 F.burn, .int .i64 F.res] 34 37; rw [hWX] at _x; clear hWX; have HX := Lib.hid _x.1; have HY := Lib.hid _x.2.1; have HB := Lib.hid _x.2.2; clear _x; have x19 := HX.out.cell 19; simp only [List.getElem?_toArray, List.getElem?_cons_succ, List.getElem?_cons_zero] at x19) | (have _t := tok3; refine wpl_mid rfl 29 _ rfl w.heap.size 0 rfl 34 #[.int .i64 M.places, .int .i64 M.any.a0, .int .i64 M.any.a1, .int .i64 M.any.a2, .int .i64 M.any.a3, .int .i64 M.any.a4, .int .i64 M.any.a5, .bool M.any.i, .bool M.any.s, .int .i64 M.mw, .int .i64 M.ms, .int .i64 M.mc, vF, vS, .int .i64 lw, .int .i64 ls, .int .i64 lc, .bool li, .bool lb, .slice A n c] #[.int .i64 M.places, .int .i64 M.any.a0, .int .i64 M.any.a1, .int .i64 M.any.a2, .int .i64 M.any.a3, .int .i64 M.any.a4, .int .i64 M.any.a5, .bool M.any.i, .bool M.any.s, .int .i64 M.mw, .int .i64 M.ms, .int .i64 M.mc, vF, vS] 14 HX.out Tryz.rowMet [] [.int .i64 lw, .int .i64 ls, .int .i64 lc, .bool li, .bool lb, .slice A n c] rfl rfl rfl ?_; simp only [Act.put]; clear tok3) | (have _t := tok4; refine wpl_mid rfl 31 _ rfl w.heap.size 14 rfl 34 #[.int .i64 M.places, .int .i64 M.any.a0, .int .i64 M.any.a1, .int .i64 M.any.a2, .int .i64 M.any.a3, .int .i64 M.any.a4, .int .i64 M.any.a5, .bool M.any.i, .bool M.any.s, .int .i64 M.mw, .int .i64 M.ms, .int .i64 M.mc, vF, vS, .int .i64 lw, .int .i64 ls, .int .i64 lc, .bool li, .bool lb, .slice A n c] #[.int .i64 lw, .int .i64 ls, .int .i64 lc, .bool li, .bool lb] 5 HX.out Tryz.rowMin [.int .i64 M.places, .int .i64 M.any.a0, .int .i64 M.any.a1, .int .i64 M.any.a2, .int .i64 M.any.a3, .int .i64 M.any.a4, .int .i64 M.any.a5, .bool M.any.i, .bool M.any.s, .int .i64 M.mw, .int .i64 M.ms, .int .i64 M.mc, vF, vS] [.slice A n c] rfl rfl rfl ?_; simp only [Act.put]; clear tok4) | (go_at_call 9; (with_reducible refine (HCM.out _ (HM.out.below HB.out)).mono ?_); rintro e w1 ⟨rfl, hb1⟩; have nHX := Lib.hid (HX.out.below hb1); have nHY := Lib.hid (HY.out.below hb1); have nHB := Lib.hid (bthen HB.out hb1); have zz1 := hb1.size; clear HX HY HB hb1; have HX := nHX; have HY := nHY; have HB := nHB; clear nHX nHY nHB; (try clear zHX); have zHX := HX.out.lt; (try clear cHX19); have cHX19 := HX.out.cell 19) | (have _t := tok5; refine wpl_mid_g ?_ 29 _ rfl w.heap.size 0 rfl 34 #[.int .i64 M.places, .int .i64 M.any.a0, .int .i64 M.any.a1, .int .i64 M.any.a2, .int .i64 M.any.a3, .int .i64 M.any.a4, .int .i64 M.any.a5, .bool M.any.i, .bool M.any.s, .int .i64 M.mw, .int .i64 M.ms, .int .i64 M.mc, vF, vS, .int .i64 lw, .int .i64 ls, .int .i64 lc, .bool li, .bool lb, .slice A n c] #[.int .i64 M.places, .int .i64 M.any.a0, .int .i64 M.any.a1, .int .i64 M.any.a2, .int .i64 M.any.a3, .int .i64 M.any.a4, .int .i64 M.any.a5, .bool M.any.i, .bool M.any.s, .int .i64 M.mw, .int .i64 M.ms, .int .i64 M.mc, vF, vS] 14 HX.out Tryz.rowMet [] [.int .i64 lw, .int .i64 ls, .int .i64 lc, .bool li, .bool lb, .slice A n c] rfl rfl rfl ?_; (focus rfl); simp only [Act.put]; clear tok5) | (have _t := tok6; refine wpl_row_g ?_ 37 (.tmp 3) rfl _ rfl #[vR, .int .i64 F.dep, .int .i64 F.fuel, .int .i64 F.burn, .int .i64 F.res] 5 HY.out Tryz.rowFli rfl ?_; (focus rfl); simp only [Act.put]; clear tok6) | ((with_reducible refine (HCK.out _ (HM.out.below HB.out) (HL.out.below HB.out) (HR.out.below HB.out)).mono ?_); rintro e w1 ⟨rfl, hb1⟩; have nHX := Lib.hid (HX.out.below hb1); have nHY := Lib.hid (HY.out.below hb1); have nHB := Lib.hid (bthen HB.out hb1); have zz1 := hb1.size; clear HX HY HB hb1; have HX := nHX; have HY := nHY; have HB := nHB; clear nHX nHY nHB; (try clear zHX); have zHX := HX.out.lt; (try clear cHX19); have cHX19 := HX.out.cell 19) | (have _t := tok7; refine wpl_row_g ?_ 34 (.tmp 2) rfl _ rfl #[.int .i64 M.places, .int .i64 M.any.a0, .int .i64 M.any.a1, .int .i64 M.any.a2, .int .i64 M.any.a3, .int .i64 M.any.a4, .int .i64 M.any.a5, .bool M.any.i, .bool M.any.s, .int .i64 M.mw, .int .i64 M.ms, .int .i64 M.mc, vF, vS, .int .i64 lw, .int .i64 ls, .int .i64 lc, .bool li, .bool lb, .slice A n c] 20 HX.out Tryz.rowPlan rfl ?_; (focus rfl); simp only [Act.put]; clear tok7) | (have _t := tok8; refine wpl_row_g ?_ 37 (.tmp 3) rfl _ rfl #[vR, .int .i64 F.dep, .int .i64 F.fuel, .int .i64 F.burn, .int .i64 F.res] 5 HY.out Tryz.rowFli rfl ?_; (focus rfl); simp only [Act.put]; clear tok8))
  refine (HLO.out _ (HM.out.below HB.out) (HL.out.below HB.out) (HR.out.below HB.out)).mono ?_
  rintro e w2 ⟨⟨bb, rfl⟩, hb2⟩
  have HB2 := Lib.hid (bthen HB.out hb2)
  clear HX HY HB hb2
  cases bb
  · go_wp2_with (fail)
    go_ret
    exact ⟨⟨_, rfl, fun _ => by constructor <;> trivial⟩, HB2.out⟩
  · go_wp2_with (fail)
    go_ret
    exact ⟨⟨_, rfl, fun _ => by constructor <;> trivial⟩, HB2.out⟩
end Go.Proofs.YtonfnhonbnfdoaaGreat

namespace Go.Proofs.YtonfnhonbnfdoaaGreat
open Go Go.RowKit Go.Proofs

theorem keyLe_trans (key : Nat → Int) (a b c : Nat) (h1 : (!keyLt key (fun i => (i : Int)) b a) = true) (h2 : (!keyLt key (fun i => (i : Int)) c b) = true) : (!keyLt key (fun i => (i : Int)) c a) = true := by
  unfold keyLt at *
  simp only [Bool.not_eq_true', Bool.or_eq_false_iff, Bool.and_eq_false_iff, decide_eq_false_iff_not] at *
  omega
theorem keyLe_total (key : Nat → Int) (a b : Nat) : ((!keyLt key (fun i => (i : Int)) b a) || (!keyLt key (fun i => (i : Int)) a b)) = true := by
  unfold keyLt
  simp only [Bool.or_eq_true, Bool.not_eq_true', Bool.or_eq_false_iff, Bool.and_eq_false_iff, decide_eq_false_iff_not]
  omega
theorem stab_pair (key : Nat → Int) (l : List Nat) : (stab key l).Pairwise fun a b => (!keyLt key (fun i => (i : Int)) b a) = true := by
  unfold stab
  exact List.pairwise_mergeSort (keyLe_trans key) (keyLe_total key) l
section
variable {M : MetD} {n : Nat} (hb : M.bad = false) (hn : n < M.m) (hmax : ∀ i, i < M.m → M.E i 0 = M.E n 0 → M.E i 1 < M.E n 1 ∨ (M.E i 1 = M.E n 1 ∧ i ≤ n))
include hb hn
include hmax
end
end Go.Proofs.YtonfnhonbnfdoaaGreat

namespace Go.Proofs.YtonfnhonbnfdoaaGreat
open Go Go.RowKit Go.Proofs

def inkP (a b c d : Int) : Bool := decide (c ≤ a) && decide (b ≤ d)
def partB (x y : Sk) : Bool := inkP x.a0 x.a1 y.a0 y.a1 && (inkP x.a2 x.a3 y.a2 y.a3 && (inkP x.a4 x.a5 y.a4 y.a5 && ((!x.i || y.i) && (!x.s || y.s))))
theorem keyLe_anti {key : Nat → Int} {a b : Nat} (h1 : (!keyLt key (fun i => (i : Int)) b a) = true) (h2 : (!keyLt key (fun i => (i : Int)) a b) = true) : a = b := by
  unfold keyLt at *
  simp only [Bool.not_eq_true', Bool.or_eq_false_iff, Bool.and_eq_false_iff, decide_eq_false_iff_not] at *
  omega
theorem stab_perm (key : Nat → Int) (l : List Nat) : (stab key l).Perm l := by unfold stab; exact List.mergeSort_perm _ _
/-- The one order. -/
theorem stab_unique {key : Nat → Int} {l l' : List Nat} (hp : l'.Perm l) (hs : l'.Pairwise fun a b => (!keyLt key (fun i => (i : Int)) b a) = true) : stab key l = l' :=
  List.Perm.eq_of_pairwise (le := fun a b => (!keyLt key (fun i => (i : Int)) b a) = true) (fun a b _ _ h1 h2 => keyLe_anti h1 h2) (stab_pair key l) hs ((stab_perm key l).trans hp.symm)
theorem stab_congr {key key' : Nat → Int} {l : List Nat} (h : ∀ i ∈ l, key' i = key i) : stab key' l = stab key l := by
  refine stab_unique (stab_perm key l) ?_
  refine (stab_pair key l).imp_of_mem (fun {a b} ha hb hab => ?_)
  have e1 := h a (stab_mem.1 ha)
  have e2 := h b (stab_mem.1 hb)
  unfold keyLt at *
  rw [e1, e2]
  exact hab
theorem stab_snoc {key key' : Nat → Int} {l : List Nat} {n : Nat} (h : ∀ i ∈ l, key' i = key i) (hl : ∀ i ∈ l, i < n) (hn : ∀ i ∈ l, key i ≤ key' n) : stab key' (l ++ [n]) = stab key l ++ [n] := by
  refine stab_unique ((stab_perm key l).append_right [n]) ?_
  rw [List.pairwise_append]
  refine ⟨?_, List.pairwise_singleton _ _, ?_⟩
  · rw [← stab_congr h]; exact stab_pair key' l
  · intro a ha b hb
    obtain rfl := List.mem_singleton.1 hb
    have ha' := stab_mem.1 ha
    have h1 := h a ha'
    have h2 := hl a ha'
    have h3 := hn a ha'
    unfold keyLt
    simp only [Bool.not_eq_true', Bool.or_eq_false_iff, Bool.and_eq_false_iff, decide_eq_false_iff_not]
    omega
/-- A met with one more forecast. -/
def MetD.plus (M : MetD) (d : Nat → Int) (b : Nat → Bool) : MetD := { M with n := M.n + 1, D := fun i j => if i < M.n then M.D i j else d j, B := fun i j => if i < M.n then M.B i j else b j }
section
variable {M : MetD} {d : Nat → Int} {b : Nat → Bool}
theorem plus_D {i j : Nat} (h : i < M.n) : (M.plus d b).D i j = M.D i j := by show (if i < M.n then _ else _) = _; rw [if_pos h]
theorem plus_B {i j : Nat} (h : i < M.n) : (M.plus d b).B i j = M.B i j := by show (if i < M.n then _ else _) = _; rw [if_pos h]
theorem plus_Dn {j : Nat} : (M.plus d b).D M.n j = d j := by show (if M.n < M.n then _ else _) = _; rw [if_neg (by omega)]
theorem plus_Bn {j : Nat} : (M.plus d b).B M.n j = b j := by show (if M.n < M.n then _ else _) = _; rw [if_neg (by omega)]
theorem plus_cov (p t : Int) : (M.plus d b).cov p t M.n = M.cov p t M.n := by
  unfold MetD.cov
  refine List.filter_congr (fun i hi => ?_)
  have := List.mem_range.1 hi
  unfold MetD.covP
  rw [plus_D this, plus_D this, plus_D this]
theorem plus_fc {i : Nat} (h : i < M.n) : (M.plus d b).fc i = M.fc i := by
  unfold MetD.fc
  rw [plus_D h, plus_D h, plus_D h, plus_D h, plus_D h, plus_D h, plus_B h, plus_B h]
theorem plus_step {i : Nat} (h : i < M.n) (x : Sk) : (M.plus d b).stepF x i = M.stepF x i := by
  unfold MetD.stepF
  rw [plus_fc h, plus_B h, plus_B h]
theorem plus_fold (l : List Nat) (hl : ∀ i ∈ l, i < M.n) : ∀ x : Sk, l.foldl (M.plus d b).stepF x = l.foldl M.stepF x := by
  induction l with
  | nil => intro x; rfl
  | cons i l ih =>
    intro x
    rw [List.foldl_cons, List.foldl_cons, plus_step (hl i (by simp)), ih (fun j hj => hl j (by simp [hj]))]
theorem odd_snoc (M : MetD) (n : Nat) : ∀ (l : List Nat) (x : Sk), n ∉ M.oddF x (l ++ [n]) → (l.foldl M.stepF x).odd (M.fc n) = false
  | [], x, h => by
    cases hq : x.odd (M.fc n)
    · exact hq
    · rw [List.nil_append] at h; unfold MetD.oddF at h; rw [hq, if_pos rfl] at h; simp at h
  | i :: l, x, h => by
    rw [List.foldl_cons]
    refine odd_snoc M n l _ (fun hm => h ?_)
    rw [List.cons_append]
    unfold MetD.oddF
    split
    · exact List.mem_cons_of_mem _ hm
    · exact hm
theorem cu_sub {al ah bl bh : Int} (h : cuF al ah bl bh = false) : inkP (cuL al ah bl bh) (cuH al ah bl bh) al ah = true := by
  unfold cuF at h
  simp only [Bool.not_eq_false', decide_eq_true_eq] at h
  unfold inkP cuL cuH
  rw [if_pos h, if_pos h, Bool.and_eq_true, decide_eq_true_eq, decide_eq_true_eq]
  omega
theorem inkP_refl (a c : Int) : inkP a c a c = true := by unfold inkP; simp
theorem part_refl (x : Sk) : partB x x = true := by
  unfold partB
  rw [inkP_refl, inkP_refl, inkP_refl]
  cases x.i <;> cases x.s <;> rfl
theorem part_cut (M : MetD) (x : Sk) (n : Nat) (h : x.odd (M.fc n) = false) : partB (M.stepF x n) x = true := by
  unfold Sk.odd skF at h
  simp only [Bool.or_eq_false_iff] at h
  unfold partB MetD.stepF Sk.cut
  dsimp only
  rw [cu_sub h.1, cu_sub h.2.1, cu_sub h.2.2]
  cases x.i <;> cases x.s <;> simp
theorem cuts_law {p t : Int} (hi : ∀ i, i < M.n → M.D i 3 ≤ d 3) (hs : ∀ i, i < M.m → M.E i 0 ≠ p) (ho : M.n ∉ (M.plus d b).odd p t) : partB ((M.plus d b).may p t) (M.may p t) = true := by
  have s1 : ∀ M' : MetD, M'.m = M.m → (∀ i, i < M.m → M'.E i 0 = M.E i 0) → M'.ordS p t = [] := by
    intro M' hm hE
    unfold MetD.ordS
    have : M'.sen p t M'.m = [] := by
      unfold MetD.sen
      rw [List.filter_eq_nil_iff]
      intro i hi'
      have hlt := List.mem_range.1 hi'
      rw [hm] at hlt
      unfold MetD.senP
      rw [hE i hlt, decide_eq_false (hs i hlt)]
      simp
    rw [this]; simp [stab]
  unfold MetD.may
  rw [s1 M rfl (fun _ _ => rfl), s1 (M.plus d b) rfl (fun _ _ => rfl)]
  show partB ((M.plus d b).skyF _) (M.skyF _) = true
  unfold MetD.odd at ho
  unfold MetD.skyF
  have hcl : ∀ i ∈ M.cov p t M.n, i < M.n := fun i hi => M.cov_lt hi
  have hol : ∀ i ∈ M.ordF p t, i < M.n := fun i hi => by unfold MetD.ordF at hi; exact hcl i (stab_mem.1 hi)
  have hk : ∀ i ∈ M.cov p t M.n, (fun i => (M.plus d b).D i 3) i = (fun i => M.D i 3) i := fun i hi => plus_D (hcl i hi)
  have hcov : (M.plus d b).cov p t (M.plus d b).n = M.cov p t M.n ++ (if (M.plus d b).covP p t M.n then [M.n] else []) := by
    show (M.plus d b).cov p t (M.n + 1) = _
    rw [MetD.cov_succ, plus_cov]
  cases hc : (M.plus d b).covP p t M.n
  · have e : (M.plus d b).ordF p t = M.ordF p t := by
      unfold MetD.ordF
      rw [hcov, hc, if_neg (by decide), List.append_nil, stab_congr hk]
    rw [e, plus_fold _ hol]
    exact part_refl _
  · have e : (M.plus d b).ordF p t = M.ordF p t ++ [M.n] := by
      unfold MetD.ordF
      rw [hcov, hc, if_pos rfl, stab_snoc hk hcl (fun i hi' => by show M.D i 3 ≤ (M.plus d b).D M.n 3; rw [plus_Dn]; exact hi i (hcl i hi'))]
    rw [e] at ho ⊢
    have h := odd_snoc (M.plus d b) M.n _ _ ho
    rw [List.foldl_append]
    have := part_cut (M.plus d b) _ M.n h
    rw [plus_fold _ hol] at this ⊢
    exact this
end
end Go.Proofs.YtonfnhonbnfdoaaGreat

namespace Go.Proofs.YtonfnhonbnfdoaaGreat
open Go Go.RowKit Go.Proofs
theorem wpl_append_nilk {P : Program} {w : World} {ops : Array Oper} {rest : List Oper} {o : Oper} {a : Act} {Q : Exit → Act → World → Prop}
    (hg : o.guard = none) (s x : Operand) (t : TypeId) (hop : o.op = Op.call { callee := Callee.builtin Builtin.append, args := #[s, x], argTypes := #[t, t] })
    (e : TypeId) (i : TypeInfo) (z : Value) (sz bytes : Nat) (h1 : P.underlying t = some (.slice e)) (h2 : P.info? e = some i) (h3 : i.zero = some z) (h4 : i.size = sz) (h5 : i.bytes = bytes) (h6 : z.cells.size = sz) (h7 : 0 < sz)
    (hs : a.eval s = .slice none 0 0) (base : Nat) (hbg : base ≤ w.heap.size)
    (A : Option Addr) (m c : Nat) (hx : a.eval x = .slice A m c) (f : Nat → Value) (hA : 0 < m * sz → ∃ b off, A = some ⟨b, off, none⟩ ∧ ∀ k, k < m * sz → w.cell? ⟨b, off + k, none⟩ = some (f k)) (hone : ∀ k, k < m * sz → (f k).oneCell' = true)
    (b1 : m ≤ maxLen) (b2 : m * bytes ≤ 140737488355328)
    (K : ∀ v' w', w'.ownsRow base e sz v' m ((List.range (m * sz)).map f) → Below w.heap.size w w' → wpList P ops Q rest (a.put o.dst v') w') :
    wpList P ops Q (o :: rest) a w := by
  by_cases hm : m = 0
  · subst hm
    refine wpList_plain hg fun K' hK' => ?_
    have hrun : (Builtin.append_ #[t, t] o.type #[.slice none 0 0, .slice A 0 c]).run P w = .ok (.slice none 0 0) w := by
      cases A with
      | none => simp [Builtin.append_, run_underlying h1, sizeOf, typeInfo, h2, Builtin.lenOf, Builtin.firstCells, storeCells]
      | some ad => simp [Builtin.append_, run_underlying h1, sizeOf, typeInfo, h2, Builtin.lenOf, Builtin.firstCells, storeCells, loadCells, loadCellsFrom]
    unfold Oper.wp
    simp [execOp, hop, resolve, invoke, builtin, hs, hx, hrun, Result.andThen]
    exact hK' _ _ (K _ w ⟨by simp, .inl ⟨rfl, by simp⟩⟩ (Below.refl _ _))
  · obtain ⟨b, off, rfl, hc⟩ := hA (Nat.mul_pos (by omega) h7)
    refine wpList_append_grows w hg s x t hop e i z sz bytes h1 h2 h3 h4 h5 h6 h7 none 0 0 [] hs (fun _ => ⟨rfl, rfl⟩) (by simp) (fun _ _ j u h => by simp at h)
      ⟨b, off, none⟩ m c ((List.range (m * sz)).map f) hx (by simp) (fun j u h => ?_) (fun u hu => ?_) (by omega) (by omega) (by simpa using b2) (fun v' w' ho hgr => ?_)
    · have hj : j < m * sz := by
        have := (List.getElem?_eq_some_iff.1 h).1; simpa using this
      have : u = f j := by simp [hj] at h; exact h.symm
      subst this
      have hadd : (⟨b, off, none⟩ : Addr).add j = ⟨b, off + j, none⟩ := by unfold Addr.add; split <;> simp_all
      rw [hadd]; exact hc j hj
    · obtain ⟨k, hk, rfl⟩ := List.mem_map.1 hu
      exact hone k (List.mem_range.1 hk)
    · rw [Nat.zero_add, List.nil_append] at ho
      exact K v' w' (ownsRow_base ho hbg) (below_of_none hgr)
end Go.Proofs.YtonfnhonbnfdoaaGreat

namespace Go.Proofs.YtonfnhonbnfdoaaGreat
open Go Go.RowKit Go.Proofs
set_option maxRecDepth 100000
set_option maxHeartbeats 8000000
theorem atE_ok2 {M : MetD} {p t : Int} (h : atE M p t = 0) : M.Ok ∧ 0 ≤ t ∧ t ≤ 2000 := by
  unfold atE at h
  cases hb : M.bad
  · rw [hb, if_neg (by decide)] at h
    cases b1 : inB p 0 (M.places - 1)
    · rw [b1] at h; cases h
    · cases b2 : inB t 0 2000
      · rw [b1, b2] at h; cases h
      · exact ⟨MetD.ok_of hb, inB_iff.1 b2⟩
  · rw [hb, if_pos rfl] at h; cases h
theorem wStrange_c (M : MetD) (vF vS : Value) (p t : Int) (w : World) (hA : MetAt w vF vS M) :
   Calls Tryz.prog 24 #[.agg #[.int .i64 M.places, .int .i64 M.any.a0, .int .i64 M.any.a1, .int .i64 M.any.a2, .int .i64 M.any.a3, .int .i64 M.any.a4, .int .i64 M.any.a5, .bool M.any.i, .bool M.any.s, .int .i64 M.mw, .int .i64 M.ms, .int .i64 M.mc, vF, vS], .int .i64 p, .int .i64 t] w fun e w' => ∃ (v : Value) (ys : List Nat), e = .returned (.tuple #[v, .int .i64 (atE M p t)]) ∧ Below w.heap.size w w' ∧ (atE M p t = 0 → Ints w' v (ys.map castI) ∧ ys.Perm (M.odd p t)) := by
  have HA := Lib.hid hA
  have hat := fun w1 h => wcheckAt_c M vF vS p t t w1 h
  clear hA
  by_cases he : atE M p t = 0
  · obtain ⟨hM, ht0, ht1⟩ := atE_ok2 he
    have hmy := fun w1 h => may_c M vF vS p t w1 hM h ht0 ht1
    rw [he] at hat ⊢
    rcases hx : M.may p t with ⟨a0, a1, a2, a3, a4, a5, xi, xs⟩
    rw [hx] at hmy
    unfold Sk.cells at *
    dsimp only at hmy ⊢
    have HMY := Lib.hid hmy
    have HAT := Lib.hid hat
    clear hmy hx hat hM he
    go_enter Tryz.func24, Tryz.ntmps24
    go_wp2_with (fail)
    have _x := frm1 w #[.int .i64 M.places, .int .i64 M.any.a0, .int .i64 M.any.a1, .int .i64 M.any.a2, .int .i64 M.any.a3, .int .i64 M.any.a4, .int .i64 M.any.a5, .bool M.any.i, .bool M.any.s, .int .i64 M.mw, .int .i64 M.ms, .int .i64 M.mc, vF, vS] 29
    have HX := Lib.hid _x.1
    have HB := Lib.hid _x.2.1
    have zW := _x.2.2
    clear _x
    generalize World.alloc w _ = W at *
    have hM2 := Lib.hid (fun r : After _ => HX.out.below r.below)
    have hA2 := Lib.hid (fun r : After _ => (HA.out.below HB.out).below r.below)
    refine wp_region_aftert 5 (by kernel_rfl) (by kernel_rfl) ?_
    simp only [List.take_succ_cons, List.take_zero, List.drop_succ_cons, List.drop_zero]
    refine wpq_row rfl 29 _ rfl _ rfl _ 14 (fun _ hw => by obtain ⟨r, rfl⟩ := hw; exact hM2.out r) Tryz.rowMet rfl ?_
    simp only [Act.put, List.setIfInBounds_toArray, List.set_cons_succ, List.set_cons_zero]
    iterate 2 (go_big_quiet_step (fail))
    go_big_quiet_step (first | (go_at_call 41; (with_reducible refine qafter (wat_c _ _ _))))
    go_big_quiet_step (first | (go_at_call 40; (with_reducible refine qafter (HAT.out _ (hA2.out _)))))
    refine wpQuiet_nil ?_
    rintro _ ⟨r, rfl⟩
    have BR := r.below
    clear hM2 hA2
    generalize r.w = wr at *
    have nHX := Lib.hid (HX.out.below BR)
    have nHB := Lib.hid (bthen HB.out BR)
    clear HX HB BR
    have HX := nHX
    have HB := nHB
    clear nHX nHB
    go_wp2_with (first | (refine wpl_row rfl 29 _ rfl _ rfl #[.int .i64 M.places, .int .i64 M.any.a0, .int .i64 M.any.a1, .int .i64 M.any.a2, .int .i64 M.any.a3, .int .i64 M.any.a4, .int .i64 M.any.a5, .bool M.any.i, .bool M.any.s, .int .i64 M.mw, .int .i64 M.ms, .int .i64 M.mc, vF, vS] 14 HX.out Tryz.rowMet rfl ?_; simp only [Act.put]))
    refine (HMY.out _ (HA.out.below HB.out)).mono ?_
    rintro _ wq ⟨v, ys, rfl, hb1, hi, hp⟩
    have HI := Lib.hid hi
    have HP := Lib.hid hp
    clear hi hp
    have nHX := Lib.hid (HX.out.below hb1)
    have nHB := Lib.hid (bthen HB.out hb1)
    clear HX HB hb1
    have HX := nHX
    have HB := nHB
    clear nHX nHB
    go_wp2_with (fail)
    go_ret2
    exact ⟨_, ys, rfl, bal HB.out _, fun _ => ⟨HI.out.below (bal (Below.refl _ _) _), HP.out⟩⟩
  · have hez : (atE M p t != 0) = true := by simpa using he
    have HE := Lib.hid he
    generalize atE M p t = E at *
    have HAT := Lib.hid hat
    clear hat he
    go_enter Tryz.func24, Tryz.ntmps24
    go_wp2_with (fail)
    have _x := frm1 w #[.int .i64 M.places, .int .i64 M.any.a0, .int .i64 M.any.a1, .int .i64 M.any.a2, .int .i64 M.any.a3, .int .i64 M.any.a4, .int .i64 M.any.a5, .bool M.any.i, .bool M.any.s, .int .i64 M.mw, .int .i64 M.ms, .int .i64 M.mc, vF, vS] 29
    have HX := Lib.hid _x.1
    have HB := Lib.hid _x.2.1
    have zW := _x.2.2
    clear _x
    generalize World.alloc w _ = W at *
    have hM2 := Lib.hid (fun r : After _ => HX.out.below r.below)
    have hA2 := Lib.hid (fun r : After _ => (HA.out.below HB.out).below r.below)
    refine wp_region_aftert 5 (by kernel_rfl) (by kernel_rfl) ?_
    simp only [List.take_succ_cons, List.take_zero, List.drop_succ_cons, List.drop_zero]
    refine wpq_row rfl 29 _ rfl _ rfl _ 14 (fun _ hw => by obtain ⟨r, rfl⟩ := hw; exact hM2.out r) Tryz.rowMet rfl ?_
    simp only [Act.put, List.setIfInBounds_toArray, List.set_cons_succ, List.set_cons_zero]
    iterate 2 (go_big_quiet_step (fail))
    go_big_quiet_step (first | (go_at_call 41; (with_reducible refine qafter (wat_c _ _ _))))
    go_big_quiet_step (first | (go_at_call 40; (with_reducible refine qafter (HAT.out _ (hA2.out _)))))
    refine wpQuiet_nil ?_
    rintro _ ⟨r, rfl⟩
    have BR := r.below
    clear hM2 hA2
    generalize r.w = wr at *
    have nHX := Lib.hid (HX.out.below BR)
    have nHB := Lib.hid (bthen HB.out BR)
    clear HX HB BR
    have HX := nHX
    have HB := nHB
    clear nHX nHB
    go_wp2_with (fail)
    go_ret2
    exact ⟨_, [], rfl, HB.out, fun h => absurd h HE.out⟩
end Go.Proofs.YtonfnhonbnfdoaaGreat
