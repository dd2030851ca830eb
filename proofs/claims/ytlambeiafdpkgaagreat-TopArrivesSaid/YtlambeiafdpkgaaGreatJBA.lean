/- Texts joined: JBA. -/
import Derived.Test.YtlambeiafdpkgaaGreatDkO
import Derived.Test.YtlambeiafdpkgaaGreatJAX
import Derived.Test.YtlambeiafdpkgaaGreatJAZ
import Derived.Test.YtlambeiafdpkgaaGreatJAP
set_option linter.all false
namespace Go.Proofs.YtlambeiafdpkgaaGreat
open Go Go.RowKit Go.Proofs
set_option maxRecDepth 100000
set_option maxHeartbeats 8000000
def caE (D : DekD) (M : MetD) (Mo : MovD) (a : AppD) (r : Bool) : Int := if scE D M Mo = 0 then (if appE M a = 0 then (if r then 0 else 1) else appE M a) else scE D M Mo
theorem Tryz.rowScn : RowTy Tryz.prog 98 27 := ⟨by kernel_rfl, by kernel_rfl⟩
theorem Tryz.rowApp : RowTy Tryz.prog 43 10 := ⟨by kernel_rfl, by kernel_rfl⟩
theorem dcheckApproach_c (D : DekD) (vA vB vC : Value) (M : MetD) (vF vS : Value) (Mo : MovD) (vP vR vV : Value) (a : AppD) (r : Bool) (w : World) (hD : DekAt w vA vB vC D) (hA : MetAt w vF vS M) (hV : MovAt w vP vR vV Mo) :
  Calls Tryz.prog 27 #[.agg #[.int .i64 D.size, .int .i64 D.load, .int .i64 D.wind, vA, .int .i64 D.pitch, .int .i64 D.roll, .int .i64 D.heave, .int .i64 D.fire, vB, vC, .int .i64 M.places, .int .i64 M.any.a0, .int .i64 M.any.a1, .int .i64 M.any.a2, .int .i64 M.any.a3, .int .i64 M.any.a4, .int .i64 M.any.a5, .bool M.any.i, .bool M.any.s, .int .i64 M.mw, .int .i64 M.ms, .int .i64 M.mc, vF, vS, vP, vR, vV], .agg #[.int .i64 a.size, .int .i64 a.weight, .int .i64 a.lw, .int .i64 a.ls, .int .i64 a.lc, .bool a.li, .bool a.lt, .int .i64 a.place, .int .i64 a.lo, .int .i64 a.hi], .bool r] w fun e w' => e = .returned (.int .i64 (caE D M Mo a r)) ∧ Below w.heap.size w w' := by
 have HD := hI9 hD
 have HA := hI9 hA
 have HV := hI9 hV
 have hsc := fun w1 h1 h2 h3 => dscheck_c D vA vB vC M vF vS Mo vP vR vV w1 h1 h2 h3
 have hap := fun w1 h => dapproach_c D vA vB vC M vF vS vP vR vV a w1 h
 clear hD hA hV
 unfold caE
 by_cases he : scE D M Mo = 0
 ·rw [if_pos he]
  rw [he] at hsc
  have HSC := hI9 hsc
  clear hsc he
  by_cases hm : appE M a = 0
  ·rw [if_pos hm]
   rw [hm] at hap
   have HAP := hI9 hap
   clear hap hm
   cases r
   ·rw [if_neg (by decide)]
    go_enter Tryz.func27, Tryz.ntmps27
    go_wp2_with (refine wpl_row rfl 98 _ rfl _ rfl #[.int .i64 D.size, .int .i64 D.load, .int .i64 D.wind, vA, .int .i64 D.pitch, .int .i64 D.roll, .int .i64 D.heave, .int .i64 D.fire, vB, vC, .int .i64 M.places, .int .i64 M.any.a0, .int .i64 M.any.a1, .int .i64 M.any.a2, .int .i64 M.any.a3, .int .i64 M.any.a4, .int .i64 M.any.a5, .bool M.any.i, .bool M.any.s, .int .i64 M.mw, .int .i64 M.ms, .int .i64 M.mc, vF, vS, vP, vR, vV] 27 ?_ Tryz.rowScn rfl ?_; (focus exact (by repeat (first | (refine Blk.newAt _ _ _ ?_; first | rfl | (simp; done)) | refine Blk.alloc ?_ _))); simp only [Act.put])
    have _x := frm2 w #[.int .i64 D.size, .int .i64 D.load, .int .i64 D.wind, vA, .int .i64 D.pitch, .int .i64 D.roll, .int .i64 D.heave, .int .i64 D.fire, vB, vC, .int .i64 M.places, .int .i64 M.any.a0, .int .i64 M.any.a1, .int .i64 M.any.a2, .int .i64 M.any.a3, .int .i64 M.any.a4, .int .i64 M.any.a5, .bool M.any.i, .bool M.any.s, .int .i64 M.mw, .int .i64 M.ms, .int .i64 M.mc, vF, vS, vP, vR, vV] 98 #[.int .i64 a.size, .int .i64 a.weight, .int .i64 a.lw, .int .i64 a.ls, .int .i64 a.lc, .bool a.li, .bool a.lt, .int .i64 a.place, .int .i64 a.lo, .int .i64 a.hi] 43
    have HX := hI9 _x.1
    have HY := hI9 _x.2.1
    have HB := hI9 _x.2.2.1
    have zW := _x.2.2.2
    clear _x
    generalize World.alloc (World.alloc w _) _ = W at *
    go_wp2_with (first | (refine wpl_row rfl 98 _ rfl _ rfl #[.int .i64 D.size, .int .i64 D.load, .int .i64 D.wind, vA, .int .i64 D.pitch, .int .i64 D.roll, .int .i64 D.heave, .int .i64 D.fire, vB, vC, .int .i64 M.places, .int .i64 M.any.a0, .int .i64 M.any.a1, .int .i64 M.any.a2, .int .i64 M.any.a3, .int .i64 M.any.a4, .int .i64 M.any.a5, .bool M.any.i, .bool M.any.s, .int .i64 M.mw, .int .i64 M.ms, .int .i64 M.mc, vF, vS, vP, vR, vV] 27 HX.out Tryz.rowScn rfl ?_; simp only [Act.put]) | (refine wpl_row rfl 43 _ rfl _ rfl #[.int .i64 a.size, .int .i64 a.weight, .int .i64 a.lw, .int .i64 a.ls, .int .i64 a.lc, .bool a.li, .bool a.lt, .int .i64 a.place, .int .i64 a.lo, .int .i64 a.hi] 10 HY.out Tryz.rowApp rfl ?_; simp only [Act.put]) | (go_at_call 45; (with_reducible refine (HSC.out _ (HD.out.below HB.out) (HA.out.below HB.out) (HV.out.below HB.out)).mono ?_); rintro e w1 ⟨rfl, hb1⟩; have nHX := hI9 (HX.out.below hb1); have nHY := hI9 (HY.out.below hb1); have nHB := hI9 (bthen HB.out hb1); have zz1 := hb1.size; clear HX HY HB hb1; have HX := nHX; have HY := nHY; have HB := nHB; clear nHX nHY nHB) | (go_at_call 46; (with_reducible refine (HAP.out _ (HA.out.below HB.out)).mono ?_); rintro e w1 ⟨rfl, hb1⟩; have nHX := hI9 (HX.out.below hb1); have nHY := hI9 (HY.out.below hb1); have nHB := hI9 (bthen HB.out hb1); have zz1 := hb1.size; clear HX HY HB hb1; have HX := nHX; have HY := nHY; have HB := nHB; clear nHX nHY nHB))
    go_ret
    exact ⟨rfl, HB.out⟩
   ·rw [if_pos rfl]
    go_enter Tryz.func27, Tryz.ntmps27
    go_wp2_with (refine wpl_row rfl 98 _ rfl _ rfl #[.int .i64 D.size, .int .i64 D.load, .int .i64 D.wind, vA, .int .i64 D.pitch, .int .i64 D.roll, .int .i64 D.heave, .int .i64 D.fire, vB, vC, .int .i64 M.places, .int .i64 M.any.a0, .int .i64 M.any.a1, .int .i64 M.any.a2, .int .i64 M.any.a3, .int .i64 M.any.a4, .int .i64 M.any.a5, .bool M.any.i, .bool M.any.s, .int .i64 M.mw, .int .i64 M.ms, .int .i64 M.mc, vF, vS, vP, vR, vV] 27 ?_ Tryz.rowScn rfl ?_; (focus exact (by repeat (first | (refine Blk.newAt _ _ _ ?_; first | rfl | (simp; done)) | refine Blk.alloc ?_ _))); simp only [Act.put])
    have _x := frm2 w #[.int .i64 D.size, .int .i64 D.load, .int .i64 D.wind, vA, .int .i64 D.pitch, .int .i64 D.roll, .int .i64 D.heave, .int .i64 D.fire, vB, vC, .int .i64 M.places, .int .i64 M.any.a0, .int .i64 M.any.a1, .int .i64 M.any.a2, .int .i64 M.any.a3, .int .i64 M.any.a4, .int .i64 M.any.a5, .bool M.any.i, .bool M.any.s, .int .i64 M.mw, .int .i64 M.ms, .int .i64 M.mc, vF, vS, vP, vR, vV] 98 #[.int .i64 a.size, .int .i64 a.weight, .int .i64 a.lw, .int .i64 a.ls, .int .i64 a.lc, .bool a.li, .bool a.lt, .int .i64 a.place, .int .i64 a.lo, .int .i64 a.hi] 43
    have HX := hI9 _x.1
    have HY := hI9 _x.2.1
    have HB := hI9 _x.2.2.1
    have zW := _x.2.2.2
    clear _x
    generalize World.alloc (World.alloc w _) _ = W at *
    go_wp2_with (first | (refine wpl_row rfl 98 _ rfl _ rfl #[.int .i64 D.size, .int .i64 D.load, .int .i64 D.wind, vA, .int .i64 D.pitch, .int .i64 D.roll, .int .i64 D.heave, .int .i64 D.fire, vB, vC, .int .i64 M.places, .int .i64 M.any.a0, .int .i64 M.any.a1, .int .i64 M.any.a2, .int .i64 M.any.a3, .int .i64 M.any.a4, .int .i64 M.any.a5, .bool M.any.i, .bool M.any.s, .int .i64 M.mw, .int .i64 M.ms, .int .i64 M.mc, vF, vS, vP, vR, vV] 27 HX.out Tryz.rowScn rfl ?_; simp only [Act.put]) | (refine wpl_row rfl 43 _ rfl _ rfl #[.int .i64 a.size, .int .i64 a.weight, .int .i64 a.lw, .int .i64 a.ls, .int .i64 a.lc, .bool a.li, .bool a.lt, .int .i64 a.place, .int .i64 a.lo, .int .i64 a.hi] 10 HY.out Tryz.rowApp rfl ?_; simp only [Act.put]) | (go_at_call 45; (with_reducible refine (HSC.out _ (HD.out.below HB.out) (HA.out.below HB.out) (HV.out.below HB.out)).mono ?_); rintro e w1 ⟨rfl, hb1⟩; have nHX := hI9 (HX.out.below hb1); have nHY := hI9 (HY.out.below hb1); have nHB := hI9 (bthen HB.out hb1); have zz1 := hb1.size; clear HX HY HB hb1; have HX := nHX; have HY := nHY; have HB := nHB; clear nHX nHY nHB) | (go_at_call 46; (with_reducible refine (HAP.out _ (HA.out.below HB.out)).mono ?_); rintro e w1 ⟨rfl, hb1⟩; have nHX := hI9 (HX.out.below hb1); have nHY := hI9 (HY.out.below hb1); have nHB := hI9 (bthen HB.out hb1); have zz1 := hb1.size; clear HX HY HB hb1; have HX := nHX; have HY := nHY; have HB := nHB; clear nHX nHY nHB))
    go_ret
    exact ⟨rfl, HB.out⟩
  ·rw [if_neg hm]
   have hmz : (appE M a != 0) = true := by simpa using hm
   clear hm
   generalize appE M a = E at *
   have HAP := hI9 hap
   clear hap
   go_enter Tryz.func27, Tryz.ntmps27
   go_wp2_with (refine wpl_row rfl 98 _ rfl _ rfl #[.int .i64 D.size, .int .i64 D.load, .int .i64 D.wind, vA, .int .i64 D.pitch, .int .i64 D.roll, .int .i64 D.heave, .int .i64 D.fire, vB, vC, .int .i64 M.places, .int .i64 M.any.a0, .int .i64 M.any.a1, .int .i64 M.any.a2, .int .i64 M.any.a3, .int .i64 M.any.a4, .int .i64 M.any.a5, .bool M.any.i, .bool M.any.s, .int .i64 M.mw, .int .i64 M.ms, .int .i64 M.mc, vF, vS, vP, vR, vV] 27 ?_ Tryz.rowScn rfl ?_; (focus exact (by repeat (first | (refine Blk.newAt _ _ _ ?_; first | rfl | (simp; done)) | refine Blk.alloc ?_ _))); simp only [Act.put])
   have _x := frm2 w #[.int .i64 D.size, .int .i64 D.load, .int .i64 D.wind, vA, .int .i64 D.pitch, .int .i64 D.roll, .int .i64 D.heave, .int .i64 D.fire, vB, vC, .int .i64 M.places, .int .i64 M.any.a0, .int .i64 M.any.a1, .int .i64 M.any.a2, .int .i64 M.any.a3, .int .i64 M.any.a4, .int .i64 M.any.a5, .bool M.any.i, .bool M.any.s, .int .i64 M.mw, .int .i64 M.ms, .int .i64 M.mc, vF, vS, vP, vR, vV] 98 #[.int .i64 a.size, .int .i64 a.weight, .int .i64 a.lw, .int .i64 a.ls, .int .i64 a.lc, .bool a.li, .bool a.lt, .int .i64 a.place, .int .i64 a.lo, .int .i64 a.hi] 43
   have HX := hI9 _x.1
   have HY := hI9 _x.2.1
   have HB := hI9 _x.2.2.1
   have zW := _x.2.2.2
   clear _x
   generalize World.alloc (World.alloc w _) _ = W at *
   go_wp2_with (first | (refine wpl_row rfl 98 _ rfl _ rfl #[.int .i64 D.size, .int .i64 D.load, .int .i64 D.wind, vA, .int .i64 D.pitch, .int .i64 D.roll, .int .i64 D.heave, .int .i64 D.fire, vB, vC, .int .i64 M.places, .int .i64 M.any.a0, .int .i64 M.any.a1, .int .i64 M.any.a2, .int .i64 M.any.a3, .int .i64 M.any.a4, .int .i64 M.any.a5, .bool M.any.i, .bool M.any.s, .int .i64 M.mw, .int .i64 M.ms, .int .i64 M.mc, vF, vS, vP, vR, vV] 27 HX.out Tryz.rowScn rfl ?_; simp only [Act.put]) | (refine wpl_row rfl 43 _ rfl _ rfl #[.int .i64 a.size, .int .i64 a.weight, .int .i64 a.lw, .int .i64 a.ls, .int .i64 a.lc, .bool a.li, .bool a.lt, .int .i64 a.place, .int .i64 a.lo, .int .i64 a.hi] 10 HY.out Tryz.rowApp rfl ?_; simp only [Act.put]) | (go_at_call 45; (with_reducible refine (HSC.out _ (HD.out.below HB.out) (HA.out.below HB.out) (HV.out.below HB.out)).mono ?_); rintro e w1 ⟨rfl, hb1⟩; have nHX := hI9 (HX.out.below hb1); have nHY := hI9 (HY.out.below hb1); have nHB := hI9 (bthen HB.out hb1); have zz1 := hb1.size; clear HX HY HB hb1; have HX := nHX; have HY := nHY; have HB := nHB; clear nHX nHY nHB) | (go_at_call 46; (with_reducible refine (HAP.out _ (HA.out.below HB.out)).mono ?_); rintro e w1 ⟨rfl, hb1⟩; have nHX := hI9 (HX.out.below hb1); have nHY := hI9 (HY.out.below hb1); have nHB := hI9 (bthen HB.out hb1); have zz1 := hb1.size; clear HX HY HB hb1; have HX := nHX; have HY := nHY; have HB := nHB; clear nHX nHY nHB))
   go_ret
   exact ⟨rfl, HB.out⟩
 ·rw [if_neg he]
  have hez : (scE D M Mo != 0) = true := by simpa using he
  clear he
  generalize scE D M Mo = E at *
  have HSC := hI9 hsc
  have HAP := hI9 hap
  clear hsc hap
  go_enter Tryz.func27, Tryz.ntmps27
  go_wp2_with (refine wpl_row rfl 98 _ rfl _ rfl #[.int .i64 D.size, .int .i64 D.load, .int .i64 D.wind, vA, .int .i64 D.pitch, .int .i64 D.roll, .int .i64 D.heave, .int .i64 D.fire, vB, vC, .int .i64 M.places, .int .i64 M.any.a0, .int .i64 M.any.a1, .int .i64 M.any.a2, .int .i64 M.any.a3, .int .i64 M.any.a4, .int .i64 M.any.a5, .bool M.any.i, .bool M.any.s, .int .i64 M.mw, .int .i64 M.ms, .int .i64 M.mc, vF, vS, vP, vR, vV] 27 ?_ Tryz.rowScn rfl ?_; (focus exact (by repeat (first | (refine Blk.newAt _ _ _ ?_; first | rfl | (simp; done)) | refine Blk.alloc ?_ _))); simp only [Act.put])
  have _x := frm2 w #[.int .i64 D.size, .int .i64 D.load, .int .i64 D.wind, vA, .int .i64 D.pitch, .int .i64 D.roll, .int .i64 D.heave, .int .i64 D.fire, vB, vC, .int .i64 M.places, .int .i64 M.any.a0, .int .i64 M.any.a1, .int .i64 M.any.a2, .int .i64 M.any.a3, .int .i64 M.any.a4, .int .i64 M.any.a5, .bool M.any.i, .bool M.any.s, .int .i64 M.mw, .int .i64 M.ms, .int .i64 M.mc, vF, vS, vP, vR, vV] 98 #[.int .i64 a.size, .int .i64 a.weight, .int .i64 a.lw, .int .i64 a.ls, .int .i64 a.lc, .bool a.li, .bool a.lt, .int .i64 a.place, .int .i64 a.lo, .int .i64 a.hi] 43
  have HX := hI9 _x.1
  have HY := hI9 _x.2.1
  have HB := hI9 _x.2.2.1
  have zW := _x.2.2.2
  clear _x
  generalize World.alloc (World.alloc w _) _ = W at *
  go_wp2_with (first | (refine wpl_row rfl 98 _ rfl _ rfl #[.int .i64 D.size, .int .i64 D.load, .int .i64 D.wind, vA, .int .i64 D.pitch, .int .i64 D.roll, .int .i64 D.heave, .int .i64 D.fire, vB, vC, .int .i64 M.places, .int .i64 M.any.a0, .int .i64 M.any.a1, .int .i64 M.any.a2, .int .i64 M.any.a3, .int .i64 M.any.a4, .int .i64 M.any.a5, .bool M.any.i, .bool M.any.s, .int .i64 M.mw, .int .i64 M.ms, .int .i64 M.mc, vF, vS, vP, vR, vV] 27 HX.out Tryz.rowScn rfl ?_; simp only [Act.put]) | (refine wpl_row rfl 43 _ rfl _ rfl #[.int .i64 a.size, .int .i64 a.weight, .int .i64 a.lw, .int .i64 a.ls, .int .i64 a.lc, .bool a.li, .bool a.lt, .int .i64 a.place, .int .i64 a.lo, .int .i64 a.hi] 10 HY.out Tryz.rowApp rfl ?_; simp only [Act.put]) | (go_at_call 45; (with_reducible refine (HSC.out _ (HD.out.below HB.out) (HA.out.below HB.out) (HV.out.below HB.out)).mono ?_); rintro e w1 ⟨rfl, hb1⟩; have nHX := hI9 (HX.out.below hb1); have nHY := hI9 (HY.out.below hb1); have nHB := hI9 (bthen HB.out hb1); have zz1 := hb1.size; clear HX HY HB hb1; have HX := nHX; have HY := nHY; have HB := nHB; clear nHX nHY nHB) | (go_at_call 46; (with_reducible refine (HAP.out _ (HA.out.below HB.out)).mono ?_); rintro e w1 ⟨rfl, hb1⟩; have nHX := hI9 (HX.out.below hb1); have nHY := hI9 (HY.out.below hb1); have nHB := hI9 (bthen HB.out hb1); have zz1 := hb1.size; clear HX HY HB hb1; have HX := nHX; have HY := nHY; have HB := nHB; clear nHX nHY nHB))
  go_ret
  exact ⟨rfl, HB.out⟩
end Go.Proofs.YtlambeiafdpkgaaGreat

namespace Go.Proofs.YtlambeiafdpkgaaGreat
open Go Go.RowKit Go.Proofs
set_option maxRecDepth 100000
set_option maxHeartbeats 8000000
def cB (b : Bool) : Nat := if b then 0 else 1
def sumC (bs : List Bool) : Nat → Nat
 | 0 => 0
 | k + 1 => sumC bs k + cB (bs.getD k true)
theorem sum6 (b0 b1 b2 b3 b4 b5 : Bool) : (([b0, b1, b2, b3, b4, b5] : List Bool).filter (fun b => !b)).length = sumC [b0, b1, b2, b3, b4, b5] 6 := by
 cases b0 <;> cases b1 <;> cases b2 <;> cases b3 <;> cases b4 <;> cases b5 <;> rfl
theorem Tryz.entWh : ∀ args w, (callFunc 62 args).run Tryz.prog w = .ok (.enter 62 args) w := enters_of Tryz.func62 (by kernel_rfl) rfl
theorem dwhy1_c (gt : Nat) (t lo hi : Int) (w : World) (h : w.cell? ⟨gt, 0, none⟩ = some (.int .i64 t)) :
  Calls Tryz.prog 62 #[.agg #[.int .i64 lo, .int .i64 hi], .pointer (some ⟨gt, 0, none⟩)] w fun e w' => e = .returned (.bool (inB t lo hi)) ∧ Below w.heap.size w w' := by
 have hgt := blk_lt h
 have hal := (bal (Below.refl w.heap.size w) (.cells #[.int .i64 lo, .int .i64 hi] 28)).cell (p := ⟨gt, 0, none⟩) hgt
 rw [h] at hal
 go_enter Tryz.func62, Tryz.ntmps62
 go_wp2_with (first | (go_at_call 34; (with_reducible refine (dwithin_c _ _ _ _).mono ?_); rintro e w1 ⟨rfl, rfl⟩))
 go_ret
 exact ⟨rfl, (by repeat' (first | exact Below.refl _ _ | assumption | refine Below.drew ?_ | refine bdn ?_ _ | refine bal ?_ _ | refine Below.setCell ?_ (by first | (simp; done) | omega | (simp; omega)) _))⟩
theorem dshut_c (A : Option Addr) (c gt : Nat) (D : DekD) (t : Int) (w : World) (hn : D.nu ≤ 100) (hr : RecsAt w A D.nu 2 (iV D.U)) (ht : w.cell? ⟨gt, 0, none⟩ = some (.int .i64 t)) :
  Calls Tryz.prog 61 #[.slice A D.nu c, .func (.func 62) #[] #[.pointer (some ⟨gt, 0, none⟩)]] w fun e w' => e = .returned (.bool (shuB D t)) ∧ Below w.heap.size w w' :=
 cfSpan_c A D.nu c (fun k => D.U k 0) (fun k => D.U k 1) 62 #[.pointer (some ⟨gt, 0, none⟩)] (fun k => inB t (D.U k 0) (D.U k 1)) w (by omega) Tryz.entWh (SpansAt.of hr) (fun w1 k hk hb => dwhy1_c gt t _ _ w1 ((hb.cell (p := ⟨gt, 0, none⟩) (blk_lt ht)).trans ht))
structure WyK (w : World) (bs : List Bool) (k : Nat) (v : Value) (wr : World) : Prop where
 b : Below w.heap.size w wr
 o : ∃ l : List Nat, l.length ≤ k ∧ l.length = sumC bs k ∧ wr.ownsRow w.heap.size 3 1 v l.length (l.map encN)
theorem WyK.skip {w wr : World} {bs : List Bool} {k : Nat} {v : Value} (h : WyK w bs k v wr) (hc : bs.getD k true = true) : WyK w bs (k + 1) v wr := by
 obtain ⟨l, h1, h2, h3⟩ := h.o
 exact ⟨h.b, ⟨l, by omega, by rw [sumC, hc]; exact h2, h3⟩⟩
theorem WyK.add {w wr w2 : World} {bs : List Bool} {k x : Nat} {v v2 : Value} {l : List Nat} {o : Obj} (hb : Below w.heap.size w wr) (h1 : l.length ≤ k) (h2 : l.length = sumC bs k) (ho : wr.ownsRow w.heap.size 3 1 v l.length (l.map encN)) (hc : bs.getD k true = false)
  (o2 : w2.ownsRow w.heap.size 3 1 v2 (l ++ [x]).length ((l ++ [x]).map encN)) (g2 : (wr.alloc o).grownBy w2 v.ownBlock) : WyK w bs (k + 1) v2 w2 := by
 have hs := hb.size
 have h3 := below_grown g2 (show w.heap.size ≤ (wr.alloc o).heap.size from by simp; omega) (fun b hb => owns_base ho hb)
 refine ⟨(bthen hb (bal (Below.refl _ _) o)).trans h3, ⟨l ++ [x], by simp; omega, ?_, o2⟩⟩
 rw [List.length_append, h2, sumC, hc]
 rfl
theorem WyK.fin {w wr : World} {bs : List Bool} {v : Value} (h : WyK w bs 6 v wr) : ∃ A c, v = .slice A (sumC bs 6) c := by
 obtain ⟨l, -, h2, h3⟩ := h.o
 rcases h3.2 with ⟨rfl, h0⟩ | ⟨g, cap, cur, rfl, -⟩
 ·exact ⟨none, 0, by rw [← h2, h0]⟩
 ·exact ⟨_, _, by rw [← h2]⟩
end Go.Proofs.YtlambeiafdpkgaaGreat

namespace Go.Proofs.YtlambeiafdpkgaaGreat
open Go Go.RowKit Go.Proofs
set_option maxRecDepth 100000
set_option maxHeartbeats 8000000
theorem wpl_cpk {ty sl : TypeId} {k : Nat} {V : Nat → Nat → Value} {ops : Array Oper} {rest : List Oper} {o : Oper} {a : Act} {w : World} {Q : Exit → Act → World → Prop} (hgd : o.guard = none) (s x : Operand)
  (hu : Tryz.prog.underlying sl = some (.slice ty)) (hi : (Tryz.prog.info? ty).map (fun i => (i.zero.map (·.cells.size), i.size, decide (i.bytes ≤ 200))) = some (some k, k, true)) (hk : 0 < k) (h1 : ∀ i j, (V i j).oneCell' = true)
  (ho : o.op = .call { callee := .builtin .append, args := #[s, x], argTypes := #[sl, sl] }) (g : Nat) (hs : a.eval s = .slice (some ⟨g, 0, none⟩) 0 0) (hgb : w.heap[g]? = some (.cells #[] ty (0, 0)))
  (A : Option Addr) (n c : Nat) (hx : a.eval x = .slice A n c) (hr : RecsAt w A n k V) (hn : n ≤ 200)
  (h : ∀ v' w', Hid (∃ A' c', v' = .slice A' n c' ∧ n ≤ c' ∧ c' ≤ 9223372036854775807 ∧ RecsAt w' A' n k V ∧ ∀ b, some b = v'.ownBlock → g ≤ b) → Hid (Below w.heap.size w w') → wpList Tryz.prog ops Q rest (a.put o.dst v') w') : wpList Tryz.prog ops Q (o :: rest) a w := by
 cases hI : Tryz.prog.info? ty with
 | none => rw [hI] at hi; cases hi
 | some i =>
  rw [hI] at hi
  simp only [Option.map_some, Option.some.injEq, Prod.mk.injEq, decide_eq_true_eq] at hi
  obtain ⟨i1, i2, i3⟩ := hi
  cases hz : i.zero with
  | none => rw [hz] at i1; cases i1
  | some z =>
   rw [hz] at i1
   simp only [Option.map_some, Option.some.injEq] at i1
   have hb : n * i.bytes ≤ 200 * 200 := Nat.mul_le_mul hn i3
   refine wpl_append_newk hgd s x sl ho ty i z k i.bytes hu hI hz i2 rfl i1 hk g hs hgb g (Nat.le_refl _) A n c hx _ hr.cells (fun q _ => h1 _ _) (by unfold maxLen; omega) (by omega) (fun v' w' ho' hbl => ?_)
   obtain ⟨A', c', e, q1, q2, q3⟩ := RecsAt.of_owns (V := V) hk ho'
   exact h v' w' ⟨A', c', e, q1, q2, q3, fun b hb => owns_base ho' hb⟩ hbl
def EmptyT (ty : TypeId) (n0 : Nat) (v : Value) (w : World) : Prop := ∃ g, v = .slice (some ⟨g, 0, none⟩) 0 0 ∧ Blk w g ty #[] ∧ n0 ≤ g
theorem EmptyT.below {ty : TypeId} {n0 : Nat} {v : Value} {w w' : World} (h : EmptyT ty n0 v w) (hb : Below w.heap.size w w') : EmptyT ty n0 v w' := by
 obtain ⟨g, e, h, k⟩ := h
 exact ⟨g, e, h.below hb, k⟩
def SlN (n0 : Nat) (w : World) (v : Value) (n k : Nat) (V : Nat → Nat → Value) : Prop := SlAt w v n k V ∧ ∀ b, some b = v.ownBlock → n0 ≤ b
theorem SlN.below {n0 : Nat} {w w' : World} {v : Value} {n k : Nat} {V : Nat → Nat → Value} (h : SlN n0 w v n k V) (hb : Below w.heap.size w w') : SlN n0 w' v n k V := ⟨h.1.below hb, h.2⟩
theorem SlAt.frame {w w' : World} {v : Value} {n k : Nat} {V : Nat → Nat → Value} (h : SlAt w v n k V) (hs : w.heap.size ≤ w'.heap.size) (hf : ∀ b, some b = v.ownBlock → w'.heap[b]? = w.heap[b]?) : SlAt w' v n k V := by
 obtain ⟨A, c, rfl, h1, h2, h3⟩ := h.e
 exact ⟨A, c, rfl, h1, h2, h3.frame hs (fun _ b off e => hf b (by rw [e]; rfl))⟩
theorem lV_one (P : Nat → Int) (i j : Nat) : (lV P i j).oneCell' = true := rfl
theorem iV_one (S : Nat → Nat → Int) (i j : Nat) : (iV S i j).oneCell' = true := rfl
theorem Tryz.inI : (Tryz.prog.info? 3).map (fun i => (i.zero.map (·.cells.size), i.size, decide (i.bytes ≤ 200))) = some (some 1, 1, true) := by kernel_rfl
theorem Tryz.seU : Tryz.prog.underlying 22 = some (.slice 181) := by kernel_rfl
theorem Tryz.seI : (Tryz.prog.info? 181).map (fun i => (i.zero.map (·.cells.size), i.size, decide (i.bytes ≤ 200))) = some (some 3, 3, true) := by kernel_rfl
theorem Tryz.shU : Tryz.prog.underlying 23 = some (.slice 183) := by kernel_rfl
theorem Tryz.shI : (Tryz.prog.info? 183).map (fun i => (i.zero.map (·.cells.size), i.size, decide (i.bytes ≤ 200))) = some (some 3, 3, true) := by kernel_rfl
def cmR (w0 g : Nat) (vP vR vV : Value) (Mo : MovD) : Nat → Value → World → Prop
 | 0, v, w => EmptyT 3 w0 v w
 | 1, v, _ => v = .pointer (some ⟨g, 0, none⟩)
 | 2, v, _ => v = vP
 | 3, v, w => SlN w0 w v Mo.np 1 (lV Mo.P)
 | 4, v, w => EmptyT 3 w0 v w
 | 5, v, _ => v = .pointer (some ⟨g, 1, none⟩)
 | 6, v, _ => v = vR
 | 7, v, w => SlN w0 w v Mo.nr 1 (lV Mo.R)
 | 8, v, w => EmptyT 3 w0 v w
 | 9, v, _ => v = .pointer (some ⟨g, 2, none⟩)
 | 10, v, _ => v = vV
 | 11, v, w => SlN w0 w v Mo.nv 1 (lV Mo.V)
 | _, _, _ => True
theorem cmR_below {w0 g : Nat} {vP vR vV : Value} {Mo : MovD} (k : Nat) (v : Value) (w w' : World) (hb : Below w.heap.size w w') (h : cmR w0 g vP vR vV Mo k v w) : cmR w0 g vP vR vV Mo k v w' := by
 unfold cmR at *
 split at h <;> first | exact h | exact EmptyT.below h hb | exact SlN.below h hb
theorem Tryz.sizeMov : (Tryz.prog.info? 37).map (·.size) = some 3 := by kernel_rfl
theorem dCopyMotion_c (Mo : MovD) (vP vR vV : Value) (w : World) (hA : MovAt w vP vR vV Mo) (h1 : Mo.np ≤ 200) (h2 : Mo.nr ≤ 200) (h3 : Mo.nv ≤ 200) :
  Calls Tryz.prog 19 #[.agg #[vP, vR, vV]] w fun e w' => ∃ vP' vR' vV', e = .returned (.agg #[vP', vR', vV']) ∧ Below w.heap.size w w' ∧ SlN w.heap.size w' vP' Mo.np 1 (lV Mo.P) ∧ SlN w.heap.size w' vR' Mo.nr 1 (lV Mo.R) ∧ SlN w.heap.size w' vV' Mo.nv 1 (lV Mo.V) := by
 have HA := hI9 hA
 obtain ⟨A1, c1, rfl, -, -, r1⟩ := hA.p.e
 obtain ⟨A2, c2, rfl, -, -, r2⟩ := hA.r.e
 obtain ⟨A3, c3, rfl, -, -, r3⟩ := hA.v.e
 have R1 := hI9 r1
 have R2 := hI9 r2
 have R3 := hI9 r3
 clear hA r1 r2 r3
 go_enter Tryz.func19, Tryz.ntmps19
 go_wp2_with (fail)
 have _x := frm2 w #[.slice A1 Mo.np c1, .slice A2 Mo.nr c2, .slice A3 Mo.nv c3] 37 #[.slice none 0 0, .slice none 0 0, .slice none 0 0] 37
 have HX := hI9 _x.1
 have HR := hI9 _x.2.1
 have HB := hI9 _x.2.2.1
 have zW := _x.2.2.2
 clear _x
 generalize World.alloc (World.alloc w _) _ = W at *
 refine wp_region_spec 12 (cmR W.heap.size w.heap.size (.slice A1 Mo.np c1) (.slice A2 Mo.nr c2) (.slice A3 Mo.nv c3) Mo) (fun i => false) (by kernel_rfl) (by kernel_rfl) cmR_below ?hop1 ?htail1
 case hop1 =>
  simp only [List.take_succ_cons, List.take_zero, allOps]
  refine ⟨?_, ?_, ?_, ?_, ?_, ?_, ?_, ?_, ?_, ?_, ?_, ?_, trivial⟩
  all_goals intro u A w1 hA hb hd
  all_goals simp only [putAll, dstOf, gtA, gtS, gtZ, Option.bind_some, Option.bind, Act.put, List.setIfInBounds_toArray, List.set_cons_succ, List.set_cons_zero] at hA; subst hA
  all_goals have HB1 := hI9 hb
  ·clear hb hd
   go_wp2
   exact ⟨_, rfl, bal (Below.refl _ _) _, ⟨_, rfl, Blk.new _ _ _, HB1.out.size⟩, fun h => absurd h (by decide)⟩
  ·clear hb hd
   go_wp2
   exact ⟨_, rfl, Below.refl _ _, rfl, fun h => absurd h (by decide)⟩
  ·have d1 : u 1 = _ := hd 1 (by omega) (by kernel_rfl)
   clear hb hd
   rw [d1]
   clear d1
   have c0 := (HX.out.below HB1.out).cell 0
   go_wp2
   exact ⟨_, rfl, Below.refl _ _, rfl, fun h => absurd h (by decide)⟩
  ·have d0 := hd 0 (by omega) (by kernel_rfl)
   have d2 : u 2 = _ := hd 2 (by omega) (by kernel_rfl)
   clear hb hd
   rw [d2]
   clear d2
   obtain ⟨g, dg, d1, dz⟩ := d0
   rw [dg]
   clear dg
   refine wpl_cpk rfl (.tmp 3) (.tmp 5) Tryz.intsU Tryz.inI (by omega) (lV_one Mo.P) rfl g rfl d1 A1 Mo.np c1 rfl ((R1.out.below HB.out).below HB1.out) h1 ?_
   intro v' w' hq hbl
   exact ⟨v', rfl, hbl.out, (by obtain ⟨A', c', q1, q2, q3, q4, q5⟩ := hq.out; exact ⟨⟨A', c', q1, q2, q3, q4⟩, fun b hb => Nat.le_trans dz (q5 b hb)⟩), fun h => absurd h (by decide)⟩
  ·clear hb hd
   go_wp2
   exact ⟨_, rfl, bal (Below.refl _ _) _, ⟨_, rfl, Blk.new _ _ _, HB1.out.size⟩, fun h => absurd h (by decide)⟩
  ·clear hb hd
   go_wp2
   exact ⟨_, rfl, Below.refl _ _, rfl, fun h => absurd h (by decide)⟩
  ·have d5 : u 5 = _ := hd 5 (by omega) (by kernel_rfl)
   clear hb hd
   rw [d5]
   clear d5
   have c0 := (HX.out.below HB1.out).cell 1
   go_wp2
   exact ⟨_, rfl, Below.refl _ _, rfl, fun h => absurd h (by decide)⟩
  ·have d3 := hd 3 (by omega) (by kernel_rfl)
   have d4 := hd 4 (by omega) (by kernel_rfl)
   have d6 : u 6 = _ := hd 6 (by omega) (by kernel_rfl)
   clear hb hd
   rw [d6]
   clear d6
   obtain ⟨g, dg, d1, dz⟩ := d4
   rw [dg]
   clear dg
   refine wpl_cpk rfl (.tmp 7) (.tmp 9) Tryz.intsU Tryz.inI (by omega) (lV_one Mo.R) rfl g rfl d1 A2 Mo.nr c2 rfl ((R2.out.below HB.out).below HB1.out) h2 ?_
   intro v' w' hq hbl
   exact ⟨v', rfl, hbl.out, (by obtain ⟨A', c', q1, q2, q3, q4, q5⟩ := hq.out; exact ⟨⟨A', c', q1, q2, q3, q4⟩, fun b hb => Nat.le_trans dz (q5 b hb)⟩), fun h => absurd h (by decide)⟩
  ·clear hb hd
   go_wp2
   exact ⟨_, rfl, bal (Below.refl _ _) _, ⟨_, rfl, Blk.new _ _ _, HB1.out.size⟩, fun h => absurd h (by decide)⟩
  ·clear hb hd
   go_wp2
   exact ⟨_, rfl, Below.refl _ _, rfl, fun h => absurd h (by decide)⟩
  ·have d9 : u 9 = _ := hd 9 (by omega) (by kernel_rfl)
   clear hb hd
   rw [d9]
   clear d9
   have c0 := (HX.out.below HB1.out).cell 2
   go_wp2
   exact ⟨_, rfl, Below.refl _ _, rfl, fun h => absurd h (by decide)⟩
  ·have d7 := hd 7 (by omega) (by kernel_rfl)
   have d8 := hd 8 (by omega) (by kernel_rfl)
   have d10 : u 10 = _ := hd 10 (by omega) (by kernel_rfl)
   clear hb hd
   rw [d10]
   clear d10
   obtain ⟨g, dg, d1, dz⟩ := d8
   rw [dg]
   clear dg
   refine wpl_cpk rfl (.tmp 11) (.tmp 13) Tryz.intsU Tryz.inI (by omega) (lV_one Mo.V) rfl g rfl d1 A3 Mo.nv c3 rfl ((R3.out.below HB.out).below HB1.out) h3 ?_
   intro v' w' hq hbl
   exact ⟨v', rfl, hbl.out, (by obtain ⟨A', c', q1, q2, q3, q4, q5⟩ := hq.out; exact ⟨⟨A', c', q1, q2, q3, q4⟩, fun b hb => Nat.le_trans dz (q5 b hb)⟩), fun h => absurd h (by decide)⟩
 case htail1 =>
  intro u A w1 hA hb hd hf
  simp only [putAll, dstOf, gtA, gtS, gtZ, Option.bind_some, Option.bind, Act.put, List.setIfInBounds_toArray, List.set_cons_succ, List.set_cons_zero] at hA; subst hA
  have p0 := hd 0 (by omega)
  have e1 : u 1 = _ := hd 1 (by omega)
  have e2 : u 2 = _ := hd 2 (by omega)
  have p3 := hd 3 (by omega)
  have p4 := hd 4 (by omega)
  have e5 : u 5 = _ := hd 5 (by omega)
  have e6 : u 6 = _ := hd 6 (by omega)
  have p7 := hd 7 (by omega)
  have p8 := hd 8 (by omega)
  have e9 : u 9 = _ := hd 9 (by omega)
  have e10 : u 10 = _ := hd 10 (by omega)
  have p11 := hd 11 (by omega)
  first | rw [e1, e2, e5, e6, e9, e10] | simp only [e1, e2, e5, e6, e9, e10]
  clear e1 e2 e5 e6 e9 e10
  clear hd hf
  have s3 : SlN W.heap.size w1 (u 3) Mo.np 1 (lV Mo.P) := p3
  have s7 : SlN W.heap.size w1 (u 7) Mo.nr 1 (lV Mo.R) := p7
  have s11 : SlN W.heap.size w1 (u 11) Mo.nv 1 (lV Mo.V) := p11
  have hW := HR.out.lt
  have HR1 := hI9 (HR.out.below hb)
  have HB2 := hI9 (bthen HB.out hb)
  have hs := hb.size
  generalize u 3 = x3 at *
  generalize u 7 = x7 at *
  generalize u 11 = x11 at *
  have S3 := hI9 s3
  have S7 := hI9 s7
  have S11 := hI9 s11
  obtain ⟨B1, e1, rfl, -, -, -⟩ := s3.1.e
  obtain ⟨B2, e2, rfl, -, -, -⟩ := s7.1.e
  obtain ⟨B3, e3, rfl, -, -, -⟩ := s11.1.e
  clear p0 p3 p4 p7 p8 p11 s3 s7 s11 hb HX HR HB
  refine wpl_buildw rfl 37 _ rfl #[.slice B1 Mo.np e1, .slice B2 Mo.nr e2, .slice B3 Mo.nv e3] (by kernel_rfl) ?_
  simp only [Act.put]
  refine wpList_store_row rfl 37 _ _ rfl (w.heap.size + 1) #[.slice B1 Mo.np e1, .slice B2 Mo.nr e2, .slice B3 Mo.nv e3] rfl rfl 37 #[.slice none 0 0, .slice none 0 0, .slice none 0 0] HR1.out Tryz.sizeMov rfl (by simp [Value.oneCell']) ?_
  simp only [Act.put]
  go_wp2_with (fail)
  try dsimp only [NoPanic]
  try go_wp2_with (fail)
  have fr : ∀ b, W.heap.size ≤ b → (w1.setRow (w.heap.size + 1) #[.slice B1 Mo.np e1, .slice B2 Mo.nr e2, .slice B3 Mo.nv e3]).heap[b]? = w1.heap[b]? := fun b hb => setRow_other _ _ _ _ (by omega)
  exact bodyPost_ret (res_c rfl _ _ _ 3 rfl (setRow_heap _ _ _ _ _ _ HR1.out) Tryz.rowMov rfl) rfl ⟨_, _, _, rfl, rowBelow HB2.out (by omega) _, ⟨S3.out.1.frame (by simp [World.setRow]) (fun b hb => fr b (S3.out.2 b hb)), fun b hb => by have := S3.out.2 b hb; omega⟩, ⟨S7.out.1.frame (by simp [World.setRow]) (fun b hb => fr b (S7.out.2 b hb)), fun b hb => by have := S7.out.2 b hb; omega⟩, ⟨S11.out.1.frame (by simp [World.setRow]) (fun b hb => fr b (S11.out.2 b hb)), fun b hb => by have := S11.out.2 b hb; omega⟩⟩
end Go.Proofs.YtlambeiafdpkgaaGreat
