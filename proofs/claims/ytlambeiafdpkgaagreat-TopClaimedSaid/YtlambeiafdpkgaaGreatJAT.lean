/- Texts joined: JAT. -/
import Derived.Test.YtlambeiafdpkgaaGreatJAS
import Derived.Test.YtlambeiafdpkgaaGreatJAO
import Derived.Great.CaseRows
import Derived.Deep.WholeRow
import Derived.Test.YtlambeiafdpkgaaGreatJAQ
import Derived.Test.YtlambeiafdpkgaaGreatJAN
set_option linter.all false
namespace Go.Proofs.YtlambeiafdpkgaaGreat
open Go Go.RowKit Go.Proofs
set_option maxRecDepth 100000
set_option maxHeartbeats 8000000
def caE (D : DekD) (M : MetD) (Mo : MovD) (a : AppD) (r : Bool) : Int := if scE D M Mo = 0 then (if appE M a = 0 then (if r then 0 else 1) else appE M a) else scE D M Mo
theorem Tryz.rowScn : RowTy Tryz.prog 98 27 := ⟨by kernel_rfl, by kernel_rfl⟩
theorem Tryz.rowApp : RowTy Tryz.prog 43 10 := ⟨by kernel_rfl, by kernel_rfl⟩
theorem dcheckApproach_c (D : DekD) (vA vB vC : Value) (M : MetD) (vF vS : Value) (Mo : MovD) (vP vR vV : Value) (a : AppD) (r : Bool) (w : World) (hD : DekAt w vA vB vC D) (hA : MetAt w vF vS M) (hV : MovAt w vP vR vV Mo) :
  Calls Tryz.prog 27 #[.agg #[.int .i64 D.size, .int .i64 D.load, .int .i64 D.wind, vA, .int .i64 D.pitch, .int .i64 D.roll, .int .i64 D.heave, .int .i64 D.fire, vB, vC, .int .i64 M.places, .int .i64 M.any.a0, .int .i64 M.any.a1, .int .i64 M.any.a2, .int .i64 M.any.a3, .int .i64 M.any.a4, .int .i64 M.any.a5, .bool M.any.i, .bool M.any.s, .int .i64 M.mw, .int .i64 M.ms, .int .i64 M.mc, vF, vS, vP, vR, vV], .agg #[.int .i64 a.size, .int .i64 a.weight, .int .i64 a.lw, .int .i64 a.ls, .int .i64 a.lc, .bool a.li, .bool a.lt, .int .i64 a.place, .int .i64 a.lo, .int .i64 a.hi], .bool r] w fun e w' => e = .returned (.int .i64 (caE D M Mo a r)) ∧ Below w.heap.size w w' := by
 have HD := hI9 hD
 have HA := hI9 hA
 have HV := hI9 hV
 have hsc := fun w1 h1 h2 h3 => dscheck_c D vA vB vC M vF vS Mo vP vR vV w1 h1 h2 h3
 have hap := fun w1 h => dapproach_c D vA vB vC M vF vS vP vR vV a w1 h
 clear hD hA hV
 unfold caE
 by_cases he : scE D M Mo = 0
 ·rw [if_pos he]
  rw [he] at hsc
  have HSC := hI9 hsc
  clear hsc he
  by_cases hm : appE M a = 0
  ·rw [if_pos hm]
   rw [hm] at hap
   have HAP := hI9 hap
   clear hap hm
   cases r
   ·rw [if_neg (by decide)]
    go_enter Tryz.func27, Tryz.ntmps27
    go_wp2_with (refine wpl_row rfl 98 _ rfl _ rfl #[.int .i64 D.size, .int .i64 D.load, .int .i64 D.wind, vA, .int .i64 D.pitch, .int .i64 D.roll, .int .i64 D.heave, .int .i64 D.fire, vB, vC, .int .i64 M.places, .int .i64 M.any.a0, .int .i64 M.any.a1, .int .i64 M.any.a2, .int .i64 M.any.a3, .int .i64 M.any.a4, .int .i64 M.any.a5, .bool M.any.i, .bool M.any.s, .int .i64 M.mw, .int .i64 M.ms, .int .i64 M.mc, vF, vS, vP, vR, vV] 27 ?_ Tryz.rowScn rfl ?_; (focus exact (by repeat (first | (refine Blk.newAt _ _ _ ?_; first | rfl | (simp; done)) | refine Blk.alloc ?_ _))); simp only [Act.put])
    have _x := frm2 w #[.int .i64 D.size, .int .i64 D.load, .int .i64 D.wind, vA, .int .i64 D.pitch, .int .i64 D.roll, .int .i64 D.heave, .int .i64 D.fire, vB, vC, .int .i64 M.places, .int .i64 M.any.a0, .int .i64 M.any.a1, .int .i64 M.any.a2, .int .i64 M.any.a3, .int .i64 M.any.a4, .int .i64 M.any.a5, .bool M.any.i, .bool M.any.s, .int .i64 M.mw, .int .i64 M.ms, .int .i64 M.mc, vF, vS, vP, vR, vV] 98 #[.int .i64 a.size, .int .i64 a.weight, .int .i64 a.lw, .int .i64 a.ls, .int .i64 a.lc, .bool a.li, .bool a.lt, .int .i64 a.place, .int .i64 a.lo, .int .i64 a.hi] 43
    have HX := hI9 _x.1
    have HY := hI9 _x.2.1
    have HB := hI9 _x.2.2.1
    have zW := _x.2.2.2
    clear _x
    generalize World.alloc (World.alloc w _) _ = W at *
    go_wp2_with (first | (refine wpl_row rfl 98 _ rfl _ rfl #[.int .i64 D.size, .int .i64 D.load, .int .i64 D.wind, vA, .int .i64 D.pitch, .int .i64 D.roll, .int .i64 D.heave, .int .i64 D.fire, vB, vC, .int .i64 M.places, .int .i64 M.any.a0, .int .i64 M.any.a1, .int .i64 M.any.a2, .int .i64 M.any.a3, .int .i64 M.any.a4, .int .i64 M.any.a5, .bool M.any.i, .bool M.any.s, .int .i64 M.mw, .int .i64 M.ms, .int .i64 M.mc, vF, vS, vP, vR, vV] 27 HX.out Tryz.rowScn rfl ?_; simp only [Act.put]) | (refine wpl_row rfl 43 _ rfl _ rfl #[.int .i64 a.size, .int .i64 a.weight, .int .i64 a.lw, .int .i64 a.ls, .int .i64 a.lc, .bool a.li, .bool a.lt, .int .i64 a.place, .int .i64 a.lo, .int .i64 a.hi] 10 HY.out Tryz.rowApp rfl ?_; simp only [Act.put]) | (go_at_call 45; (with_reducible refine (HSC.out _ (HD.out.below HB.out) (HA.out.below HB.out) (HV.out.below HB.out)).mono ?_); rintro e w1 ⟨rfl, hb1⟩; have nHX := hI9 (HX.out.below hb1); have nHY := hI9 (HY.out.below hb1); have nHB := hI9 (bthen HB.out hb1); have zz1 := hb1.size; clear HX HY HB hb1; have HX := nHX; have HY := nHY; have HB := nHB; clear nHX nHY nHB) | (go_at_call 46; (with_reducible refine (HAP.out _ (HA.out.below HB.out)).mono ?_); rintro e w1 ⟨rfl, hb1⟩; have nHX := hI9 (HX.out.below hb1); have nHY := hI9 (HY.out.below hb1); have nHB := hI9 (bthen HB.out hb1); have zz1 := hb1.size; clear HX HY HB hb1; have HX := nHX; have HY := nHY; have HB := nHB; clear nHX nHY nHB))
    go_ret
    exact ⟨rfl, HB.out⟩
   ·rw [if_pos rfl]
    go_enter Tryz.func27, Tryz.ntmps27
    go_wp2_with (refine wpl_row rfl 98 _ rfl _ rfl #[.int .i64 D.size, .int .i64 D.load, .int .i64 D.wind, vA, .int .i64 D.pitch, .int .i64 D.roll, .int .i64 D.heave, .int .i64 D.fire, vB, vC, .int .i64 M.places, .int .i64 M.any.a0, .int .i64 M.any.a1, .int .i64 M.any.a2, .int .i64 M.any.a3, .int .i64 M.any.a4, .int .i64 M.any.a5, .bool M.any.i, .bool M.any.s, .int .i64 M.mw, .int .i64 M.ms, .int .i64 M.mc, vF, vS, vP, vR, vV] 27 ?_ Tryz.rowScn rfl ?_; (focus exact (by repeat (first | (refine Blk.newAt _ _ _ ?_; first | rfl | (simp; done)) | refine Blk.alloc ?_ _))); simp only [Act.put])
    have _x := frm2 w #[.int .i64 D.size, .int .i64 D.load, .int .i64 D.wind, vA, .int .i64 D.pitch, .int .i64 D.roll, .int .i64 D.heave, .int .i64 D.fire, vB, vC, .int .i64 M.places, .int .i64 M.any.a0, .int .i64 M.any.a1, .int .i64 M.any.a2, .int .i64 M.any.a3, .int .i64 M.any.a4, .int .i64 M.any.a5, .bool M.any.i, .bool M.any.s, .int .i64 M.mw, .int .i64 M.ms, .int .i64 M.mc, vF, vS, vP, vR, vV] 98 #[.int .i64 a.size, .int .i64 a.weight, .int .i64 a.lw, .int .i64 a.ls, .int .i64 a.lc, .bool a.li, .bool a.lt, .int .i64 a.place, .int .i64 a.lo, .int .i64 a.hi] 43
    have HX := hI9 _x.1
    have HY := hI9 _x.2.1
    have HB := hI9 _x.2.2.1
    have zW := _x.2.2.2
    clear _x
    generalize World.alloc (World.alloc w _) _ = W at *
    go_wp2_with (first | (refine wpl_row rfl 98 _ rfl _ rfl #[.int .i64 D.size, .int .i64 D.load, .int .i64 D.wind, vA, .int .i64 D.pitch, .int .i64 D.roll, .int .i64 D.heave, .int .i64 D.fire, vB, vC, .int .i64 M.places, .int .i64 M.any.a0, .int .i64 M.any.a1, .int .i64 M.any.a2, .int .i64 M.any.a3, .int .i64 M.any.a4, .int .i64 M.any.a5, .bool M.any.i, .bool M.any.s, .int .i64 M.mw, .int .i64 M.ms, .int .i64 M.mc, vF, vS, vP, vR, vV] 27 HX.out Tryz.rowScn rfl ?_; simp only [Act.put]) | (refine wpl_row rfl 43 _ rfl _ rfl #[.int .i64 a.size, .int .i64 a.weight, .int .i64 a.lw, .int .i64 a.ls, .int .i64 a.lc, .bool a.li, .bool a.lt, .int .i64 a.place, .int .i64 a.lo, .int .i64 a.hi] 10 HY.out Tryz.rowApp rfl ?_; simp only [Act.put]) | (go_at_call 45; (with_reducible refine (HSC.out _ (HD.out.below HB.out) (HA.out.below HB.out) (HV.out.below HB.out)).mono ?_); rintro e w1 ⟨rfl, hb1⟩; have nHX := hI9 (HX.out.below hb1); have nHY := hI9 (HY.out.below hb1); have nHB := hI9 (bthen HB.out hb1); have zz1 := hb1.size; clear HX HY HB hb1; have HX := nHX; have HY := nHY; have HB := nHB; clear nHX nHY nHB) | (go_at_call 46; (with_reducible refine (HAP.out _ (HA.out.below HB.out)).mono ?_); rintro e w1 ⟨rfl, hb1⟩; have nHX := hI9 (HX.out.below hb1); have nHY := hI9 (HY.out.below hb1); have nHB := hI9 (bthen HB.out hb1); have zz1 := hb1.size; clear HX HY HB hb1; have HX := nHX; have HY := nHY; have HB := nHB; clear nHX nHY nHB))
    go_ret
    exact ⟨rfl, HB.out⟩
  ·rw [if_neg hm]
   have hmz : (appE M a != 0) = true := by simpa using hm
   clear hm
   generalize appE M a = E at *
   have HAP := hI9 hap
   clear hap
   go_enter Tryz.func27, Tryz.ntmps27
   go_wp2_with (refine wpl_row rfl 98 _ rfl _ rfl #[.int .i64 D.size, .int .i64 D.load, .int .i64 D.wind, vA, .int .i64 D.pitch, .int .i64 D.roll, .int .i64 D.heave, .int .i64 D.fire, vB, vC, .int .i64 M.places, .int .i64 M.any.a0, .int .i64 M.any.a1, .int .i64 M.any.a2, .int .i64 M.any.a3, .int .i64 M.any.a4, .int .i64 M.any.a5, .bool M.any.i, .bool M.any.s, .int .i64 M.mw, .int .i64 M.ms, .int .i64 M.mc, vF, vS, vP, vR, vV] 27 ?_ Tryz.rowScn rfl ?_; (focus exact (by repeat (first | (refine Blk.newAt _ _ _ ?_; first | rfl | (simp; done)) | refine Blk.alloc ?_ _))); simp only [Act.put])
   have _x := frm2 w #[.int .i64 D.size, .int .i64 D.load, .int .i64 D.wind, vA, .int .i64 D.pitch, .int .i64 D.roll, .int .i64 D.heave, .int .i64 D.fire, vB, vC, .int .i64 M.places, .int .i64 M.any.a0, .int .i64 M.any.a1, .int .i64 M.any.a2, .int .i64 M.any.a3, .int .i64 M.any.a4, .int .i64 M.any.a5, .bool M.any.i, .bool M.any.s, .int .i64 M.mw, .int .i64 M.ms, .int .i64 M.mc, vF, vS, vP, vR, vV] 98 #[.int .i64 a.size, .int .i64 a.weight, .int .i64 a.lw, .int .i64 a.ls, .int .i64 a.lc, .bool a.li, .bool a.lt, .int .i64 a.place, .int .i64 a.lo, .int .i64 a.hi] 43
   have HX := hI9 _x.1
   have HY := hI9 _x.2.1
   have HB := hI9 _x.2.2.1
   have zW := _x.2.2.2
   clear _x
   generalize World.alloc (World.alloc w _) _ = W at *
   go_wp2_with (first | (refine wpl_row rfl 98 _ rfl _ rfl #[.int .i64 D.size, .int .i64 D.load, .int .i64 D.wind, vA, .int .i64 D.pitch, .int .i64 D.roll, .int .i64 D.heave, .int .i64 D.fire, vB, vC, .int .i64 M.places, .int .i64 M.any.a0, .int .i64 M.any.a1, .int .i64 M.any.a2, .int .i64 M.any.a3, .int .i64 M.any.a4, .int .i64 M.any.a5, .bool M.any.i, .bool M.any.s, .int .i64 M.mw, .int .i64 M.ms, .int .i64 M.mc, vF, vS, vP, vR, vV] 27 HX.out Tryz.rowScn rfl ?_; simp only [Act.put]) | (refine wpl_row rfl 43 _ rfl _ rfl #[.int .i64 a.size, .int .i64 a.weight, .int .i64 a.lw, .int .i64 a.ls, .int .i64 a.lc, .bool a.li, .bool a.lt, .int .i64 a.place, .int .i64 a.lo, .int .i64 a.hi] 10 HY.out Tryz.rowApp rfl ?_; simp only [Act.put]) | (go_at_call 45; (with_reducible refine (HSC.out _ (HD.out.below HB.out) (HA.out.below HB.out) (HV.out.below HB.out)).mono ?_); rintro e w1 ⟨rfl, hb1⟩; have nHX := hI9 (HX.out.below hb1); have nHY := hI9 (HY.out.below hb1); have nHB := hI9 (bthen HB.out hb1); have zz1 := hb1.size; clear HX HY HB hb1; have HX := nHX; have HY := nHY; have HB := nHB; clear nHX nHY nHB) | (go_at_call 46; (with_reducible refine (HAP.out _ (HA.out.below HB.out)).mono ?_); rintro e w1 ⟨rfl, hb1⟩; have nHX := hI9 (HX.out.below hb1); have nHY := hI9 (HY.out.below hb1); have nHB := hI9 (bthen HB.out hb1); have zz1 := hb1.size; clear HX HY HB hb1; have HX := nHX; have HY := nHY; have HB := nHB; clear nHX nHY nHB))
   go_ret
   exact ⟨rfl, HB.out⟩
 ·rw [if_neg he]
  have hez : (scE D M Mo != 0) = true := by simpa using he
  clear he
  generalize scE D M Mo = E at *
  have HSC := hI9 hsc
  have HAP := hI9 hap
  clear hsc hap
  go_enter Tryz.func27, Tryz.ntmps27
  go_wp2_with (refine wpl_row rfl 98 _ rfl _ rfl #[.int .i64 D.size, .int .i64 D.load, .int .i64 D.wind, vA, .int .i64 D.pitch, .int .i64 D.roll, .int .i64 D.heave, .int .i64 D.fire, vB, vC, .int .i64 M.places, .int .i64 M.any.a0, .int .i64 M.any.a1, .int .i64 M.any.a2, .int .i64 M.any.a3, .int .i64 M.any.a4, .int .i64 M.any.a5, .bool M.any.i, .bool M.any.s, .int .i64 M.mw, .int .i64 M.ms, .int .i64 M.mc, vF, vS, vP, vR, vV] 27 ?_ Tryz.rowScn rfl ?_; (focus exact (by repeat (first | (refine Blk.newAt _ _ _ ?_; first | rfl | (simp; done)) | refine Blk.alloc ?_ _))); simp only [Act.put])
  have _x := frm2 w #[.int .i64 D.size, .int .i64 D.load, .int .i64 D.wind, vA, .int .i64 D.pitch, .int .i64 D.roll, .int .i64 D.heave, .int .i64 D.fire, vB, vC, .int .i64 M.places, .int .i64 M.any.a0, .int .i64 M.any.a1, .int .i64 M.any.a2, .int .i64 M.any.a3, .int .i64 M.any.a4, .int .i64 M.any.a5, .bool M.any.i, .bool M.any.s, .int .i64 M.mw, .int .i64 M.ms, .int .i64 M.mc, vF, vS, vP, vR, vV] 98 #[.int .i64 a.size, .int .i64 a.weight, .int .i64 a.lw, .int .i64 a.ls, .int .i64 a.lc, .bool a.li, .bool a.lt, .int .i64 a.place, .int .i64 a.lo, .int .i64 a.hi] 43
  have HX := hI9 _x.1
  have HY := hI9 _x.2.1
  have HB := hI9 _x.2.2.1
  have zW := _x.2.2.2
  clear _x
  generalize World.alloc (World.alloc w _) _ = W at *
  go_wp2_with (first | (refine wpl_row rfl 98 _ rfl _ rfl #[.int .i64 D.size, .int .i64 D.load, .int .i64 D.wind, vA, .int .i64 D.pitch, .int .i64 D.roll, .int .i64 D.heave, .int .i64 D.fire, vB, vC, .int .i64 M.places, .int .i64 M.any.a0, .int .i64 M.any.a1, .int .i64 M.any.a2, .int .i64 M.any.a3, .int .i64 M.any.a4, .int .i64 M.any.a5, .bool M.any.i, .bool M.any.s, .int .i64 M.mw, .int .i64 M.ms, .int .i64 M.mc, vF, vS, vP, vR, vV] 27 HX.out Tryz.rowScn rfl ?_; simp only [Act.put]) | (refine wpl_row rfl 43 _ rfl _ rfl #[.int .i64 a.size, .int .i64 a.weight, .int .i64 a.lw, .int .i64 a.ls, .int .i64 a.lc, .bool a.li, .bool a.lt, .int .i64 a.place, .int .i64 a.lo, .int .i64 a.hi] 10 HY.out Tryz.rowApp rfl ?_; simp only [Act.put]) | (go_at_call 45; (with_reducible refine (HSC.out _ (HD.out.below HB.out) (HA.out.below HB.out) (HV.out.below HB.out)).mono ?_); rintro e w1 ⟨rfl, hb1⟩; have nHX := hI9 (HX.out.below hb1); have nHY := hI9 (HY.out.below hb1); have nHB := hI9 (bthen HB.out hb1); have zz1 := hb1.size; clear HX HY HB hb1; have HX := nHX; have HY := nHY; have HB := nHB; clear nHX nHY nHB) | (go_at_call 46; (with_reducible refine (HAP.out _ (HA.out.below HB.out)).mono ?_); rintro e w1 ⟨rfl, hb1⟩; have nHX := hI9 (HX.out.below hb1); have nHY := hI9 (HY.out.below hb1); have nHB := hI9 (bthen HB.out hb1); have zz1 := hb1.size; clear HX HY HB hb1; have HX := nHX; have HY := nHY; have HB := nHB; clear nHX nHY nHB))
  go_ret
  exact ⟨rfl, HB.out⟩
end Go.Proofs.YtlambeiafdpkgaaGreat

namespace Go.Proofs.YtlambeiafdpkgaaGreat
open Go Go.RowKit Go.Proofs
set_option maxRecDepth 100000
set_option maxHeartbeats 8000000
def cB (b : Bool) : Nat := if b then 0 else 1
def sumC (bs : List Bool) : Nat → Nat
 | 0 => 0
 | k + 1 => sumC bs k + cB (bs.getD k true)
theorem sum6 (b0 b1 b2 b3 b4 b5 : Bool) : (([b0, b1, b2, b3, b4, b5] : List Bool).filter (fun b => !b)).length = sumC [b0, b1, b2, b3, b4, b5] 6 := by
 cases b0 <;> cases b1 <;> cases b2 <;> cases b3 <;> cases b4 <;> cases b5 <;> rfl
theorem Tryz.entWh : ∀ args w, (callFunc 62 args).run Tryz.prog w = .ok (.enter 62 args) w := enters_of Tryz.func62 (by kernel_rfl) rfl
theorem dwhy1_c (gt : Nat) (t lo hi : Int) (w : World) (h : w.cell? ⟨gt, 0, none⟩ = some (.int .i64 t)) :
  Calls Tryz.prog 62 #[.agg #[.int .i64 lo, .int .i64 hi], .pointer (some ⟨gt, 0, none⟩)] w fun e w' => e = .returned (.bool (inB t lo hi)) ∧ Below w.heap.size w w' := by
 have hgt := blk_lt h
 have hal := (bal (Below.refl w.heap.size w) (.cells #[.int .i64 lo, .int .i64 hi] 28)).cell (p := ⟨gt, 0, none⟩) hgt
 rw [h] at hal
 go_enter Tryz.func62, Tryz.ntmps62
 go_wp2_with (first | (go_at_call 34; (with_reducible refine (dwithin_c _ _ _ _).mono ?_); rintro e w1 ⟨rfl, rfl⟩))
 go_ret
 exact ⟨rfl, (by repeat' (first | exact Below.refl _ _ | assumption | refine Below.drew ?_ | refine bdn ?_ _ | refine bal ?_ _ | refine Below.setCell ?_ (by first | (simp; done) | omega | (simp; omega)) _))⟩
theorem dshut_c (A : Option Addr) (c gt : Nat) (D : DekD) (t : Int) (w : World) (hn : D.nu ≤ 100) (hr : RecsAt w A D.nu 2 (iV D.U)) (ht : w.cell? ⟨gt, 0, none⟩ = some (.int .i64 t)) :
  Calls Tryz.prog 61 #[.slice A D.nu c, .func (.func 62) #[] #[.pointer (some ⟨gt, 0, none⟩)]] w fun e w' => e = .returned (.bool (shuB D t)) ∧ Below w.heap.size w w' :=
 cfSpan_c A D.nu c (fun k => D.U k 0) (fun k => D.U k 1) 62 #[.pointer (some ⟨gt, 0, none⟩)] (fun k => inB t (D.U k 0) (D.U k 1)) w (by omega) Tryz.entWh (SpansAt.of hr) (fun w1 k hk hb => dwhy1_c gt t _ _ w1 ((hb.cell (p := ⟨gt, 0, none⟩) (blk_lt ht)).trans ht))
structure WyK (w : World) (bs : List Bool) (k : Nat) (v : Value) (wr : World) : Prop where
 b : Below w.heap.size w wr
 o : ∃ l : List Nat, l.length ≤ k ∧ l.length = sumC bs k ∧ wr.ownsRow w.heap.size 3 1 v l.length (l.map encN)
theorem WyK.skip {w wr : World} {bs : List Bool} {k : Nat} {v : Value} (h : WyK w bs k v wr) (hc : bs.getD k true = true) : WyK w bs (k + 1) v wr := by
 obtain ⟨l, h1, h2, h3⟩ := h.o
 exact ⟨h.b, ⟨l, by omega, by rw [sumC, hc]; exact h2, h3⟩⟩
theorem WyK.add {w wr w2 : World} {bs : List Bool} {k x : Nat} {v v2 : Value} {l : List Nat} {o : Obj} (hb : Below w.heap.size w wr) (h1 : l.length ≤ k) (h2 : l.length = sumC bs k) (ho : wr.ownsRow w.heap.size 3 1 v l.length (l.map encN)) (hc : bs.getD k true = false)
  (o2 : w2.ownsRow w.heap.size 3 1 v2 (l ++ [x]).length ((l ++ [x]).map encN)) (g2 : (wr.alloc o).grownBy w2 v.ownBlock) : WyK w bs (k + 1) v2 w2 := by
 have hs := hb.size
 have h3 := below_grown g2 (show w.heap.size ≤ (wr.alloc o).heap.size from by simp; omega) (fun b hb => owns_base ho hb)
 refine ⟨(bthen hb (bal (Below.refl _ _) o)).trans h3, ⟨l ++ [x], by simp; omega, ?_, o2⟩⟩
 rw [List.length_append, h2, sumC, hc]
 rfl
theorem WyK.fin {w wr : World} {bs : List Bool} {v : Value} (h : WyK w bs 6 v wr) : ∃ A c, v = .slice A (sumC bs 6) c := by
 obtain ⟨l, -, h2, h3⟩ := h.o
 rcases h3.2 with ⟨rfl, h0⟩ | ⟨g, cap, cur, rfl, -⟩
 ·exact ⟨none, 0, by rw [← h2, h0]⟩
 ·exact ⟨_, _, by rw [← h2]⟩
end Go.Proofs.YtlambeiafdpkgaaGreat

namespace Go.Proofs.YtlambeiafdpkgaaGreat
open Go Go.RowKit Go.Proofs
set_option maxRecDepth 100000
set_option maxHeartbeats 8000000
theorem wWindows_c (M : MetD) (vF vS : Value) (lw ls lc : Int) (li lt : Bool) (p f u : Int) (w : World) (hA : MetAt w vF vS M) :
  Calls Tryz.prog 9 #[.agg #[.int .i64 M.places, .int .i64 M.any.a0, .int .i64 M.any.a1, .int .i64 M.any.a2, .int .i64 M.any.a3, .int .i64 M.any.a4, .int .i64 M.any.a5, .bool M.any.i, .bool M.any.s, .int .i64 M.mw, .int .i64 M.ms, .int .i64 M.mc, vF, vS], .agg #[.int .i64 lw, .int .i64 ls, .int .i64 lc, .bool li, .bool lt], .int .i64 p, .int .i64 f, .int .i64 u] w fun e w' => ∃ v, e = .returned (.tuple #[v, .int .i64 (cwE M lw ls lc f u p)]) ∧ Below w.heap.size w w' ∧
   (cwE M lw ls lc f u p ≠ 0 → v = .slice none 0 0) ∧ (cwE M lw ls lc f u p = 0 → w'.ownsRow w.heap.size 28 2 v (winR (fun t => openB (M.may p t) lw ls lc li lt) (u - f).toNat f []).length (spC (winR (fun t => openB (M.may p t) lw ls lc li lt) (u - f).toNat f []))) := by
 have HA := hI9 hA
 have hcw := fun b c w1 h hq => wcheckWindow_c M vF vS lw ls lc li lt f u p b c w1 h hq
 clear hA
 by_cases he : cwE M lw ls lc f u p = 0
 ·have hcz := he
  unfold cwE at hcz
  have hme : minE M lw ls lc = 0 := by
   by_cases h : minE M lw ls lc = 0
   ·exact h
   ·rw [if_neg h] at hcz; exact absurd hcz h
  rw [if_pos hme] at hcz
  have hM := MetD.ok_of (minE_bad hme)
  have hrg : righB M.places 0 f u = true := by
   cases h : righB M.places 0 f u
   ·rw [h] at hcz; cases hcz
   ·rfl
  unfold righB at hrg
  simp only [Bool.and_eq_true, decide_eq_true_eq, inB_iff] at hrg
  obtain ⟨-, ⟨hf0, -⟩, hu2⟩ := hrg
  have HOP := hI9 (fun t w1 h ht0 ht1 => wopen_c M vF vS lw ls lc li lt p t w1 hM h ht0 ht1)
  generalize hop : (fun t => openB (M.may p t) lw ls lc li lt) = op
  have HO := hI9 (show ∀ t, openB (M.may p t) lw ls lc li lt = op t from fun t => by rw [← hop])
  rw [he] at hcw ⊢
  have HCW := hI9 hcw
  obtain ⟨R, hR⟩ : ∃ q, q = winR op (u - f).toNat f [] := ⟨_, rfl⟩
  rw [← hR]
  have HR := hI9 hR
  clear hR hop hM hcz hme he hcw
  go_enter Tryz.func9, Tryz.ntmps9
  go_wp2_with (first | (refine wpl_row rfl 34 _ rfl _ rfl _ 14 ?_ Tryz.rowMet rfl ?_; (focus exact (by repeat (first | (refine Blk.newAt _ _ _ ?_; first | rfl | (simp; done)) | refine Blk.alloc ?_ _))); simp only [Act.put]) | (refine wpl_row rfl 41 _ rfl _ rfl _ 5 ?_ Tryz.rowMin rfl ?_; (focus exact (by repeat (first | (refine Blk.newAt _ _ _ ?_; first | rfl | (simp; done)) | refine Blk.alloc ?_ _))); simp only [Act.put]))
  have _x := frm3 w #[.int .i64 M.places, .int .i64 M.any.a0, .int .i64 M.any.a1, .int .i64 M.any.a2, .int .i64 M.any.a3, .int .i64 M.any.a4, .int .i64 M.any.a5, .bool M.any.i, .bool M.any.s, .int .i64 M.mw, .int .i64 M.ms, .int .i64 M.mc, vF, vS] 34 #[.int .i64 lw, .int .i64 ls, .int .i64 lc, .bool li, .bool lt] 41 #[.int .i64 p] 3
  have HX := hI9 _x.1
  have HL := hI9 _x.2.1
  have HV := hI9 _x.2.2.1
  have HB := hI9 _x.2.2.2.1
  have zW := _x.2.2.2.2
  clear _x
  generalize World.alloc (World.alloc (World.alloc w _) _) _ = W at *
  refine (HCW.out _ _ _ (HA.out.below HB.out) (HV.out.cell 0)).mono ?_
  rintro _ w1 ⟨rfl, hb1⟩
  have nHX := hI9 (HX.out.below hb1)
  have nHL := hI9 (HL.out.below hb1)
  have nHB := hI9 (bthen HB.out hb1)
  clear HX HL HB hb1
  have HX := nHX
  have HL := nHL
  have HB := nHB
  clear nHX nHL nHB
  clear HV
  have K0 := hI9 (show WiK M vF vS lw ls lc li lt w [] (.slice none 0 0) w1 from ⟨⟨HB.out, HX.out, HL.out⟩, World.ownsRow_nil _ _ _ _, by simp, HL.out.lt⟩)
  clear HX HL HB HCW
  go_wp2_with (fail)
  go_loopg [10, 13] (u - f).toNat (fun gx v i wr => ∃ (tt : Int) (l : List (Int × Int)), i = .int .i64 tt ∧ f ≤ tt ∧ (l.length : Int) ≤ tt - f ∧ (u - tt).toNat ≤ gx ∧ Hid (WiK M vF vS lw ls lc li lt w l v wr) ∧ Hid (winR op (u - tt).toNat tt l = R))
  case atStart => exact ⟨f, [], rfl, Int.le_refl _, by simp, Nat.le_refl _, K0, HR.out.symm⟩
  case round =>
   clear K0
   obtain ⟨tt, l, rfl, hft, hlen, hgx, K0, HE⟩ := hrel
   by_cases hlt : tt < u
   ·have hop := HOP.out tt wr (HA.out.below K0.out.k.b) (by omega) (by omega)
    rw [HO.out tt] at hop
    have hE := HE.out
    rw [show (u - tt).toNat = (u - (tt + 1)).toNat + 1 by omega] at hE
    unfold winR at hE
    cases ho : op tt
    ·rw [ho] at hE hop
     rw [show (if false = true then winA l tt else l) = l from rfl] at hE
     have HE2 := hI9 hE
     clear hE HE ho
     obtain ⟨A, c, rfl⟩ : ∃ A c, u10 = .slice A l.length c := by
      rcases K0.out.o.2 with ⟨e, h0⟩ | ⟨g, cap, cur, e, -⟩
      ·exact ⟨none, 0, by rw [e, h0]⟩
      ·exact ⟨_, _, e⟩
     go_wp2_with (first | (refine wpl_row rfl 34 _ rfl _ rfl _ 14 K0.out.k.m Tryz.rowMet rfl ?_; simp only [Act.put]) | (refine wpl_row rfl 41 _ rfl _ rfl _ 5 K0.out.k.l Tryz.rowMin rfl ?_; simp only [Act.put]) | (go_at_call 33; refine hop.mono ?_; clear hop; rintro _ w2 ⟨rfl, hb2⟩))
     go_roundg (u - (tt + 1)).toNat
     case measure => omega
     case rel => exact ⟨tt + 1, l, by first | rfl | go_num | (congr 1; omega), by omega, by omega, Nat.le_refl _, K0.out.grow hb2, HE2⟩
    ·rw [ho] at hE hop
     rw [show (if true = true then winA l tt else l) = winA l tt from rfl] at hE
     clear ho HE
     rcases List.eq_nil_or_concat l with hl | ⟨l0, q, hl⟩
     ·subst hl
      have HE2 := hI9 (show winR op (u - (tt + 1)).toNat (tt + 1) ([] ++ [(tt, tt)]) = R from hE)
      clear hE
      obtain rfl := K0.out.n.2 rfl
      go_wp2_with (first | (refine wpl_row rfl 34 _ rfl _ rfl _ 14 K0.out.k.m Tryz.rowMet rfl ?_; simp only [Act.put]) | (refine wpl_row rfl 41 _ rfl _ rfl _ 5 K0.out.k.l Tryz.rowMin rfl ?_; simp only [Act.put]) | (go_at_call 33; refine hop.mono ?_; clear hop; rintro _ w2 ⟨rfl, hb2⟩) | (at_builtin; go_loud (refine wpl_appW rfl _ _ rfl (w.heap.size + 2) _ ([]) rfl ((K0.out.grow hb2).o.alloc _) _ (tt, tt) rfl ?a1 ?b1 (by simp) ?c1 ?_)))
      case c1 => simp; have := (K0.out.grow hb2).z; omega
      ·intro v2 w3 O2 G2 N2
       have K2 := hI9 (((K0.out.grow hb2).grow (bal (Below.refl _ _) _)).take (p := (tt, tt)) (by simpa using O2) G2 N2)
       clear O2 G2 N2
       go_wp2
       go_roundg (u - (tt + 1)).toNat
       case measure => omega
       case rel => exact ⟨tt + 1, [] ++ [(tt, tt)], by first | rfl | go_num | (congr 1; omega), by omega, by simp; omega, Nat.le_refl _, K2, HE2⟩
     ·rw [List.concat_eq_append] at hl
      subst hl
      rcases K0.out.o.2 with ⟨e, h0⟩ | ⟨g, cap, cur, rfl, -⟩
      ·exact absurd (K0.out.n.1 e) (by simp)
      have hlen2 : (l0.length : Int) + 1 ≤ tt - f := by simpa using hlen
      have ek : winA (l0 ++ [q]) tt = if q.2 = tt - 1 then l0 ++ [(q.1, tt)] else l0 ++ [q] ++ [(tt, tt)] := by simp [winA]
      rw [ek] at hE
      clear ek
      have k1 := K0.out
      have hown := k1.o
      rw [List.length_append, List.length_singleton] at hown k1
      clear K0
      have K0 := hI9 k1
      clear k1
      have hcell : wr.cell? ⟨g, l0.length * 2 + 1, none⟩ = some (.int .i64 q.2) := by
       rw [show (⟨g, l0.length * 2 + 1, none⟩ : Addr) = ⟨g, l0.length * 2 + 1, none⟩ from rfl]
       have := hown.cellAt (g := g) (l0.length * 2 + 1) (by omega)
       rw [this, spC_snoc, List.getElem?_append_right (by rw [spC_length]; omega), spC_length, show l0.length * 2 + 1 - l0.length * 2 = 1 by omega]
       rfl
      have hgl := owns_lt hown (b := g) rfl
      have hfr : wr.frozen? ⟨g, l0.length * 2 + 1, none⟩ = false := by
       rcases hown.2 with ⟨e, -⟩ | ⟨g', cap', cur', e, -, hh, -⟩
       ·cases e
       ·simp only [Value.slice.injEq, Option.some.injEq, Addr.mk.injEq, and_true] at e
        obtain ⟨rfl, -, -⟩ := e
        exact (show Blk wr g 28 cur' from hh).frozen _
      have HCL := hI9 (fun w2 (hb : Below wr.heap.size wr w2) => (hb.cell (p := ⟨g, l0.length * 2 + 1, none⟩) hgl).trans hcell)
      have HFR := hI9 (fun w2 (hb : Below wr.heap.size wr w2) => (hb.frozen (p := ⟨g, l0.length * 2 + 1, none⟩) hgl).trans hfr)
      clear hown hcell hfr
      by_cases hq : q.2 = tt - 1
      ·rw [if_pos hq] at hE
       have hqz : (q.2 == tt - 1) = true := by simp [hq]
       have HE2 := hI9 hE
       clear hE hq
       go_wp2_with (first | (refine wpl_row rfl 34 _ rfl _ rfl _ 14 K0.out.k.m Tryz.rowMet rfl ?_; simp only [Act.put]) | (refine wpl_row rfl 41 _ rfl _ rfl _ 5 K0.out.k.l Tryz.rowMin rfl ?_; simp only [Act.put]) | (go_at_call 33; refine hop.mono ?_; clear hop; rintro _ w2 ⟨rfl, hb2⟩; have cc := HCL.out _ hb2; have ff := HFR.out _ hb2))
       have K2 := hI9 ((K0.out.grow hb2).widen tt)
       go_roundg (u - (tt + 1)).toNat
       case measure => omega
       case rel => exact ⟨tt + 1, l0 ++ [(q.1, tt)], by first | rfl | go_num | (congr 1; omega), by omega, by simp; omega, Nat.le_refl _, K2, HE2⟩
      ·rw [if_neg hq] at hE
       have hqz : (q.2 == tt - 1) = false := by simp [hq]
       have HE2 := hI9 hE
       clear hE hq
       go_wp2_with (first | (refine wpl_row rfl 34 _ rfl _ rfl _ 14 K0.out.k.m Tryz.rowMet rfl ?_; simp only [Act.put]) | (refine wpl_row rfl 41 _ rfl _ rfl _ 5 K0.out.k.l Tryz.rowMin rfl ?_; simp only [Act.put]) | (go_at_call 33; refine hop.mono ?_; clear hop; rintro _ w2 ⟨rfl, hb2⟩; have cc := HCL.out _ hb2) | (at_builtin; go_loud (refine wpl_appW rfl _ _ rfl (w.heap.size + 2) _ (l0 ++ [q]) rfl ((K0.out.grow hb2).o.alloc _) _ (tt, tt) rfl ?a2 ?b2 (by simp; omega) ?c2 ?_)))
       case c2 => simp; have := (K0.out.grow hb2).z; omega
       ·intro v2 w3 O2 G2 N2
        have K2 := hI9 (((K0.out.grow hb2).grow (bal (Below.refl _ _) _)).take (p := (tt, tt)) (by simpa using O2) G2 N2)
        clear O2 G2 N2
        go_wp2
        go_roundg (u - (tt + 1)).toNat
        case measure => omega
        case rel => exact ⟨tt + 1, l0 ++ [q] ++ [(tt, tt)], by first | rfl | go_num | (congr 1; omega), by omega, by simp; omega, Nat.le_refl _, K2, HE2⟩
   ·have hE := HE.out
    rw [show (u - tt).toNat = 0 by omega] at hE
    unfold winR at hE
    have HE2 := hI9 hE
    clear hE HE
    have hlt2 : u ≤ tt := by omega
    go_wp2_with (fail)
    go_ret2
    have hX := ownsRow_base K0.out.o (b2 := w.heap.size) (by omega)
    rw [HE2.out] at hX
    refine ⟨_, rfl, K0.out.k.b, ?_⟩
    first | exact hX | exact ⟨fun h => absurd rfl h, fun _ => hX⟩
 ·have hez : (cwE M lw ls lc f u p != 0) = true := by simpa using he
  have HNE := hI9 he
  generalize cwE M lw ls lc f u p = E at *
  have HCW := hI9 hcw
  clear hcw he
  go_enter Tryz.func9, Tryz.ntmps9
  go_wp2_with (first | (refine wpl_row rfl 34 _ rfl _ rfl _ 14 ?_ Tryz.rowMet rfl ?_; (focus exact (by repeat (first | (refine Blk.newAt _ _ _ ?_; first | rfl | (simp; done)) | refine Blk.alloc ?_ _))); simp only [Act.put]) | (refine wpl_row rfl 41 _ rfl _ rfl _ 5 ?_ Tryz.rowMin rfl ?_; (focus exact (by repeat (first | (refine Blk.newAt _ _ _ ?_; first | rfl | (simp; done)) | refine Blk.alloc ?_ _))); simp only [Act.put]))
  have _x := frm3 w #[.int .i64 M.places, .int .i64 M.any.a0, .int .i64 M.any.a1, .int .i64 M.any.a2, .int .i64 M.any.a3, .int .i64 M.any.a4, .int .i64 M.any.a5, .bool M.any.i, .bool M.any.s, .int .i64 M.mw, .int .i64 M.ms, .int .i64 M.mc, vF, vS] 34 #[.int .i64 lw, .int .i64 ls, .int .i64 lc, .bool li, .bool lt] 41 #[.int .i64 p] 3
  have HX := hI9 _x.1
  have HL := hI9 _x.2.1
  have HV := hI9 _x.2.2.1
  have HB := hI9 _x.2.2.2.1
  have zW := _x.2.2.2.2
  clear _x
  generalize World.alloc (World.alloc (World.alloc w _) _) _ = W at *
  refine (HCW.out _ _ _ (HA.out.below HB.out) (HV.out.cell 0)).mono ?_
  rintro _ w1 ⟨rfl, hb1⟩
  have nHX := hI9 (HX.out.below hb1)
  have nHL := hI9 (HL.out.below hb1)
  have nHB := hI9 (bthen HB.out hb1)
  clear HX HL HB hb1
  have HX := nHX
  have HL := nHL
  have HB := nHB
  clear nHX nHL nHB
  clear HV
  go_wp2_with (fail)
  go_ret2
  exact ⟨_, rfl, HB.out, fun _ => rfl, fun h => absurd h HNE.out⟩
end Go.Proofs.YtlambeiafdpkgaaGreat

namespace Go.Proofs.YtlambeiafdpkgaaGreat
open Go Go.RowKit Go.Proofs
end Go.Proofs.YtlambeiafdpkgaaGreat

namespace Go.Proofs.YtlambeiafdpkgaaGreat
open Go Go.RowKit Go.Proofs
set_option maxRecDepth 100000
set_option maxHeartbeats 8000000
theorem wpl_buildw {P : Program} {ops : Array Oper} {rest : List Oper} {o : Oper} {a : Act} {w : World} {Q : Exit → Act → World → Prop} (hg : o.guard = none) (t : TypeId) (parts : Array (Nat × Operand)) (ho : o.op = .build t parts)
  (cs : Array Value) (hf : P.built t (parts.toList.map fun (i, x) => (i, a.eval x)) = some cs)
  (h : wpList P ops Q rest (a.put o.dst (.agg cs)) w) : wpList P ops Q (o :: rest) a w :=
 wpList_build hg t parts ho (by rw [Array.toList_map, hf]; rfl) (by rw [Array.toList_map, hf]; exact h)
theorem wpl_store_newW {P : Program} {ops : Array Oper} {rest : List Oper} {o : Oper} {a : Act} {w : World} {Q : Exit → Act → World → Prop} (hgd : o.guard = none) (ty : TypeId) (x y : Operand) (ho : o.op = .store ty x y)
  (cells old : Array Value) (g : Nat) (hx : a.eval x = .pointer (some ⟨g, 0, none⟩)) (hg : g = w.heap.size) (hy : a.eval y = .agg cells) (hi : (P.info? ty).map (·.size) = some cells.size)
  (hold : old.size = cells.size) (h1 : cells.all (·.oneCell') = true)
  (h : wpList P ops Q rest (a.put o.dst undef) (w.alloc (.cells cells ty))) : wpList P ops Q (o :: rest) a (w.alloc (.cells old ty)) := by
 subst hg
 refine wpList_store_row hgd ty x y ho w.heap.size cells hx hy ty old (World.alloc_heap_new w _) hi hold h1 ?_
 rw [World.setRow_alloc_new]; exact h
end Go.Proofs.YtlambeiafdpkgaaGreat

namespace Go.Proofs.YtlambeiafdpkgaaGreat
open Go Go.RowKit Go.Proofs
set_option maxRecDepth 100000
set_option maxHeartbeats 8000000
end Go.Proofs.YtlambeiafdpkgaaGreat

namespace Go.Proofs.YtlambeiafdpkgaaGreat
open Go Go.RowKit Go.Proofs
set_option maxRecDepth 100000
set_option maxHeartbeats 8000000
theorem opE_mk {M : MetD} {lw ls lc p t : Int} (h1 : minE M lw ls lc = 0) (h2 : atE M p t = 0) : opE M lw ls lc p t = 0 := by
 unfold opE; rw [if_pos h1, h2]
theorem MetAt.alloc {w : World} {vF vS : Value} {M : MetD} (h : MetAt w vF vS M) (o : Obj) : MetAt (w.alloc o) vF vS M := h.below (bal (Below.refl _ _) _)
end Go.Proofs.YtlambeiafdpkgaaGreat

namespace Go.Proofs.YtlambeiafdpkgaaGreat
open Go Go.RowKit Go.Proofs
set_option maxRecDepth 100000
set_option maxHeartbeats 8000000
def EmptyT (ty : TypeId) (n0 : Nat) (v : Value) (w : World) : Prop := ∃ g, v = .slice (some ⟨g, 0, none⟩) 0 0 ∧ Blk w g ty #[] ∧ n0 ≤ g
theorem EmptyT.below {ty : TypeId} {n0 : Nat} {v : Value} {w w' : World} (h : EmptyT ty n0 v w) (hb : Below w.heap.size w w') : EmptyT ty n0 v w' := by
 obtain ⟨g, e, h, k⟩ := h
 exact ⟨g, e, h.below hb, k⟩
def SlN (n0 : Nat) (w : World) (v : Value) (n k : Nat) (V : Nat → Nat → Value) : Prop := SlAt w v n k V ∧ ∀ b, some b = v.ownBlock → n0 ≤ b
theorem SlN.below {n0 : Nat} {w w' : World} {v : Value} {n k : Nat} {V : Nat → Nat → Value} (h : SlN n0 w v n k V) (hb : Below w.heap.size w w') : SlN n0 w' v n k V := ⟨h.1.below hb, h.2⟩
theorem SlAt.frame {w w' : World} {v : Value} {n k : Nat} {V : Nat → Nat → Value} (h : SlAt w v n k V) (hs : w.heap.size ≤ w'.heap.size) (hf : ∀ b, some b = v.ownBlock → w'.heap[b]? = w.heap[b]?) : SlAt w' v n k V := by
 obtain ⟨A, c, rfl, h1, h2, h3⟩ := h.e
 exact ⟨A, c, rfl, h1, h2, h3.frame hs (fun _ b off e => hf b (by rw [e]; rfl))⟩
end Go.Proofs.YtlambeiafdpkgaaGreat
