/- Texts joined: JBB. -/
import Derived.Test.YtlambeiafdpkgaaGreatDkR
import Derived.Test.YtlambeiafdpkgaaGreatJAP
import Derived.Test.YtlambeiafdpkgaaGreatJAA
import Derived.Test.YtlambeiafdpkgaaGreatJBA
set_option linter.all false
namespace Go.Proofs.YtlambeiafdpkgaaGreat
open Go Go.RowKit Go.Proofs
set_option maxRecDepth 100000
set_option maxHeartbeats 8000000
theorem Tryz.sizeScn : (Tryz.prog.info? 98).map (·.size) = some 27 := by kernel_rfl
theorem oneScn (D : DekD) (M : MetD) (Mo : MovD) (A1 A2 A3 A4 A5 A6 A7 A8 : Option Addr) (k1 k2 k3 k4 k5 k6 k7 k8 : Nat) : (#[.int .i64 D.size, .int .i64 D.load, .int .i64 D.wind, .slice A1 D.ns k1, .int .i64 D.pitch, .int .i64 D.roll, .int .i64 D.heave, .int .i64 D.fire, .slice A2 D.nh k2, .slice A3 D.nu k3, .int .i64 M.places, .int .i64 M.any.a0, .int .i64 M.any.a1, .int .i64 M.any.a2, .int .i64 M.any.a3, .int .i64 M.any.a4, .int .i64 M.any.a5, .bool M.any.i, .bool M.any.s, .int .i64 M.mw, .int .i64 M.ms, .int .i64 M.mc, .slice A4 M.n k4, .slice A5 M.m k5, .slice A6 Mo.np k6, .slice A7 Mo.nr k7, .slice A8 Mo.nv k8] : Array Value).all (·.oneCell') = true := by simp [Value.oneCell']
theorem caE_ok {D : DekD} {M : MetD} {Mo : MovD} {a : AppD} {r : Bool} (h : caE D M Mo a r = 0) :
  D.Ok ∧ Mo.Ok ∧ M.bad = false ∧ (inB a.size 1 1000000 = true ∧ inB a.weight 1 1000000 = true ∧ opE M a.lw a.ls a.lc a.place 0 = 0 ∧ insB a.lo a.hi 719 = true) ∧ r = true := by
 unfold caE at h
 by_cases h1 : scE D M Mo = 0
 ·rw [if_pos h1] at h
  by_cases h2 : appE M a = 0
  ·rw [if_pos h2] at h
   cases r
   ·cases h
   ·unfold scE at h1
    by_cases h3 : D.err = 0
    ·rw [if_pos h3] at h1
     have hb : D.bad = false := by
      unfold DekD.err at h3
      cases hb : D.bad
      ·rfl
      ·rw [hb] at h3; cases h3
     by_cases h4 : M.err = 0
     ·rw [if_pos h4] at h1
      unfold cmE at h1
      rw [if_pos h3] at h1
      have hmb : M.bad = false := by
       cases hb : M.bad
       ·rfl
       ·rw [MetD.err_t hb] at h4; cases h4
      have hmo : Mo.ok = true := by
       cases hb : Mo.ok
       ·rw [hb] at h1; cases h1
       ·rfl
      unfold appE at h2
      cases q1 : inB a.size 1 1000000
      ·rw [q1] at h2; cases h2
      ·cases q2 : inB a.weight 1 1000000
       ·rw [q1, q2] at h2; cases h2
       ·by_cases q3 : opE M a.lw a.ls a.lc a.place 0 = 0
        ·cases q4 : insB a.lo a.hi 719
         ·rw [q1, q2, if_pos rfl, if_pos rfl, if_pos q3, q4] at h2; cases h2
         ·exact ⟨DekD.ok_of hb, MovD.ok_of hmo, hmb, ⟨rfl, rfl, q3, rfl⟩, rfl⟩
        ·rw [q1, q2, if_pos rfl, if_pos rfl, if_neg q3] at h2; cases h2
     ·rw [if_neg h4] at h1; exact absurd h1 h4
    ·rw [if_neg h3] at h1; exact absurd h1 h3
  ·rw [if_neg h2] at h; exact absurd h h2
 ·rw [if_neg h1] at h; exact absurd h h1
def whyE (D : DekD) (M : MetD) (Mo : MovD) (a : AppD) (t : Int) : Int := caE D M Mo a (inB t 0 2000)
def whyV (D : DekD) (M : MetD) (Mo : MovD) (a : AppD) (t : Int) : Nat := if whyE D M Mo a t = 0 then whyN D M Mo a t else 0
theorem dWhy_c (D : DekD) (vA vB vC : Value) (M : MetD) (vF vS : Value) (Mo : MovD) (vP vR vV : Value) (a : AppD) (t : Int) (w : World) (hD : DekAt w vA vB vC D) (hA : MetAt w vF vS M) (hV : MovAt w vP vR vV Mo) :
  Calls Tryz.prog 10 #[.agg #[.int .i64 D.size, .int .i64 D.load, .int .i64 D.wind, vA, .int .i64 D.pitch, .int .i64 D.roll, .int .i64 D.heave, .int .i64 D.fire, vB, vC], .agg #[.int .i64 M.places, .int .i64 M.any.a0, .int .i64 M.any.a1, .int .i64 M.any.a2, .int .i64 M.any.a3, .int .i64 M.any.a4, .int .i64 M.any.a5, .bool M.any.i, .bool M.any.s, .int .i64 M.mw, .int .i64 M.ms, .int .i64 M.mc, vF, vS], .agg #[vP, vR, vV], .agg #[.int .i64 a.size, .int .i64 a.weight, .int .i64 a.lw, .int .i64 a.ls, .int .i64 a.lc, .bool a.li, .bool a.lt, .int .i64 a.place, .int .i64 a.lo, .int .i64 a.hi], .int .i64 t] w fun e w' => ∃ A c, e = .returned (.tuple #[.slice A (whyV D M Mo a t) c, .int .i64 (whyE D M Mo a t)]) ∧ Below w.heap.size w w' := by
 have HD := hI9 hD
 have HA := hI9 hA
 have HV := hI9 hV
 obtain ⟨A1, k1, rfl, -, -, -⟩ := hD.s.e
 obtain ⟨A2, k2, rfl, -, -, -⟩ := hD.h.e
 obtain ⟨A3, k3, rfl, -, -, -⟩ := hD.u.e
 obtain ⟨⟨A4, k4, rfl, -, -, -⟩, ⟨A5, k5, rfl, -, -, -⟩⟩ := hA
 obtain ⟨A6, k6, rfl, -, -, -⟩ := hV.p.e
 obtain ⟨A7, k7, rfl, -, -, -⟩ := hV.r.e
 obtain ⟨A8, k8, rfl, -, -, -⟩ := hV.v.e
 have hca := fun r w1 h1 h2 h3 => dcheckApproach_c D (.slice A1 D.ns k1) (.slice A2 D.nh k2) (.slice A3 D.nu k3) M (.slice A4 M.n k4) (.slice A5 M.m k5) Mo (.slice A6 Mo.np k6) (.slice A7 Mo.nr k7) (.slice A8 Mo.nv k8) a r w1 h1 h2 h3
 have hwi := fun w1 => dwithin_c t 0 2000 w1
 clear hD hV
 unfold whyV whyE
 by_cases he : caE D M Mo a (inB t 0 2000) = 0
 ·obtain ⟨hO, hMo, -, ⟨-, -, -, hin⟩, hr⟩ := caE_ok he
  obtain ⟨ht0, ht1⟩ := inB_iff.1 hr
  have hin2 := insB_iff.1 hin
  have hwy := fun w1 h1 h2 h3 => dwhy_c D (.slice A1 D.ns k1) (.slice A2 D.nh k2) (.slice A3 D.nu k3) M (.slice A4 M.n k4) (.slice A5 M.m k5) Mo (.slice A6 Mo.np k6) (.slice A7 Mo.nr k7) (.slice A8 Mo.nv k8) a t w1 h1 h2 h3 hO hMo ht0 ht1 hin2.2.1 hin2.2.2.2
  rw [if_pos he]
  have hca2 := hca (inB t 0 2000)
  rw [he] at hca2 ⊢
  generalize whyN D M Mo a t = N at *
  generalize inB t 0 2000 = B at *
  have HCA := hI9 hca2
  have HWI := hI9 hwi
  have HWY := hI9 hwy
  clear hca hca2 hwi hwy hO hMo hin hr hin2 he
  have tok : True := trivial
  go_enter Tryz.func10, Tryz.ntmps10
  go_wp2_with (first | (refine wpl_row rfl 26 _ rfl _ rfl _ 10 ?_ Tryz.rowDek rfl ?_; (focus exact (by repeat (first | (refine Blk.newAt _ _ _ ?_; first | rfl | (simp; done)) | refine Blk.alloc ?_ _))); simp only [Act.put]) | (refine wpl_row rfl 34 _ rfl _ rfl _ 14 ?_ Tryz.rowMet rfl ?_; (focus exact (by repeat (first | (refine Blk.newAt _ _ _ ?_; first | rfl | (simp; done)) | refine Blk.alloc ?_ _))); simp only [Act.put]) | (refine wpl_row rfl 37 _ rfl _ rfl _ 3 ?_ Tryz.rowMov rfl ?_; (focus exact (by repeat (first | (refine Blk.newAt _ _ _ ?_; first | rfl | (simp; done)) | refine Blk.alloc ?_ _))); simp only [Act.put]) | (refine wpl_buildw rfl 98 _ rfl #[.int .i64 D.size, .int .i64 D.load, .int .i64 D.wind, .slice A1 D.ns k1, .int .i64 D.pitch, .int .i64 D.roll, .int .i64 D.heave, .int .i64 D.fire, .slice A2 D.nh k2, .slice A3 D.nu k3, .int .i64 M.places, .int .i64 M.any.a0, .int .i64 M.any.a1, .int .i64 M.any.a2, .int .i64 M.any.a3, .int .i64 M.any.a4, .int .i64 M.any.a5, .bool M.any.i, .bool M.any.s, .int .i64 M.mw, .int .i64 M.ms, .int .i64 M.mc, .slice A4 M.n k4, .slice A5 M.m k5, .slice A6 Mo.np k6, .slice A7 Mo.nr k7, .slice A8 Mo.nv k8] (by kernel_rfl) ?_; simp only [Act.put]) | (have _t := tok; refine wpl_store_newW rfl 98 (.tmp 12) (.tmp 17) rfl #[.int .i64 D.size, .int .i64 D.load, .int .i64 D.wind, .slice A1 D.ns k1, .int .i64 D.pitch, .int .i64 D.roll, .int .i64 D.heave, .int .i64 D.fire, .slice A2 D.nh k2, .slice A3 D.nu k3, .int .i64 M.places, .int .i64 M.any.a0, .int .i64 M.any.a1, .int .i64 M.any.a2, .int .i64 M.any.a3, .int .i64 M.any.a4, .int .i64 M.any.a5, .bool M.any.i, .bool M.any.s, .int .i64 M.mw, .int .i64 M.ms, .int .i64 M.mc, .slice A4 M.n k4, .slice A5 M.m k5, .slice A6 Mo.np k6, .slice A7 Mo.nr k7, .slice A8 Mo.nv k8] _ _ rfl ?_ rfl Tryz.sizeScn rfl (oneScn D M Mo _ _ _ _ _ _ _ _ _ _ _ _ _ _ _ _) ?_; (focus (simp; done)); simp only [Act.put]; clear tok))
  have _x := frm5 w #[.int .i64 D.size, .int .i64 D.load, .int .i64 D.wind, .slice A1 D.ns k1, .int .i64 D.pitch, .int .i64 D.roll, .int .i64 D.heave, .int .i64 D.fire, .slice A2 D.nh k2, .slice A3 D.nu k3] 26 #[.int .i64 M.places, .int .i64 M.any.a0, .int .i64 M.any.a1, .int .i64 M.any.a2, .int .i64 M.any.a3, .int .i64 M.any.a4, .int .i64 M.any.a5, .bool M.any.i, .bool M.any.s, .int .i64 M.mw, .int .i64 M.ms, .int .i64 M.mc, .slice A4 M.n k4, .slice A5 M.m k5] 34 #[.slice A6 Mo.np k6, .slice A7 Mo.nr k7, .slice A8 Mo.nv k8] 37 #[.int .i64 a.size, .int .i64 a.weight, .int .i64 a.lw, .int .i64 a.ls, .int .i64 a.lc, .bool a.li, .bool a.lt, .int .i64 a.place, .int .i64 a.lo, .int .i64 a.hi] 43 #[.int .i64 D.size, .int .i64 D.load, .int .i64 D.wind, .slice A1 D.ns k1, .int .i64 D.pitch, .int .i64 D.roll, .int .i64 D.heave, .int .i64 D.fire, .slice A2 D.nh k2, .slice A3 D.nu k3, .int .i64 M.places, .int .i64 M.any.a0, .int .i64 M.any.a1, .int .i64 M.any.a2, .int .i64 M.any.a3, .int .i64 M.any.a4, .int .i64 M.any.a5, .bool M.any.i, .bool M.any.s, .int .i64 M.mw, .int .i64 M.ms, .int .i64 M.mc, .slice A4 M.n k4, .slice A5 M.m k5, .slice A6 Mo.np k6, .slice A7 Mo.nr k7, .slice A8 Mo.nv k8] 98
  have H1 := hI9 _x.1
  have H2 := hI9 _x.2.1
  have H3 := hI9 _x.2.2.1
  have HY := hI9 _x.2.2.2.1
  have HX := hI9 _x.2.2.2.2.1
  have HB := hI9 _x.2.2.2.2.2.1
  have zW := _x.2.2.2.2.2.2
  clear _x
  generalize World.alloc (World.alloc (World.alloc (World.alloc (World.alloc w _) _) _) _) _ = W at *
  clear H1 H2 H3
  have hX2 := hI9 (fun r : After W => HX.out.below r.below)
  have hY2 := hI9 (fun r : After W => HY.out.below r.below)
  have hD2 := hI9 (fun r : After W => (HD.out.below HB.out).below r.below)
  have hA2 := hI9 (fun r : After W => (HA.out.below HB.out).below r.below)
  have hV2 := hI9 (fun r : After W => (HV.out.below HB.out).below r.below)
  refine wp_region_aftert 5 (by kernel_rfl) (by kernel_rfl) ?_
  simp only [List.take_succ_cons, List.take_zero, List.drop_succ_cons, List.drop_zero]
  refine wpq_row rfl 98 _ rfl _ rfl _ 27 (fun _ hw => by obtain ⟨r, rfl⟩ := hw; exact hX2.out r) Tryz.rowScn rfl ?_
  simp only [Act.put, List.setIfInBounds_toArray, List.set_cons_succ, List.set_cons_zero]
  refine wpq_row rfl 43 _ rfl _ rfl _ 10 (fun _ hw => by obtain ⟨r, rfl⟩ := hw; exact hY2.out r) Tryz.rowApp rfl ?_
  simp only [Act.put, List.setIfInBounds_toArray, List.set_cons_succ, List.set_cons_zero]
  go_big_quiet_step (fail)
  go_big_quiet_step (first | (go_at_call 34; (with_reducible refine qafter_same (HWI.out _))))
  go_big_quiet_step (first | (go_at_call 27; (with_reducible refine qafter (HCA.out _ (hD2.out _) (hA2.out _) (hV2.out _)))))
  refine wpQuiet_nil ?_
  rintro wq ⟨⟨w1, hb1⟩, rfl⟩
  clear hX2 hY2 hD2 hA2 hV2
  have nHX := hI9 (HX.out.below hb1)
  have nHY := hI9 (HY.out.below hb1)
  have nHB := hI9 (bthen HB.out hb1)
  clear HX HY HB hb1
  have HX := nHX
  have HY := nHY
  have HB := nHB
  clear nHX nHY nHB
  go_wp2_with (first | (refine wpl_row rfl 98 _ rfl _ rfl _ 27 HX.out Tryz.rowScn rfl ?_; simp only [Act.put]) | (refine wpl_row rfl 43 _ rfl _ rfl _ 10 HY.out Tryz.rowApp rfl ?_; simp only [Act.put]))
  try dsimp only [NoPanic]
  try go_wp2_with (first | (refine wpl_row rfl 98 _ rfl _ rfl _ 27 HX.out Tryz.rowScn rfl ?_; simp only [Act.put]) | (refine wpl_row rfl 43 _ rfl _ rfl _ 10 HY.out Tryz.rowApp rfl ?_; simp only [Act.put]))
  refine (HWY.out _ (HD.out.below HB.out) (HA.out.below HB.out) (HV.out.below HB.out)).mono ?_
  rintro e w1 ⟨A, c, rfl, hb1⟩
  have nHX := hI9 (HX.out.below hb1)
  have nHY := hI9 (HY.out.below hb1)
  have nHB := hI9 (bthen HB.out hb1)
  clear HX HY HB hb1
  have HX := nHX
  have HY := nHY
  have HB := nHB
  clear nHX nHY nHB
  go_wp2_with (fail)
  go_ret2
  exact ⟨A, c, rfl, HB.out⟩
 ·rw [if_neg he]
  have hca2 := hca (inB t 0 2000)
  have hez : (caE D M Mo a (inB t 0 2000) != 0) = true := by simpa using he
  clear he
  generalize caE D M Mo a (inB t 0 2000) = E at *
  generalize inB t 0 2000 = B at *
  have HCA := hI9 hca2
  have HWI := hI9 hwi
  clear hca hca2 hwi
  have tok : True := trivial
  go_enter Tryz.func10, Tryz.ntmps10
  go_wp2_with (first | (refine wpl_row rfl 26 _ rfl _ rfl _ 10 ?_ Tryz.rowDek rfl ?_; (focus exact (by repeat (first | (refine Blk.newAt _ _ _ ?_; first | rfl | (simp; done)) | refine Blk.alloc ?_ _))); simp only [Act.put]) | (refine wpl_row rfl 34 _ rfl _ rfl _ 14 ?_ Tryz.rowMet rfl ?_; (focus exact (by repeat (first | (refine Blk.newAt _ _ _ ?_; first | rfl | (simp; done)) | refine Blk.alloc ?_ _))); simp only [Act.put]) | (refine wpl_row rfl 37 _ rfl _ rfl _ 3 ?_ Tryz.rowMov rfl ?_; (focus exact (by repeat (first | (refine Blk.newAt _ _ _ ?_; first | rfl | (simp; done)) | refine Blk.alloc ?_ _))); simp only [Act.put]) | (refine wpl_buildw rfl 98 _ rfl #[.int .i64 D.size, .int .i64 D.load, .int .i64 D.wind, .slice A1 D.ns k1, .int .i64 D.pitch, .int .i64 D.roll, .int .i64 D.heave, .int .i64 D.fire, .slice A2 D.nh k2, .slice A3 D.nu k3, .int .i64 M.places, .int .i64 M.any.a0, .int .i64 M.any.a1, .int .i64 M.any.a2, .int .i64 M.any.a3, .int .i64 M.any.a4, .int .i64 M.any.a5, .bool M.any.i, .bool M.any.s, .int .i64 M.mw, .int .i64 M.ms, .int .i64 M.mc, .slice A4 M.n k4, .slice A5 M.m k5, .slice A6 Mo.np k6, .slice A7 Mo.nr k7, .slice A8 Mo.nv k8] (by kernel_rfl) ?_; simp only [Act.put]) | (have _t := tok; refine wpl_store_newW rfl 98 (.tmp 12) (.tmp 17) rfl #[.int .i64 D.size, .int .i64 D.load, .int .i64 D.wind, .slice A1 D.ns k1, .int .i64 D.pitch, .int .i64 D.roll, .int .i64 D.heave, .int .i64 D.fire, .slice A2 D.nh k2, .slice A3 D.nu k3, .int .i64 M.places, .int .i64 M.any.a0, .int .i64 M.any.a1, .int .i64 M.any.a2, .int .i64 M.any.a3, .int .i64 M.any.a4, .int .i64 M.any.a5, .bool M.any.i, .bool M.any.s, .int .i64 M.mw, .int .i64 M.ms, .int .i64 M.mc, .slice A4 M.n k4, .slice A5 M.m k5, .slice A6 Mo.np k6, .slice A7 Mo.nr k7, .slice A8 Mo.nv k8] _ _ rfl ?_ rfl Tryz.sizeScn rfl (oneScn D M Mo _ _ _ _ _ _ _ _ _ _ _ _ _ _ _ _) ?_; (focus (simp; done)); simp only [Act.put]; clear tok))
  have _x := frm5 w #[.int .i64 D.size, .int .i64 D.load, .int .i64 D.wind, .slice A1 D.ns k1, .int .i64 D.pitch, .int .i64 D.roll, .int .i64 D.heave, .int .i64 D.fire, .slice A2 D.nh k2, .slice A3 D.nu k3] 26 #[.int .i64 M.places, .int .i64 M.any.a0, .int .i64 M.any.a1, .int .i64 M.any.a2, .int .i64 M.any.a3, .int .i64 M.any.a4, .int .i64 M.any.a5, .bool M.any.i, .bool M.any.s, .int .i64 M.mw, .int .i64 M.ms, .int .i64 M.mc, .slice A4 M.n k4, .slice A5 M.m k5] 34 #[.slice A6 Mo.np k6, .slice A7 Mo.nr k7, .slice A8 Mo.nv k8] 37 #[.int .i64 a.size, .int .i64 a.weight, .int .i64 a.lw, .int .i64 a.ls, .int .i64 a.lc, .bool a.li, .bool a.lt, .int .i64 a.place, .int .i64 a.lo, .int .i64 a.hi] 43 #[.int .i64 D.size, .int .i64 D.load, .int .i64 D.wind, .slice A1 D.ns k1, .int .i64 D.pitch, .int .i64 D.roll, .int .i64 D.heave, .int .i64 D.fire, .slice A2 D.nh k2, .slice A3 D.nu k3, .int .i64 M.places, .int .i64 M.any.a0, .int .i64 M.any.a1, .int .i64 M.any.a2, .int .i64 M.any.a3, .int .i64 M.any.a4, .int .i64 M.any.a5, .bool M.any.i, .bool M.any.s, .int .i64 M.mw, .int .i64 M.ms, .int .i64 M.mc, .slice A4 M.n k4, .slice A5 M.m k5, .slice A6 Mo.np k6, .slice A7 Mo.nr k7, .slice A8 Mo.nv k8] 98
  have H1 := hI9 _x.1
  have H2 := hI9 _x.2.1
  have H3 := hI9 _x.2.2.1
  have HY := hI9 _x.2.2.2.1
  have HX := hI9 _x.2.2.2.2.1
  have HB := hI9 _x.2.2.2.2.2.1
  have zW := _x.2.2.2.2.2.2
  clear _x
  generalize World.alloc (World.alloc (World.alloc (World.alloc (World.alloc w _) _) _) _) _ = W at *
  clear H1 H2 H3
  have hX2 := hI9 (fun r : After W => HX.out.below r.below)
  have hY2 := hI9 (fun r : After W => HY.out.below r.below)
  have hD2 := hI9 (fun r : After W => (HD.out.below HB.out).below r.below)
  have hA2 := hI9 (fun r : After W => (HA.out.below HB.out).below r.below)
  have hV2 := hI9 (fun r : After W => (HV.out.below HB.out).below r.below)
  refine wp_region_aftert 5 (by kernel_rfl) (by kernel_rfl) ?_
  simp only [List.take_succ_cons, List.take_zero, List.drop_succ_cons, List.drop_zero]
  refine wpq_row rfl 98 _ rfl _ rfl _ 27 (fun _ hw => by obtain ⟨r, rfl⟩ := hw; exact hX2.out r) Tryz.rowScn rfl ?_
  simp only [Act.put, List.setIfInBounds_toArray, List.set_cons_succ, List.set_cons_zero]
  refine wpq_row rfl 43 _ rfl _ rfl _ 10 (fun _ hw => by obtain ⟨r, rfl⟩ := hw; exact hY2.out r) Tryz.rowApp rfl ?_
  simp only [Act.put, List.setIfInBounds_toArray, List.set_cons_succ, List.set_cons_zero]
  go_big_quiet_step (fail)
  go_big_quiet_step (first | (go_at_call 34; (with_reducible refine qafter_same (HWI.out _))))
  go_big_quiet_step (first | (go_at_call 27; (with_reducible refine qafter (HCA.out _ (hD2.out _) (hA2.out _) (hV2.out _)))))
  refine wpQuiet_nil ?_
  rintro wq ⟨⟨w1, hb1⟩, rfl⟩
  clear hX2 hY2 hD2 hA2 hV2
  have nHX := hI9 (HX.out.below hb1)
  have nHY := hI9 (HY.out.below hb1)
  have nHB := hI9 (bthen HB.out hb1)
  clear HX HY HB hb1
  have HX := nHX
  have HY := nHY
  have HB := nHB
  clear nHX nHY nHB
  go_wp2_with (first | (refine wpl_row rfl 98 _ rfl _ rfl _ 27 HX.out Tryz.rowScn rfl ?_; simp only [Act.put]) | (refine wpl_row rfl 43 _ rfl _ rfl _ 10 HY.out Tryz.rowApp rfl ?_; simp only [Act.put]))
  try dsimp only [NoPanic]
  try go_wp2_with (first | (refine wpl_row rfl 98 _ rfl _ rfl _ 27 HX.out Tryz.rowScn rfl ?_; simp only [Act.put]) | (refine wpl_row rfl 43 _ rfl _ rfl _ 10 HY.out Tryz.rowApp rfl ?_; simp only [Act.put]))
  go_ret2
  exact ⟨none, 0, rfl, HB.out⟩
end Go.Proofs.YtlambeiafdpkgaaGreat

namespace Go.Proofs.YtlambeiafdpkgaaGreat
open Go Go.RowKit Go.Proofs
theorem DekAt.alloc {w : World} {vA vB vC : Value} {D : DekD} (h : DekAt w vA vB vC D) (o : Obj) : DekAt (w.alloc o) vA vB vC D := h.below (bal (Below.refl _ _) o)
theorem MovAt.alloc {w : World} {vP vR vV : Value} {Mo : MovD} (h : MovAt w vP vR vV Mo) (o : Obj) : MovAt (w.alloc o) vP vR vV Mo := h.below (bal (Below.refl _ _) o)
theorem appE_mk {M : MetD} {a : AppD} (h1 : inB a.size 1 1000000 = true) (h2 : inB a.weight 1 1000000 = true) (h3 : opE M a.lw a.ls a.lc a.place 0 = 0) (h4 : insB a.lo a.hi 719 = true) : appE M a = 0 := by
 unfold appE
 rw [if_pos h1, if_pos h2, if_pos h3, if_pos h4]
theorem caE_mk {D : DekD} {M : MetD} {Mo : MovD} {a : AppD} {r : Bool} (h1 : scE D M Mo = 0) (h2 : appE M a = 0) (h3 : r = true) : caE D M Mo a r = 0 := by
 unfold caE
 rw [if_pos h1, if_pos h2, if_pos h3]
end Go.Proofs.YtlambeiafdpkgaaGreat

namespace Go.Proofs.YtlambeiafdpkgaaGreat
open Go Go.RowKit Go.Proofs
def bkR (ok : Int → Bool) (stay : Int) : Nat → Int → Int → Int
 | 0, _, _ => -1
 | r + 1, t, c => if ok t then (if c + 1 = stay then t - stay + 1 else bkR ok stay r (t + 1) (c + 1)) else bkR ok stay r (t + 1) 0
def bkV (ok : Int → Bool) (at0 stay : Int) : Int := bkR ok stay (2001 - at0).toNat at0 0
def tkB (o : List (Int × Int)) (t : Int) : Bool := o.any fun p => decide (0 ≤ p.1) && (decide (p.1 ≤ t) && decide (t < p.1 + p.2))
def bkOk (D : DekD) (M : MetD) (Mo : MovD) (o : List (Int × Int)) (a : AppD) (t : Int) : Bool := !tkB o t && decide (whyN D M Mo a t = 0)
def apK (T : Nat → Nat → Int) (B : Nat → Nat → Bool) (k : Nat) : AppD := ⟨T k 2, T k 3, T k 4, T k 5, T k 6, B k 7, B k 8, T k 9, T k 10, T k 11⟩
def bkL (D : DekD) (M : MetD) (Mo : MovD) (T : Nat → Nat → Int) (B : Nat → Nat → Bool) : Nat → List (Int × Int)
 | 0 => []
 | k + 1 => bkL D M Mo T B k ++ [(bkV (bkOk D M Mo (bkL D M Mo T B k) (apK T B k)) (T k 0) (T k 1), T k 1)]
def bkO (D : DekD) (M : MetD) (Mo : MovD) (T : Nat → Nat → Int) (B : Nat → Nat → Bool) (k : Nat) : Int := bkV (bkOk D M Mo (bkL D M Mo T B k) (apK T B k)) (T k 0) (T k 1)
theorem bkL_succ (D : DekD) (M : MetD) (Mo : MovD) (T : Nat → Nat → Int) (B : Nat → Nat → Bool) (k : Nat) : bkL D M Mo T B (k + 1) = bkL D M Mo T B k ++ [(bkO D M Mo T B k, T k 1)] := rfl
theorem tkB_snoc (o : List (Int × Int)) (p : Int × Int) (t : Int) : tkB (o ++ [p]) t = (tkB o t || (decide (0 ≤ p.1) && (decide (p.1 ≤ t) && decide (t < p.1 + p.2)))) := by
 unfold tkB
 rw [List.any_append]
 simp
theorem bkR_spec {ok : Int → Bool} {stay at0 : Int} (hs : 1 ≤ stay) : ∀ (r : Nat) (t c : Int), t + r = 2001 → 0 ≤ c → c < stay → at0 ≤ t - c → (∀ m, t - c ≤ m → m < t → ok m = true) → (∀ s, at0 ≤ s → s < t - c → ∃ m, s ≤ m ∧ m < s + stay ∧ ok m = false) →
  bkR ok stay r t c = -1 ∨ (at0 ≤ bkR ok stay r t c ∧ bkR ok stay r t c + stay ≤ 2001 ∧ (∀ m, bkR ok stay r t c ≤ m → m < bkR ok stay r t c + stay → ok m = true) ∧ ∀ s, at0 ≤ s → s < bkR ok stay r t c → ∃ m, s ≤ m ∧ m < s + stay ∧ ok m = false)
 | 0, t, c, _, _, _, _, _, _ => Or.inl rfl
 | r + 1, t, c, h1, h2, h3, h4, h5, h6 => by
  unfold bkR
  split
  ·rename_i ho
   split
   ·rename_i hc
    refine Or.inr ⟨by omega, by omega, fun m q1 q2 => ?_, fun s q1 q2 => h6 s q1 (by omega)⟩
    by_cases e : m = t
    ·rw [e]; exact ho
    ·exact h5 m (by omega) (by omega)
   ·rename_i hc
    refine bkR_spec hs r (t + 1) (c + 1) (by omega) (by omega) (by omega) (by omega) (fun m q1 q2 => ?_) (fun s q1 q2 => h6 s q1 (by omega))
    by_cases e : m = t
    ·rw [e]; exact ho
    ·exact h5 m (by omega) (by omega)
  ·rename_i ho
   refine bkR_spec hs r (t + 1) 0 (by omega) (by omega) (by omega) (by omega) (fun m q1 q2 => by omega) (fun s q1 q2 => ?_)
   by_cases e : s < t - c
   ·exact h6 s q1 e
   ·exact ⟨t, by omega, by omega, by simpa using ho⟩
theorem bkV_spec {ok : Int → Bool} {stay at0 : Int} (hs : 1 ≤ stay) (h0 : at0 ≤ 2000) :
  bkV ok at0 stay = -1 ∨ (at0 ≤ bkV ok at0 stay ∧ bkV ok at0 stay + stay ≤ 2001 ∧ (∀ m, bkV ok at0 stay ≤ m → m < bkV ok at0 stay + stay → ok m = true) ∧ ∀ s, at0 ≤ s → s < bkV ok at0 stay → ∃ m, s ≤ m ∧ m < s + stay ∧ ok m = false) :=
 bkR_spec hs _ at0 0 (by omega) (by omega) (by omega) (by omega) (fun m q1 q2 => by omega) (fun s q1 q2 => by omega)
def bkGood (M : MetD) (T : Nat → Nat → Int) (B : Nat → Nat → Bool) (k : Nat) : Bool := decide (appE M (apK T B k) = 0) && (inB (T k 0) 0 2000 && inB (T k 1) 1 100)
def bookE (D : DekD) (M : MetD) (Mo : MovD) (T : Nat → Nat → Int) (B : Nat → Nat → Bool) (n : Nat) : Int :=
 if scE D M Mo = 0 then (if 20 < n then 2 else if (List.range n).all (bkGood M T B) then 0 else 62) else scE D M Mo
theorem bookE_ok {D : DekD} {M : MetD} {Mo : MovD} {T : Nat → Nat → Int} {B : Nat → Nat → Bool} {n : Nat} (h : bookE D M Mo T B n = 0) :
  scE D M Mo = 0 ∧ n ≤ 20 ∧ ∀ k, k < n → appE M (apK T B k) = 0 ∧ (0 ≤ T k 0 ∧ T k 0 ≤ 2000) ∧ 1 ≤ T k 1 ∧ T k 1 ≤ 100 := by
 unfold bookE at h
 by_cases h1 : scE D M Mo = 0
 ·rw [if_pos h1] at h
  by_cases h2 : 20 < n
  ·rw [if_pos h2] at h; cases h
  ·rw [if_neg h2] at h
   cases h3 : (List.range n).all (bkGood M T B)
   ·rw [h3] at h; cases h
   ·refine ⟨h1, by omega, fun k hk => ?_⟩
    have := List.all_eq_true.1 h3 k (List.mem_range.2 hk)
    unfold bkGood at this
    simp only [Bool.and_eq_true, decide_eq_true_eq, inB_iff] at this
    exact this
 ·rw [if_neg h1] at h; exact absurd h h1
end Go.Proofs.YtlambeiafdpkgaaGreat

namespace Go.Proofs.YtlambeiafdpkgaaGreat
open Go Go.RowKit Go.Proofs
set_option maxRecDepth 100000
set_option maxHeartbeats 8000000
theorem Tryz.spU2 : Tryz.prog.underlying 24 = some (.slice 28) := by kernel_rfl
theorem Tryz.spI2 : (Tryz.prog.info? 28).map (fun i => (i.zero.map (·.cells.size), i.size, decide (i.bytes ≤ 200))) = some (some 2, 2, true) := by kernel_rfl
theorem Tryz.sizeDek : (Tryz.prog.info? 26).map (·.size) = some 10 := by kernel_rfl
theorem SlN.put {n0 : Nat} {w w' : World} {v : Value} {n k g i : Nat} {V : Nat → Nat → Value} {u : Value} {o : Obj} (h : SlN n0 w v n k V) (hg : g < n0) (hb : Below ((w.setCell ⟨g, i, none⟩ u).alloc o).heap.size ((w.setCell ⟨g, i, none⟩ u).alloc o) w') : SlN n0 w' v n k V := by
 refine ⟨((h.1.frame (w' := w.setCell ⟨g, i, none⟩ u) (by simp [World.setCell]) (fun b hb' => Below.heap_setCell _ _ _ _ (by have := h.2 b hb'; show b ≠ g; omega))).below (bal (Below.refl _ _) o)).below hb, h.2⟩
theorem Blk.putFar {w w' : World} {k g i : Nat} {t : TypeId} {cs : Array Value} {u : Value} {o : Obj} (h : Blk w k t cs) (hk : k ≠ g) (hb : Below ((w.setCell ⟨g, i, none⟩ u).alloc o).heap.size ((w.setCell ⟨g, i, none⟩ u).alloc o) w') : Blk w' k t cs := ((h.far' hk (i := i) u).alloc o).below hb
theorem Blk.putIn {w w' : World} {g i : Nat} {t : TypeId} {cs : Array Value} {u : Value} {o : Obj} (h : Blk w g t cs) (hb : Below ((w.setCell ⟨g, i, none⟩ u).alloc o).heap.size ((w.setCell ⟨g, i, none⟩ u).alloc o) w') : Blk w' g t (cs.setIfInBounds i u) := ((h.set_ i u).alloc o).below hb
theorem dCopy_c (D : DekD) (vA vB vC : Value) (w : World) (hD : DekAt w vA vB vC D) (h1 : D.ns ≤ 200) (h2 : D.nh ≤ 200) (h3 : D.nu ≤ 200) :
  Calls Tryz.prog 18 #[.agg #[.int .i64 D.size, .int .i64 D.load, .int .i64 D.wind, vA, .int .i64 D.pitch, .int .i64 D.roll, .int .i64 D.heave, .int .i64 D.fire, vB, vC]] w fun e w' => ∃ vA' vB' vC', e = .returned (.agg #[.int .i64 D.size, .int .i64 D.load, .int .i64 D.wind, vA', .int .i64 D.pitch, .int .i64 D.roll, .int .i64 D.heave, .int .i64 D.fire, vB', vC']) ∧ Below w.heap.size w w' ∧ SlN w.heap.size w' vA' D.ns 3 (iV D.S) ∧ SlN w.heap.size w' vB' D.nh 3 (iV D.H) ∧ SlN w.heap.size w' vC' D.nu 2 (iV D.U) := by
 obtain ⟨A1, c1, rfl, -, -, r1⟩ := hD.s.e
 obtain ⟨A2, c2, rfl, -, -, r2⟩ := hD.h.e
 obtain ⟨A3, c3, rfl, -, -, r3⟩ := hD.u.e
 have R1 := hI9 r1
 have R2 := hI9 r2
 have R3 := hI9 r3
 clear hD r1 r2 r3
 go_enter Tryz.func18, Tryz.ntmps18
 go_wp2_with (first | (at_builtin; refine wpl_cpk rfl _ _ Tryz.seU Tryz.seI (by omega) (iV_one D.S) rfl _ rfl (Blk.newA _ _ _ (by simp)) A1 D.ns c1 rfl (R1.out.below (by repeat' (first | exact Below.refl _ _ | assumption | refine Below.drew ?_ | refine bdn ?_ _ | refine bal ?_ _ | refine Below.setCell ?_ (by first | (simp; done) | omega | (simp; omega)) _))) h1 ?_))
 intro v1 w1 hq hbh
 have hb1 := hbh.out
 obtain ⟨B1, e1, rfl, q1, q2, q3, q4⟩ := hq.out
 clear hbh hq
 have HX := hI9 (Blk.under ((((Blk.newA (g := w.heap.size) w 26 #[.int .i64 D.size, .int .i64 D.load, .int .i64 D.wind, .slice A1 D.ns c1, .int .i64 D.pitch, .int .i64 D.roll, .int .i64 D.heave, .int .i64 D.fire, .slice A2 D.nh c2, .slice A3 D.nu c3] rfl).alloc _).alloc _).alloc _) hb1 (by omega))
 have HR := hI9 (Blk.under (((Blk.newA (g := w.heap.size + 1) (w.alloc _) 26 #[.int .i64 0, .int .i64 0, .int .i64 0, .slice none 0 0, .int .i64 0, .int .i64 0, .int .i64 0, .int .i64 0, .slice none 0 0, .slice none 0 0] (by simp)).alloc _).alloc _) hb1 (by omega))
 have HO := hI9 (Blk.under ((Blk.newA (g := w.heap.size + 1 + 1) ((w.alloc _).alloc _) 26 #[.int .i64 D.size, .int .i64 D.load, .int .i64 D.wind, .slice A1 D.ns c1, .int .i64 D.pitch, .int .i64 D.roll, .int .i64 D.heave, .int .i64 D.fire, .slice A2 D.nh c2, .slice A3 D.nu c3] (by simp)).alloc _) hb1 (by omega))
 have HB := hI9 ((show Below w.heap.size w _ from (by repeat' (first | exact Below.refl _ _ | assumption | refine Below.drew ?_ | refine bdn ?_ _ | refine bal ?_ _ | refine Below.setCell ?_ (by first | (simp; done) | omega | (simp; omega)) _))).trans (hb1.mono (by omega)))
 have hz1 : w.heap.size + 1 + 1 + 1 ≤ w1.heap.size := by have := hb1.size; simp at this; omega
 have N1 := hI9 (show SlN (w.heap.size + 1 + 1 + 1) w1 (.slice B1 D.ns e1) D.ns 3 (iV D.S) from ⟨⟨B1, e1, rfl, q1, q2, q3⟩, fun b hb => by have := q4 b hb; first | omega | (simp at this; omega)⟩)
 clear q1 q2 q3 q4 hb1
 have x8 := HX.out.cell 8
 have o3 := HO.out.cell 3
 have f3 := HO.out.frozen 3
 simp only [gtA, gtS, gtZ] at x8 o3
 have hy1 : w.heap.size < w1.heap.size := by omega
 have hy2 : w.heap.size + 1 + 1 < w1.heap.size := by omega
 have HZ := hI9 hz1
 clear hz1
 go_wp2_with (first | (at_builtin; refine wpl_cpk rfl _ _ Tryz.shU Tryz.shI (by omega) (iV_one D.H) rfl _ rfl (Blk.newA _ _ _ (by simp [World.setCell])) A2 D.nh c2 rfl (R2.out.below (bal (bset HB.out (by omega) _) _)) h2 ?_))
 intro v2 w2 hq2 hbh2
 have hb2 : Below ((w1.setCell ⟨w.heap.size + 1 + 1, 3, none⟩ (.slice B1 D.ns e1)).alloc (.cells #[] 183)).heap.size ((w1.setCell ⟨w.heap.size + 1 + 1, 3, none⟩ (.slice B1 D.ns e1)).alloc (.cells #[] 183)) w2 := hbh2.out.mono (by simp [World.setCell])
 obtain ⟨B2, e2, rfl, q1, q2, q3, q4⟩ := hq2.out
 clear hbh2 hq2 x8 o3 f3
 have hs2 : w1.heap.size + 1 ≤ w2.heap.size := by have := hb2.size; simpa [World.setCell] using this
 have HX2 := hI9 (HX.out.putFar (by omega) hb2)
 have HR2 := hI9 (HR.out.putFar (by omega) hb2)
 have HO2 := hI9 (show Blk w2 (w.heap.size + 1 + 1) 26 #[.int .i64 D.size, .int .i64 D.load, .int .i64 D.wind, .slice B1 D.ns e1, .int .i64 D.pitch, .int .i64 D.roll, .int .i64 D.heave, .int .i64 D.fire, .slice A2 D.nh c2, .slice A3 D.nu c3] from HO.out.putIn hb2)
 have HB2 := hI9 (bthen (bal (bset HB.out (by omega) _) _) hb2)
 have N1' := hI9 (N1.out.put (by omega) hb2)
 have N2 := hI9 (show SlN (w.heap.size + 1 + 1 + 1) w2 (.slice B2 D.nh e2) D.nh 3 (iV D.H) from ⟨⟨B2, e2, rfl, q1, q2, q3⟩, fun b hb => by have := q4 b hb; have hz := HZ.out; first | omega | (simp [World.setCell] at this; omega)⟩)
 have HZ2 := hI9 (show w.heap.size + 1 + 1 + 1 ≤ w2.heap.size by have := HZ.out; omega)
 clear q1 q2 q3 q4 hb2 HX HR HO HB N1
 have x9 := HX2.out.cell 9
 have o8 := HO2.out.cell 8
 have f8 := HO2.out.frozen 8
 simp only [gtA, gtS, gtZ] at x9 o8
 have hw1 : w.heap.size < w2.heap.size := by omega
 have hw2 : w.heap.size + 1 + 1 < w2.heap.size := by omega
 clear hs2 hy1 hy2
 go_wp2_with (first | (at_builtin; refine wpl_cpk rfl _ _ Tryz.spU2 Tryz.spI2 (by omega) (iV_one D.U) rfl _ rfl (Blk.newA _ _ _ (by simp [World.setCell])) A3 D.nu c3 rfl (R3.out.below (bal (bset HB2.out (by omega) _) _)) h3 ?_))
 intro v3 w3 hq3 hbh3
 have hb3 : Below ((w2.setCell ⟨w.heap.size + 1 + 1, 8, none⟩ (.slice B2 D.nh e2)).alloc (.cells #[] 28)).heap.size ((w2.setCell ⟨w.heap.size + 1 + 1, 8, none⟩ (.slice B2 D.nh e2)).alloc (.cells #[] 28)) w3 := hbh3.out.mono (by simp [World.setCell])
 obtain ⟨B3, e3, rfl, q1, q2, q3, q4⟩ := hq3.out
 clear hbh3 hq3 x9 o8 f8
 have hs3 : w2.heap.size + 1 ≤ w3.heap.size := by have := hb3.size; simpa [World.setCell] using this
 have HR3 := hI9 (HR2.out.putFar (by omega) hb3)
 have HO3 := hI9 (show Blk w3 (w.heap.size + 1 + 1) 26 #[.int .i64 D.size, .int .i64 D.load, .int .i64 D.wind, .slice B1 D.ns e1, .int .i64 D.pitch, .int .i64 D.roll, .int .i64 D.heave, .int .i64 D.fire, .slice B2 D.nh e2, .slice A3 D.nu c3] from HO2.out.putIn hb3)
 have HB3 := hI9 (bthen (bal (bset HB2.out (by omega) _) _) hb3)
 have M1 := hI9 (N1'.out.put (by omega) hb3)
 have M2 := hI9 (N2.out.put (by omega) hb3)
 have M3 := hI9 (show SlN (w.heap.size + 1 + 1 + 1) w3 (.slice B3 D.nu e3) D.nu 2 (iV D.U) from ⟨⟨B3, e3, rfl, q1, q2, q3⟩, fun b hb => by have := q4 b hb; have hz := HZ2.out; first | omega | (simp [World.setCell] at this; omega)⟩)
 clear q1 q2 q3 q4 hb3 HX2 HR2 HO2 HB2 N1' N2
 have o9 := HO3.out.cell 9
 have f9 := HO3.out.frozen 9
 simp only [gtA, gtS, gtZ] at o9
 have ht1 : w.heap.size + 1 < w3.heap.size := by omega
 have ht2 : w.heap.size + 1 + 1 < w3.heap.size := by omega
 have HO4 := hI9 (show Blk (w3.setCell ⟨w.heap.size + 1 + 1, 9, none⟩ (.slice B3 D.nu e3)) (w.heap.size + 1 + 1) 26 #[.int .i64 D.size, .int .i64 D.load, .int .i64 D.wind, .slice B1 D.ns e1, .int .i64 D.pitch, .int .i64 D.roll, .int .i64 D.heave, .int .i64 D.fire, .slice B2 D.nh e2, .slice B3 D.nu e3] from HO3.out.set_ 9 (.slice B3 D.nu e3))
 have HR4 := hI9 (HR3.out.far' (f := w.heap.size + 1 + 1) (by omega) (i := 9) (.slice B3 D.nu e3))
 go_wp2_with (first | (refine wpl_row rfl 26 _ rfl _ rfl _ 10 HO4.out Tryz.rowDek rfl ?_; simp only [Act.put]) | (refine wpList_store_row rfl 26 _ _ rfl (w.heap.size + 1) #[.int .i64 D.size, .int .i64 D.load, .int .i64 D.wind, .slice B1 D.ns e1, .int .i64 D.pitch, .int .i64 D.roll, .int .i64 D.heave, .int .i64 D.fire, .slice B2 D.nh e2, .slice B3 D.nu e3] rfl rfl 26 #[.int .i64 0, .int .i64 0, .int .i64 0, .slice none 0 0, .int .i64 0, .int .i64 0, .int .i64 0, .int .i64 0, .slice none 0 0, .slice none 0 0] HR4.out Tryz.sizeDek rfl (by simp [Value.oneCell']) ?_; simp only [Act.put]))
 have fr : ∀ b, w.heap.size + 1 + 1 + 1 ≤ b → ((w3.setCell ⟨w.heap.size + 1 + 1, 9, none⟩ (.slice B3 D.nu e3)).setRow (w.heap.size + 1) #[.int .i64 D.size, .int .i64 D.load, .int .i64 D.wind, .slice B1 D.ns e1, .int .i64 D.pitch, .int .i64 D.roll, .int .i64 D.heave, .int .i64 D.fire, .slice B2 D.nh e2, .slice B3 D.nu e3]).heap[b]? = w3.heap[b]? := fun b hb => by
  rw [setRow_other _ _ _ _ (by omega)]
  exact Below.heap_setCell _ _ _ _ (by show b ≠ w.heap.size + 1 + 1; omega)
 exact bodyPost_ret (res_c rfl _ _ _ 10 rfl (setRow_heap _ _ _ _ _ _ HR4.out) Tryz.rowDek rfl) rfl ⟨_, _, _, rfl, rowBelow (bset HB3.out (by omega) _) (by omega) _, ⟨M1.out.1.frame (by simp [World.setRow, World.setCell]) (fun b hb => fr b (M1.out.2 b hb)), fun b hb => by have := M1.out.2 b hb; omega⟩, ⟨M2.out.1.frame (by simp [World.setRow, World.setCell]) (fun b hb => fr b (M2.out.2 b hb)), fun b hb => by have := M2.out.2 b hb; omega⟩, ⟨M3.out.1.frame (by simp [World.setRow, World.setCell]) (fun b hb => fr b (M3.out.2 b hb)), fun b hb => by have := M3.out.2 b hb; omega⟩⟩
end Go.Proofs.YtlambeiafdpkgaaGreat
