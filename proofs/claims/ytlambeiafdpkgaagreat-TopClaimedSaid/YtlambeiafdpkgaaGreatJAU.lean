/- Texts joined: JAU. -/
import Derived.Test.YtlambeiafdpkgaaGreatDkR
import Derived.Test.YtlambeiafdpkgaaGreatJAT
import Derived.Test.YtlambeiafdpkgaaGreatJAA
import Derived.OpenShut
import Derived.Test.YtlambeiafdpkgaaGreatJAN
import Derived.Test.YtlambeiafdpkgaaGreatJAL
set_option linter.all false
namespace Go.Proofs.YtlambeiafdpkgaaGreat
open Go Go.RowKit Go.Proofs
set_option maxRecDepth 100000
set_option maxHeartbeats 8000000
theorem Tryz.sizeScn : (Tryz.prog.info? 98).map (·.size) = some 27 := by kernel_rfl
theorem oneScn (D : DekD) (M : MetD) (Mo : MovD) (A1 A2 A3 A4 A5 A6 A7 A8 : Option Addr) (k1 k2 k3 k4 k5 k6 k7 k8 : Nat) : (#[.int .i64 D.size, .int .i64 D.load, .int .i64 D.wind, .slice A1 D.ns k1, .int .i64 D.pitch, .int .i64 D.roll, .int .i64 D.heave, .int .i64 D.fire, .slice A2 D.nh k2, .slice A3 D.nu k3, .int .i64 M.places, .int .i64 M.any.a0, .int .i64 M.any.a1, .int .i64 M.any.a2, .int .i64 M.any.a3, .int .i64 M.any.a4, .int .i64 M.any.a5, .bool M.any.i, .bool M.any.s, .int .i64 M.mw, .int .i64 M.ms, .int .i64 M.mc, .slice A4 M.n k4, .slice A5 M.m k5, .slice A6 Mo.np k6, .slice A7 Mo.nr k7, .slice A8 Mo.nv k8] : Array Value).all (·.oneCell') = true := by simp [Value.oneCell']
theorem caE_ok {D : DekD} {M : MetD} {Mo : MovD} {a : AppD} {r : Bool} (h : caE D M Mo a r = 0) :
  D.Ok ∧ Mo.Ok ∧ M.bad = false ∧ (inB a.size 1 1000000 = true ∧ inB a.weight 1 1000000 = true ∧ opE M a.lw a.ls a.lc a.place 0 = 0 ∧ insB a.lo a.hi 719 = true) ∧ r = true := by
 unfold caE at h
 by_cases h1 : scE D M Mo = 0
 ·rw [if_pos h1] at h
  by_cases h2 : appE M a = 0
  ·rw [if_pos h2] at h
   cases r
   ·cases h
   ·unfold scE at h1
    by_cases h3 : D.err = 0
    ·rw [if_pos h3] at h1
     have hb : D.bad = false := by
      unfold DekD.err at h3
      cases hb : D.bad
      ·rfl
      ·rw [hb] at h3; cases h3
     by_cases h4 : M.err = 0
     ·rw [if_pos h4] at h1
      unfold cmE at h1
      rw [if_pos h3] at h1
      have hmb : M.bad = false := by
       cases hb : M.bad
       ·rfl
       ·rw [MetD.err_t hb] at h4; cases h4
      have hmo : Mo.ok = true := by
       cases hb : Mo.ok
       ·rw [hb] at h1; cases h1
       ·rfl
      unfold appE at h2
      cases q1 : inB a.size 1 1000000
      ·rw [q1] at h2; cases h2
      ·cases q2 : inB a.weight 1 1000000
       ·rw [q1, q2] at h2; cases h2
       ·by_cases q3 : opE M a.lw a.ls a.lc a.place 0 = 0
        ·cases q4 : insB a.lo a.hi 719
         ·rw [q1, q2, if_pos rfl, if_pos rfl, if_pos q3, q4] at h2; cases h2
         ·exact ⟨DekD.ok_of hb, MovD.ok_of hmo, hmb, ⟨rfl, rfl, q3, rfl⟩, rfl⟩
        ·rw [q1, q2, if_pos rfl, if_pos rfl, if_neg q3] at h2; cases h2
     ·rw [if_neg h4] at h1; exact absurd h1 h4
    ·rw [if_neg h3] at h1; exact absurd h1 h3
  ·rw [if_neg h2] at h; exact absurd h h2
 ·rw [if_neg h1] at h; exact absurd h h1
def whyE (D : DekD) (M : MetD) (Mo : MovD) (a : AppD) (t : Int) : Int := caE D M Mo a (inB t 0 2000)
def whyV (D : DekD) (M : MetD) (Mo : MovD) (a : AppD) (t : Int) : Nat := if whyE D M Mo a t = 0 then whyN D M Mo a t else 0
theorem dWhy_c (D : DekD) (vA vB vC : Value) (M : MetD) (vF vS : Value) (Mo : MovD) (vP vR vV : Value) (a : AppD) (t : Int) (w : World) (hD : DekAt w vA vB vC D) (hA : MetAt w vF vS M) (hV : MovAt w vP vR vV Mo) :
  Calls Tryz.prog 10 #[.agg #[.int .i64 D.size, .int .i64 D.load, .int .i64 D.wind, vA, .int .i64 D.pitch, .int .i64 D.roll, .int .i64 D.heave, .int .i64 D.fire, vB, vC], .agg #[.int .i64 M.places, .int .i64 M.any.a0, .int .i64 M.any.a1, .int .i64 M.any.a2, .int .i64 M.any.a3, .int .i64 M.any.a4, .int .i64 M.any.a5, .bool M.any.i, .bool M.any.s, .int .i64 M.mw, .int .i64 M.ms, .int .i64 M.mc, vF, vS], .agg #[vP, vR, vV], .agg #[.int .i64 a.size, .int .i64 a.weight, .int .i64 a.lw, .int .i64 a.ls, .int .i64 a.lc, .bool a.li, .bool a.lt, .int .i64 a.place, .int .i64 a.lo, .int .i64 a.hi], .int .i64 t] w fun e w' => ∃ A c, e = .returned (.tuple #[.slice A (whyV D M Mo a t) c, .int .i64 (whyE D M Mo a t)]) ∧ Below w.heap.size w w' := by
 have HD := hI9 hD
 have HA := hI9 hA
 have HV := hI9 hV
 obtain ⟨A1, k1, rfl, -, -, -⟩ := hD.s.e
 obtain ⟨A2, k2, rfl, -, -, -⟩ := hD.h.e
 obtain ⟨A3, k3, rfl, -, -, -⟩ := hD.u.e
 obtain ⟨⟨A4, k4, rfl, -, -, -⟩, ⟨A5, k5, rfl, -, -, -⟩⟩ := hA
 obtain ⟨A6, k6, rfl, -, -, -⟩ := hV.p.e
 obtain ⟨A7, k7, rfl, -, -, -⟩ := hV.r.e
 obtain ⟨A8, k8, rfl, -, -, -⟩ := hV.v.e
 have hca := fun r w1 h1 h2 h3 => dcheckApproach_c D (.slice A1 D.ns k1) (.slice A2 D.nh k2) (.slice A3 D.nu k3) M (.slice A4 M.n k4) (.slice A5 M.m k5) Mo (.slice A6 Mo.np k6) (.slice A7 Mo.nr k7) (.slice A8 Mo.nv k8) a r w1 h1 h2 h3
 have hwi := fun w1 => dwithin_c t 0 2000 w1
 clear hD hV
 unfold whyV whyE
 by_cases he : caE D M Mo a (inB t 0 2000) = 0
 ·obtain ⟨hO, hMo, -, ⟨-, -, -, hin⟩, hr⟩ := caE_ok he
  obtain ⟨ht0, ht1⟩ := inB_iff.1 hr
  have hin2 := insB_iff.1 hin
  have hwy := fun w1 h1 h2 h3 => dwhy_c D (.slice A1 D.ns k1) (.slice A2 D.nh k2) (.slice A3 D.nu k3) M (.slice A4 M.n k4) (.slice A5 M.m k5) Mo (.slice A6 Mo.np k6) (.slice A7 Mo.nr k7) (.slice A8 Mo.nv k8) a t w1 h1 h2 h3 hO hMo ht0 ht1 hin2.2.1 hin2.2.2.2
  rw [if_pos he]
  have hca2 := hca (inB t 0 2000)
  rw [he] at hca2 ⊢
  generalize whyN D M Mo a t = N at *
  generalize inB t 0 2000 = B at *
  have HCA := hI9 hca2
  have HWI := hI9 hwi
  have HWY := hI9 hwy
  clear hca hca2 hwi hwy hO hMo hin hr hin2 he
  have tok : True := trivial
  go_enter Tryz.func10, Tryz.ntmps10
  go_wp2_with (first | (refine wpl_row rfl 26 _ rfl _ rfl _ 10 ?_ Tryz.rowDek rfl ?_; (focus exact (by repeat (first | (refine Blk.newAt _ _ _ ?_; first | rfl | (simp; done)) | refine Blk.alloc ?_ _))); simp only [Act.put]) | (refine wpl_row rfl 34 _ rfl _ rfl _ 14 ?_ Tryz.rowMet rfl ?_; (focus exact (by repeat (first | (refine Blk.newAt _ _ _ ?_; first | rfl | (simp; done)) | refine Blk.alloc ?_ _))); simp only [Act.put]) | (refine wpl_row rfl 37 _ rfl _ rfl _ 3 ?_ Tryz.rowMov rfl ?_; (focus exact (by repeat (first | (refine Blk.newAt _ _ _ ?_; first | rfl | (simp; done)) | refine Blk.alloc ?_ _))); simp only [Act.put]) | (refine wpl_buildw rfl 98 _ rfl #[.int .i64 D.size, .int .i64 D.load, .int .i64 D.wind, .slice A1 D.ns k1, .int .i64 D.pitch, .int .i64 D.roll, .int .i64 D.heave, .int .i64 D.fire, .slice A2 D.nh k2, .slice A3 D.nu k3, .int .i64 M.places, .int .i64 M.any.a0, .int .i64 M.any.a1, .int .i64 M.any.a2, .int .i64 M.any.a3, .int .i64 M.any.a4, .int .i64 M.any.a5, .bool M.any.i, .bool M.any.s, .int .i64 M.mw, .int .i64 M.ms, .int .i64 M.mc, .slice A4 M.n k4, .slice A5 M.m k5, .slice A6 Mo.np k6, .slice A7 Mo.nr k7, .slice A8 Mo.nv k8] (by kernel_rfl) ?_; simp only [Act.put]) | (have _t := tok; refine wpl_store_newW rfl 98 (.tmp 12) (.tmp 17) rfl #[.int .i64 D.size, .int .i64 D.load, .int .i64 D.wind, .slice A1 D.ns k1, .int .i64 D.pitch, .int .i64 D.roll, .int .i64 D.heave, .int .i64 D.fire, .slice A2 D.nh k2, .slice A3 D.nu k3, .int .i64 M.places, .int .i64 M.any.a0, .int .i64 M.any.a1, .int .i64 M.any.a2, .int .i64 M.any.a3, .int .i64 M.any.a4, .int .i64 M.any.a5, .bool M.any.i, .bool M.any.s, .int .i64 M.mw, .int .i64 M.ms, .int .i64 M.mc, .slice A4 M.n k4, .slice A5 M.m k5, .slice A6 Mo.np k6, .slice A7 Mo.nr k7, .slice A8 Mo.nv k8] _ _ rfl ?_ rfl Tryz.sizeScn rfl (oneScn D M Mo _ _ _ _ _ _ _ _ _ _ _ _ _ _ _ _) ?_; (focus (simp; done)); simp only [Act.put]; clear tok))
  have _x := frm5 w #[.int .i64 D.size, .int .i64 D.load, .int .i64 D.wind, .slice A1 D.ns k1, .int .i64 D.pitch, .int .i64 D.roll, .int .i64 D.heave, .int .i64 D.fire, .slice A2 D.nh k2, .slice A3 D.nu k3] 26 #[.int .i64 M.places, .int .i64 M.any.a0, .int .i64 M.any.a1, .int .i64 M.any.a2, .int .i64 M.any.a3, .int .i64 M.any.a4, .int .i64 M.any.a5, .bool M.any.i, .bool M.any.s, .int .i64 M.mw, .int .i64 M.ms, .int .i64 M.mc, .slice A4 M.n k4, .slice A5 M.m k5] 34 #[.slice A6 Mo.np k6, .slice A7 Mo.nr k7, .slice A8 Mo.nv k8] 37 #[.int .i64 a.size, .int .i64 a.weight, .int .i64 a.lw, .int .i64 a.ls, .int .i64 a.lc, .bool a.li, .bool a.lt, .int .i64 a.place, .int .i64 a.lo, .int .i64 a.hi] 43 #[.int .i64 D.size, .int .i64 D.load, .int .i64 D.wind, .slice A1 D.ns k1, .int .i64 D.pitch, .int .i64 D.roll, .int .i64 D.heave, .int .i64 D.fire, .slice A2 D.nh k2, .slice A3 D.nu k3, .int .i64 M.places, .int .i64 M.any.a0, .int .i64 M.any.a1, .int .i64 M.any.a2, .int .i64 M.any.a3, .int .i64 M.any.a4, .int .i64 M.any.a5, .bool M.any.i, .bool M.any.s, .int .i64 M.mw, .int .i64 M.ms, .int .i64 M.mc, .slice A4 M.n k4, .slice A5 M.m k5, .slice A6 Mo.np k6, .slice A7 Mo.nr k7, .slice A8 Mo.nv k8] 98
  have H1 := hI9 _x.1
  have H2 := hI9 _x.2.1
  have H3 := hI9 _x.2.2.1
  have HY := hI9 _x.2.2.2.1
  have HX := hI9 _x.2.2.2.2.1
  have HB := hI9 _x.2.2.2.2.2.1
  have zW := _x.2.2.2.2.2.2
  clear _x
  generalize World.alloc (World.alloc (World.alloc (World.alloc (World.alloc w _) _) _) _) _ = W at *
  clear H1 H2 H3
  have hX2 := hI9 (fun r : After W => HX.out.below r.below)
  have hY2 := hI9 (fun r : After W => HY.out.below r.below)
  have hD2 := hI9 (fun r : After W => (HD.out.below HB.out).below r.below)
  have hA2 := hI9 (fun r : After W => (HA.out.below HB.out).below r.below)
  have hV2 := hI9 (fun r : After W => (HV.out.below HB.out).below r.below)
  refine wp_region_aftert 5 (by kernel_rfl) (by kernel_rfl) ?_
  simp only [List.take_succ_cons, List.take_zero, List.drop_succ_cons, List.drop_zero]
  refine wpq_row rfl 98 _ rfl _ rfl _ 27 (fun _ hw => by obtain ⟨r, rfl⟩ := hw; exact hX2.out r) Tryz.rowScn rfl ?_
  simp only [Act.put, List.setIfInBounds_toArray, List.set_cons_succ, List.set_cons_zero]
  refine wpq_row rfl 43 _ rfl _ rfl _ 10 (fun _ hw => by obtain ⟨r, rfl⟩ := hw; exact hY2.out r) Tryz.rowApp rfl ?_
  simp only [Act.put, List.setIfInBounds_toArray, List.set_cons_succ, List.set_cons_zero]
  go_big_quiet_step (fail)
  go_big_quiet_step (first | (go_at_call 34; (with_reducible refine qafter_same (HWI.out _))))
  go_big_quiet_step (first | (go_at_call 27; (with_reducible refine qafter (HCA.out _ (hD2.out _) (hA2.out _) (hV2.out _)))))
  refine wpQuiet_nil ?_
  rintro wq ⟨⟨w1, hb1⟩, rfl⟩
  clear hX2 hY2 hD2 hA2 hV2
  have nHX := hI9 (HX.out.below hb1)
  have nHY := hI9 (HY.out.below hb1)
  have nHB := hI9 (bthen HB.out hb1)
  clear HX HY HB hb1
  have HX := nHX
  have HY := nHY
  have HB := nHB
  clear nHX nHY nHB
  go_wp2_with (first | (refine wpl_row rfl 98 _ rfl _ rfl _ 27 HX.out Tryz.rowScn rfl ?_; simp only [Act.put]) | (refine wpl_row rfl 43 _ rfl _ rfl _ 10 HY.out Tryz.rowApp rfl ?_; simp only [Act.put]))
  try dsimp only [NoPanic]
  try go_wp2_with (first | (refine wpl_row rfl 98 _ rfl _ rfl _ 27 HX.out Tryz.rowScn rfl ?_; simp only [Act.put]) | (refine wpl_row rfl 43 _ rfl _ rfl _ 10 HY.out Tryz.rowApp rfl ?_; simp only [Act.put]))
  refine (HWY.out _ (HD.out.below HB.out) (HA.out.below HB.out) (HV.out.below HB.out)).mono ?_
  rintro e w1 ⟨A, c, rfl, hb1⟩
  have nHX := hI9 (HX.out.below hb1)
  have nHY := hI9 (HY.out.below hb1)
  have nHB := hI9 (bthen HB.out hb1)
  clear HX HY HB hb1
  have HX := nHX
  have HY := nHY
  have HB := nHB
  clear nHX nHY nHB
  go_wp2_with (fail)
  go_ret2
  exact ⟨A, c, rfl, HB.out⟩
 ·rw [if_neg he]
  have hca2 := hca (inB t 0 2000)
  have hez : (caE D M Mo a (inB t 0 2000) != 0) = true := by simpa using he
  clear he
  generalize caE D M Mo a (inB t 0 2000) = E at *
  generalize inB t 0 2000 = B at *
  have HCA := hI9 hca2
  have HWI := hI9 hwi
  clear hca hca2 hwi
  have tok : True := trivial
  go_enter Tryz.func10, Tryz.ntmps10
  go_wp2_with (first | (refine wpl_row rfl 26 _ rfl _ rfl _ 10 ?_ Tryz.rowDek rfl ?_; (focus exact (by repeat (first | (refine Blk.newAt _ _ _ ?_; first | rfl | (simp; done)) | refine Blk.alloc ?_ _))); simp only [Act.put]) | (refine wpl_row rfl 34 _ rfl _ rfl _ 14 ?_ Tryz.rowMet rfl ?_; (focus exact (by repeat (first | (refine Blk.newAt _ _ _ ?_; first | rfl | (simp; done)) | refine Blk.alloc ?_ _))); simp only [Act.put]) | (refine wpl_row rfl 37 _ rfl _ rfl _ 3 ?_ Tryz.rowMov rfl ?_; (focus exact (by repeat (first | (refine Blk.newAt _ _ _ ?_; first | rfl | (simp; done)) | refine Blk.alloc ?_ _))); simp only [Act.put]) | (refine wpl_buildw rfl 98 _ rfl #[.int .i64 D.size, .int .i64 D.load, .int .i64 D.wind, .slice A1 D.ns k1, .int .i64 D.pitch, .int .i64 D.roll, .int .i64 D.heave, .int .i64 D.fire, .slice A2 D.nh k2, .slice A3 D.nu k3, .int .i64 M.places, .int .i64 M.any.a0, .int .i64 M.any.a1, .int .i64 M.any.a2, .int .i64 M.any.a3, .int .i64 M.any.a4, .int .i64 M.any.a5, .bool M.any.i, .bool M.any.s, .int .i64 M.mw, .int .i64 M.ms, .int .i64 M.mc, .slice A4 M.n k4, .slice A5 M.m k5, .slice A6 Mo.np k6, .slice A7 Mo.nr k7, .slice A8 Mo.nv k8] (by kernel_rfl) ?_; simp only [Act.put]) | (have _t := tok; refine wpl_store_newW rfl 98 (.tmp 12) (.tmp 17) rfl #[.int .i64 D.size, .int .i64 D.load, .int .i64 D.wind, .slice A1 D.ns k1, .int .i64 D.pitch, .int .i64 D.roll, .int .i64 D.heave, .int .i64 D.fire, .slice A2 D.nh k2, .slice A3 D.nu k3, .int .i64 M.places, .int .i64 M.any.a0, .int .i64 M.any.a1, .int .i64 M.any.a2, .int .i64 M.any.a3, .int .i64 M.any.a4, .int .i64 M.any.a5, .bool M.any.i, .bool M.any.s, .int .i64 M.mw, .int .i64 M.ms, .int .i64 M.mc, .slice A4 M.n k4, .slice A5 M.m k5, .slice A6 Mo.np k6, .slice A7 Mo.nr k7, .slice A8 Mo.nv k8] _ _ rfl ?_ rfl Tryz.sizeScn rfl (oneScn D M Mo _ _ _ _ _ _ _ _ _ _ _ _ _ _ _ _) ?_; (focus (simp; done)); simp only [Act.put]; clear tok))
  have _x := frm5 w #[.int .i64 D.size, .int .i64 D.load, .int .i64 D.wind, .slice A1 D.ns k1, .int .i64 D.pitch, .int .i64 D.roll, .int .i64 D.heave, .int .i64 D.fire, .slice A2 D.nh k2, .slice A3 D.nu k3] 26 #[.int .i64 M.places, .int .i64 M.any.a0, .int .i64 M.any.a1, .int .i64 M.any.a2, .int .i64 M.any.a3, .int .i64 M.any.a4, .int .i64 M.any.a5, .bool M.any.i, .bool M.any.s, .int .i64 M.mw, .int .i64 M.ms, .int .i64 M.mc, .slice A4 M.n k4, .slice A5 M.m k5] 34 #[.slice A6 Mo.np k6, .slice A7 Mo.nr k7, .slice A8 Mo.nv k8] 37 #[.int .i64 a.size, .int .i64 a.weight, .int .i64 a.lw, .int .i64 a.ls, .int .i64 a.lc, .bool a.li, .bool a.lt, .int .i64 a.place, .int .i64 a.lo, .int .i64 a.hi] 43 #[.int .i64 D.size, .int .i64 D.load, .int .i64 D.wind, .slice A1 D.ns k1, .int .i64 D.pitch, .int .i64 D.roll, .int .i64 D.heave, .int .i64 D.fire, .slice A2 D.nh k2, .slice A3 D.nu k3, .int .i64 M.places, .int .i64 M.any.a0, .int .i64 M.any.a1, .int .i64 M.any.a2, .int .i64 M.any.a3, .int .i64 M.any.a4, .int .i64 M.any.a5, .bool M.any.i, .bool M.any.s, .int .i64 M.mw, .int .i64 M.ms, .int .i64 M.mc, .slice A4 M.n k4, .slice A5 M.m k5, .slice A6 Mo.np k6, .slice A7 Mo.nr k7, .slice A8 Mo.nv k8] 98
  have H1 := hI9 _x.1
  have H2 := hI9 _x.2.1
  have H3 := hI9 _x.2.2.1
  have HY := hI9 _x.2.2.2.1
  have HX := hI9 _x.2.2.2.2.1
  have HB := hI9 _x.2.2.2.2.2.1
  have zW := _x.2.2.2.2.2.2
  clear _x
  generalize World.alloc (World.alloc (World.alloc (World.alloc (World.alloc w _) _) _) _) _ = W at *
  clear H1 H2 H3
  have hX2 := hI9 (fun r : After W => HX.out.below r.below)
  have hY2 := hI9 (fun r : After W => HY.out.below r.below)
  have hD2 := hI9 (fun r : After W => (HD.out.below HB.out).below r.below)
  have hA2 := hI9 (fun r : After W => (HA.out.below HB.out).below r.below)
  have hV2 := hI9 (fun r : After W => (HV.out.below HB.out).below r.below)
  refine wp_region_aftert 5 (by kernel_rfl) (by kernel_rfl) ?_
  simp only [List.take_succ_cons, List.take_zero, List.drop_succ_cons, List.drop_zero]
  refine wpq_row rfl 98 _ rfl _ rfl _ 27 (fun _ hw => by obtain ⟨r, rfl⟩ := hw; exact hX2.out r) Tryz.rowScn rfl ?_
  simp only [Act.put, List.setIfInBounds_toArray, List.set_cons_succ, List.set_cons_zero]
  refine wpq_row rfl 43 _ rfl _ rfl _ 10 (fun _ hw => by obtain ⟨r, rfl⟩ := hw; exact hY2.out r) Tryz.rowApp rfl ?_
  simp only [Act.put, List.setIfInBounds_toArray, List.set_cons_succ, List.set_cons_zero]
  go_big_quiet_step (fail)
  go_big_quiet_step (first | (go_at_call 34; (with_reducible refine qafter_same (HWI.out _))))
  go_big_quiet_step (first | (go_at_call 27; (with_reducible refine qafter (HCA.out _ (hD2.out _) (hA2.out _) (hV2.out _)))))
  refine wpQuiet_nil ?_
  rintro wq ⟨⟨w1, hb1⟩, rfl⟩
  clear hX2 hY2 hD2 hA2 hV2
  have nHX := hI9 (HX.out.below hb1)
  have nHY := hI9 (HY.out.below hb1)
  have nHB := hI9 (bthen HB.out hb1)
  clear HX HY HB hb1
  have HX := nHX
  have HY := nHY
  have HB := nHB
  clear nHX nHY nHB
  go_wp2_with (first | (refine wpl_row rfl 98 _ rfl _ rfl _ 27 HX.out Tryz.rowScn rfl ?_; simp only [Act.put]) | (refine wpl_row rfl 43 _ rfl _ rfl _ 10 HY.out Tryz.rowApp rfl ?_; simp only [Act.put]))
  try dsimp only [NoPanic]
  try go_wp2_with (first | (refine wpl_row rfl 98 _ rfl _ rfl _ 27 HX.out Tryz.rowScn rfl ?_; simp only [Act.put]) | (refine wpl_row rfl 43 _ rfl _ rfl _ 10 HY.out Tryz.rowApp rfl ?_; simp only [Act.put]))
  go_ret2
  exact ⟨none, 0, rfl, HB.out⟩
end Go.Proofs.YtlambeiafdpkgaaGreat

namespace Go.Proofs.YtlambeiafdpkgaaGreat
open Go Go.RowKit Go.Proofs
theorem DekAt.alloc {w : World} {vA vB vC : Value} {D : DekD} (h : DekAt w vA vB vC D) (o : Obj) : DekAt (w.alloc o) vA vB vC D := h.below (bal (Below.refl _ _) o)
theorem MovAt.alloc {w : World} {vP vR vV : Value} {Mo : MovD} (h : MovAt w vP vR vV Mo) (o : Obj) : MovAt (w.alloc o) vP vR vV Mo := h.below (bal (Below.refl _ _) o)
theorem appE_mk {M : MetD} {a : AppD} (h1 : inB a.size 1 1000000 = true) (h2 : inB a.weight 1 1000000 = true) (h3 : opE M a.lw a.ls a.lc a.place 0 = 0) (h4 : insB a.lo a.hi 719 = true) : appE M a = 0 := by
 unfold appE
 rw [if_pos h1, if_pos h2, if_pos h3, if_pos h4]
theorem caE_mk {D : DekD} {M : MetD} {Mo : MovD} {a : AppD} {r : Bool} (h1 : scE D M Mo = 0) (h2 : appE M a = 0) (h3 : r = true) : caE D M Mo a r = 0 := by
 unfold caE
 rw [if_pos h1, if_pos h2, if_pos h3]
end Go.Proofs.YtlambeiafdpkgaaGreat

namespace Go.Proofs.YtlambeiafdpkgaaGreat
open Go Go.RowKit Go.Proofs
end Go.Proofs.YtlambeiafdpkgaaGreat

namespace Go.Proofs.YtlambeiafdpkgaaGreat
open Go Go.RowKit Go.Proofs
set_option maxRecDepth 100000
set_option maxHeartbeats 8000000
theorem SlN.put {n0 : Nat} {w w' : World} {v : Value} {n k g i : Nat} {V : Nat → Nat → Value} {u : Value} {o : Obj} (h : SlN n0 w v n k V) (hg : g < n0) (hb : Below ((w.setCell ⟨g, i, none⟩ u).alloc o).heap.size ((w.setCell ⟨g, i, none⟩ u).alloc o) w') : SlN n0 w' v n k V := by
 refine ⟨((h.1.frame (w' := w.setCell ⟨g, i, none⟩ u) (by simp [World.setCell]) (fun b hb' => Below.heap_setCell _ _ _ _ (by have := h.2 b hb'; show b ≠ g; omega))).below (bal (Below.refl _ _) o)).below hb, h.2⟩
end Go.Proofs.YtlambeiafdpkgaaGreat

namespace Go.Proofs.YtlambeiafdpkgaaGreat
open Go Go.RowKit Go.Proofs
set_option maxRecDepth 100000
set_option maxHeartbeats 8000000
def DekV (D : DekD) (n0 : Nat) (v : Value) (w : World) : Prop := ∃ vA vB vC, v = .agg #[.int .i64 D.size, .int .i64 D.load, .int .i64 D.wind, vA, .int .i64 D.pitch, .int .i64 D.roll, .int .i64 D.heave, .int .i64 D.fire, vB, vC] ∧ SlN n0 w vA D.ns 3 (iV D.S) ∧ SlN n0 w vB D.nh 3 (iV D.H) ∧ SlN n0 w vC D.nu 2 (iV D.U)
theorem DekV.below {D : DekD} {n0 : Nat} {v : Value} {w w' : World} (h : DekV D n0 v w) (hb : Below w.heap.size w w') : DekV D n0 v w' := by
 obtain ⟨vA, vB, vC, e, h1, h2, h3⟩ := h
 exact ⟨vA, vB, vC, e, h1.below hb, h2.below hb, h3.below hb⟩
def MetV2 (M : MetD) (n0 : Nat) (v : Value) (w : World) : Prop := ∃ vF vS, v = .agg #[.int .i64 M.places, .int .i64 M.any.a0, .int .i64 M.any.a1, .int .i64 M.any.a2, .int .i64 M.any.a3, .int .i64 M.any.a4, .int .i64 M.any.a5, .bool M.any.i, .bool M.any.s, .int .i64 M.mw, .int .i64 M.ms, .int .i64 M.mc, vF, vS] ∧ MetAt w vF vS M ∧ (∀ b, some b = vF.ownBlock → n0 ≤ b) ∧ ∀ b, some b = vS.ownBlock → n0 ≤ b
theorem MetV2.below {M : MetD} {n0 : Nat} {v : Value} {w w' : World} (h : MetV2 M n0 v w) (hb : Below w.heap.size w w') : MetV2 M n0 v w' := by
 obtain ⟨vF, vS, e, h1, h2, h3⟩ := h
 exact ⟨vF, vS, e, h1.below hb, h2, h3⟩
def MovV (Mo : MovD) (n0 : Nat) (v : Value) (w : World) : Prop := ∃ vP vR vV, v = .agg #[vP, vR, vV] ∧ SlN n0 w vP Mo.np 1 (lV Mo.P) ∧ SlN n0 w vR Mo.nr 1 (lV Mo.R) ∧ SlN n0 w vV Mo.nv 1 (lV Mo.V)
theorem MovV.below {Mo : MovD} {n0 : Nat} {v : Value} {w w' : World} (h : MovV Mo n0 v w) (hb : Below w.heap.size w w') : MovV Mo n0 v w' := by
 obtain ⟨vP, vR, vV, e, h1, h2, h3⟩ := h
 exact ⟨vP, vR, vV, e, h1.below hb, h2.below hb, h3.below hb⟩
def farP (D : DekD) (M : MetD) (Mo : MovD) : Bool := decide (12 < D.ns) || (decide (20 < D.nh) || (decide (20 < D.nu) || (M.far || (decide (200 < Mo.np) || (decide (200 < Mo.nr) || decide (200 < Mo.nv))))))
end Go.Proofs.YtlambeiafdpkgaaGreat

namespace Go.Proofs.YtlambeiafdpkgaaGreat
open Go Go.RowKit Go.Proofs Go.ChangeShapes Go.WideShapes Go.ChangeAt Go.Deep
set_option maxRecDepth 100000
set_option maxHeartbeats 4000000
section
variable {H : Type} {enc : TypeId × Value → H} {W : World} {sp : Nat → Bool} {held : Bool}
theorem secs_trod {fuel : Nat} {c : Value} {x : DataW H × List MemPlace} (ht : DataW.trod enc Tryz.prog W 0 sp held fuel 22 [c] = some x) :
  ∃ (A : Option Addr) (n cp : Nat) (S : Nat → Nat → Int), c = .slice A n cp ∧ n ≤ cp ∧ cp ≤ 9223372036854775807 ∧ RecsAt W A n 3 (iV S) := by
 obtain ⟨A, n, cp, D, B, rfl, h1, h2, h3, h4, -⟩ := slice_kinds (e := 181) (n := 3) (fun _ => true) (by kernel_rfl) (by kernel_rfl) (Nat.succ_pos _) ht (by kernel_rfl)
 exact ⟨A, n, cp, D, rfl, h1, h2, h4⟩
theorem shifts_trod {fuel : Nat} {c : Value} {x : DataW H × List MemPlace} (ht : DataW.trod enc Tryz.prog W 0 sp held fuel 23 [c] = some x) :
  ∃ (A : Option Addr) (n cp : Nat) (S : Nat → Nat → Int), c = .slice A n cp ∧ n ≤ cp ∧ cp ≤ 9223372036854775807 ∧ RecsAt W A n 3 (iV S) := by
 obtain ⟨A, n, cp, D, B, rfl, h1, h2, h3, h4, -⟩ := slice_kinds (e := 183) (n := 3) (fun _ => true) (by kernel_rfl) (by kernel_rfl) (Nat.succ_pos _) ht (by kernel_rfl)
 exact ⟨A, n, cp, D, rfl, h1, h2, h4⟩
theorem shuts_trod {fuel : Nat} {c : Value} {x : DataW H × List MemPlace} (ht : DataW.trod enc Tryz.prog W 0 sp held fuel 24 [c] = some x) :
  ∃ (A : Option Addr) (n cp : Nat) (S : Nat → Nat → Int), c = .slice A n cp ∧ n ≤ cp ∧ cp ≤ 9223372036854775807 ∧ RecsAt W A n 2 (iV S) := by
 obtain ⟨A, n, cp, D, B, rfl, h1, h2, h3, h4, -⟩ := slice_kinds (e := 28) (n := 2) (fun _ => true) (by kernel_rfl) (by kernel_rfl) (Nat.succ_pos _) ht (by kernel_rfl)
 exact ⟨A, n, cp, D, rfl, h1, h2, h4⟩
theorem nums_trod {fuel : Nat} {c : Value} {x : DataW H × List MemPlace} (ht : DataW.trod enc Tryz.prog W 0 sp held fuel 35 [c] = some x) :
  ∃ (A : Option Addr) (n cp : Nat) (P : Nat → Int), c = .slice A n cp ∧ n ≤ cp ∧ cp ≤ 9223372036854775807 ∧ RecsAt W A n 1 (lV P) := by
 obtain ⟨A, n, cp, D, B, rfl, h1, h2, h3, h4, -⟩ := slice_kinds (e := 3) (n := 1) (fun _ => true) (by kernel_rfl) (by kernel_rfl) (Nat.succ_pos _) ht (by kernel_rfl)
 refine ⟨A, n, cp, fun i => D i 0, rfl, h1, h2, fun hp => ?_⟩
 obtain ⟨b, off, e1, e2, e3⟩ := h4 hp
 refine ⟨b, off, e1, e2, fun i hi j hj => ?_⟩
 rw [e3 i hi j hj]
 obtain rfl : j = 0 := by omega
 rfl
theorem place_trod {r : Reach} {b0 : Nat} {v : Value} {d : DataW H} {ps : List MemPlace} (hval : Value.okWide Tryz.prog W r b0 39 v) (hd : DataW.Trod enc Tryz.prog W 0 sp held 39 v d ps) :
  ∃ (D : DekD) (vA vB vC : Value) (M : MetD) (vF vS : Value) (Mo : MovD) (vP vR vV : Value), v = .agg #[.int .i64 D.size, .int .i64 D.load, .int .i64 D.wind, vA, .int .i64 D.pitch, .int .i64 D.roll, .int .i64 D.heave, .int .i64 D.fire, vB, vC, .int .i64 M.places, .int .i64 M.any.a0, .int .i64 M.any.a1, .int .i64 M.any.a2, .int .i64 M.any.a3, .int .i64 M.any.a4, .int .i64 M.any.a5, .bool M.any.i, .bool M.any.s, .int .i64 M.mw, .int .i64 M.ms, .int .i64 M.mc, vF, vS, vP, vR, vV] ∧ DekAt W vA vB vC D ∧ MetAt W vF vS M ∧ MovAt W vP vR vV Mo := by
 obtain ⟨cs, rfl, hl, fuel, x, ht⟩ := struct_trod (q := (26, 0)) (n := 27) (by kernel_rfl) (by kernel_rfl) hval hd
 have hl' : cs.length = Tryz.prog.cellsOf 39 := hl.trans (by kernel_rfl)
 obtain ⟨n0, e0, -⟩ := leaf_int hl' ht 0 (by kernel_rfl)
 obtain ⟨n1, e1, -⟩ := leaf_int hl' ht 1 (by kernel_rfl)
 obtain ⟨n2, e2, -⟩ := leaf_int hl' ht 2 (by kernel_rfl)
 obtain ⟨n4, e4, -⟩ := leaf_int hl' ht 4 (by kernel_rfl)
 obtain ⟨n5, e5, -⟩ := leaf_int hl' ht 5 (by kernel_rfl)
 obtain ⟨n6, e6, -⟩ := leaf_int hl' ht 6 (by kernel_rfl)
 obtain ⟨n7, e7, -⟩ := leaf_int hl' ht 7 (by kernel_rfl)
 obtain ⟨n10, e10, -⟩ := leaf_int hl' ht 10 (by kernel_rfl)
 obtain ⟨n11, e11, -⟩ := leaf_int hl' ht 11 (by kernel_rfl)
 obtain ⟨n12, e12, -⟩ := leaf_int hl' ht 12 (by kernel_rfl)
 obtain ⟨n13, e13, -⟩ := leaf_int hl' ht 13 (by kernel_rfl)
 obtain ⟨n14, e14, -⟩ := leaf_int hl' ht 14 (by kernel_rfl)
 obtain ⟨n15, e15, -⟩ := leaf_int hl' ht 15 (by kernel_rfl)
 obtain ⟨n16, e16, -⟩ := leaf_int hl' ht 16 (by kernel_rfl)
 obtain ⟨n19, e19, -⟩ := leaf_int hl' ht 19 (by kernel_rfl)
 obtain ⟨n20, e20, -⟩ := leaf_int hl' ht 20 (by kernel_rfl)
 obtain ⟨n21, e21, -⟩ := leaf_int hl' ht 21 (by kernel_rfl)
 obtain ⟨b17, e17⟩ := leaf_bool hl' ht 17 (by kernel_rfl)
 obtain ⟨b18, e18⟩ := leaf_bool hl' ht 18 (by kernel_rfl)
 obtain ⟨m3, y3, h3⟩ := trod_leaf (t := 22) 9 _ 3 fuel cs x (by kernel_rfl) hl' ht
 obtain ⟨A3, l3, c3, X3, e3, p3, q3, r3⟩ := secs_trod h3
 obtain ⟨m8, y8, h8⟩ := trod_leaf (t := 23) 9 _ 8 fuel cs x (by kernel_rfl) hl' ht
 obtain ⟨A8, l8, c8, X8, e8, p8, q8, r8⟩ := shifts_trod h8
 obtain ⟨m9, y9, h9⟩ := trod_leaf (t := 24) 9 _ 9 fuel cs x (by kernel_rfl) hl' ht
 obtain ⟨A9, l9, c9, X9, e9, p9, q9, r9⟩ := shuts_trod h9
 obtain ⟨m22, y22, h22⟩ := trod_leaf (t := 31) 9 _ 22 fuel cs x (by kernel_rfl) hl' ht
 obtain ⟨A22, l22, c22, X22, B22, e22, p22, q22, r22⟩ := fcs_trod h22
 obtain ⟨m23, y23, h23⟩ := trod_leaf (t := 32) 9 _ 23 fuel cs x (by kernel_rfl) hl' ht
 obtain ⟨A23, l23, c23, X23, B23, e23, p23, q23, r23⟩ := sis_trod h23
 obtain ⟨m24, y24, h24⟩ := trod_leaf (t := 35) 9 _ 24 fuel cs x (by kernel_rfl) hl' ht
 obtain ⟨A24, l24, c24, X24, e24, p24, q24, r24⟩ := nums_trod h24
 obtain ⟨m25, y25, h25⟩ := trod_leaf (t := 35) 9 _ 25 fuel cs x (by kernel_rfl) hl' ht
 obtain ⟨A25, l25, c25, X25, e25, p25, q25, r25⟩ := nums_trod h25
 obtain ⟨m26, y26, h26⟩ := trod_leaf (t := 35) 9 _ 26 fuel cs x (by kernel_rfl) hl' ht
 obtain ⟨A26, l26, c26, X26, e26, p26, q26, r26⟩ := nums_trod h26
 refine ⟨⟨n0, n1, n2, n4, n5, n6, n7, l3, X3, l8, X8, l9, X9⟩, .slice A3 l3 c3, .slice A8 l8 c8, .slice A9 l9 c9, ⟨n10, ⟨n11, n12, n13, n14, n15, n16, b17, b18⟩, n19, n20, n21, l22, X22, B22, l23, X23, B23⟩, .slice A22 l22 c22, .slice A23 l23 c23, ⟨l24, X24, l25, X25, l26, X26⟩, .slice A24 l24 c24, .slice A25 l25 c25, .slice A26 l26 c26, ?_, ⟨⟨⟨_, _, rfl, p3, q3, r3⟩⟩, ⟨⟨_, _, rfl, p8, q8, r8⟩⟩, ⟨⟨_, _, rfl, p9, q9, r9⟩⟩⟩, ⟨⟨_, _, rfl, p22, q22, r22⟩, ⟨_, _, rfl, p23, q23, r23⟩⟩, ⟨⟨⟨_, _, rfl, p24, q24, r24⟩⟩, ⟨⟨_, _, rfl, p25, q25, r25⟩⟩, ⟨⟨_, _, rfl, p26, q26, r26⟩⟩⟩⟩
 rw [list_cells hl]
 simp only [show List.range 27 = [0, 1, 2, 3, 4, 5, 6, 7, 8, 9, 10, 11, 12, 13, 14, 15, 16, 17, 18, 19, 20, 21, 22, 23, 24, 25, 26] from rfl, List.map_cons, List.map_nil, e0, e1, e2, e3, e4, e5, e6, e7, e8, e9, e10, e11, e12, e13, e14, e15, e16, e17, e18, e19, e20, e21, e22, e23, e24, e25, e26]
theorem appr_trod {r : Reach} {b0 : Nat} {v : Value} {d : DataW H} {ps : List MemPlace} (hval : Value.okWide Tryz.prog W r b0 43 v) (hd : DataW.Trod enc Tryz.prog W 0 sp held 43 v d ps) :
  ∃ n0 n1 n2 n3 n4 b5 b6 n7 n8 n9, v = .agg #[.int .i64 n0, .int .i64 n1, .int .i64 n2, .int .i64 n3, .int .i64 n4, .bool b5, .bool b6, .int .i64 n7, .int .i64 n8, .int .i64 n9] ∧ I64 n0 ∧ I64 n1 ∧ I64 n2 ∧ I64 n3 ∧ I64 n4 ∧ I64 n7 ∧ I64 n8 ∧ I64 n9 := by
 obtain ⟨cs, rfl, hl, fuel, x, ht⟩ := struct_trod (q := (3, 0)) (n := 10) (by kernel_rfl) (by kernel_rfl) hval hd
 have hl' : cs.length = Tryz.prog.cellsOf 43 := hl.trans (by kernel_rfl)
 obtain ⟨n0, e0, w0⟩ := leaf_int hl' ht 0 (by kernel_rfl)
 obtain ⟨n1, e1, w1⟩ := leaf_int hl' ht 1 (by kernel_rfl)
 obtain ⟨n2, e2, w2⟩ := leaf_int hl' ht 2 (by kernel_rfl)
 obtain ⟨n3, e3, w3⟩ := leaf_int hl' ht 3 (by kernel_rfl)
 obtain ⟨n4, e4, w4⟩ := leaf_int hl' ht 4 (by kernel_rfl)
 obtain ⟨b5, e5⟩ := leaf_bool hl' ht 5 (by kernel_rfl)
 obtain ⟨b6, e6⟩ := leaf_bool hl' ht 6 (by kernel_rfl)
 obtain ⟨n7, e7, w7⟩ := leaf_int hl' ht 7 (by kernel_rfl)
 obtain ⟨n8, e8, w8⟩ := leaf_int hl' ht 8 (by kernel_rfl)
 obtain ⟨n9, e9, w9⟩ := leaf_int hl' ht 9 (by kernel_rfl)
 refine ⟨n0, n1, n2, n3, n4, b5, b6, n7, n8, n9, ?_, w0, w1, w2, w3, w4, w7, w8, w9⟩
 rw [list_cells hl]
 simp only [show List.range 10 = [0, 1, 2, 3, 4, 5, 6, 7, 8, 9] from rfl, List.map_cons, List.map_nil, e0, e1, e2, e3, e4, e5, e6, e7, e8, e9]
end
end Go.Proofs.YtlambeiafdpkgaaGreat
