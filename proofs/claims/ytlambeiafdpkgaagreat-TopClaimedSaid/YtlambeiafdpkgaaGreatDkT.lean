import Derived.Test.YtlambeiafdpkgaaGreatJAU
import Derived.Test.YtlambeiafdpkgaaGreatJAQ
set_option linter.all false
namespace Go.Proofs.YtlambeiafdpkgaaGreat
open Go Go.RowKit Go.Proofs
set_option maxRecDepth 100000
set_option maxHeartbeats 8000000
theorem Tryz.entWi : ∀ args w, (callFunc 30 args).run Tryz.prog w = .ok (.enter 30 args) w := enters_of Tryz.func30 (by kernel_rfl) rfl
theorem dwin1_c (gs ga : Nat) (D : DekD) (A1 A2 A3 A4 A5 A6 A7 A8 : Option Addr) (k1 k2 k3 k4 k5 k6 k7 k8 : Nat) (M : MetD) (Mo : MovD) (a : AppD) (t : Int) (w : World)
  (hs : Blk w gs 98 #[.int .i64 D.size, .int .i64 D.load, .int .i64 D.wind, .slice A1 D.ns k1, .int .i64 D.pitch, .int .i64 D.roll, .int .i64 D.heave, .int .i64 D.fire, .slice A2 D.nh k2, .slice A3 D.nu k3, .int .i64 M.places, .int .i64 M.any.a0, .int .i64 M.any.a1, .int .i64 M.any.a2, .int .i64 M.any.a3, .int .i64 M.any.a4, .int .i64 M.any.a5, .bool M.any.i, .bool M.any.s, .int .i64 M.mw, .int .i64 M.ms, .int .i64 M.mc, .slice A4 M.n k4, .slice A5 M.m k5, .slice A6 Mo.np k6, .slice A7 Mo.nr k7, .slice A8 Mo.nv k8]) (ha : Blk w ga 43 #[.int .i64 a.size, .int .i64 a.weight, .int .i64 a.lw, .int .i64 a.ls, .int .i64 a.lc, .bool a.li, .bool a.lt, .int .i64 a.place, .int .i64 a.lo, .int .i64 a.hi])
  (hwy : Calls Tryz.prog 31 #[.agg #[.int .i64 D.size, .int .i64 D.load, .int .i64 D.wind, .slice A1 D.ns k1, .int .i64 D.pitch, .int .i64 D.roll, .int .i64 D.heave, .int .i64 D.fire, .slice A2 D.nh k2, .slice A3 D.nu k3, .int .i64 M.places, .int .i64 M.any.a0, .int .i64 M.any.a1, .int .i64 M.any.a2, .int .i64 M.any.a3, .int .i64 M.any.a4, .int .i64 M.any.a5, .bool M.any.i, .bool M.any.s, .int .i64 M.mw, .int .i64 M.ms, .int .i64 M.mc, .slice A4 M.n k4, .slice A5 M.m k5, .slice A6 Mo.np k6, .slice A7 Mo.nr k7, .slice A8 Mo.nv k8], .agg #[.int .i64 a.size, .int .i64 a.weight, .int .i64 a.lw, .int .i64 a.ls, .int .i64 a.lc, .bool a.li, .bool a.lt, .int .i64 a.place, .int .i64 a.lo, .int .i64 a.hi], .int .i64 t] w fun e w' => ∃ A c, e = .returned (.slice A (whyN D M Mo a t) c) ∧ Below w.heap.size w w') :
  Calls Tryz.prog 30 #[.int .i64 t, .pointer (some ⟨gs, 0, none⟩), .pointer (some ⟨ga, 0, none⟩)] w fun e w' => e = .returned (.bool (decide (whyN D M Mo a t = 0))) ∧ Below w.heap.size w w' := by
 have HS := hI9 hs
 have HY := hI9 ha
 have HWY := hI9 hwy
 clear hs ha hwy
 by_cases hn : whyN D M Mo a t = 0
 ·rw [decide_eq_true hn]
  rw [hn] at HWY
  go_enter Tryz.func30, Tryz.ntmps30
  go_wp2_with (first | (refine wpl_row rfl 98 _ rfl _ rfl _ 27 HS.out Tryz.rowScn rfl ?_; simp only [Act.put]) | (refine wpl_row rfl 43 _ rfl _ rfl _ 10 HY.out Tryz.rowApp rfl ?_; simp only [Act.put]) | (go_at_call 31; refine HWY.out.mono ?_; rintro e w2 ⟨A, c, rfl, hb2⟩))
  go_ret
  exact ⟨rfl, hb2⟩
 ·rw [decide_eq_false hn]
  have hnz : ((whyN D M Mo a t : Int) == 0) = false := by simp; omega
  clear hn
  generalize whyN D M Mo a t = N at *
  go_enter Tryz.func30, Tryz.ntmps30
  go_wp2_with (first | (refine wpl_row rfl 98 _ rfl _ rfl _ 27 HS.out Tryz.rowScn rfl ?_; simp only [Act.put]) | (refine wpl_row rfl 43 _ rfl _ rfl _ 10 HY.out Tryz.rowApp rfl ?_; simp only [Act.put]) | (go_at_call 31; refine HWY.out.mono ?_; rintro e w2 ⟨A, c, rfl, hb2⟩))
  go_ret
  exact ⟨rfl, hb2⟩
def winE (D : DekD) (M : MetD) (Mo : MovD) (a : AppD) (f u : Int) : Int := caE D M Mo a (stB f u)
def winL (D : DekD) (M : MetD) (Mo : MovD) (a : AppD) (f u : Int) : List (Int × Int) := strV (fun t => decide (whyN D M Mo a t = 0)) f u 1
theorem dWindows_c (D : DekD) (vA vB vC : Value) (M : MetD) (vF vS : Value) (Mo : MovD) (vP vR vV : Value) (a : AppD) (f u : Int) (w : World) (hD : DekAt w vA vB vC D) (hA : MetAt w vF vS M) (hV : MovAt w vP vR vV Mo) :
  Calls Tryz.prog 8 #[.agg #[.int .i64 D.size, .int .i64 D.load, .int .i64 D.wind, vA, .int .i64 D.pitch, .int .i64 D.roll, .int .i64 D.heave, .int .i64 D.fire, vB, vC], .agg #[.int .i64 M.places, .int .i64 M.any.a0, .int .i64 M.any.a1, .int .i64 M.any.a2, .int .i64 M.any.a3, .int .i64 M.any.a4, .int .i64 M.any.a5, .bool M.any.i, .bool M.any.s, .int .i64 M.mw, .int .i64 M.ms, .int .i64 M.mc, vF, vS], .agg #[vP, vR, vV], .agg #[.int .i64 a.size, .int .i64 a.weight, .int .i64 a.lw, .int .i64 a.ls, .int .i64 a.lc, .bool a.li, .bool a.lt, .int .i64 a.place, .int .i64 a.lo, .int .i64 a.hi], .int .i64 f, .int .i64 u] w fun e w' => ∃ v, e = .returned (.tuple #[v, .int .i64 (winE D M Mo a f u)]) ∧ Below w.heap.size w w' ∧
   (winE D M Mo a f u ≠ 0 → v = .slice none 0 0) ∧ (winE D M Mo a f u = 0 → w'.ownsRow w.heap.size 28 2 v (winL D M Mo a f u).length (spC (winL D M Mo a f u))) := by
 have HD := hI9 hD
 have HA := hI9 hA
 have HV := hI9 hV
 obtain ⟨A1, k1, rfl, -, -, -⟩ := hD.s.e
 obtain ⟨A2, k2, rfl, -, -, -⟩ := hD.h.e
 obtain ⟨A3, k3, rfl, -, -, -⟩ := hD.u.e
 obtain ⟨⟨A4, k4, rfl, -, -, -⟩, ⟨A5, k5, rfl, -, -, -⟩⟩ := hA
 obtain ⟨A6, k6, rfl, -, -, -⟩ := hV.p.e
 obtain ⟨A7, k7, rfl, -, -, -⟩ := hV.r.e
 obtain ⟨A8, k8, rfl, -, -, -⟩ := hV.v.e
 have hca := fun r w1 h1 h2 h3 => dcheckApproach_c D (.slice A1 D.ns k1) (.slice A2 D.nh k2) (.slice A3 D.nu k3) M (.slice A4 M.n k4) (.slice A5 M.m k5) Mo (.slice A6 Mo.np k6) (.slice A7 Mo.nr k7) (.slice A8 Mo.nv k8) a r w1 h1 h2 h3
 have hwi := fun w1 => dstretch_c f u w1
 clear hD hV
 unfold winE
 have hca2 := hca (stB f u)
 by_cases he : caE D M Mo a (stB f u) = 0
 ·obtain ⟨hO, hMo, -, ⟨-, -, -, hin⟩, hr⟩ := caE_ok he
  have hfu : 0 ≤ f ∧ u ≤ 2000 := by
   unfold stB at hr
   simp only [Bool.and_eq_true, decide_eq_true_eq, inB_iff] at hr
   exact ⟨hr.1.1, hr.2⟩
  obtain ⟨hf0, hu1⟩ := hfu
  have hin2 := insB_iff.1 hin
  have hwy := fun t w1 (ht0 : 0 ≤ t) (ht1 : t ≤ 2000) h1 h2 h3 => dwhy_c D (.slice A1 D.ns k1) (.slice A2 D.nh k2) (.slice A3 D.nu k3) M (.slice A4 M.n k4) (.slice A5 M.m k5) Mo (.slice A6 Mo.np k6) (.slice A7 Mo.nr k7) (.slice A8 Mo.nv k8) a t w1 h1 h2 h3 hO hMo ht0 ht1 hin2.2.1 hin2.2.2.2
  rw [he] at hca2 ⊢
  generalize stB f u = B at *
  have HCA := hI9 hca2
  have HWI := hI9 hwi
  have HWY := hI9 hwy
  clear hca hca2 hwi hwy hO hMo hin hr hin2 he
  obtain ⟨R, hR⟩ : ∃ q, q = winL D M Mo a f u := ⟨_, rfl⟩
  rw [← hR]
  have HR := hI9 hR
  clear hR
  have tok : True := trivial
  go_enter Tryz.func8, Tryz.ntmps8
  go_wp2_with (first | (refine wpl_row rfl 26 _ rfl _ rfl _ 10 ?_ Tryz.rowDek rfl ?_; (focus exact (by repeat (first | (refine Blk.newAt _ _ _ ?_; first | rfl | (simp; done)) | refine Blk.alloc ?_ _))); simp only [Act.put]) | (refine wpl_row rfl 34 _ rfl _ rfl _ 14 ?_ Tryz.rowMet rfl ?_; (focus exact (by repeat (first | (refine Blk.newAt _ _ _ ?_; first | rfl | (simp; done)) | refine Blk.alloc ?_ _))); simp only [Act.put]) | (refine wpl_row rfl 37 _ rfl _ rfl _ 3 ?_ Tryz.rowMov rfl ?_; (focus exact (by repeat (first | (refine Blk.newAt _ _ _ ?_; first | rfl | (simp; done)) | refine Blk.alloc ?_ _))); simp only [Act.put]) | (refine wpl_buildw rfl 98 _ rfl #[.int .i64 D.size, .int .i64 D.load, .int .i64 D.wind, .slice A1 D.ns k1, .int .i64 D.pitch, .int .i64 D.roll, .int .i64 D.heave, .int .i64 D.fire, .slice A2 D.nh k2, .slice A3 D.nu k3, .int .i64 M.places, .int .i64 M.any.a0, .int .i64 M.any.a1, .int .i64 M.any.a2, .int .i64 M.any.a3, .int .i64 M.any.a4, .int .i64 M.any.a5, .bool M.any.i, .bool M.any.s, .int .i64 M.mw, .int .i64 M.ms, .int .i64 M.mc, .slice A4 M.n k4, .slice A5 M.m k5, .slice A6 Mo.np k6, .slice A7 Mo.nr k7, .slice A8 Mo.nv k8] (by kernel_rfl) ?_; simp only [Act.put]) | (have _t := tok; refine wpl_store_newW rfl 98 (.tmp 14) (.tmp 19) rfl #[.int .i64 D.size, .int .i64 D.load, .int .i64 D.wind, .slice A1 D.ns k1, .int .i64 D.pitch, .int .i64 D.roll, .int .i64 D.heave, .int .i64 D.fire, .slice A2 D.nh k2, .slice A3 D.nu k3, .int .i64 M.places, .int .i64 M.any.a0, .int .i64 M.any.a1, .int .i64 M.any.a2, .int .i64 M.any.a3, .int .i64 M.any.a4, .int .i64 M.any.a5, .bool M.any.i, .bool M.any.s, .int .i64 M.mw, .int .i64 M.ms, .int .i64 M.mc, .slice A4 M.n k4, .slice A5 M.m k5, .slice A6 Mo.np k6, .slice A7 Mo.nr k7, .slice A8 Mo.nv k8] _ _ rfl ?_ rfl Tryz.sizeScn rfl (oneScn D M Mo _ _ _ _ _ _ _ _ _ _ _ _ _ _ _ _) ?_; (focus (simp; done)); simp only [Act.put]; clear tok))
  have _x := frm5 w #[.int .i64 D.size, .int .i64 D.load, .int .i64 D.wind, .slice A1 D.ns k1, .int .i64 D.pitch, .int .i64 D.roll, .int .i64 D.heave, .int .i64 D.fire, .slice A2 D.nh k2, .slice A3 D.nu k3] 26 #[.int .i64 M.places, .int .i64 M.any.a0, .int .i64 M.any.a1, .int .i64 M.any.a2, .int .i64 M.any.a3, .int .i64 M.any.a4, .int .i64 M.any.a5, .bool M.any.i, .bool M.any.s, .int .i64 M.mw, .int .i64 M.ms, .int .i64 M.mc, .slice A4 M.n k4, .slice A5 M.m k5] 34 #[.slice A6 Mo.np k6, .slice A7 Mo.nr k7, .slice A8 Mo.nv k8] 37 #[.int .i64 a.size, .int .i64 a.weight, .int .i64 a.lw, .int .i64 a.ls, .int .i64 a.lc, .bool a.li, .bool a.lt, .int .i64 a.place, .int .i64 a.lo, .int .i64 a.hi] 43 #[.int .i64 D.size, .int .i64 D.load, .int .i64 D.wind, .slice A1 D.ns k1, .int .i64 D.pitch, .int .i64 D.roll, .int .i64 D.heave, .int .i64 D.fire, .slice A2 D.nh k2, .slice A3 D.nu k3, .int .i64 M.places, .int .i64 M.any.a0, .int .i64 M.any.a1, .int .i64 M.any.a2, .int .i64 M.any.a3, .int .i64 M.any.a4, .int .i64 M.any.a5, .bool M.any.i, .bool M.any.s, .int .i64 M.mw, .int .i64 M.ms, .int .i64 M.mc, .slice A4 M.n k4, .slice A5 M.m k5, .slice A6 Mo.np k6, .slice A7 Mo.nr k7, .slice A8 Mo.nv k8] 98
  have H1 := hI9 _x.1
  have H2 := hI9 _x.2.1
  have H3 := hI9 _x.2.2.1
  have HY := hI9 _x.2.2.2.1
  have HX := hI9 _x.2.2.2.2.1
  have HB := hI9 _x.2.2.2.2.2.1
  have zW := _x.2.2.2.2.2.2
  clear _x
  generalize World.alloc (World.alloc (World.alloc (World.alloc (World.alloc w _) _) _) _) _ = W at *
  clear H1 H2 H3
  have hX2 := hI9 (fun r : After W => HX.out.below r.below)
  have hY2 := hI9 (fun r : After W => HY.out.below r.below)
  have hD2 := hI9 (fun r : After W => (HD.out.below HB.out).below r.below)
  have hA2 := hI9 (fun r : After W => (HA.out.below HB.out).below r.below)
  have hV2 := hI9 (fun r : After W => (HV.out.below HB.out).below r.below)
  refine wp_region_aftert 6 (by kernel_rfl) (by kernel_rfl) ?_
  simp only [List.take_succ_cons, List.take_zero, List.drop_succ_cons, List.drop_zero]
  refine wpq_row rfl 98 _ rfl _ rfl _ 27 (fun _ hw => by obtain ⟨r, rfl⟩ := hw; exact hX2.out r) Tryz.rowScn rfl ?_
  simp only [Act.put, List.setIfInBounds_toArray, List.set_cons_succ, List.set_cons_zero]
  refine wpq_row rfl 43 _ rfl _ rfl _ 10 (fun _ hw => by obtain ⟨r, rfl⟩ := hw; exact hY2.out r) Tryz.rowApp rfl ?_
  simp only [Act.put, List.setIfInBounds_toArray, List.set_cons_succ, List.set_cons_zero]
  iterate 2 (go_big_quiet_step (fail))
  go_big_quiet_step (first | (go_at_call 28; (with_reducible refine qafter_same (HWI.out _))))
  go_big_quiet_step (first | (go_at_call 27; (with_reducible refine qafter (HCA.out _ (hD2.out _) (hA2.out _) (hV2.out _)))))
  refine wpQuiet_nil ?_
  rintro wq ⟨⟨w1, hb1⟩, rfl⟩
  clear hX2 hY2 hD2 hA2 hV2
  have nHX := hI9 (HX.out.below hb1)
  have nHY := hI9 (HY.out.below hb1)
  have nHB := hI9 (bthen HB.out hb1)
  clear HX HY HB hb1
  have HX := nHX
  have HY := nHY
  have HB := nHB
  clear nHX nHY nHB
  go_wp2_with (first | (refine wpl_row rfl 98 _ rfl _ rfl _ 27 HX.out Tryz.rowScn rfl ?_; simp only [Act.put]) | (refine wpl_row rfl 43 _ rfl _ rfl _ 10 HY.out Tryz.rowApp rfl ?_; simp only [Act.put]))
  try dsimp only [NoPanic]
  try go_wp2_with (first | (refine wpl_row rfl 98 _ rfl _ rfl _ 27 HX.out Tryz.rowScn rfl ?_; simp only [Act.put]) | (refine wpl_row rfl 43 _ rfl _ rfl _ 10 HY.out Tryz.rowApp rfl ?_; simp only [Act.put]))
  have hst := dstretches_c 30 #[.pointer (some ⟨w.heap.size + 1 + 1 + 1 + 1, 0, none⟩), .pointer (some ⟨w.heap.size + 1 + 1 + 1, 0, none⟩)] (fun t => decide (whyN D M Mo a t = 0)) f u 1 wq hf0 hu1 (by omega) (by omega) Tryz.entWi
   (fun W1 t ht0 ht1 hb => dwin1_c (w.heap.size + 1 + 1 + 1 + 1) (w.heap.size + 1 + 1 + 1) D A1 A2 A3 A4 A5 A6 A7 A8 k1 k2 k3 k4 k5 k6 k7 k8 M Mo a t W1 (HX.out.below hb) (HY.out.below hb) (HWY.out t W1 (by omega) (by omega) ((HD.out.below HB.out).below hb) ((HA.out.below HB.out).below hb) ((HV.out.below HB.out).below hb)))
  refine hst.mono ?_
  rintro e w2 ⟨v, rfl, hb2, ho, -⟩
  have HO := hI9 ho
  have hzq := HB.out.size
  clear hst ho
  go_wp2_with (fail)
  go_ret2
  refine ⟨v, rfl, bthen HB.out hb2, fun h => absurd rfl h, fun _ => ?_⟩
  rw [HR.out]
  exact ownsRow_base HO.out hzq
 ·have hez : (caE D M Mo a (stB f u) != 0) = true := by simpa using he
  generalize caE D M Mo a (stB f u) = E at *
  generalize stB f u = B at *
  have HE := hI9 he
  have HCA := hI9 hca2
  have HWI := hI9 hwi
  clear hca hca2 hwi he
  have tok : True := trivial
  go_enter Tryz.func8, Tryz.ntmps8
  go_wp2_with (first | (refine wpl_row rfl 26 _ rfl _ rfl _ 10 ?_ Tryz.rowDek rfl ?_; (focus exact (by repeat (first | (refine Blk.newAt _ _ _ ?_; first | rfl | (simp; done)) | refine Blk.alloc ?_ _))); simp only [Act.put]) | (refine wpl_row rfl 34 _ rfl _ rfl _ 14 ?_ Tryz.rowMet rfl ?_; (focus exact (by repeat (first | (refine Blk.newAt _ _ _ ?_; first | rfl | (simp; done)) | refine Blk.alloc ?_ _))); simp only [Act.put]) | (refine wpl_row rfl 37 _ rfl _ rfl _ 3 ?_ Tryz.rowMov rfl ?_; (focus exact (by repeat (first | (refine Blk.newAt _ _ _ ?_; first | rfl | (simp; done)) | refine Blk.alloc ?_ _))); simp only [Act.put]) | (refine wpl_buildw rfl 98 _ rfl #[.int .i64 D.size, .int .i64 D.load, .int .i64 D.wind, .slice A1 D.ns k1, .int .i64 D.pitch, .int .i64 D.roll, .int .i64 D.heave, .int .i64 D.fire, .slice A2 D.nh k2, .slice A3 D.nu k3, .int .i64 M.places, .int .i64 M.any.a0, .int .i64 M.any.a1, .int .i64 M.any.a2, .int .i64 M.any.a3, .int .i64 M.any.a4, .int .i64 M.any.a5, .bool M.any.i, .bool M.any.s, .int .i64 M.mw, .int .i64 M.ms, .int .i64 M.mc, .slice A4 M.n k4, .slice A5 M.m k5, .slice A6 Mo.np k6, .slice A7 Mo.nr k7, .slice A8 Mo.nv k8] (by kernel_rfl) ?_; simp only [Act.put]) | (have _t := tok; refine wpl_store_newW rfl 98 (.tmp 14) (.tmp 19) rfl #[.int .i64 D.size, .int .i64 D.load, .int .i64 D.wind, .slice A1 D.ns k1, .int .i64 D.pitch, .int .i64 D.roll, .int .i64 D.heave, .int .i64 D.fire, .slice A2 D.nh k2, .slice A3 D.nu k3, .int .i64 M.places, .int .i64 M.any.a0, .int .i64 M.any.a1, .int .i64 M.any.a2, .int .i64 M.any.a3, .int .i64 M.any.a4, .int .i64 M.any.a5, .bool M.any.i, .bool M.any.s, .int .i64 M.mw, .int .i64 M.ms, .int .i64 M.mc, .slice A4 M.n k4, .slice A5 M.m k5, .slice A6 Mo.np k6, .slice A7 Mo.nr k7, .slice A8 Mo.nv k8] _ _ rfl ?_ rfl Tryz.sizeScn rfl (oneScn D M Mo _ _ _ _ _ _ _ _ _ _ _ _ _ _ _ _) ?_; (focus (simp; done)); simp only [Act.put]; clear tok))
  have _x := frm5 w #[.int .i64 D.size, .int .i64 D.load, .int .i64 D.wind, .slice A1 D.ns k1, .int .i64 D.pitch, .int .i64 D.roll, .int .i64 D.heave, .int .i64 D.fire, .slice A2 D.nh k2, .slice A3 D.nu k3] 26 #[.int .i64 M.places, .int .i64 M.any.a0, .int .i64 M.any.a1, .int .i64 M.any.a2, .int .i64 M.any.a3, .int .i64 M.any.a4, .int .i64 M.any.a5, .bool M.any.i, .bool M.any.s, .int .i64 M.mw, .int .i64 M.ms, .int .i64 M.mc, .slice A4 M.n k4, .slice A5 M.m k5] 34 #[.slice A6 Mo.np k6, .slice A7 Mo.nr k7, .slice A8 Mo.nv k8] 37 #[.int .i64 a.size, .int .i64 a.weight, .int .i64 a.lw, .int .i64 a.ls, .int .i64 a.lc, .bool a.li, .bool a.lt, .int .i64 a.place, .int .i64 a.lo, .int .i64 a.hi] 43 #[.int .i64 D.size, .int .i64 D.load, .int .i64 D.wind, .slice A1 D.ns k1, .int .i64 D.pitch, .int .i64 D.roll, .int .i64 D.heave, .int .i64 D.fire, .slice A2 D.nh k2, .slice A3 D.nu k3, .int .i64 M.places, .int .i64 M.any.a0, .int .i64 M.any.a1, .int .i64 M.any.a2, .int .i64 M.any.a3, .int .i64 M.any.a4, .int .i64 M.any.a5, .bool M.any.i, .bool M.any.s, .int .i64 M.mw, .int .i64 M.ms, .int .i64 M.mc, .slice A4 M.n k4, .slice A5 M.m k5, .slice A6 Mo.np k6, .slice A7 Mo.nr k7, .slice A8 Mo.nv k8] 98
  have H1 := hI9 _x.1
  have H2 := hI9 _x.2.1
  have H3 := hI9 _x.2.2.1
  have HY := hI9 _x.2.2.2.1
  have HX := hI9 _x.2.2.2.2.1
  have HB := hI9 _x.2.2.2.2.2.1
  have zW := _x.2.2.2.2.2.2
  clear _x
  generalize World.alloc (World.alloc (World.alloc (World.alloc (World.alloc w _) _) _) _) _ = W at *
  clear H1 H2 H3
  have hX2 := hI9 (fun r : After W => HX.out.below r.below)
  have hY2 := hI9 (fun r : After W => HY.out.below r.below)
  have hD2 := hI9 (fun r : After W => (HD.out.below HB.out).below r.below)
  have hA2 := hI9 (fun r : After W => (HA.out.below HB.out).below r.below)
  have hV2 := hI9 (fun r : After W => (HV.out.below HB.out).below r.below)
  refine wp_region_aftert 6 (by kernel_rfl) (by kernel_rfl) ?_
  simp only [List.take_succ_cons, List.take_zero, List.drop_succ_cons, List.drop_zero]
  refine wpq_row rfl 98 _ rfl _ rfl _ 27 (fun _ hw => by obtain ⟨r, rfl⟩ := hw; exact hX2.out r) Tryz.rowScn rfl ?_
  simp only [Act.put, List.setIfInBounds_toArray, List.set_cons_succ, List.set_cons_zero]
  refine wpq_row rfl 43 _ rfl _ rfl _ 10 (fun _ hw => by obtain ⟨r, rfl⟩ := hw; exact hY2.out r) Tryz.rowApp rfl ?_
  simp only [Act.put, List.setIfInBounds_toArray, List.set_cons_succ, List.set_cons_zero]
  iterate 2 (go_big_quiet_step (fail))
  go_big_quiet_step (first | (go_at_call 28; (with_reducible refine qafter_same (HWI.out _))))
  go_big_quiet_step (first | (go_at_call 27; (with_reducible refine qafter (HCA.out _ (hD2.out _) (hA2.out _) (hV2.out _)))))
  refine wpQuiet_nil ?_
  rintro wq ⟨⟨w1, hb1⟩, rfl⟩
  clear hX2 hY2 hD2 hA2 hV2
  have nHX := hI9 (HX.out.below hb1)
  have nHY := hI9 (HY.out.below hb1)
  have nHB := hI9 (bthen HB.out hb1)
  clear HX HY HB hb1
  have HX := nHX
  have HY := nHY
  have HB := nHB
  clear nHX nHY nHB
  go_wp2_with (first | (refine wpl_row rfl 98 _ rfl _ rfl _ 27 HX.out Tryz.rowScn rfl ?_; simp only [Act.put]) | (refine wpl_row rfl 43 _ rfl _ rfl _ 10 HY.out Tryz.rowApp rfl ?_; simp only [Act.put]))
  try dsimp only [NoPanic]
  try go_wp2_with (first | (refine wpl_row rfl 98 _ rfl _ rfl _ 27 HX.out Tryz.rowScn rfl ?_; simp only [Act.put]) | (refine wpl_row rfl 43 _ rfl _ rfl _ 10 HY.out Tryz.rowApp rfl ?_; simp only [Act.put]))
  go_ret2
  exact ⟨.slice none 0 0, rfl, HB.out, fun _ => rfl, fun h => absurd h HE.out⟩
end Go.Proofs.YtlambeiafdpkgaaGreat
