import Derived.Deep.MidRow
import Derived.Test.YtlambeiafdpkgaaGreatTcQ
import Derived.Test.YtlambeiafdpkgaaGreatJAV
import Derived.Test.YtlambeiafdpkgaaGreatJAW
import Derived.Test.YtlambeiafdpkgaaGreatJAU
import Derived.Test.YtlambeiafdpkgaaGreatJAX
import Derived.Test.YtlambeiafdpkgaaGreatJAT
import Derived.Test.YtlambeiafdpkgaaGreatJAA
import Derived.Test.YtlambeiafdpkgaaGreatJAC
set_option linter.all false
namespace Go.Proofs.YtlambeiafdpkgaaGreat
open Go Go.RowKit Go.Proofs
set_option maxRecDepth 100000
set_option maxHeartbeats 20000000
def tcG (row : Option Nat) (j : Nat) (a b : World) : Prop := a.grownBy b row ∧ (j ≠ 11 → Below a.heap.size a b)
theorem tcgob {w w' : World} (row : Option Nat) (h : Below w.heap.size w w') : w.grownBy w' row := ⟨h.os, h.tape, h.output, h.size, fun k hk _ => h.block k hk⟩
theorem tcG_b {row : Option Nat} {j : Nat} {a b : World} (h : Below a.heap.size a b) : tcG row j a b := ⟨tcgob row h, fun _ => h⟩
def tcAR (W0 gX gC o o1 nn base : Nat) (vL vP : Value) (e : Nat → Int) : Nat → Value → World → Prop
 | 0, v, _ => v = .pointer (some ⟨gX, 0, none⟩)
 | 1, v, _ => v = .slice (some ⟨gC, 0, none⟩) 3 3
 | 2, v, _ => v = .pointer (some ⟨gX, 0, none⟩)
 | 3, v, _ => v = .slice (some ⟨gC, 0, none⟩) 3 3
 | 4, v, _ => v = .pointer (some ⟨gC, o, none⟩)
 | 5, v, _ => v = .pointer (some ⟨gC, o1, none⟩)
 | 6, v, _ => v = vL
 | 7, v, _ => v = .pointer (some ⟨gX, 1, none⟩)
 | 8, v, _ => v = vP
 | 9, v, _ => v = .int .i64 (e nn)
 | 10, v, w => (∃ g, v = .slice (some ⟨g, 0, none⟩) 1 1 ∧ W0 ≤ g ∧ Blk w g 3 #[.int .i64 (e nn)])
 | 11, v, w => w.ownsRow base 3 1 v (nn + 1) (itsV e (nn + 1))
 | 12, v, _ => v = .pointer (some ⟨gC, o, none⟩)
 | 13, v, _ => v = .pointer (some ⟨gC, o1, none⟩)
 | _, _, _ => True
theorem tcAR_keep {W0 gX gC o o1 nn base : Nat} {vL vP : Value} {e : Nat → Int} {row : Option Nat} (hrow : ∀ g, some g = row → g < W0) (k j : Nat) (v : Value) (a b : World) (hkj : k ≠ j) (hG : tcG row j a b) (h : tcAR W0 gX gC o o1 nn base vL vP e k v a) : tcAR W0 gX gC o o1 nn base vL vP e k v b := by
 unfold tcAR at *
 split at h <;> first
  | exact h
  | (obtain ⟨g, e, hg, hb⟩ := h; exact ⟨g, e, hg, Blk.grew hb hG.1 (fun e2 => by have := hrow g e2; omega)⟩)
  | exact ownsRow_below h (hG.2 (fun e => hkj e.symm))
def tcPR (gX : Nat) (vP fs : Value) (kk b1 of : Nat) (lo hi : Int) : Nat → Value → World → Prop
 | 0, v, _ => v = .pointer (some ⟨gX, 1, none⟩)
 | 1, v, _ => v = vP
 | 2, v, _ => v = fs
 | 3, v, _ => v = .int .i64 kk
 | 4, v, _ => v = .pointer (some ⟨b1, of, none⟩)
 | 5, v, _ => v = .agg #[.int .i64 lo, .int .i64 hi]
 | 6, v, w => (∃ g, v = .slice (some ⟨g, 0, none⟩) 1 1 ∧ Blk w g 28 #[.int .i64 lo, .int .i64 hi])
 | _, _, _ => True
theorem tcPR_below {gX : Nat} {vP fs : Value} {kk b1 of : Nat} {lo hi : Int} (k : Nat) (v : Value) (w w' : World) (hb : Below w.heap.size w w') (h : tcPR gX vP fs kk b1 of lo hi k v w) : tcPR gX vP fs kk b1 of lo hi k v w' := by
 unfold tcPR at *
 split at h <;> first | exact h | exact (by obtain ⟨g, e, hb2⟩ := h; exact ⟨g, e, hb2.below hb⟩)
theorem tcTake_snoc (l : List (Int × Int)) (k : Nat) (hk : k < l.length) : l.take k ++ [(loL l k, hiL l k)] = l.take (k + 1) := by
 rw [List.take_succ, List.getElem?_eq_getElem hk]
 unfold loL hiL
 rw [List.getElem?_eq_getElem hk]
 rfl
theorem Tryz.tcRowPl : RowTy Tryz.prog 39 27 := ⟨by kernel_rfl, by kernel_rfl⟩
theorem Tryz.tcRowMov : RowTy Tryz.prog 37 3 := ⟨by kernel_rfl, by kernel_rfl⟩
theorem Tryz.tcRowDek : RowTy Tryz.prog 26 10 := ⟨by kernel_rfl, by kernel_rfl⟩
theorem Tryz.tcRowApp : RowTy Tryz.prog 43 10 := ⟨by kernel_rfl, by kernel_rfl⟩
theorem TopClaimed_c (D : DekD) (vA vB vC : Value) (M : MetD) (vF vS : Value) (Mo : MovD) (vP vQ vV : Value) (a : AppD) (pl fr ut : Int) (w : World) (hD : DekAt w vA vB vC D) (hM : MetAt w vF vS M) (hV : MovAt w vP vQ vV Mo) :
  Calls Tryz.prog 3 #[.agg #[.int .i64 D.size, .int .i64 D.load, .int .i64 D.wind, vA, .int .i64 D.pitch, .int .i64 D.roll, .int .i64 D.heave, .int .i64 D.fire, vB, vC, .int .i64 M.places, .int .i64 M.any.a0, .int .i64 M.any.a1, .int .i64 M.any.a2, .int .i64 M.any.a3, .int .i64 M.any.a4, .int .i64 M.any.a5, .bool M.any.i, .bool M.any.s, .int .i64 M.mw, .int .i64 M.ms, .int .i64 M.mc, vF, vS, vP, vQ, vV], .agg #[.int .i64 a.size, .int .i64 a.weight, .int .i64 a.lw, .int .i64 a.ls, .int .i64 a.lc, .bool a.li, .bool a.lt, .int .i64 a.place, .int .i64 a.lo, .int .i64 a.hi], .agg #[.int .i64 pl, .int .i64 fr, .int .i64 ut]] w fun e w' => e = .returned (.bool true) ∧ RowKit.Below w.heap.size w w' := by
 have HM := hI9 hM
 have HD := hI9 hD
 have HV := hI9 hV
 obtain ⟨A1, k1, rfl, -, -, -⟩ := hD.s.e
 obtain ⟨A2, k2, rfl, -, -, -⟩ := hD.h.e
 obtain ⟨A3, k3, rfl, -, -, -⟩ := hD.u.e
 obtain ⟨⟨A4, k4, rfl, -, -, -⟩, ⟨A5, k5, rfl, -, -, -⟩⟩ := hM
 obtain ⟨A6, k6, rfl, -, -, -⟩ := hV.p.e
 obtain ⟨A7, k7, rfl, -, -, -⟩ := hV.r.e
 obtain ⟨A8, k8, rfl, -, -, -⟩ := hV.v.e
 have HFP := hI9 (fun w1 h1 h2 h3 => dFar_c D (.slice A1 D.ns k1) (.slice A2 D.nh k2) (.slice A3 D.nu k3) M (.slice A4 M.n k4) (.slice A5 M.m k5) Mo (.slice A6 Mo.np k6) (.slice A7 Mo.nr k7) (.slice A8 Mo.nv k8) w1 h1 h2 h3)
 have HCA := hI9 (fun w1 h1 h2 h3 => rd_CheckApproach_c D (.slice A1 D.ns k1) (.slice A2 D.nh k2) (.slice A3 D.nu k3) M (.slice A4 M.n k4) (.slice A5 M.m k5) Mo (.slice A6 Mo.np k6) (.slice A7 Mo.nr k7) (.slice A8 Mo.nv k8) a w1 h1 h2 h3)
 clear hD hV
 have tok0 : True := trivial
 have tok1 : True := trivial
 have tok2 : True := trivial
 have tok3 : True := trivial
 have tok4 : True := trivial
 have tok5 : True := trivial
 cases hf : farP D M Mo
 ·rw [hf] at HFP
  clear hf
  go_enter Tryz.func3, Tryz.ntmps3
  go_wp2_with (first | (have _t := tok0; generalize hWX : World.alloc (World.alloc (World.alloc w _) _) _ = w1; clear tok0; have _x := tri_r w #[.int .i64 D.size, .int .i64 D.load, .int .i64 D.wind, .slice A1 D.ns k1, .int .i64 D.pitch, .int .i64 D.roll, .int .i64 D.heave, .int .i64 D.fire, .slice A2 D.nh k2, .slice A3 D.nu k3, .int .i64 M.places, .int .i64 M.any.a0, .int .i64 M.any.a1, .int .i64 M.any.a2, .int .i64 M.any.a3, .int .i64 M.any.a4, .int .i64 M.any.a5, .bool M.any.i, .bool M.any.s, .int .i64 M.mw, .int .i64 M.ms, .int .i64 M.mc, .slice A4 M.n k4, .slice A5 M.m k5, .slice A6 Mo.np k6, .slice A7 Mo.nr k7, .slice A8 Mo.nv k8] #[.int .i64 a.size, .int .i64 a.weight, .int .i64 a.lw, .int .i64 a.ls, .int .i64 a.lc, .bool a.li, .bool a.lt, .int .i64 a.place, .int .i64 a.lo, .int .i64 a.hi] #[.int .i64 pl, .int .i64 fr, .int .i64 ut] 39 43 45; rw [hWX] at _x; clear hWX; have HX := hI9 _x.1; have HY := hI9 _x.2.1; have HZ := hI9 _x.2.2.1; have HB := hI9 _x.2.2.2; clear _x) | (have _t := tok1; refine wpl_row rfl 39 (.tmp 3) rfl _ rfl _ 27 HX.out Tryz.tcRowPl rfl ?_; simp only [Act.put]; clear tok1) | (go_at_call 5; (with_reducible refine (HFP.out _ (HD.out.below HB.out) (HM.out.below HB.out) (HV.out.below HB.out)).mono ?_); rintro e w1 ⟨rfl, hb1⟩; have nHX := hI9 (HX.out.below hb1); have nHY := hI9 (HY.out.below hb1); have nHZ := hI9 (HZ.out.below hb1); have nHB := hI9 (bthen HB.out hb1); have zz1 := hb1.size; clear HX HY HZ HB hb1; have HX := nHX; have HY := nHY; have HZ := nHZ; have HB := nHB; clear nHX nHY nHZ nHB; (try clear zHZ); have zHZ := HZ.out.lt; (try clear cHZ0); have cHZ0 := HZ.out.cell 0; (try clear cHZ1); have cHZ1 := HZ.out.cell 1; (try clear cHZ2); have cHZ2 := HZ.out.cell 2) | (have _t := tok2; refine wpl_mid_g ?_ 26 (.tmp 27) rfl w.heap.size 0 rfl 39 _ #[.int .i64 D.size, .int .i64 D.load, .int .i64 D.wind, .slice A1 D.ns k1, .int .i64 D.pitch, .int .i64 D.roll, .int .i64 D.heave, .int .i64 D.fire, .slice A2 D.nh k2, .slice A3 D.nu k3] 10 HX.out Tryz.tcRowDek [] [.int .i64 M.places, .int .i64 M.any.a0, .int .i64 M.any.a1, .int .i64 M.any.a2, .int .i64 M.any.a3, .int .i64 M.any.a4, .int .i64 M.any.a5, .bool M.any.i, .bool M.any.s, .int .i64 M.mw, .int .i64 M.ms, .int .i64 M.mc, .slice A4 M.n k4, .slice A5 M.m k5, .slice A6 Mo.np k6, .slice A7 Mo.nr k7, .slice A8 Mo.nv k8] rfl rfl rfl ?_; (focus rfl); simp only [Act.put]; clear tok2) | (have _t := tok3; refine wpl_mid_g ?_ 34 (.tmp 29) rfl w.heap.size 10 rfl 39 _ #[.int .i64 M.places, .int .i64 M.any.a0, .int .i64 M.any.a1, .int .i64 M.any.a2, .int .i64 M.any.a3, .int .i64 M.any.a4, .int .i64 M.any.a5, .bool M.any.i, .bool M.any.s, .int .i64 M.mw, .int .i64 M.ms, .int .i64 M.mc, .slice A4 M.n k4, .slice A5 M.m k5] 14 HX.out Tryz.rowMet [.int .i64 D.size, .int .i64 D.load, .int .i64 D.wind, .slice A1 D.ns k1, .int .i64 D.pitch, .int .i64 D.roll, .int .i64 D.heave, .int .i64 D.fire, .slice A2 D.nh k2, .slice A3 D.nu k3] [.slice A6 Mo.np k6, .slice A7 Mo.nr k7, .slice A8 Mo.nv k8] rfl rfl rfl ?_; (focus rfl); simp only [Act.put]; clear tok3) | (have _t := tok4; refine wpl_mid_g ?_ 37 (.tmp 31) rfl w.heap.size 24 rfl 39 _ #[.slice A6 Mo.np k6, .slice A7 Mo.nr k7, .slice A8 Mo.nv k8] 3 HX.out Tryz.tcRowMov [.int .i64 D.size, .int .i64 D.load, .int .i64 D.wind, .slice A1 D.ns k1, .int .i64 D.pitch, .int .i64 D.roll, .int .i64 D.heave, .int .i64 D.fire, .slice A2 D.nh k2, .slice A3 D.nu k3, .int .i64 M.places, .int .i64 M.any.a0, .int .i64 M.any.a1, .int .i64 M.any.a2, .int .i64 M.any.a3, .int .i64 M.any.a4, .int .i64 M.any.a5, .bool M.any.i, .bool M.any.s, .int .i64 M.mw, .int .i64 M.ms, .int .i64 M.mc, .slice A4 M.n k4, .slice A5 M.m k5] [] rfl rfl rfl ?_; (focus rfl); simp only [Act.put]; clear tok4) | (have _t := tok5; refine wpl_row_g ?_ 43 (.tmp 4) rfl _ rfl _ 10 HY.out Tryz.tcRowApp rfl ?_; (focus rfl); simp only [Act.put]; clear tok5))
  refine (HCA.out _ (HD.out.below HB.out) (HM.out.below HB.out) (HV.out.below HB.out)).mono ?_
  rintro e w2 ⟨E, rfl, hb2, hE⟩
  clear cHZ0 cHZ1 cHZ2 zHZ HCA HFP
  have nHX := hI9 (HX.out.below hb2)
  have nHY := hI9 (HY.out.below hb2)
  have nHZ := hI9 (HZ.out.below hb2)
  have nHB := hI9 (bthen HB.out hb2)
  clear HX HY HZ HB hb2
  have HX := nHX
  have HY := nHY
  have HZ := nHZ
  have HB := nHB
  clear nHX nHY nHZ nHB
  have zHZ := HZ.out.lt
  have cHZ0 := HZ.out.cell 0
  have cHZ1 := HZ.out.cell 1
  have cHZ2 := HZ.out.cell 2
  simp only [gtA, gtS, gtZ] at cHZ0 cHZ1 cHZ2
  have hd : ((E != 0) = true ∨ (E = 0 ∧ fr < 0) ∨ (E = 0 ∧ ¬ fr < 0 ∧ ut ≤ fr) ∨ (E = 0 ∧ ¬ fr < 0 ∧ ¬ ut ≤ fr ∧ 2000 < ut) ∨ (E = 0 ∧ ¬ fr < 0 ∧ ¬ ut ≤ fr ∧ ¬ 2000 < ut ∧ 30 < ut - fr)) ∨ (E = 0 ∧ ¬ fr < 0 ∧ ¬ ut ≤ fr ∧ ¬ 2000 < ut ∧ ¬ 30 < ut - fr) := by
   by_cases h0 : E = 0 <;> by_cases h1 : fr < 0 <;> by_cases h2 : ut ≤ fr <;> by_cases h3 : 2000 < ut <;> by_cases h4 : 30 < ut - fr <;> simp [h0, h1, h2, h3, h4]
  rcases hd with hd | ⟨rfl, hx1, hx2, hx3, hx4⟩
  ·clear hE
   rcases hd with hx0 | ⟨rfl, hx1⟩ | ⟨rfl, hx1, hx2⟩ | ⟨rfl, hx1, hx2, hx3⟩ | ⟨rfl, hx1, hx2, hx3, hx4⟩
   all_goals
    go_wp2_with (first | (go_at_call 7; refine (measures_c _).mono ?_; rintro _ w9 ⟨rfl, hb9⟩; have HB9 := hI9 (bthen HB.out hb9); clear hb9))
    go_ret
    exact ⟨rfl, HB9.out⟩
  obtain ⟨hsc, hap⟩ := hE rfl
  have HSA := hI9 (And.intro hsc hap)
  clear hE
  have tok6 : True := trivial
  have tok7 : True := trivial
  have tok8 : True := trivial
  have tok9 : True := trivial
  obtain ⟨L1, hL1⟩ : ∃ L, L = winL D M Mo a fr ut := ⟨_, rfl⟩
  have hwz : winE D M Mo a fr ut = 0 := caE_mk hsc hap (by unfold stB; rw [Bool.and_eq_true]; exact ⟨inB_iff.2 ⟨by omega, by unfold wrap64; omega⟩, decide_eq_true (by omega)⟩)
  have HWI := hI9 (fun w1 h1 h2 h3 => show Calls Tryz.prog 8 #[.agg #[.int .i64 D.size, .int .i64 D.load, .int .i64 D.wind, .slice A1 D.ns k1, .int .i64 D.pitch, .int .i64 D.roll, .int .i64 D.heave, .int .i64 D.fire, .slice A2 D.nh k2, .slice A3 D.nu k3], .agg #[.int .i64 M.places, .int .i64 M.any.a0, .int .i64 M.any.a1, .int .i64 M.any.a2, .int .i64 M.any.a3, .int .i64 M.any.a4, .int .i64 M.any.a5, .bool M.any.i, .bool M.any.s, .int .i64 M.mw, .int .i64 M.ms, .int .i64 M.mc, .slice A4 M.n k4, .slice A5 M.m k5], .agg #[.slice A6 Mo.np k6, .slice A7 Mo.nr k7, .slice A8 Mo.nv k8], .agg #[.int .i64 a.size, .int .i64 a.weight, .int .i64 a.lw, .int .i64 a.ls, .int .i64 a.lc, .bool a.li, .bool a.lt, .int .i64 a.place, .int .i64 a.lo, .int .i64 a.hi], .int .i64 fr, .int .i64 ut] w1 fun e w' => ∃ B c, e = .returned (.tuple #[.slice B L1.length c, .int .i64 0]) ∧ SpL w' (.slice B L1.length c) L1 ∧ RowKit.Below w1.heap.size w1 w' from by
   refine (dWindows_c D (.slice A1 D.ns k1) (.slice A2 D.nh k2) (.slice A3 D.nu k3) M (.slice A4 M.n k4) (.slice A5 M.m k5) Mo (.slice A6 Mo.np k6) (.slice A7 Mo.nr k7) (.slice A8 Mo.nv k8) a fr ut w1 h1 h2 h3).mono ?_
   rintro e w' ⟨v, rfl, hb, -, ho⟩
   have ho := ho hwz
   rw [← hL1] at ho
   have hs := SpL.of_owns ho
   obtain ⟨B, c, rfl, -⟩ := id hs
   exact ⟨B, c, by rw [hwz], hs, hb⟩)
  have HL1 := hI9 hL1
  clear hsc hap hwz hL1
  go_wp2_with (first | (have _t := tok6; refine wpl_mid rfl 26 (.tmp 64) rfl w.heap.size 0 rfl 39 _ #[.int .i64 D.size, .int .i64 D.load, .int .i64 D.wind, .slice A1 D.ns k1, .int .i64 D.pitch, .int .i64 D.roll, .int .i64 D.heave, .int .i64 D.fire, .slice A2 D.nh k2, .slice A3 D.nu k3] 10 HX.out Tryz.tcRowDek [] [.int .i64 M.places, .int .i64 M.any.a0, .int .i64 M.any.a1, .int .i64 M.any.a2, .int .i64 M.any.a3, .int .i64 M.any.a4, .int .i64 M.any.a5, .bool M.any.i, .bool M.any.s, .int .i64 M.mw, .int .i64 M.ms, .int .i64 M.mc, .slice A4 M.n k4, .slice A5 M.m k5, .slice A6 Mo.np k6, .slice A7 Mo.nr k7, .slice A8 Mo.nv k8] rfl rfl rfl ?_; simp only [Act.put]; clear tok6) | (have _t := tok7; refine wpl_mid rfl 34 (.tmp 66) rfl w.heap.size 10 rfl 39 _ #[.int .i64 M.places, .int .i64 M.any.a0, .int .i64 M.any.a1, .int .i64 M.any.a2, .int .i64 M.any.a3, .int .i64 M.any.a4, .int .i64 M.any.a5, .bool M.any.i, .bool M.any.s, .int .i64 M.mw, .int .i64 M.ms, .int .i64 M.mc, .slice A4 M.n k4, .slice A5 M.m k5] 14 HX.out Tryz.rowMet [.int .i64 D.size, .int .i64 D.load, .int .i64 D.wind, .slice A1 D.ns k1, .int .i64 D.pitch, .int .i64 D.roll, .int .i64 D.heave, .int .i64 D.fire, .slice A2 D.nh k2, .slice A3 D.nu k3] [.slice A6 Mo.np k6, .slice A7 Mo.nr k7, .slice A8 Mo.nv k8] rfl rfl rfl ?_; simp only [Act.put]; clear tok7) | (have _t := tok8; refine wpl_mid rfl 37 (.tmp 68) rfl w.heap.size 24 rfl 39 _ #[.slice A6 Mo.np k6, .slice A7 Mo.nr k7, .slice A8 Mo.nv k8] 3 HX.out Tryz.tcRowMov [.int .i64 D.size, .int .i64 D.load, .int .i64 D.wind, .slice A1 D.ns k1, .int .i64 D.pitch, .int .i64 D.roll, .int .i64 D.heave, .int .i64 D.fire, .slice A2 D.nh k2, .slice A3 D.nu k3, .int .i64 M.places, .int .i64 M.any.a0, .int .i64 M.any.a1, .int .i64 M.any.a2, .int .i64 M.any.a3, .int .i64 M.any.a4, .int .i64 M.any.a5, .bool M.any.i, .bool M.any.s, .int .i64 M.mw, .int .i64 M.ms, .int .i64 M.mc, .slice A4 M.n k4, .slice A5 M.m k5] [] rfl rfl rfl ?_; simp only [Act.put]; clear tok8) | (have _t := tok9; refine wpl_row rfl 43 (.tmp 4) rfl _ rfl _ 10 HY.out Tryz.tcRowApp rfl ?_; simp only [Act.put]; clear tok9))
  refine (HWI.out _ (HD.out.below HB.out) (HM.out.below HB.out) (HV.out.below HB.out)).mono ?_
  rintro e w3 ⟨B1, d1, rfl, hs1, hb3⟩
  have HS1 := hI9 hs1
  clear hs1 HWI cHZ0 cHZ1 cHZ2 zHZ
  have nHX := hI9 (HX.out.below hb3)
  have nHY := hI9 (HY.out.below hb3)
  have nHZ := hI9 (HZ.out.below hb3)
  have nHB := hI9 (bthen HB.out hb3)
  clear HX HY HZ HB hb3
  have HX := nHX
  have HY := nHY
  have HZ := nHZ
  have HB := nHB
  clear nHX nHY nHZ nHB
  have zHZ := HZ.out.lt
  have cHZ0 := HZ.out.cell 0
  have cHZ1 := HZ.out.cell 1
  have cHZ2 := HZ.out.cell 2
  simp only [gtA, gtS, gtZ] at cHZ0 cHZ1 cHZ2
  have tokA : True := trivial
  have tokB : True := trivial
  go_wp2_with (first | (have _t := tokA; refine wpl_mid rfl 34 (.tmp 79) rfl w.heap.size 10 rfl 39 _ #[.int .i64 M.places, .int .i64 M.any.a0, .int .i64 M.any.a1, .int .i64 M.any.a2, .int .i64 M.any.a3, .int .i64 M.any.a4, .int .i64 M.any.a5, .bool M.any.i, .bool M.any.s, .int .i64 M.mw, .int .i64 M.ms, .int .i64 M.mc, .slice A4 M.n k4, .slice A5 M.m k5] 14 HX.out Tryz.rowMet [.int .i64 D.size, .int .i64 D.load, .int .i64 D.wind, .slice A1 D.ns k1, .int .i64 D.pitch, .int .i64 D.roll, .int .i64 D.heave, .int .i64 D.fire, .slice A2 D.nh k2, .slice A3 D.nu k3] [.slice A6 Mo.np k6, .slice A7 Mo.nr k7, .slice A8 Mo.nv k8] rfl rfl rfl ?_; simp only [Act.put]; clear tokA) | (have _t := tokB; refine wpl_mid rfl 41 (.tmp 81) rfl (w.heap.size + 1) 2 rfl 43 _ #[.int .i64 a.lw, .int .i64 a.ls, .int .i64 a.lc, .bool a.li, .bool a.lt] 5 HY.out Tryz.rowMin [.int .i64 a.size, .int .i64 a.weight] [.int .i64 a.place, .int .i64 a.lo, .int .i64 a.hi] rfl rfl rfl ?_; simp only [Act.put]; clear tokB))
  obtain ⟨L2, hL2⟩ : ∃ L, L = winR (fun t => openB (M.may pl t) a.lw a.ls a.lc a.li a.lt) (ut - fr).toNat fr [] := ⟨_, rfl⟩
  obtain ⟨F, hF⟩ : ∃ F, F = cwE M a.lw a.ls a.lc fr ut pl := ⟨_, rfl⟩
  have HWW := hI9 (fun w1 h1 => show Calls Tryz.prog 9 #[.agg #[.int .i64 M.places, .int .i64 M.any.a0, .int .i64 M.any.a1, .int .i64 M.any.a2, .int .i64 M.any.a3, .int .i64 M.any.a4, .int .i64 M.any.a5, .bool M.any.i, .bool M.any.s, .int .i64 M.mw, .int .i64 M.ms, .int .i64 M.mc, .slice A4 M.n k4, .slice A5 M.m k5], .agg #[.int .i64 a.lw, .int .i64 a.ls, .int .i64 a.lc, .bool a.li, .bool a.lt], .int .i64 pl, .int .i64 fr, .int .i64 ut] w1 fun e w' => ∃ B c n, e = .returned (.tuple #[.slice B n c, .int .i64 F]) ∧ (F = 0 → n = L2.length ∧ SpL w' (.slice B L2.length c) L2) ∧ RowKit.Below w1.heap.size w1 w' from by
   refine (wWindows_c M (.slice A4 M.n k4) (.slice A5 M.m k5) a.lw a.ls a.lc a.li a.lt pl fr ut w1 h1).mono ?_
   rintro e w' ⟨v, rfl, hb, hz, ho⟩
   rw [← hF] at hz ho ⊢
   by_cases h0 : F = 0
   ·have ho := ho h0
    rw [← hL2] at ho
    have hs := SpL.of_owns ho
    obtain ⟨B, c, rfl, -⟩ := id hs
    exact ⟨B, c, _, rfl, fun _ => ⟨rfl, hs⟩, hb⟩
   ·obtain rfl := hz h0
    exact ⟨none, 0, 0, rfl, fun h => absurd h h0, hb⟩)
  refine (HWW.out _ (HM.out.below HB.out)).mono ?_
  rintro e w4 ⟨B2, d2, nn, rfl, hs2, hb4⟩
  have nHS1 := hI9 (HS1.out.below hb4)
  clear HS1 HWW cHZ0 cHZ1 cHZ2 zHZ
  have HS1 := nHS1
  clear nHS1
  have nHX := hI9 (HX.out.below hb4)
  have nHY := hI9 (HY.out.below hb4)
  have nHZ := hI9 (HZ.out.below hb4)
  have nHB := hI9 (bthen HB.out hb4)
  clear HX HY HZ HB hb4
  have HX := nHX
  have HY := nHY
  have HZ := nHZ
  have HB := nHB
  clear nHX nHY nHZ nHB
  by_cases hF0 : F = 0
  ·rw [hF0] at hF ⊢
   obtain ⟨hnn, hs3⟩ := hs2 hF0
   clear hs2
   subst hnn
   have HS2 := hI9 hs3
   have HF := hI9 hF.symm
   have HL2 := hI9 hL2
   have hb1 : L1.length ≤ 31 := by rw [HL1.out]; exact Nat.le_trans (stR_len _ _ _) (by omega)
   have hb2 : L2.length ≤ 31 := by rw [HL2.out]; exact Nat.le_trans (winR_len _ _ _ _) (by simp; omega)
   clear hs3 hF hF0 hL2
   generalize hn1 : L1.length = n1 at *
   generalize hn2 : L2.length = n2 at *
   by_cases h12 : 12 < n1 + n2
   ·have h12' : (12 : Int) < n1 + n2 := by omega
    go_wp2_with (first | (go_at_call 7; refine (measures_c _).mono ?_; rintro _ w9 ⟨rfl, hb9⟩; have HB9 := hI9 (bthen HB.out hb9); clear hb9))
    go_ret
    exact ⟨rfl, HB9.out⟩
   ·have h12' : ¬ (12 : Int) < n1 + n2 := by omega
    go_wp2_with (fail)
    have K0 := hI9 (show CaK w4 (((w4.alloc (.cells #[.int .i64 0, .int .i64 1] 3)).alloc (.cells #[.slice none 0 0, .slice none 0 0, .bool true, .slice none 0 0, .slice none 0 0, .bool true, .slice (some ⟨w4.heap.size, 0, none⟩) 2 2, .slice none 0 0, .bool false] 54)).alloc (.cells #[.slice (some ⟨w4.heap.size + 1, 0, none⟩) 3 3, .slice none 0 0] 57)) w4.heap.size (w4.heap.size + 3) (.slice none 0 0) (.slice none 0 0) (.slice none 0 0) 0 0 n1 (L1.take 0) from
     ⟨bal (bal (bal (Below.refl _ _) _) _) _, Blk.newA (g := w4.heap.size + 2) _ _ _ (by simp), (Blk.newA (g := w4.heap.size + 1) _ _ _ (by simp)).alloc _, ((Blk.new w4 _ _).alloc _).alloc _, World.ownsRow_nil _ _ _ _, World.ownsRow_nil _ _ _ _, World.ownsRow_nil _ _ _ _, ⟨Nat.le_refl _, by simp⟩, .inl rfl⟩)
    generalize World.alloc (World.alloc (World.alloc w4 _) _) _ = w5 at *
    clear h12'
    go_loopw [12] (fun s12 wr => ∃ (k : Nat) (uA uP : Value), k ≤ n1 ∧ s12 = .int .i64 k ∧ Hid (CaK w4 wr w4.heap.size (w4.heap.size + 3) uA (.slice none 0 0) uP k 0 n1 (L1.take k))) (fun i _ => n1 - (intOf i).toNat)
    case atStart => exact ⟨0, _, _, by omega, rfl, K0⟩
    case round =>
     clear K0
     obtain ⟨k, uA, uP, hk, rfl, K0⟩ := hrel
     by_cases hlt : k < n1
     ·have HLN := hI9 (show (L1.take k).length = k by rw [List.length_take]; omega)
      have hlt' : k < L1.length := by omega
      obtain ⟨Bq, cq0, eq0, hq0⟩ := HS1.out
      rw [hn1] at eq0 hq0
      cases eq0
      obtain ⟨bq, oq, rfl, hbq, hcq⟩ := hq0 (by omega)
      rw [← hn1] at hcq
      obtain ⟨AP, cP, hP, -⟩ := SpL.of_owns K0.out.p
      rw [HLN.out] at hP
      subst hP
      have HNE := hI9 (show ∀ g, g < w4.heap.size + 3 → some g ≠ uA.ownBlock from fun g hg e => by have := owns_base K0.out.a e; have := K0.out.o; omega)
      have HOB := hI9 (show ∀ g, some g = uA.ownBlock → g < wr.heap.size from fun g e => (K0.out.a.lt g e.symm).2)
      have HO2 := hI9 K0.out.o
      go_wp2_with (fail)
      refine wp_region_specH (tcG uA.ownBlock) (fun w1 => wr.grownBy w1 uA.ownBlock) (fun q w1 => q = 11 → w1.ownsRow (w4.heap.size + 3) 3 1 uA k (itsV (fun q : Nat => (q : Int)) k)) (fun _ _ _ h => h.1.size) (fun _ _ _ h h2 => h2.trans h.1) (fun q j a b hkj _ hG hI e => ownsRow_below (hI e) (hG.2 (fun h => hkj (e.trans h.symm)))) (tcgob _ (Below.refl _ _).drew) (fun _ _ => K0.out.a.drew) 14 (tcAR wr.heap.size (w4.heap.size + 2) (w4.heap.size + 1) 0 1 k (w4.heap.size + 3) uA (.slice AP (k) cP) (fun q : Nat => (q : Int))) (fun _ => false) (by kernel_rfl) (by kernel_rfl) (tcAR_keep HOB.out) ?hoph339 ?htailh339
      case hoph339 =>
       simp only [List.take_succ_cons, List.take_zero, allOps]
       refine ⟨?_, ?_, ?_, ?_, ?_, ?_, ?_, ?_, ?_, ?_, ?_, ?_, ?_, ?_, trivial⟩
       all_goals intro u A w1 hA hj hi hd
       all_goals simp only [putAll, dstOf, gtA, gtS, gtZ, Option.bind_some, Option.bind, Act.put, List.setIfInBounds_toArray, List.set_cons_succ, List.set_cons_zero] at hA; subst hA
       ·clear hd
        clear hj hi
        go_wp2
        exact ⟨_, rfl, (tcG_b (Below.refl _ _)), rfl, fun h => absurd h (by decide)⟩
       ·have d0 : u 0 = _ := hd 0 (by omega) (by kernel_rfl)
        clear hd
        try rw [d0]
        clear d0
        have x0 := (Blk.grew K0.out.x hj (HNE.out _ (by omega))).cell 0
        clear hj hi
        go_wp2
        exact ⟨_, rfl, (tcG_b (Below.refl _ _)), rfl, fun h => absurd h (by decide)⟩
       ·clear hd
        clear hj hi
        go_wp2
        exact ⟨_, rfl, (tcG_b (Below.refl _ _)), rfl, fun h => absurd h (by decide)⟩
       ·have d2 : u 2 = _ := hd 2 (by omega) (by kernel_rfl)
        clear hd
        try rw [d2]
        clear d2
        have x0 := (Blk.grew K0.out.x hj (HNE.out _ (by omega))).cell 0
        clear hj hi
        go_wp2
        exact ⟨_, rfl, (tcG_b (Below.refl _ _)), rfl, fun h => absurd h (by decide)⟩
       ·have d3 : u 3 = _ := hd 3 (by omega) (by kernel_rfl)
        clear hd
        try rw [d3]
        clear d3
        clear hj hi
        go_wp2
        exact ⟨_, rfl, (tcG_b (Below.refl _ _)), rfl, fun h => absurd h (by decide)⟩
       ·have d4 : u 4 = _ := hd 4 (by omega) (by kernel_rfl)
        clear hd
        try rw [d4]
        clear d4
        clear hj hi
        go_wp2
        exact ⟨_, rfl, (tcG_b (Below.refl _ _)), rfl, fun h => absurd h (by decide)⟩
       ·have d5 : u 5 = _ := hd 5 (by omega) (by kernel_rfl)
        clear hd
        try rw [d5]
        clear d5
        have x0 := (Blk.grew K0.out.c hj (HNE.out _ (by omega))).cell 1
        clear hj hi
        go_wp2
        exact ⟨_, rfl, (tcG_b (Below.refl _ _)), rfl, fun h => absurd h (by decide)⟩
       ·clear hd
        clear hj hi
        go_wp2
        exact ⟨_, rfl, (tcG_b (Below.refl _ _)), rfl, fun h => absurd h (by decide)⟩
       ·have d7 : u 7 = _ := hd 7 (by omega) (by kernel_rfl)
        clear hd
        try rw [d7]
        clear d7
        have x0 := (Blk.grew K0.out.x hj (HNE.out _ (by omega))).cell 1
        clear hj hi
        go_wp2
        exact ⟨_, rfl, (tcG_b (Below.refl _ _)), rfl, fun h => absurd h (by decide)⟩
       ·have d8 : u 8 = _ := hd 8 (by omega) (by kernel_rfl)
        clear hd
        try rw [d8]
        clear d8
        clear hj hi
        go_wp2
        exact ⟨_, rfl, tcG_b (Below.refl _ _), (by first | rfl | (show Value.int .i64 _ = .int .i64 _; congr 1; omega)), fun h => absurd h (by decide)⟩
       ·have d9 : u 9 = _ := hd 9 (by omega) (by kernel_rfl)
        clear hd
        try rw [d9]
        clear d9
        have hz := hj.size
        clear hj hi
        go_wp2
        exact ⟨_, rfl, tcG_b (bal (Below.refl _ _) _), ⟨_, rfl, hz, Blk.new _ _ _⟩, fun h => absurd h (by decide)⟩
       ·have d6 : u 6 = _ := hd 6 (by omega) (by kernel_rfl)
        have d10 := hd 10 (by omega) (by kernel_rfl)
        clear hd
        try rw [d6]
        clear d6
        obtain ⟨g, dg, -, d2⟩ := d10
        rw [dg]
        clear dg
        refine wpl_appE rfl (.tmp 123) (.tmp 127) rfl (w4.heap.size + 3) uA k (fun q : Nat => (q : Int)) rfl (hi (by first | rfl | trivial)) g rfl (d2.cell 0) (by omega) (by have := hj.size; have := HO2.out; omega) ?_
        intro v' w' h1 h2
        exact ⟨v', rfl, ⟨h2, fun h => absurd rfl h⟩, h1, fun h => absurd h (by decide)⟩
       ·have d0 : u 0 = _ := hd 0 (by omega) (by kernel_rfl)
        have d1 : u 1 = _ := hd 1 (by omega) (by kernel_rfl)
        have d2 : u 2 = _ := hd 2 (by omega) (by kernel_rfl)
        have d3 : u 3 = _ := hd 3 (by omega) (by kernel_rfl)
        have d4 : u 4 = _ := hd 4 (by omega) (by kernel_rfl)
        have d5 : u 5 = _ := hd 5 (by omega) (by kernel_rfl)
        have d6 : u 6 = _ := hd 6 (by omega) (by kernel_rfl)
        have d7 : u 7 = _ := hd 7 (by omega) (by kernel_rfl)
        have d8 : u 8 = _ := hd 8 (by omega) (by kernel_rfl)
        have d9 : u 9 = _ := hd 9 (by omega) (by kernel_rfl)
        have d10 := hd 10 (by omega) (by kernel_rfl)
        have d11 := hd 11 (by omega) (by kernel_rfl)
        clear hd
        try rw [d0, d1, d2, d3, d4, d5, d6, d7, d8, d9]
        clear d0 d1 d2 d3 d4 d5 d6 d7 d8 d9
        clear hj hi
        go_wp2
        exact ⟨_, rfl, (tcG_b (Below.refl _ _)), rfl, fun h => absurd h (by decide)⟩
       ·have d0 : u 0 = _ := hd 0 (by omega) (by kernel_rfl)
        have d1 : u 1 = _ := hd 1 (by omega) (by kernel_rfl)
        have d2 : u 2 = _ := hd 2 (by omega) (by kernel_rfl)
        have d3 : u 3 = _ := hd 3 (by omega) (by kernel_rfl)
        have d4 : u 4 = _ := hd 4 (by omega) (by kernel_rfl)
        have d5 : u 5 = _ := hd 5 (by omega) (by kernel_rfl)
        have d6 : u 6 = _ := hd 6 (by omega) (by kernel_rfl)
        have d7 : u 7 = _ := hd 7 (by omega) (by kernel_rfl)
        have d8 : u 8 = _ := hd 8 (by omega) (by kernel_rfl)
        have d9 : u 9 = _ := hd 9 (by omega) (by kernel_rfl)
        have d10 := hd 10 (by omega) (by kernel_rfl)
        have d11 := hd 11 (by omega) (by kernel_rfl)
        have d12 : u 12 = _ := hd 12 (by omega) (by kernel_rfl)
        clear hd
        try rw [d0, d1, d2, d3, d4, d5, d6, d7, d8, d9, d12]
        clear d0 d1 d2 d3 d4 d5 d6 d7 d8 d9 d12
        clear hj hi
        go_wp2
        exact ⟨_, rfl, (tcG_b (Below.refl _ _)), rfl, fun h => absurd h (by decide)⟩
      case htailh339 =>
       intro u A w1 hA hj hd hf
       simp only [putAll, dstOf, gtA, gtS, gtZ, Option.bind_some, Option.bind, Act.put, List.setIfInBounds_toArray, List.set_cons_succ, List.set_cons_zero] at hA; subst hA
       have e0 : u 0 = _ := hd 0 (by omega)
       have e1 : u 1 = _ := hd 1 (by omega)
       have e2 : u 2 = _ := hd 2 (by omega)
       have e3 : u 3 = _ := hd 3 (by omega)
       have e4 : u 4 = _ := hd 4 (by omega)
       have e5 : u 5 = _ := hd 5 (by omega)
       have e6 : u 6 = _ := hd 6 (by omega)
       have e7 : u 7 = _ := hd 7 (by omega)
       have e8 : u 8 = _ := hd 8 (by omega)
       have e9 : u 9 = _ := hd 9 (by omega)
       have p10 := hd 10 (by omega)
       have p11 := hd 11 (by omega)
       have e12 : u 12 = _ := hd 12 (by omega)
       have e13 : u 13 = _ := hd 13 (by omega)
       first | rw [e0, e1, e2, e3, e4, e5, e6, e7, e8, e9, e12, e13] | simp only [e0, e1, e2, e3, e4, e5, e6, e7, e8, e9, e12, e13]
       clear e0 e1 e2 e3 e4 e5 e6 e7 e8 e9 e12 e13
       clear hd hf
       clear p10
       generalize u 11 = v11 at *
       obtain ⟨gq, cq, rfl⟩ := tc_form p11 (by omega)
       have K1 := hI9 (K0.out.pushA p11 hj rfl)
       have xc := (Blk.grew K0.out.c hj (HNE.out _ (by omega))).cell 1
       have xf := fun i => (Blk.grew K0.out.c hj (HNE.out _ (by omega))).frozen i
       have xz := (Blk.grew K0.out.c hj (HNE.out _ (by omega))).lt
       simp only [gtA, gtS, gtZ] at xc
       clear hj p11 HNE HOB HO2
       go_wp2_with (fail)
       clear xc xf xz
       generalize World.setCell w1 _ _ = w2 at *
       have HCL := hI9 (show ∀ wz, Below w4.heap.size w4 wz → wz.cell? ⟨bq, oq + k * 2, none⟩ = some (.int .i64 (loL L1 k)) ∧ wz.cell? ⟨bq, oq + k * 2 + 1, none⟩ = some (.int .i64 (hiL L1 k)) from fun wz hb => ⟨(hb.cell (p := ⟨bq, oq + k * 2, none⟩) hbq).trans (hcq k hlt').1, (hb.cell (p := ⟨bq, oq + k * 2 + 1, none⟩) hbq).trans (hcq k hlt').2⟩)
       refine wp_region_spec 7 (tcPR (w4.heap.size + 2) (.slice AP (k) cP) (.slice (some ⟨bq, oq, none⟩) n1 d1) k bq (oq + k * 2) (loL L1 k) (hiL L1 k)) (fun i => false) (by kernel_rfl) (by kernel_rfl) tcPR_below ?hop1 ?htail1
       case hop1 =>
        simp only [List.take_succ_cons, List.take_zero, allOps]
        refine ⟨?_, ?_, ?_, ?_, ?_, ?_, ?_, trivial⟩
        all_goals intro u A w1 hA hb hd
        all_goals simp only [putAll, dstOf, gtA, gtS, gtZ, Option.bind_some, Option.bind, Act.put, List.setIfInBounds_toArray, List.set_cons_succ, List.set_cons_zero] at hA; subst hA
        all_goals have HB1 := hI9 hb
        ·clear hb hd
         go_wp2
         exact ⟨_, rfl, Below.refl _ _, rfl, fun h => absurd h (by decide)⟩
        ·have d0 : u 0 = _ := hd 0 (by omega) (by kernel_rfl)
         clear hb hd
         rw [d0]
         clear d0
         have x1 := (K1.out.x.below HB1.out).cell 1
         go_wp2
         exact ⟨_, rfl, Below.refl _ _, rfl, fun h => absurd h (by decide)⟩
        ·clear hb hd
         go_wp2
         exact ⟨_, rfl, Below.refl _ _, rfl, fun h => absurd h (by decide)⟩
        ·clear hb hd
         go_wp2
         exact ⟨_, rfl, Below.refl _ _, rfl, fun h => absurd h (by decide)⟩
        ·have d2 : u 2 = _ := hd 2 (by omega) (by kernel_rfl)
         have d3 : u 3 = _ := hd 3 (by omega) (by kernel_rfl)
         clear hb hd
         rw [d2, d3]
         clear d2 d3
         go_wp2
         exact ⟨_, rfl, Below.refl _ _, rfl, fun h => absurd h (by decide)⟩
        ·have d4 : u 4 = _ := hd 4 (by omega) (by kernel_rfl)
         clear hb hd
         rw [d4]
         clear d4
         have x1 := (HCL.out _ (K1.out.below HB1.out).b).1
         have x2 := (HCL.out _ (K1.out.below HB1.out).b).2
         go_wp2
         exact ⟨_, rfl, Below.refl _ _, rfl, fun h => absurd h (by decide)⟩
        ·have d5 : u 5 = _ := hd 5 (by omega) (by kernel_rfl)
         clear hb hd
         rw [d5]
         clear d5
         go_wp2
         exact ⟨_, rfl, bal (Below.refl _ _) _, ⟨_, rfl, Blk.new _ _ _⟩, fun h => absurd h (by decide)⟩
       case htail1 =>
        intro u A w1 hA hb hd hf
        simp only [putAll, dstOf, gtA, gtS, gtZ, Option.bind_some, Option.bind, Act.put, List.setIfInBounds_toArray, List.set_cons_succ, List.set_cons_zero] at hA; subst hA
        have e0 : u 0 = _ := hd 0 (by omega)
        have e1 : u 1 = _ := hd 1 (by omega)
        have e2 : u 2 = _ := hd 2 (by omega)
        have e3 : u 3 = _ := hd 3 (by omega)
        have e4 : u 4 = _ := hd 4 (by omega)
        have e5 : u 5 = _ := hd 5 (by omega)
        have p6 := hd 6 (by omega)
        first | rw [e0, e1, e2, e3, e4, e5] | simp only [e0, e1, e2, e3, e4, e5]
        clear e0 e1 e2 e3 e4 e5
        clear hd hf
        obtain ⟨g6, e6, b6⟩ := p6
        rw [e6]
        clear e6
        have K2 := hI9 (K1.out.below hb)
        clear hb
        refine wpl_appW rfl (.tmp 132) (.tmp 137) rfl (w4.heap.size + 3) (.slice AP (k) cP) ((L1.take k)) rfl K2.out.p g6 (loL L1 k, hiL L1 k) rfl (b6.cell 0) (b6.cell 1) (by rw [HLN.out]; omega) (Nat.le_trans K2.out.o.1 K2.out.o.2) ?_
        intro v3 w3 O2 G2 N2
        obtain ⟨g3, c3, e3⟩ := tc_form O2 (by simp only [List.length_append, List.length_cons]; omega)
        obtain rfl : v3 = .slice (some ⟨g3, 0, none⟩) (k + 1) c3 := by rw [e3, List.length_append, HLN.out]; rfl
        clear e3
        have hK3 := K2.out.pushP O2 G2
        rw [tcTake_snoc L1 k hlt'] at hK3
        have K3 := hI9 hK3
        clear hK3
        have xb := Blk.grew K2.out.x G2 (fun e => by have := owns_base K2.out.p e; omega)
        have xc := xb.cell 1
        have xf := fun i => xb.frozen i
        have xz := xb.lt
        simp only [gtA, gtS, gtZ] at xc
        clear xb O2 G2 N2 b6
        go_wp2_with (fail)
        go_roundw
        case rel => exact ⟨k + 1, _, _, by omega, by go_num, K3⟩
        case measure => simp [intOf]; omega
     ·obtain rfl : n1 = k := by omega
      obtain ⟨sB, hsB⟩ : ∃ q, q = wr.heap.size := ⟨_, rfl⟩
      have hrb := K0.out.rebase
      rw [← hsB, List.take_of_length_le (by omega)] at hrb
      have KB := hI9 (show CaK w4 wr w4.heap.size sB uA (.slice none 0 0) uP n1 0 n1 (L1 ++ L2.take 0) from by rw [List.take_zero, List.append_nil]; exact hrb.1)
      have HA2 := hI9 hrb.2
      clear hrb K0 hsB
      go_wp2_with (fail)
      go_loopw [13] (fun s13 wr => ∃ (k : Nat) (uB uP : Value), k ≤ n2 ∧ s13 = .int .i64 k ∧ Hid (CaK w4 wr w4.heap.size sB uA uB uP n1 k n1 (L1 ++ L2.take k))) (fun i _ => n2 - (intOf i).toNat)
      case atStart => exact ⟨0, _, _, by omega, rfl, KB⟩
      case round =>
       clear KB
       obtain ⟨k, uB, uP, hk, rfl, K0⟩ := hrel
       by_cases hlt : k < n2
       ·have HLN := hI9 (show (L1 ++ L2.take k).length = n1 + k by rw [List.length_append, List.length_take]; omega)
        have hlt' : k < L2.length := by omega
        obtain ⟨Bq, cq0, eq0, hq0⟩ := HS2.out
        rw [hn2] at eq0 hq0
        cases eq0
        obtain ⟨bq, oq, rfl, hbq, hcq⟩ := hq0 (by omega)
        rw [← hn2] at hcq
        obtain ⟨AP, cP, hP, -⟩ := SpL.of_owns K0.out.p
        rw [HLN.out] at hP
        subst hP
        have HNE := hI9 (show ∀ g, g < w4.heap.size + 3 → some g ≠ uB.ownBlock from fun g hg e => by have := owns_base K0.out.q e; have := K0.out.o; omega)
        have HOB := hI9 (show ∀ g, some g = uB.ownBlock → g < wr.heap.size from fun g e => (K0.out.q.lt g e.symm).2)
        have HO2 := hI9 K0.out.o
        go_wp2_with (fail)
        refine wp_region_specH (tcG uB.ownBlock) (fun w1 => wr.grownBy w1 uB.ownBlock) (fun q w1 => q = 11 → w1.ownsRow (sB) 3 1 uB k (itsV (fun q : Nat => (n1 : Int) + (q : Int)) k)) (fun _ _ _ h => h.1.size) (fun _ _ _ h h2 => h2.trans h.1) (fun q j a b hkj _ hG hI e => ownsRow_below (hI e) (hG.2 (fun h => hkj (e.trans h.symm)))) (tcgob _ (Below.refl _ _).drew) (fun _ _ => K0.out.q.drew) 14 (tcAR wr.heap.size (w4.heap.size + 2) (w4.heap.size + 1) 3 4 k (sB) uB (.slice AP (n1 + k) cP) (fun q : Nat => (n1 : Int) + (q : Int))) (fun _ => false) (by kernel_rfl) (by kernel_rfl) (tcAR_keep HOB.out) ?hoph473 ?htailh473
        case hoph473 =>
         simp only [List.take_succ_cons, List.take_zero, allOps]
         refine ⟨?_, ?_, ?_, ?_, ?_, ?_, ?_, ?_, ?_, ?_, ?_, ?_, ?_, ?_, trivial⟩
         all_goals intro u A w1 hA hj hi hd
         all_goals simp only [putAll, dstOf, gtA, gtS, gtZ, Option.bind_some, Option.bind, Act.put, List.setIfInBounds_toArray, List.set_cons_succ, List.set_cons_zero] at hA; subst hA
         ·clear hd
          clear hj hi
          go_wp2
          exact ⟨_, rfl, (tcG_b (Below.refl _ _)), rfl, fun h => absurd h (by decide)⟩
         ·have d0 : u 0 = _ := hd 0 (by omega) (by kernel_rfl)
          clear hd
          try rw [d0]
          clear d0
          have x0 := (Blk.grew K0.out.x hj (HNE.out _ (by omega))).cell 0
          clear hj hi
          go_wp2
          exact ⟨_, rfl, (tcG_b (Below.refl _ _)), rfl, fun h => absurd h (by decide)⟩
         ·clear hd
          clear hj hi
          go_wp2
          exact ⟨_, rfl, (tcG_b (Below.refl _ _)), rfl, fun h => absurd h (by decide)⟩
         ·have d2 : u 2 = _ := hd 2 (by omega) (by kernel_rfl)
          clear hd
          try rw [d2]
          clear d2
          have x0 := (Blk.grew K0.out.x hj (HNE.out _ (by omega))).cell 0
          clear hj hi
          go_wp2
          exact ⟨_, rfl, (tcG_b (Below.refl _ _)), rfl, fun h => absurd h (by decide)⟩
         ·have d3 : u 3 = _ := hd 3 (by omega) (by kernel_rfl)
          clear hd
          try rw [d3]
          clear d3
          clear hj hi
          go_wp2
          exact ⟨_, rfl, (tcG_b (Below.refl _ _)), rfl, fun h => absurd h (by decide)⟩
         ·have d4 : u 4 = _ := hd 4 (by omega) (by kernel_rfl)
          clear hd
          try rw [d4]
          clear d4
          clear hj hi
          go_wp2
          exact ⟨_, rfl, (tcG_b (Below.refl _ _)), rfl, fun h => absurd h (by decide)⟩
         ·have d5 : u 5 = _ := hd 5 (by omega) (by kernel_rfl)
          clear hd
          try rw [d5]
          clear d5
          have x0 := (Blk.grew K0.out.c hj (HNE.out _ (by omega))).cell 4
          clear hj hi
          go_wp2
          exact ⟨_, rfl, (tcG_b (Below.refl _ _)), rfl, fun h => absurd h (by decide)⟩
         ·clear hd
          clear hj hi
          go_wp2
          exact ⟨_, rfl, (tcG_b (Below.refl _ _)), rfl, fun h => absurd h (by decide)⟩
         ·have d7 : u 7 = _ := hd 7 (by omega) (by kernel_rfl)
          clear hd
          try rw [d7]
          clear d7
          have x0 := (Blk.grew K0.out.x hj (HNE.out _ (by omega))).cell 1
          clear hj hi
          go_wp2
          exact ⟨_, rfl, (tcG_b (Below.refl _ _)), rfl, fun h => absurd h (by decide)⟩
         ·have d8 : u 8 = _ := hd 8 (by omega) (by kernel_rfl)
          clear hd
          try rw [d8]
          clear d8
          clear hj hi
          go_wp2
          exact ⟨_, rfl, tcG_b (Below.refl _ _), (by first | rfl | (show Value.int .i64 _ = .int .i64 _; congr 1; omega)), fun h => absurd h (by decide)⟩
         ·have d9 : u 9 = _ := hd 9 (by omega) (by kernel_rfl)
          clear hd
          try rw [d9]
          clear d9
          have hz := hj.size
          clear hj hi
          go_wp2
          exact ⟨_, rfl, tcG_b (bal (Below.refl _ _) _), ⟨_, rfl, hz, Blk.new _ _ _⟩, fun h => absurd h (by decide)⟩
         ·have d6 : u 6 = _ := hd 6 (by omega) (by kernel_rfl)
          have d10 := hd 10 (by omega) (by kernel_rfl)
          clear hd
          try rw [d6]
          clear d6
          obtain ⟨g, dg, -, d2⟩ := d10
          rw [dg]
          clear dg
          refine wpl_appE rfl (.tmp 152) (.tmp 156) rfl (sB) uB k (fun q : Nat => (n1 : Int) + (q : Int)) rfl (hi (by first | rfl | trivial)) g rfl (d2.cell 0) (by omega) (by have := hj.size; have := HO2.out; omega) ?_
          intro v' w' h1 h2
          exact ⟨v', rfl, ⟨h2, fun h => absurd rfl h⟩, h1, fun h => absurd h (by decide)⟩
         ·have d0 : u 0 = _ := hd 0 (by omega) (by kernel_rfl)
          have d1 : u 1 = _ := hd 1 (by omega) (by kernel_rfl)
          have d2 : u 2 = _ := hd 2 (by omega) (by kernel_rfl)
          have d3 : u 3 = _ := hd 3 (by omega) (by kernel_rfl)
          have d4 : u 4 = _ := hd 4 (by omega) (by kernel_rfl)
          have d5 : u 5 = _ := hd 5 (by omega) (by kernel_rfl)
          have d6 : u 6 = _ := hd 6 (by omega) (by kernel_rfl)
          have d7 : u 7 = _ := hd 7 (by omega) (by kernel_rfl)
          have d8 : u 8 = _ := hd 8 (by omega) (by kernel_rfl)
          have d9 : u 9 = _ := hd 9 (by omega) (by kernel_rfl)
          have d10 := hd 10 (by omega) (by kernel_rfl)
          have d11 := hd 11 (by omega) (by kernel_rfl)
          clear hd
          try rw [d0, d1, d2, d3, d4, d5, d6, d7, d8, d9]
          clear d0 d1 d2 d3 d4 d5 d6 d7 d8 d9
          clear hj hi
          go_wp2
          exact ⟨_, rfl, (tcG_b (Below.refl _ _)), rfl, fun h => absurd h (by decide)⟩
         ·have d0 : u 0 = _ := hd 0 (by omega) (by kernel_rfl)
          have d1 : u 1 = _ := hd 1 (by omega) (by kernel_rfl)
          have d2 : u 2 = _ := hd 2 (by omega) (by kernel_rfl)
          have d3 : u 3 = _ := hd 3 (by omega) (by kernel_rfl)
          have d4 : u 4 = _ := hd 4 (by omega) (by kernel_rfl)
          have d5 : u 5 = _ := hd 5 (by omega) (by kernel_rfl)
          have d6 : u 6 = _ := hd 6 (by omega) (by kernel_rfl)
          have d7 : u 7 = _ := hd 7 (by omega) (by kernel_rfl)
          have d8 : u 8 = _ := hd 8 (by omega) (by kernel_rfl)
          have d9 : u 9 = _ := hd 9 (by omega) (by kernel_rfl)
          have d10 := hd 10 (by omega) (by kernel_rfl)
          have d11 := hd 11 (by omega) (by kernel_rfl)
          have d12 : u 12 = _ := hd 12 (by omega) (by kernel_rfl)
          clear hd
          try rw [d0, d1, d2, d3, d4, d5, d6, d7, d8, d9, d12]
          clear d0 d1 d2 d3 d4 d5 d6 d7 d8 d9 d12
          clear hj hi
          go_wp2
          exact ⟨_, rfl, (tcG_b (Below.refl _ _)), rfl, fun h => absurd h (by decide)⟩
        case htailh473 =>
         intro u A w1 hA hj hd hf
         simp only [putAll, dstOf, gtA, gtS, gtZ, Option.bind_some, Option.bind, Act.put, List.setIfInBounds_toArray, List.set_cons_succ, List.set_cons_zero] at hA; subst hA
         have e0 : u 0 = _ := hd 0 (by omega)
         have e1 : u 1 = _ := hd 1 (by omega)
         have e2 : u 2 = _ := hd 2 (by omega)
         have e3 : u 3 = _ := hd 3 (by omega)
         have e4 : u 4 = _ := hd 4 (by omega)
         have e5 : u 5 = _ := hd 5 (by omega)
         have e6 : u 6 = _ := hd 6 (by omega)
         have e7 : u 7 = _ := hd 7 (by omega)
         have e8 : u 8 = _ := hd 8 (by omega)
         have e9 : u 9 = _ := hd 9 (by omega)
         have p10 := hd 10 (by omega)
         have p11 := hd 11 (by omega)
         have e12 : u 12 = _ := hd 12 (by omega)
         have e13 : u 13 = _ := hd 13 (by omega)
         first | rw [e0, e1, e2, e3, e4, e5, e6, e7, e8, e9, e12, e13] | simp only [e0, e1, e2, e3, e4, e5, e6, e7, e8, e9, e12, e13]
         clear e0 e1 e2 e3 e4 e5 e6 e7 e8 e9 e12 e13
         clear hd hf
         clear p10
         generalize u 11 = v11 at *
         obtain ⟨gq, cq, rfl⟩ := tc_form p11 (by omega)
         have K1 := hI9 (K0.out.pushB p11 hj HA2.out)
         have xc := (Blk.grew K0.out.c hj (HNE.out _ (by omega))).cell 4
         have xf := fun i => (Blk.grew K0.out.c hj (HNE.out _ (by omega))).frozen i
         have xz := (Blk.grew K0.out.c hj (HNE.out _ (by omega))).lt
         simp only [gtA, gtS, gtZ] at xc
         clear hj p11 HNE HOB HO2
         go_wp2_with (fail)
         clear xc xf xz
         generalize World.setCell w1 _ _ = w2 at *
         have HCL := hI9 (show ∀ wz, Below w4.heap.size w4 wz → wz.cell? ⟨bq, oq + k * 2, none⟩ = some (.int .i64 (loL L2 k)) ∧ wz.cell? ⟨bq, oq + k * 2 + 1, none⟩ = some (.int .i64 (hiL L2 k)) from fun wz hb => ⟨(hb.cell (p := ⟨bq, oq + k * 2, none⟩) hbq).trans (hcq k hlt').1, (hb.cell (p := ⟨bq, oq + k * 2 + 1, none⟩) hbq).trans (hcq k hlt').2⟩)
         refine wp_region_spec 7 (tcPR (w4.heap.size + 2) (.slice AP (n1 + k) cP) (.slice (some ⟨bq, oq, none⟩) n2 d2) k bq (oq + k * 2) (loL L2 k) (hiL L2 k)) (fun i => false) (by kernel_rfl) (by kernel_rfl) tcPR_below ?hop2 ?htail2
         case hop2 =>
          simp only [List.take_succ_cons, List.take_zero, allOps]
          refine ⟨?_, ?_, ?_, ?_, ?_, ?_, ?_, trivial⟩
          all_goals intro u A w1 hA hb hd
          all_goals simp only [putAll, dstOf, gtA, gtS, gtZ, Option.bind_some, Option.bind, Act.put, List.setIfInBounds_toArray, List.set_cons_succ, List.set_cons_zero] at hA; subst hA
          all_goals have HB1 := hI9 hb
          ·clear hb hd
           go_wp2
           exact ⟨_, rfl, Below.refl _ _, rfl, fun h => absurd h (by decide)⟩
          ·have d0 : u 0 = _ := hd 0 (by omega) (by kernel_rfl)
           clear hb hd
           rw [d0]
           clear d0
           have x1 := (K1.out.x.below HB1.out).cell 1
           go_wp2
           exact ⟨_, rfl, Below.refl _ _, rfl, fun h => absurd h (by decide)⟩
          ·clear hb hd
           go_wp2
           exact ⟨_, rfl, Below.refl _ _, rfl, fun h => absurd h (by decide)⟩
          ·clear hb hd
           go_wp2
           exact ⟨_, rfl, Below.refl _ _, rfl, fun h => absurd h (by decide)⟩
          ·have d2 : u 2 = _ := hd 2 (by omega) (by kernel_rfl)
           have d3 : u 3 = _ := hd 3 (by omega) (by kernel_rfl)
           clear hb hd
           rw [d2, d3]
           clear d2 d3
           go_wp2
           exact ⟨_, rfl, Below.refl _ _, rfl, fun h => absurd h (by decide)⟩
          ·have d4 : u 4 = _ := hd 4 (by omega) (by kernel_rfl)
           clear hb hd
           rw [d4]
           clear d4
           have x1 := (HCL.out _ (K1.out.below HB1.out).b).1
           have x2 := (HCL.out _ (K1.out.below HB1.out).b).2
           go_wp2
           exact ⟨_, rfl, Below.refl _ _, rfl, fun h => absurd h (by decide)⟩
          ·have d5 : u 5 = _ := hd 5 (by omega) (by kernel_rfl)
           clear hb hd
           rw [d5]
           clear d5
           go_wp2
           exact ⟨_, rfl, bal (Below.refl _ _) _, ⟨_, rfl, Blk.new _ _ _⟩, fun h => absurd h (by decide)⟩
         case htail2 =>
          intro u A w1 hA hb hd hf
          simp only [putAll, dstOf, gtA, gtS, gtZ, Option.bind_some, Option.bind, Act.put, List.setIfInBounds_toArray, List.set_cons_succ, List.set_cons_zero] at hA; subst hA
          have e0 : u 0 = _ := hd 0 (by omega)
          have e1 : u 1 = _ := hd 1 (by omega)
          have e2 : u 2 = _ := hd 2 (by omega)
          have e3 : u 3 = _ := hd 3 (by omega)
          have e4 : u 4 = _ := hd 4 (by omega)
          have e5 : u 5 = _ := hd 5 (by omega)
          have p6 := hd 6 (by omega)
          first | rw [e0, e1, e2, e3, e4, e5] | simp only [e0, e1, e2, e3, e4, e5]
          clear e0 e1 e2 e3 e4 e5
          clear hd hf
          obtain ⟨g6, e6, b6⟩ := p6
          rw [e6]
          clear e6
          have K2 := hI9 (K1.out.below hb)
          clear hb
          refine wpl_appW rfl (.tmp 161) (.tmp 166) rfl (w4.heap.size + 3) (.slice AP (n1 + k) cP) ((L1 ++ L2.take k)) rfl K2.out.p g6 (loL L2 k, hiL L2 k) rfl (b6.cell 0) (b6.cell 1) (by rw [HLN.out]; omega) (Nat.le_trans K2.out.o.1 K2.out.o.2) ?_
          intro v3 w3 O2 G2 N2
          obtain ⟨g3, c3, e3⟩ := tc_form O2 (by simp only [List.length_append, List.length_cons]; omega)
          obtain rfl : v3 = .slice (some ⟨g3, 0, none⟩) (n1 + k + 1) c3 := by rw [e3, List.length_append, HLN.out]; rfl
          clear e3
          have hK3 := K2.out.pushP O2 G2
          rw [List.append_assoc, tcTake_snoc L2 k hlt'] at hK3
          have K3 := hI9 hK3
          clear hK3
          have xb := Blk.grew K2.out.x G2 (fun e => by have := owns_base K2.out.p e; omega)
          have xc := xb.cell 1
          have xf := fun i => xb.frozen i
          have xz := xb.lt
          simp only [gtA, gtS, gtZ] at xc
          clear xb O2 G2 N2 b6
          go_wp2_with (fail)
          go_roundw
          case rel => exact ⟨k + 1, _, _, by omega, by go_num, K3⟩
          case measure => simp [intOf]; omega
       ·obtain rfl : n2 = k := by omega
        rw [List.take_of_length_le (by omega)] at K0
        have HCL := hI9 K0.out.cla
        have HPR := hI9 (K0.out.prf (by rw [List.length_append, hn1, hn2]))
        have HK := hI9 K0.out.x
        have nHX := hI9 (HX.out.below K0.out.b)
        have nHY := hI9 (HY.out.below K0.out.b)
        have nHZ := hI9 (HZ.out.below K0.out.b)
        have HBW := hI9 (bthen HB.out K0.out.b)
        clear HX HY HZ HB HS1 HS2 HA2
        have HX := nHX
        have HY := nHY
        have HZ := nHZ
        clear nHX nHY nHZ
        have hlaw := fun t => both_law (is := fun t => decide (whyN D M Mo a t = 0)) (op := fun t => openB (M.may pl t) a.lw a.ls a.lc a.li a.lt) (f := fr) (u := ut) (by omega) (by omega) L1 L2 HL1.out HL2.out t
        have hbd := both_bd (is := fun t => decide (whyN D M Mo a t = 0)) (op := fun t => openB (M.may pl t) a.lw a.ls a.lc a.li a.lt) (f := fr) (u := ut) (by omega) (by omega) (by omega) L1 L2 HL1.out HL2.out
        rw [hn1, hn2] at hlaw hbd
        have hho := fun (t : Int) (W : World) (hb : Below wr.heap.size wr W) (h0 : 0 ≤ t) (h2 : t ≤ 2000) => tcHoldsX_c n1 n2 (loL (L1 ++ L2)) (hiL (L1 ++ L2)) (.slice (some ⟨w4.heap.size + 1, 0, none⟩) 3 3) uP t W (by omega) hbd (HCL.out.below hb) (HPR.out.below hb) h0 h2
        have hun := fun (t : Int) (W : World) (hb : Below wr.heap.size wr W) (h0 : 0 ≤ t) (h2 : t ≤ 2000) => tcUntil_c n1 n2 (loL (L1 ++ L2)) (hiL (L1 ++ L2)) (.slice (some ⟨w4.heap.size + 1, 0, none⟩) 3 3) uP t W (by omega) hbd (HCL.out.below hb) (HPR.out.below hb) h0 h2
        generalize bothB n1 n2 (loL (L1 ++ L2)) (hiL (L1 ++ L2)) = Bb at *
        have HLW := hI9 hlaw
        have HHO := hI9 hho
        have HUN := hI9 hun
        obtain ⟨APz, cPz, hPz, -⟩ := SpL.of_owns K0.out.p
        rw [List.length_append, hn1, hn2] at hPz
        subst hPz
        clear hlaw hbd hho hun HCL HPR
        have HDz := hI9 (fun (W : World) (hb : Below wr.heap.size wr W) => HD.out.below (bthen HBW.out hb))
        have HMz := hI9 (fun (W : World) (hb : Below wr.heap.size wr W) => HM.out.below (bthen HBW.out hb))
        have HVz := hI9 (fun (W : World) (hb : Below wr.heap.size wr W) => HV.out.below (bthen HBW.out hb))
        have HWY := hI9 (fun (t : Int) (W : World) (hb : Below wr.heap.size wr W) (h0 : 0 ≤ t) (h2 : t ≤ 2000) => show Calls Tryz.prog 10 #[.agg #[.int .i64 D.size, .int .i64 D.load, .int .i64 D.wind, .slice A1 D.ns k1, .int .i64 D.pitch, .int .i64 D.roll, .int .i64 D.heave, .int .i64 D.fire, .slice A2 D.nh k2, .slice A3 D.nu k3], .agg #[.int .i64 M.places, .int .i64 M.any.a0, .int .i64 M.any.a1, .int .i64 M.any.a2, .int .i64 M.any.a3, .int .i64 M.any.a4, .int .i64 M.any.a5, .bool M.any.i, .bool M.any.s, .int .i64 M.mw, .int .i64 M.ms, .int .i64 M.mc, .slice A4 M.n k4, .slice A5 M.m k5], .agg #[.slice A6 Mo.np k6, .slice A7 Mo.nr k7, .slice A8 Mo.nv k8], .agg #[.int .i64 a.size, .int .i64 a.weight, .int .i64 a.lw, .int .i64 a.ls, .int .i64 a.lc, .bool a.li, .bool a.lt, .int .i64 a.place, .int .i64 a.lo, .int .i64 a.hi], .int .i64 t] W fun e w' => ∃ A c, e = .returned (.tuple #[.slice A (whyN D M Mo a t) c, .int .i64 0]) ∧ Below W.heap.size W w' from by
         have := dWhy_c D (.slice A1 D.ns k1) (.slice A2 D.nh k2) (.slice A3 D.nu k3) M (.slice A4 M.n k4) (.slice A5 M.m k5) Mo (.slice A6 Mo.np k6) (.slice A7 Mo.nr k7) (.slice A8 Mo.nv k8) a t W (HDz.out W hb) (HMz.out W hb) (HVz.out W hb)
         unfold whyV at this
         rw [whyE_zero HSA.out.1 HSA.out.2 h0 h2, if_pos rfl] at this
         exact this)
        have HWO := hI9 (fun (t : Int) (W : World) (hb : Below wr.heap.size wr W) (h0 : 0 ≤ t) (h2 : t ≤ 2000) => show Calls Tryz.prog 11 #[.agg #[.int .i64 M.places, .int .i64 M.any.a0, .int .i64 M.any.a1, .int .i64 M.any.a2, .int .i64 M.any.a3, .int .i64 M.any.a4, .int .i64 M.any.a5, .bool M.any.i, .bool M.any.s, .int .i64 M.mw, .int .i64 M.ms, .int .i64 M.mc, .slice A4 M.n k4, .slice A5 M.m k5], .agg #[.int .i64 a.lw, .int .i64 a.ls, .int .i64 a.lc, .bool a.li, .bool a.lt], .int .i64 pl, .int .i64 t] W fun e w' => e = .returned (.tuple #[.bool (openB (M.may pl t) a.lw a.ls a.lc a.li a.lt), .int .i64 0]) ∧ Below W.heap.size W w' from by
         have := wOpen_c M (.slice A4 M.n k4) (.slice A5 M.m k5) a.lw a.ls a.lc a.li a.lt pl t W (HMz.out W hb)
         unfold openV at this
         rw [tcOp HF.out h0 h2, decide_eq_true rfl, Bool.true_and] at this
         exact this)
        clear HDz HMz HVz
        generalize HK0z : K0 = K0z at *
        clear HK0z
        have cZ2 := HZ.out.cell 2
        simp only [gtA, gtS, gtZ] at cZ2
        go_wp2_with (fail)
        clear cZ2
        have HB0 := hI9 (show Below wr.heap.size wr wr from Below.refl _ _)
        have HEZ := hI9 (endV_end Bb ut)
        generalize hwF : wr = wF at *
        clear hwF
        go_loopw [14, 15] (fun s14 s15 wr => ∃ t : Int, fr - 1 ≤ t ∧ t < ut ∧ s15 = .int .i64 t ∧ (∃ E : Int, s14 = .int .i64 E ∧ Hid (E = endV Bb ut (t + 1))) ∧ Hid (Below wF.heap.size wF wr)) (fun _ i _ => (intOf i + 1 - fr).toNat)
        case atStart => exact ⟨ut - 1, by omega, by omega, rfl, ⟨-1, rfl, hI9 (by rw [show ut - 1 + 1 = ut by omega]; exact HEZ.out.symm)⟩, HB0⟩
        case round =>
         clear HB0 HEZ
         obtain ⟨t, ht0, ht1, rfl, ⟨E, rfl, HE⟩, HB⟩ := hrel
         have HXw := HX
         have HYw := HY
         have HZw := HZ
         have HKw := HK
         clear HX HY HZ HK
         have HX := hI9 (HXw.out.below HB.out)
         have HY := hI9 (HYw.out.below HB.out)
         have HZ := hI9 (HZw.out.below HB.out)
         have HK := hI9 (HKw.out.below HB.out)
         clear HXw HYw HZw HKw
         have tokC : True := trivial
         have tokD : True := trivial
         have tokE : True := trivial
         have tokF : True := trivial
         have zHZ := HZ.out.lt
         have cHZ0 := HZ.out.cell 0
         have cHZ1 := HZ.out.cell 1
         simp only [gtA, gtS, gtZ] at cHZ0 cHZ1
         by_cases hge : fr ≤ t
         ·obtain ⟨wn, hwn⟩ : ∃ q, q = whyN D M Mo a t := ⟨_, rfl⟩
          obtain ⟨ob, hob⟩ : ∃ q, q = openB (M.may pl t) a.lw a.ls a.lc a.li a.lt := ⟨_, rfl⟩
          have hwy := fun W hb => HWY.out t W hb (by omega) (by omega)
          have hwo := fun W hb => HWO.out t W hb (by omega) (by omega)
          have hho := fun W hb => HHO.out t W hb (by omega) (by omega)
          have hun := fun W hb => HUN.out t W hb (by omega) (by omega)
          have hlw := (HLW.out t).1 hge ht1
          have hst := endV_step (B := Bb) (u := ut) (t := t) (fun q hq => (HLW.out q).2 hq) (by omega) ht1 (by omega)
          rw [← hwn] at hwy hlw
          rw [← hob] at hwo hlw
          rw [← HE.out] at hst
          have HWYt := hI9 hwy
          have HWOt := hI9 hwo
          have HHOt := hI9 hho
          have HUNt := hI9 hun
          have HLWt := hI9 hlw
          have HSTt := hI9 hst
          clear hwy hwo hho hun hlw hst hwn hob HWY HWO HHO HUN HLW HE
          go_wp2_with (first | (have _t := tokC; refine wpl_mid rfl 26 (.tmp 179) rfl w.heap.size 0 rfl 39 _ #[.int .i64 D.size, .int .i64 D.load, .int .i64 D.wind, .slice A1 D.ns k1, .int .i64 D.pitch, .int .i64 D.roll, .int .i64 D.heave, .int .i64 D.fire, .slice A2 D.nh k2, .slice A3 D.nu k3] 10 HX.out Tryz.tcRowDek [] [.int .i64 M.places, .int .i64 M.any.a0, .int .i64 M.any.a1, .int .i64 M.any.a2, .int .i64 M.any.a3, .int .i64 M.any.a4, .int .i64 M.any.a5, .bool M.any.i, .bool M.any.s, .int .i64 M.mw, .int .i64 M.ms, .int .i64 M.mc, .slice A4 M.n k4, .slice A5 M.m k5, .slice A6 Mo.np k6, .slice A7 Mo.nr k7, .slice A8 Mo.nv k8] rfl rfl rfl ?_; simp only [Act.put]; clear tokC) | (have _t := tokD; refine wpl_mid rfl 34 (.tmp 181) rfl w.heap.size 10 rfl 39 _ #[.int .i64 M.places, .int .i64 M.any.a0, .int .i64 M.any.a1, .int .i64 M.any.a2, .int .i64 M.any.a3, .int .i64 M.any.a4, .int .i64 M.any.a5, .bool M.any.i, .bool M.any.s, .int .i64 M.mw, .int .i64 M.ms, .int .i64 M.mc, .slice A4 M.n k4, .slice A5 M.m k5] 14 HX.out Tryz.rowMet [.int .i64 D.size, .int .i64 D.load, .int .i64 D.wind, .slice A1 D.ns k1, .int .i64 D.pitch, .int .i64 D.roll, .int .i64 D.heave, .int .i64 D.fire, .slice A2 D.nh k2, .slice A3 D.nu k3] [.slice A6 Mo.np k6, .slice A7 Mo.nr k7, .slice A8 Mo.nv k8] rfl rfl rfl ?_; simp only [Act.put]; clear tokD) | (have _t := tokE; refine wpl_mid rfl 37 (.tmp 183) rfl w.heap.size 24 rfl 39 _ #[.slice A6 Mo.np k6, .slice A7 Mo.nr k7, .slice A8 Mo.nv k8] 3 HX.out Tryz.tcRowMov [.int .i64 D.size, .int .i64 D.load, .int .i64 D.wind, .slice A1 D.ns k1, .int .i64 D.pitch, .int .i64 D.roll, .int .i64 D.heave, .int .i64 D.fire, .slice A2 D.nh k2, .slice A3 D.nu k3, .int .i64 M.places, .int .i64 M.any.a0, .int .i64 M.any.a1, .int .i64 M.any.a2, .int .i64 M.any.a3, .int .i64 M.any.a4, .int .i64 M.any.a5, .bool M.any.i, .bool M.any.s, .int .i64 M.mw, .int .i64 M.ms, .int .i64 M.mc, .slice A4 M.n k4, .slice A5 M.m k5] [] rfl rfl rfl ?_; simp only [Act.put]; clear tokE) | (have _t := tokF; refine wpl_row rfl 43 (.tmp 4) rfl _ rfl _ 10 HY.out Tryz.tcRowApp rfl ?_; simp only [Act.put]; clear tokF))
          refine (HWYt.out _ HB.out).mono ?_
          rintro e wa ⟨Aw, cw, rfl, hba⟩
          clear HWYt cHZ0 cHZ1 zHZ
          have nHX := hI9 (HX.out.below hba)
          have nHY := hI9 (HY.out.below hba)
          have nHZ := hI9 (HZ.out.below hba)
          have nHK := hI9 (HK.out.below hba)
          have nHB := hI9 (bthen HB.out hba)
          clear HX HY HZ HK HB hba
          have HX := nHX
          have HY := nHY
          have HZ := nHZ
          have HK := nHK
          have HB := nHB
          clear nHX nHY nHZ nHK nHB
          have tokG : True := trivial
          have tokH : True := trivial
          have zHZ := HZ.out.lt
          have cHZ0 := HZ.out.cell 0
          have cHZ1 := HZ.out.cell 1
          simp only [gtA, gtS, gtZ] at cHZ0 cHZ1
          go_wp2_with (first | (have _t := tokG; refine wpl_mid rfl 34 (.tmp 191) rfl w.heap.size 10 rfl 39 _ #[.int .i64 M.places, .int .i64 M.any.a0, .int .i64 M.any.a1, .int .i64 M.any.a2, .int .i64 M.any.a3, .int .i64 M.any.a4, .int .i64 M.any.a5, .bool M.any.i, .bool M.any.s, .int .i64 M.mw, .int .i64 M.ms, .int .i64 M.mc, .slice A4 M.n k4, .slice A5 M.m k5] 14 HX.out Tryz.rowMet [.int .i64 D.size, .int .i64 D.load, .int .i64 D.wind, .slice A1 D.ns k1, .int .i64 D.pitch, .int .i64 D.roll, .int .i64 D.heave, .int .i64 D.fire, .slice A2 D.nh k2, .slice A3 D.nu k3] [.slice A6 Mo.np k6, .slice A7 Mo.nr k7, .slice A8 Mo.nv k8] rfl rfl rfl ?_; simp only [Act.put]; clear tokG) | (have _t := tokH; refine wpl_mid rfl 41 (.tmp 193) rfl (w.heap.size + 1) 2 rfl 43 _ #[.int .i64 a.lw, .int .i64 a.ls, .int .i64 a.lc, .bool a.li, .bool a.lt] 5 HY.out Tryz.rowMin [.int .i64 a.size, .int .i64 a.weight] [.int .i64 a.place, .int .i64 a.lo, .int .i64 a.hi] rfl rfl rfl ?_; simp only [Act.put]; clear tokH))
          refine (HWOt.out _ HB.out).mono ?_
          rintro e wb ⟨rfl, hbb⟩
          clear HWOt cHZ0 cHZ1 zHZ
          have nHX := hI9 (HX.out.below hbb)
          have nHY := hI9 (HY.out.below hbb)
          have nHZ := hI9 (HZ.out.below hbb)
          have nHK := hI9 (HK.out.below hbb)
          have nHB := hI9 (bthen HB.out hbb)
          clear HX HY HZ HK HB hbb
          have HX := nHX
          have HY := nHY
          have HZ := nHZ
          have HK := nHK
          have HB := nHB
          clear nHX nHY nHZ nHK nHB
          have zHK := HK.out.lt
          have cHK0 := HK.out.cell 0
          have cHK1 := HK.out.cell 1
          simp only [gtA, gtS, gtZ] at cHK0 cHK1
          go_wp2_with (fail)
          refine (HHOt.out _ HB.out).mono ?_
          rintro e wc ⟨rfl, hbc⟩
          clear HHOt cHK0 cHK1 zHK
          have nHX := hI9 (HX.out.below hbc)
          have nHY := hI9 (HY.out.below hbc)
          have nHZ := hI9 (HZ.out.below hbc)
          have nHK := hI9 (HK.out.below hbc)
          have nHB := hI9 (bthen HB.out hbc)
          clear HX HY HZ HK HB hbc
          have HX := nHX
          have HY := nHY
          have HZ := nHZ
          have HK := nHK
          have HB := nHB
          clear nHX nHY nHZ nHK nHB
          have zHK := HK.out.lt
          have cHK0 := HK.out.cell 0
          have cHK1 := HK.out.cell 1
          simp only [gtA, gtS, gtZ] at cHK0 cHK1
          have h3 : (Bb t = true ∧ ((wn : Int) == 0) = true ∧ ob = true) ∨ (Bb t = false ∧ ((wn : Int) == 0) = true ∧ ob = false) ∨ (Bb t = false ∧ ((wn : Int) == 0) = false) := by
           have h := HLWt.out
           by_cases h0 : wn = 0
           ·rw [decide_eq_true h0, Bool.true_and] at h
            have h1 : ((wn : Int) == 0) = true := by rw [h0]; rfl
            cases hb : ob
            ·exact .inr (.inl ⟨by rw [h, hb], h1, rfl⟩)
            ·exact .inl ⟨by rw [h, hb], h1, rfl⟩
           ·rw [decide_eq_false h0, Bool.false_and] at h
            exact .inr (.inr ⟨h, by simpa using h0⟩)
          rcases h3 with ⟨hBt, hwz, rfl⟩ | h3
          ·have hun2 := HUNt.out
           unfold unV unE at hun2
           rw [hBt, if_pos rfl, if_pos rfl] at hun2
           have HU2 := hI9 hun2
           have HST2 := hI9 (HSTt.out hBt)
           have HEV := hI9 (endV_yes hBt ht1)
           clear hun2 HUNt HSTt HLWt
           rw [hBt]
           generalize untV Bb t - 1 = U at *
           clear hBt
           go_wp2_with (fail)
           refine (HU2.out _ HB.out).mono ?_
           rintro e wd ⟨rfl, hbd⟩
           clear HU2 cHK0 cHK1 zHK
           have nHX := hI9 (HX.out.below hbd)
           have nHY := hI9 (HY.out.below hbd)
           have nHZ := hI9 (HZ.out.below hbd)
           have nHK := hI9 (HK.out.below hbd)
           have nHB := hI9 (bthen HB.out hbd)
           clear HX HY HZ HK HB hbd
           have HX := nHX
           have HY := nHY
           have HZ := nHZ
           have HK := nHK
           have HB := nHB
           clear nHX nHY nHZ nHK nHB
           by_cases hE : E < 0
           ·have hU := HST2.out.1 hE
            have hne : (t != t) = false := by simp
            rw [hU] at HEV ⊢
            clear hU HST2
            go_wp2_with (fail)
            go_roundw
            case rel => exact ⟨t - 1, by omega, by omega, by first | rfl | go_num | (congr 1; omega), ⟨_, rfl, hI9 (by rw [show t - 1 + 1 = t by omega]; exact HEV.out.symm)⟩, HB⟩
            case measure => simp [intOf]; omega
           ·have hU := HST2.out.2 (by omega)
            have hne : (E != E) = false := by simp
            rw [hU] at HEV ⊢
            clear hU HST2
            go_wp2_with (fail)
            go_roundw
            case rel => exact ⟨t - 1, by omega, by omega, by first | rfl | go_num | (congr 1; omega), ⟨_, rfl, hI9 (by rw [show t - 1 + 1 = t by omega]; exact HEV.out.symm)⟩, HB⟩
            case measure => simp [intOf]; omega
          ·have hBt : Bb t = false := h3.elim (fun h => h.1) (fun h => h.1)
           have hun2 := HUNt.out
           unfold unV unE at hun2
           rw [hBt, if_neg (by decide), if_neg (by decide)] at hun2
           have HU2 := hI9 hun2
           have HEV := hI9 (endV_no (u := ut) hBt)
           clear hun2 HUNt HSTt HLWt
           rw [hBt]
           have h4 : (((wn : Int) == 0) = true ∧ ob = false) ∨ ((wn : Int) == 0) = false := h3.elim (fun h => .inl h.2) (fun h => .inr h.2)
           clear h3 hBt
           rcases h4 with ⟨hwz, rfl⟩ | h4
           all_goals
            go_wp2_with (fail)
            refine (HU2.out _ HB.out).mono ?_
            rintro e wd ⟨rfl, hbd⟩
            clear HU2 cHK0 cHK1 zHK
            have nHX := hI9 (HX.out.below hbd)
            have nHY := hI9 (HY.out.below hbd)
            have nHZ := hI9 (HZ.out.below hbd)
            have nHK := hI9 (HK.out.below hbd)
            have nHB := hI9 (bthen HB.out hbd)
            clear HX HY HZ HK HB hbd
            have HX := nHX
            have HY := nHY
            have HZ := nHZ
            have HK := nHK
            have HB := nHB
            clear nHX nHY nHZ nHK nHB
            go_wp2_with (fail)
            go_roundw
            case rel => exact ⟨t - 1, by omega, by omega, by first | rfl | go_num | (congr 1; omega), ⟨_, rfl, hI9 (by rw [show t - 1 + 1 = t by omega]; exact HEV.out.symm)⟩, HB⟩
            case measure => simp [intOf]; omega
         ·clear HWY HWO HHO HUN HLW HE
          go_wp2_with (first | (go_at_call 7; refine (measures_c _).mono ?_; rintro _ w9 ⟨rfl, hb9⟩; have HB9 := hI9 (bthen HB.out hb9); clear hb9))
          go_ret
          exact ⟨rfl, bthen HBW.out HB9.out⟩
  ·have hz : (F != 0) = true := by simpa using hF0
   clear hF hL2 hs2 hF0
   generalize L1.length = n1 at *
   go_wp2_with (first | (go_at_call 7; refine (measures_c _).mono ?_; rintro _ w9 ⟨rfl, hb9⟩; have HB9 := hI9 (bthen HB.out hb9); clear hb9))
   go_ret
   exact ⟨rfl, HB9.out⟩
 ·rw [hf] at HFP
  clear hf
  go_enter Tryz.func3, Tryz.ntmps3
  go_wp2_with (first | (have _t := tok0; generalize hWX : World.alloc (World.alloc (World.alloc w _) _) _ = w1; clear tok0; have _x := tri_r w #[.int .i64 D.size, .int .i64 D.load, .int .i64 D.wind, .slice A1 D.ns k1, .int .i64 D.pitch, .int .i64 D.roll, .int .i64 D.heave, .int .i64 D.fire, .slice A2 D.nh k2, .slice A3 D.nu k3, .int .i64 M.places, .int .i64 M.any.a0, .int .i64 M.any.a1, .int .i64 M.any.a2, .int .i64 M.any.a3, .int .i64 M.any.a4, .int .i64 M.any.a5, .bool M.any.i, .bool M.any.s, .int .i64 M.mw, .int .i64 M.ms, .int .i64 M.mc, .slice A4 M.n k4, .slice A5 M.m k5, .slice A6 Mo.np k6, .slice A7 Mo.nr k7, .slice A8 Mo.nv k8] #[.int .i64 a.size, .int .i64 a.weight, .int .i64 a.lw, .int .i64 a.ls, .int .i64 a.lc, .bool a.li, .bool a.lt, .int .i64 a.place, .int .i64 a.lo, .int .i64 a.hi] #[.int .i64 pl, .int .i64 fr, .int .i64 ut] 39 43 45; rw [hWX] at _x; clear hWX; have HX := hI9 _x.1; have HY := hI9 _x.2.1; have HZ := hI9 _x.2.2.1; have HB := hI9 _x.2.2.2; clear _x) | (have _t := tok1; refine wpl_row rfl 39 (.tmp 3) rfl _ rfl _ 27 HX.out Tryz.tcRowPl rfl ?_; simp only [Act.put]; clear tok1) | (go_at_call 5; (with_reducible refine (HFP.out _ (HD.out.below HB.out) (HM.out.below HB.out) (HV.out.below HB.out)).mono ?_); rintro e w1 ⟨rfl, hb1⟩; have nHX := hI9 (HX.out.below hb1); have nHY := hI9 (HY.out.below hb1); have nHZ := hI9 (HZ.out.below hb1); have nHB := hI9 (bthen HB.out hb1); have zz1 := hb1.size; clear HX HY HZ HB hb1; have HX := nHX; have HY := nHY; have HZ := nHZ; have HB := nHB; clear nHX nHY nHZ nHB; (try clear zHZ); have zHZ := HZ.out.lt; (try clear cHZ0); have cHZ0 := HZ.out.cell 0; (try clear cHZ1); have cHZ1 := HZ.out.cell 1; (try clear cHZ2); have cHZ2 := HZ.out.cell 2) | (go_at_call 7; refine (measures_c _).mono ?_; rintro _ w9 ⟨rfl, hb9⟩; have HB9 := hI9 (bthen HB.out hb9); clear hb9))
  go_ret
  exact ⟨rfl, HB9.out⟩
end Go.Proofs.YtlambeiafdpkgaaGreat
