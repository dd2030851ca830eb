/- Texts joined: JAK. -/
import Derived.Test.YtlabfpjlckdmfaaGreatJAJ
import Derived.Test.YtlabfpjlckdmfaaGreatWeG
import Derived.Test.YtlabfpjlckdmfaaGreatJAE
import Derived.Test.YtlabfpjlckdmfaaGreatJAA
set_option linter.all false
namespace Go.Proofs.YtlabfpjlckdmfaaGreat
open Go Go.RowKit Go.Proofs
set_option maxRecDepth 100000
set_option maxHeartbeats 8000000
theorem wCheck_c (M : MetD) (vF vS : Value) (w : World) (hA : MetAt w vF vS M) :
  Calls Tryz.prog 46 #[.agg #[.int .i64 M.places, .int .i64 M.any.a0, .int .i64 M.any.a1, .int .i64 M.any.a2, .int .i64 M.any.a3, .int .i64 M.any.a4, .int .i64 M.any.a5, .bool M.any.i, .bool M.any.s, .int .i64 M.mw, .int .i64 M.ms, .int .i64 M.mc, vF, vS]] w fun e w' => e = .returned (.int .i64 M.err) ∧ Below w.heap.size w w' := by
 have HA := hI9 hA
 obtain ⟨⟨A, cF, rfl, hF1, hF2, -⟩, ⟨A2, cS, rfl, hS1, hS2, -⟩⟩ := hA
 have hsk := fun w1 => sky_c M.any w1
 have hcb := fun b c w1 h0 h1 h2 => cfb_c b c M.mw M.ms M.mc w1 h0 h1 h2
 unfold MetD.err MetD.bad
 cases b0 : inB M.places 1 8
 ·rw [show (!false || _) = true from rfl, if_pos rfl]
  skip
  go_enter Tryz.func46, Tryz.ntmps46
  go_wp2_with (first | (go_at_call 69; (with_reducible refine (wwithin_c _ _ _ _).mono ?_); rintro e w1 ⟨rfl, rfl⟩))
  have _x := frm3 w #[.int .i64 M.places, .int .i64 M.any.a0, .int .i64 M.any.a1, .int .i64 M.any.a2, .int .i64 M.any.a3, .int .i64 M.any.a4, .int .i64 M.any.a5, .bool M.any.i, .bool M.any.s, .int .i64 M.mw, .int .i64 M.ms, .int .i64 M.mc, .slice A M.n cF, .slice A2 M.m cS] 29 #[.func (.func 68) #[] #[.pointer (some ⟨w.heap.size, 0, none⟩)]] 111 #[.func (.func 70) #[] #[]] 111
  have HX := hI9 _x.1
  have HP := hI9 _x.2.1
  have HT := hI9 _x.2.2.1
  have HB := hI9 _x.2.2.2.1
  have zW := _x.2.2.2.2
  clear _x
  generalize World.alloc (World.alloc (World.alloc w _) _) _ = W at *
  go_ret
  exact ⟨rfl, HB.out⟩
 have hpl := inB_iff.1 b0
 rw [show ∀ b : Bool, (!true || b) = b from fun _ => rfl]
 cases b1 : M.any.inr
 ·rw [b1] at hsk
  have HSK := hI9 hsk
  clear hsk hcb
  rw [show ∀ b : Bool, (!false || b) = true from fun _ => rfl, if_pos rfl]
  go_enter Tryz.func46, Tryz.ntmps46
  go_wp2_with (first | (go_at_call 69; (with_reducible refine (wwithin_c _ _ _ _).mono ?_); rintro e w1 ⟨rfl, rfl⟩))
  have _x := frm3 w #[.int .i64 M.places, .int .i64 M.any.a0, .int .i64 M.any.a1, .int .i64 M.any.a2, .int .i64 M.any.a3, .int .i64 M.any.a4, .int .i64 M.any.a5, .bool M.any.i, .bool M.any.s, .int .i64 M.mw, .int .i64 M.ms, .int .i64 M.mc, .slice A M.n cF, .slice A2 M.m cS] 29 #[.func (.func 68) #[] #[.pointer (some ⟨w.heap.size, 0, none⟩)]] 111 #[.func (.func 70) #[] #[]] 111
  have HX := hI9 _x.1
  have HP := hI9 _x.2.1
  have HT := hI9 _x.2.2.1
  have HB := hI9 _x.2.2.2.1
  have zW := _x.2.2.2.2
  clear _x
  generalize World.alloc (World.alloc (World.alloc w _) _) _ = W at *
  refine (HSK.out _).mono ?_
  rintro _ w1 ⟨rfl, hb1⟩
  have nHX := hI9 (HX.out.below hb1)
  have nHP := hI9 (HP.out.below hb1)
  have nHT := hI9 (HT.out.below hb1)
  have nHB := hI9 (bthen HB.out hb1)
  clear HX HP HT HB hb1
  have HX := nHX
  have HP := nHP
  have HT := nHT
  have HB := nHB
  clear nHX nHP nHT nHB
  have m9 := HX.out.cell 9
  have m10 := HX.out.cell 10
  have m11 := HX.out.cell 11
  simp only [gtA, gtS, gtZ] at m9 m10 m11
  go_wp2_with (fail)
  go_ret
  exact ⟨rfl, HB.out⟩
 rw [b1] at hsk
 have HSK := hI9 hsk
 clear hsk
 rw [show ∀ b : Bool, (!true || b) = b from fun _ => rfl]
 cases b2 : rngB M.mw M.ms M.mc
 case true =>
  rw [b2] at hcb
  have HCB := hI9 hcb
  clear hcb
  rw [Bool.true_or, if_pos rfl]
  go_enter Tryz.func46, Tryz.ntmps46
  go_wp2_with (first | (go_at_call 69; (with_reducible refine (wwithin_c _ _ _ _).mono ?_); rintro e w1 ⟨rfl, rfl⟩))
  have _x := frm3 w #[.int .i64 M.places, .int .i64 M.any.a0, .int .i64 M.any.a1, .int .i64 M.any.a2, .int .i64 M.any.a3, .int .i64 M.any.a4, .int .i64 M.any.a5, .bool M.any.i, .bool M.any.s, .int .i64 M.mw, .int .i64 M.ms, .int .i64 M.mc, .slice A M.n cF, .slice A2 M.m cS] 29 #[.func (.func 68) #[] #[.pointer (some ⟨w.heap.size, 0, none⟩)]] 111 #[.func (.func 70) #[] #[]] 111
  have HX := hI9 _x.1
  have HP := hI9 _x.2.1
  have HT := hI9 _x.2.2.1
  have HB := hI9 _x.2.2.2.1
  have zW := _x.2.2.2.2
  clear _x
  generalize World.alloc (World.alloc (World.alloc w _) _) _ = W at *
  refine (HSK.out _).mono ?_
  rintro _ w1 ⟨rfl, hb1⟩
  have nHX := hI9 (HX.out.below hb1)
  have nHP := hI9 (HP.out.below hb1)
  have nHT := hI9 (HT.out.below hb1)
  have nHB := hI9 (bthen HB.out hb1)
  clear HX HP HT HB hb1
  have HX := nHX
  have HP := nHP
  have HT := nHT
  have HB := nHB
  clear nHX nHP nHT nHB
  have m9 := HX.out.cell 9
  have m10 := HX.out.cell 10
  have m11 := HX.out.cell 11
  simp only [gtA, gtS, gtZ] at m9 m10 m11
  go_wp2_with (fail)
  clear m9 m10 m11
  refine (HCB.out _ _ _ (by first | (simp; done) | (rw [cell_new_at _ _ _ _ _ (by simp)]; first | rfl | (simp; done))) (by first | (simp; done) | (rw [cell_new_at _ _ _ _ _ (by simp)]; first | rfl | (simp; done))) (by first | (simp; done) | (rw [cell_new_at _ _ _ _ _ (by simp)]; first | rfl | (simp; done)))).mono ?_
  rintro _ w2 ⟨rfl, hb2'⟩
  have hb2 := bthen (bal (Below.refl w1.heap.size w1) _) hb2'
  clear hb2'
  have nHX := hI9 (HX.out.below hb2)
  have nHP := hI9 (HP.out.below hb2)
  have nHT := hI9 (HT.out.below hb2)
  have nHB := hI9 (bthen HB.out hb2)
  clear HX HP HT HB hb2
  have HX := nHX
  have HP := nHP
  have HT := nHT
  have HB := nHB
  clear nHX nHP nHT nHB
  have m12 := HX.out.cell 12
  simp only [gtA, gtS, gtZ] at m12
  go_wp2_with (fail)
  go_ret
  exact ⟨rfl, HB.out⟩
 rw [b2] at hcb
 have HCB := hI9 hcb
 clear hcb
 rw [Bool.false_or]
 by_cases b3 : 40 < M.n
 ·have b3z : (40 : Int) < (M.n : Int) := by omega
  rw [show decide (40 < M.n) = true from decide_eq_true b3, Bool.true_or, if_pos rfl]
  go_enter Tryz.func46, Tryz.ntmps46
  go_wp2_with (first | (go_at_call 69; (with_reducible refine (wwithin_c _ _ _ _).mono ?_); rintro e w1 ⟨rfl, rfl⟩))
  have _x := frm3 w #[.int .i64 M.places, .int .i64 M.any.a0, .int .i64 M.any.a1, .int .i64 M.any.a2, .int .i64 M.any.a3, .int .i64 M.any.a4, .int .i64 M.any.a5, .bool M.any.i, .bool M.any.s, .int .i64 M.mw, .int .i64 M.ms, .int .i64 M.mc, .slice A M.n cF, .slice A2 M.m cS] 29 #[.func (.func 68) #[] #[.pointer (some ⟨w.heap.size, 0, none⟩)]] 111 #[.func (.func 70) #[] #[]] 111
  have HX := hI9 _x.1
  have HP := hI9 _x.2.1
  have HT := hI9 _x.2.2.1
  have HB := hI9 _x.2.2.2.1
  have zW := _x.2.2.2.2
  clear _x
  generalize World.alloc (World.alloc (World.alloc w _) _) _ = W at *
  refine (HSK.out _).mono ?_
  rintro _ w1 ⟨rfl, hb1⟩
  have nHX := hI9 (HX.out.below hb1)
  have nHP := hI9 (HP.out.below hb1)
  have nHT := hI9 (HT.out.below hb1)
  have nHB := hI9 (bthen HB.out hb1)
  clear HX HP HT HB hb1
  have HX := nHX
  have HP := nHP
  have HT := nHT
  have HB := nHB
  clear nHX nHP nHT nHB
  have m9 := HX.out.cell 9
  have m10 := HX.out.cell 10
  have m11 := HX.out.cell 11
  simp only [gtA, gtS, gtZ] at m9 m10 m11
  go_wp2_with (fail)
  clear m9 m10 m11
  refine (HCB.out _ _ _ (by first | (simp; done) | (rw [cell_new_at _ _ _ _ _ (by simp)]; first | rfl | (simp; done))) (by first | (simp; done) | (rw [cell_new_at _ _ _ _ _ (by simp)]; first | rfl | (simp; done))) (by first | (simp; done) | (rw [cell_new_at _ _ _ _ _ (by simp)]; first | rfl | (simp; done)))).mono ?_
  rintro _ w2 ⟨rfl, hb2'⟩
  have hb2 := bthen (bal (Below.refl w1.heap.size w1) _) hb2'
  clear hb2'
  have nHX := hI9 (HX.out.below hb2)
  have nHP := hI9 (HP.out.below hb2)
  have nHT := hI9 (HT.out.below hb2)
  have nHB := hI9 (bthen HB.out hb2)
  clear HX HP HT HB hb2
  have HX := nHX
  have HP := nHP
  have HT := nHT
  have HB := nHB
  clear nHX nHP nHT nHB
  have m12 := HX.out.cell 12
  simp only [gtA, gtS, gtZ] at m12
  go_wp2_with (fail)
  go_ret
  exact ⟨rfl, HB.out⟩
 have b3z : ¬ (40 : Int) < (M.n : Int) := by omega
 rw [show decide (40 < M.n) = false from decide_eq_false b3, Bool.false_or]
 have hcf := fun (w1 : World) (h : MetAt w1 (.slice A M.n cF) (.slice A2 M.m cS) M) (g0 : w1.cell? ⟨w.heap.size, 0, none⟩ = some (.int .i64 M.places)) (g1 : w1.cell? ⟨w.heap.size + 1, 0, none⟩ = some (.func (.func 68) #[] #[.pointer (some ⟨w.heap.size, 0, none⟩)])) (g2 : w1.cell? ⟨w.heap.size + 1 + 1, 0, none⟩ = some (.func (.func 70) #[] #[])) =>
  cfFc_c A M.n cF M.D M.B 71 #[.pointer (some ⟨w.heap.size + 1, 0, none⟩), .pointer (some ⟨w.heap.size + 1 + 1, 0, none⟩)] M.fcB w1 (by omega) Tryz.entF (by
   obtain ⟨A', c', e', -, -, hr⟩ := h.f
   simp only [Value.slice.injEq] at e'
   obtain ⟨rfl, -, -⟩ := e'
   exact FcsAt.of hr) (fun W i hi hb => fcast_c _ _ _ M.places (M.D i 0) (M.D i 1) (M.D i 2) (M.D i 3) (M.fc i) W ((hb.cell (p := ⟨w.heap.size + 1, 0, none⟩) (blk_lt g1)).trans g1) ((hb.cell (p := ⟨w.heap.size + 1 + 1, 0, none⟩) (blk_lt g2)).trans g2) ((hb.cell (p := ⟨w.heap.size, 0, none⟩) (blk_lt g0)).trans g0) hpl.1 hpl.2)
 cases b4 : (List.range M.n).any M.fcB
 case true =>
  rw [b4] at hcf
  have HCF := hI9 hcf
  clear hcf
  rw [Bool.true_or, if_pos rfl]
  go_enter Tryz.func46, Tryz.ntmps46
  go_wp2_with (first | (go_at_call 69; (with_reducible refine (wwithin_c _ _ _ _).mono ?_); rintro e w1 ⟨rfl, rfl⟩))
  have _x := frm3 w #[.int .i64 M.places, .int .i64 M.any.a0, .int .i64 M.any.a1, .int .i64 M.any.a2, .int .i64 M.any.a3, .int .i64 M.any.a4, .int .i64 M.any.a5, .bool M.any.i, .bool M.any.s, .int .i64 M.mw, .int .i64 M.ms, .int .i64 M.mc, .slice A M.n cF, .slice A2 M.m cS] 29 #[.func (.func 68) #[] #[.pointer (some ⟨w.heap.size, 0, none⟩)]] 111 #[.func (.func 70) #[] #[]] 111
  have HX := hI9 _x.1
  have HP := hI9 _x.2.1
  have HT := hI9 _x.2.2.1
  have HB := hI9 _x.2.2.2.1
  have zW := _x.2.2.2.2
  clear _x
  generalize World.alloc (World.alloc (World.alloc w _) _) _ = W at *
  refine (HSK.out _).mono ?_
  rintro _ w1 ⟨rfl, hb1⟩
  have nHX := hI9 (HX.out.below hb1)
  have nHP := hI9 (HP.out.below hb1)
  have nHT := hI9 (HT.out.below hb1)
  have nHB := hI9 (bthen HB.out hb1)
  clear HX HP HT HB hb1
  have HX := nHX
  have HP := nHP
  have HT := nHT
  have HB := nHB
  clear nHX nHP nHT nHB
  have m9 := HX.out.cell 9
  have m10 := HX.out.cell 10
  have m11 := HX.out.cell 11
  simp only [gtA, gtS, gtZ] at m9 m10 m11
  go_wp2_with (fail)
  clear m9 m10 m11
  refine (HCB.out _ _ _ (by first | (simp; done) | (rw [cell_new_at _ _ _ _ _ (by simp)]; first | rfl | (simp; done))) (by first | (simp; done) | (rw [cell_new_at _ _ _ _ _ (by simp)]; first | rfl | (simp; done))) (by first | (simp; done) | (rw [cell_new_at _ _ _ _ _ (by simp)]; first | rfl | (simp; done)))).mono ?_
  rintro _ w2 ⟨rfl, hb2'⟩
  have hb2 := bthen (bal (Below.refl w1.heap.size w1) _) hb2'
  clear hb2'
  have nHX := hI9 (HX.out.below hb2)
  have nHP := hI9 (HP.out.below hb2)
  have nHT := hI9 (HT.out.below hb2)
  have nHB := hI9 (bthen HB.out hb2)
  clear HX HP HT HB hb2
  have HX := nHX
  have HP := nHP
  have HT := nHT
  have HB := nHB
  clear nHX nHP nHT nHB
  have m12 := HX.out.cell 12
  simp only [gtA, gtS, gtZ] at m12
  go_wp2_with (fail)
  refine (HCF.out _ (HA.out.below HB.out) (HX.out.cell 0) (HP.out.cell 0) (HT.out.cell 0)).mono ?_
  rintro _ w3 ⟨rfl, hb3⟩
  clear m12
  have nHX := hI9 (HX.out.below hb3)
  have nHP := hI9 (HP.out.below hb3)
  have nHT := hI9 (HT.out.below hb3)
  have nHB := hI9 (bthen HB.out hb3)
  clear HX HP HT HB hb3
  have HX := nHX
  have HP := nHP
  have HT := nHT
  have HB := nHB
  clear nHX nHP nHT nHB
  have m13 := HX.out.cell 13
  simp only [gtA, gtS, gtZ] at m13
  go_wp2_with (fail)
  go_ret
  exact ⟨rfl, HB.out⟩
 rw [b4] at hcf
 have HCF := hI9 hcf
 clear hcf
 rw [Bool.false_or]
 by_cases b5 : 20 < M.m
 ·have b5z : (20 : Int) < (M.m : Int) := by omega
  rw [show decide (20 < M.m) = true from decide_eq_true b5, Bool.true_or, if_pos rfl]
  go_enter Tryz.func46, Tryz.ntmps46
  go_wp2_with (first | (go_at_call 69; (with_reducible refine (wwithin_c _ _ _ _).mono ?_); rintro e w1 ⟨rfl, rfl⟩))
  have _x := frm3 w #[.int .i64 M.places, .int .i64 M.any.a0, .int .i64 M.any.a1, .int .i64 M.any.a2, .int .i64 M.any.a3, .int .i64 M.any.a4, .int .i64 M.any.a5, .bool M.any.i, .bool M.any.s, .int .i64 M.mw, .int .i64 M.ms, .int .i64 M.mc, .slice A M.n cF, .slice A2 M.m cS] 29 #[.func (.func 68) #[] #[.pointer (some ⟨w.heap.size, 0, none⟩)]] 111 #[.func (.func 70) #[] #[]] 111
  have HX := hI9 _x.1
  have HP := hI9 _x.2.1
  have HT := hI9 _x.2.2.1
  have HB := hI9 _x.2.2.2.1
  have zW := _x.2.2.2.2
  clear _x
  generalize World.alloc (World.alloc (World.alloc w _) _) _ = W at *
  refine (HSK.out _).mono ?_
  rintro _ w1 ⟨rfl, hb1⟩
  have nHX := hI9 (HX.out.below hb1)
  have nHP := hI9 (HP.out.below hb1)
  have nHT := hI9 (HT.out.below hb1)
  have nHB := hI9 (bthen HB.out hb1)
  clear HX HP HT HB hb1
  have HX := nHX
  have HP := nHP
  have HT := nHT
  have HB := nHB
  clear nHX nHP nHT nHB
  have m9 := HX.out.cell 9
  have m10 := HX.out.cell 10
  have m11 := HX.out.cell 11
  simp only [gtA, gtS, gtZ] at m9 m10 m11
  go_wp2_with (fail)
  clear m9 m10 m11
  refine (HCB.out _ _ _ (by first | (simp; done) | (rw [cell_new_at _ _ _ _ _ (by simp)]; first | rfl | (simp; done))) (by first | (simp; done) | (rw [cell_new_at _ _ _ _ _ (by simp)]; first | rfl | (simp; done))) (by first | (simp; done) | (rw [cell_new_at _ _ _ _ _ (by simp)]; first | rfl | (simp; done)))).mono ?_
  rintro _ w2 ⟨rfl, hb2'⟩
  have hb2 := bthen (bal (Below.refl w1.heap.size w1) _) hb2'
  clear hb2'
  have nHX := hI9 (HX.out.below hb2)
  have nHP := hI9 (HP.out.below hb2)
  have nHT := hI9 (HT.out.below hb2)
  have nHB := hI9 (bthen HB.out hb2)
  clear HX HP HT HB hb2
  have HX := nHX
  have HP := nHP
  have HT := nHT
  have HB := nHB
  clear nHX nHP nHT nHB
  have m12 := HX.out.cell 12
  simp only [gtA, gtS, gtZ] at m12
  go_wp2_with (fail)
  refine (HCF.out _ (HA.out.below HB.out) (HX.out.cell 0) (HP.out.cell 0) (HT.out.cell 0)).mono ?_
  rintro _ w3 ⟨rfl, hb3⟩
  clear m12
  have nHX := hI9 (HX.out.below hb3)
  have nHP := hI9 (HP.out.below hb3)
  have nHT := hI9 (HT.out.below hb3)
  have nHB := hI9 (bthen HB.out hb3)
  clear HX HP HT HB hb3
  have HX := nHX
  have HP := nHP
  have HT := nHT
  have HB := nHB
  clear nHX nHP nHT nHB
  have m13 := HX.out.cell 13
  simp only [gtA, gtS, gtZ] at m13
  go_wp2_with (fail)
  go_ret
  exact ⟨rfl, HB.out⟩
 have b5z : ¬ (20 : Int) < (M.m : Int) := by omega
 rw [show decide (20 < M.m) = false from decide_eq_false b5, Bool.false_or]
 have hcs := fun (w1 : World) (h : MetAt w1 (.slice A M.n cF) (.slice A2 M.m cS) M) (g0 : w1.cell? ⟨w.heap.size, 0, none⟩ = some (.int .i64 M.places)) (g1 : w1.cell? ⟨w.heap.size + 1, 0, none⟩ = some (.func (.func 68) #[] #[.pointer (some ⟨w.heap.size, 0, none⟩)])) (g2 : w1.cell? ⟨w.heap.size + 1 + 1, 0, none⟩ = some (.func (.func 70) #[] #[])) =>
  cfSi_c A2 M.m cS M.E M.C 73 #[.pointer (some ⟨w.heap.size + 1, 0, none⟩), .pointer (some ⟨w.heap.size + 1 + 1, 0, none⟩)] M.siB w1 (by omega) Tryz.entS (by
   obtain ⟨A', c', e', -, -, hr⟩ := h.s
   simp only [Value.slice.injEq] at e'
   obtain ⟨rfl, -, -⟩ := e'
   exact SisAt.of hr) (fun W i hi hb => sight_c _ _ _ M.places (M.E i 0) (M.E i 1) (M.E i 2) (M.E i 3) (M.E i 4) (M.C i 5) (M.C i 6) W ((hb.cell (p := ⟨w.heap.size + 1, 0, none⟩) (blk_lt g1)).trans g1) ((hb.cell (p := ⟨w.heap.size + 1 + 1, 0, none⟩) (blk_lt g2)).trans g2) ((hb.cell (p := ⟨w.heap.size, 0, none⟩) (blk_lt g0)).trans g0) hpl.1 hpl.2)
 cases b6 : (List.range M.m).any M.siB
 case true =>
  rw [b6] at hcs
  have HCS := hI9 hcs
  clear hcs
  rw [if_pos rfl]
  go_enter Tryz.func46, Tryz.ntmps46
  go_wp2_with (first | (go_at_call 69; (with_reducible refine (wwithin_c _ _ _ _).mono ?_); rintro e w1 ⟨rfl, rfl⟩))
  have _x := frm3 w #[.int .i64 M.places, .int .i64 M.any.a0, .int .i64 M.any.a1, .int .i64 M.any.a2, .int .i64 M.any.a3, .int .i64 M.any.a4, .int .i64 M.any.a5, .bool M.any.i, .bool M.any.s, .int .i64 M.mw, .int .i64 M.ms, .int .i64 M.mc, .slice A M.n cF, .slice A2 M.m cS] 29 #[.func (.func 68) #[] #[.pointer (some ⟨w.heap.size, 0, none⟩)]] 111 #[.func (.func 70) #[] #[]] 111
  have HX := hI9 _x.1
  have HP := hI9 _x.2.1
  have HT := hI9 _x.2.2.1
  have HB := hI9 _x.2.2.2.1
  have zW := _x.2.2.2.2
  clear _x
  generalize World.alloc (World.alloc (World.alloc w _) _) _ = W at *
  refine (HSK.out _).mono ?_
  rintro _ w1 ⟨rfl, hb1⟩
  have nHX := hI9 (HX.out.below hb1)
  have nHP := hI9 (HP.out.below hb1)
  have nHT := hI9 (HT.out.below hb1)
  have nHB := hI9 (bthen HB.out hb1)
  clear HX HP HT HB hb1
  have HX := nHX
  have HP := nHP
  have HT := nHT
  have HB := nHB
  clear nHX nHP nHT nHB
  have m9 := HX.out.cell 9
  have m10 := HX.out.cell 10
  have m11 := HX.out.cell 11
  simp only [gtA, gtS, gtZ] at m9 m10 m11
  go_wp2_with (fail)
  clear m9 m10 m11
  refine (HCB.out _ _ _ (by first | (simp; done) | (rw [cell_new_at _ _ _ _ _ (by simp)]; first | rfl | (simp; done))) (by first | (simp; done) | (rw [cell_new_at _ _ _ _ _ (by simp)]; first | rfl | (simp; done))) (by first | (simp; done) | (rw [cell_new_at _ _ _ _ _ (by simp)]; first | rfl | (simp; done)))).mono ?_
  rintro _ w2 ⟨rfl, hb2'⟩
  have hb2 := bthen (bal (Below.refl w1.heap.size w1) _) hb2'
  clear hb2'
  have nHX := hI9 (HX.out.below hb2)
  have nHP := hI9 (HP.out.below hb2)
  have nHT := hI9 (HT.out.below hb2)
  have nHB := hI9 (bthen HB.out hb2)
  clear HX HP HT HB hb2
  have HX := nHX
  have HP := nHP
  have HT := nHT
  have HB := nHB
  clear nHX nHP nHT nHB
  have m12 := HX.out.cell 12
  simp only [gtA, gtS, gtZ] at m12
  go_wp2_with (fail)
  refine (HCF.out _ (HA.out.below HB.out) (HX.out.cell 0) (HP.out.cell 0) (HT.out.cell 0)).mono ?_
  rintro _ w3 ⟨rfl, hb3⟩
  clear m12
  have nHX := hI9 (HX.out.below hb3)
  have nHP := hI9 (HP.out.below hb3)
  have nHT := hI9 (HT.out.below hb3)
  have nHB := hI9 (bthen HB.out hb3)
  clear HX HP HT HB hb3
  have HX := nHX
  have HP := nHP
  have HT := nHT
  have HB := nHB
  clear nHX nHP nHT nHB
  have m13 := HX.out.cell 13
  simp only [gtA, gtS, gtZ] at m13
  go_wp2_with (fail)
  refine (HCS.out _ (HA.out.below HB.out) (HX.out.cell 0) (HP.out.cell 0) (HT.out.cell 0)).mono ?_
  rintro _ w4 ⟨rfl, hb4⟩
  clear m13
  have nHX := hI9 (HX.out.below hb4)
  have nHP := hI9 (HP.out.below hb4)
  have nHT := hI9 (HT.out.below hb4)
  have nHB := hI9 (bthen HB.out hb4)
  clear HX HP HT HB hb4
  have HX := nHX
  have HP := nHP
  have HT := nHT
  have HB := nHB
  clear nHX nHP nHT nHB
  go_wp2_with (fail)
  go_ret
  exact ⟨rfl, HB.out⟩
 rw [b6] at hcs
 have HCS := hI9 hcs
 clear hcs
 rw [if_neg (by decide)]
 go_enter Tryz.func46, Tryz.ntmps46
 go_wp2_with (first | (go_at_call 69; (with_reducible refine (wwithin_c _ _ _ _).mono ?_); rintro e w1 ⟨rfl, rfl⟩))
 have _x := frm3 w #[.int .i64 M.places, .int .i64 M.any.a0, .int .i64 M.any.a1, .int .i64 M.any.a2, .int .i64 M.any.a3, .int .i64 M.any.a4, .int .i64 M.any.a5, .bool M.any.i, .bool M.any.s, .int .i64 M.mw, .int .i64 M.ms, .int .i64 M.mc, .slice A M.n cF, .slice A2 M.m cS] 29 #[.func (.func 68) #[] #[.pointer (some ⟨w.heap.size, 0, none⟩)]] 111 #[.func (.func 70) #[] #[]] 111
 have HX := hI9 _x.1
 have HP := hI9 _x.2.1
 have HT := hI9 _x.2.2.1
 have HB := hI9 _x.2.2.2.1
 have zW := _x.2.2.2.2
 clear _x
 generalize World.alloc (World.alloc (World.alloc w _) _) _ = W at *
 refine (HSK.out _).mono ?_
 rintro _ w1 ⟨rfl, hb1⟩
 have nHX := hI9 (HX.out.below hb1)
 have nHP := hI9 (HP.out.below hb1)
 have nHT := hI9 (HT.out.below hb1)
 have nHB := hI9 (bthen HB.out hb1)
 clear HX HP HT HB hb1
 have HX := nHX
 have HP := nHP
 have HT := nHT
 have HB := nHB
 clear nHX nHP nHT nHB
 have m9 := HX.out.cell 9
 have m10 := HX.out.cell 10
 have m11 := HX.out.cell 11
 simp only [gtA, gtS, gtZ] at m9 m10 m11
 go_wp2_with (fail)
 clear m9 m10 m11
 refine (HCB.out _ _ _ (by first | (simp; done) | (rw [cell_new_at _ _ _ _ _ (by simp)]; first | rfl | (simp; done))) (by first | (simp; done) | (rw [cell_new_at _ _ _ _ _ (by simp)]; first | rfl | (simp; done))) (by first | (simp; done) | (rw [cell_new_at _ _ _ _ _ (by simp)]; first | rfl | (simp; done)))).mono ?_
 rintro _ w2 ⟨rfl, hb2'⟩
 have hb2 := bthen (bal (Below.refl w1.heap.size w1) _) hb2'
 clear hb2'
 have nHX := hI9 (HX.out.below hb2)
 have nHP := hI9 (HP.out.below hb2)
 have nHT := hI9 (HT.out.below hb2)
 have nHB := hI9 (bthen HB.out hb2)
 clear HX HP HT HB hb2
 have HX := nHX
 have HP := nHP
 have HT := nHT
 have HB := nHB
 clear nHX nHP nHT nHB
 have m12 := HX.out.cell 12
 simp only [gtA, gtS, gtZ] at m12
 go_wp2_with (fail)
 refine (HCF.out _ (HA.out.below HB.out) (HX.out.cell 0) (HP.out.cell 0) (HT.out.cell 0)).mono ?_
 rintro _ w3 ⟨rfl, hb3⟩
 clear m12
 have nHX := hI9 (HX.out.below hb3)
 have nHP := hI9 (HP.out.below hb3)
 have nHT := hI9 (HT.out.below hb3)
 have nHB := hI9 (bthen HB.out hb3)
 clear HX HP HT HB hb3
 have HX := nHX
 have HP := nHP
 have HT := nHT
 have HB := nHB
 clear nHX nHP nHT nHB
 have m13 := HX.out.cell 13
 simp only [gtA, gtS, gtZ] at m13
 go_wp2_with (fail)
 refine (HCS.out _ (HA.out.below HB.out) (HX.out.cell 0) (HP.out.cell 0) (HT.out.cell 0)).mono ?_
 rintro _ w4 ⟨rfl, hb4⟩
 clear m13
 have nHX := hI9 (HX.out.below hb4)
 have nHP := hI9 (HP.out.below hb4)
 have nHT := hI9 (HT.out.below hb4)
 have nHB := hI9 (bthen HB.out hb4)
 clear HX HP HT HB hb4
 have HX := nHX
 have HP := nHP
 have HT := nHT
 have HB := nHB
 clear nHX nHP nHT nHB
 go_wp2_with (fail)
 go_ret
 exact ⟨rfl, HB.out⟩
end Go.Proofs.YtlabfpjlckdmfaaGreat

namespace Go.Proofs.YtlabfpjlckdmfaaGreat
open Go Go.RowKit Go.Proofs Go.ChangeShapes Go.WideShapes Go.ChangeAt Go.Deep
set_option maxRecDepth 100000
set_option maxHeartbeats 4000000
def leafOf (P : Program) : Nat → TypeId → Nat → Option TypeId
 | 0, _, _ => none
 | f + 1, T, i => match P.underlying T with
  | some (.struct fs) => (List.range fs.size).findSome? fun j => match fieldAt (P.underlying T) j with
   | some (t, o) => if o ≤ i ∧ i < o + P.cellsOf t ∧ o + P.cellsOf t ≤ P.cellsOf T then leafOf P f t (i - o) else none
   | none => none
  | _ => if i = 0 ∧ P.cellsOf T = 1 then some T else none
section
variable {H : Type} {enc : TypeId × Value → H} {W : World} {sp : Nat → Bool} {held : Bool}
theorem one_cell {cs : List Value} (h : cs.length = 1) : cs = [cs.getD 0 undef] := by
 obtain ⟨c, l, rfl, hl⟩ := take1 h
 obtain rfl := List.eq_nil_of_length_eq_zero hl
 rfl
theorem trod_leaf {P : Program} {t : TypeId} : ∀ (f : Nat) (T : TypeId) (i fuel : Nat) (cs : List Value) (x : DataW H × List MemPlace), leafOf P f T i = some t → cs.length = P.cellsOf T →
  DataW.trod enc P W 0 sp held fuel T cs = some x → ∃ m y, DataW.trod enc P W 0 sp held m t [cs.getD i undef] = some y
 | 0, T, i, fuel, cs, x, h, _, _ => by cases h
 | f + 1, T, i, fuel, cs, x, h, hl, ht => by
  unfold leafOf at h
  split at h
  ·rename_i fs hu
   obtain ⟨j, -, hj⟩ := List.exists_of_findSome?_eq_some h
   split at hj
   ·rename_i t' o hf
    split at hj
    ·rename_i hb
     obtain ⟨m, y, hm⟩ := trod_field hf rfl ht
     have hlen : ((cs.drop o).take (P.cellsOf t')).length = P.cellsOf t' := by
      rw [List.length_take, List.length_drop, hl]; omega
     obtain ⟨m2, y2, hm2⟩ := trod_leaf f t' (i - o) m _ y hj hlen hm
     refine ⟨m2, y2, ?_⟩
     have e : ((cs.drop o).take (P.cellsOf t')).getD (i - o) undef = cs.getD i undef := by
      unfold List.getD
      rw [List.getElem?_take_of_lt (by omega), List.getElem?_drop, show o + (i - o) = i by omega]
     rw [← e]; exact hm2
    ·cases hj
   ·cases hj
  ·split at h
   ·rename_i hc
    obtain ⟨rfl, h1⟩ := hc
    obtain rfl : T = t := by simpa using h
    rw [h1] at hl
    exact ⟨fuel, x, by rw [← one_cell hl]; exact ht⟩
   ·cases h
theorem leaf_int {cs : List Value} {T : TypeId} {fuel : Nat} {x : DataW H × List MemPlace} (hl : cs.length = Tryz.prog.cellsOf T) (ht : DataW.trod enc Tryz.prog W 0 sp held fuel T cs = some x) (i : Nat) (h : leafOf Tryz.prog 9 T i = some 3) :
  ∃ n, cs.getD i undef = .int .i64 n ∧ I64 n := by
 obtain ⟨m, y, hm⟩ := trod_leaf 9 T i fuel cs x h hl ht
 exact int_trod hm
theorem Tryz.undBool : Tryz.prog.underlying 4 = some .bool := by kernel_rfl
theorem leaf_bool {cs : List Value} {T : TypeId} {fuel : Nat} {x : DataW H × List MemPlace} (hl : cs.length = Tryz.prog.cellsOf T) (ht : DataW.trod enc Tryz.prog W 0 sp held fuel T cs = some x) (i : Nat) (h : leafOf Tryz.prog 9 T i = some 4) :
  ∃ b, cs.getD i undef = .bool b := by
 obtain ⟨m, y, hm⟩ := trod_leaf 9 T i fuel cs x h hl ht
 obtain ⟨b, e, -⟩ := DataW.trod_bool Tryz.undBool hm
 exact ⟨b, by simpa using e⟩
theorem list_cells {cs : List Value} {n : Nat} (h : cs.length = n) : cs = (List.range n).map fun i => cs.getD i undef := by
 subst h
 apply List.ext_getElem
 ·simp
 ·intro i h1 h2
  simp [List.getD, List.getElem?_eq_getElem h1]
theorem kinds {cs : List Value} {T : TypeId} {fuel n : Nat} {x : DataW H × List MemPlace} (num : Nat → Bool) (hn : Tryz.prog.cellsOf T = n) (hl : cs.length = n) (ht : DataW.trod enc Tryz.prog W 0 sp held fuel T cs = some x)
  (hk : (List.range n).all (fun i => leafOf Tryz.prog 9 T i == some (if num i then 3 else 4)) = true) :
  ∃ (f : Nat → Int) (b : Nat → Bool), (∀ i, i < n → cs.getD i undef = if num i then .int .i64 (f i) else .bool (b i)) ∧ ∀ i, i < n → num i = true → I64 (f i) := by
 have hk' : ∀ i, i < n → leafOf Tryz.prog 9 T i = some (if num i then 3 else 4) := fun i hi => by
  have := List.all_eq_true.1 hk i (List.mem_range.2 hi)
  simpa using this
 have hf : ∀ i, ∃ z : Int, i < n → num i = true → cs.getD i undef = .int .i64 z ∧ I64 z := fun i => by
  by_cases hi : i < n ∧ num i = true
  ·have h1 := hk' i hi.1
   rw [hi.2, if_pos rfl] at h1
   obtain ⟨z, e, w⟩ := leaf_int (by rw [hl, hn]) ht i h1
   exact ⟨z, fun _ _ => ⟨e, w⟩⟩
  ·exact ⟨0, fun a b => absurd ⟨a, b⟩ hi⟩
 have hb : ∀ i, ∃ z : Bool, i < n → num i = false → cs.getD i undef = .bool z := fun i => by
  by_cases hi : i < n ∧ num i = false
  ·have h1 := hk' i hi.1
   rw [hi.2, if_neg (by decide)] at h1
   obtain ⟨z, e⟩ := leaf_bool (by rw [hl, hn]) ht i h1
   exact ⟨z, fun _ _ => e⟩
  ·exact ⟨false, fun a b => absurd ⟨a, b⟩ hi⟩
 refine ⟨fun i => (hf i).choose, fun i => (hb i).choose, fun i hi => ?_, fun i hi hn => ((hf i).choose_spec hi hn).2⟩
 cases hn : num i
 ·simpa using (hb i).choose_spec hi hn
 ·simpa using ((hf i).choose_spec hi hn).1
theorem struct_trod {r : Reach} {b0 n : Nat} {T : TypeId} {v : Value} {d : DataW H} {ps : List MemPlace} {q : TypeId × Nat} (hf : fieldAt (Tryz.prog.underlying T) 0 = some q) (hn : Tryz.prog.cellsOf T = n)
  (hval : Value.okWide Tryz.prog W r b0 T v) (hd : DataW.Trod enc Tryz.prog W 0 sp held T v d ps) :
  ∃ cs : List Value, v = .agg cs.toArray ∧ cs.length = n ∧ ∃ fuel x, DataW.trod enc Tryz.prog W 0 sp held fuel T cs = some x := by
 obtain ⟨fs, hu⟩ := fieldAt_struct hf
 obtain ⟨cs, rfl, hs⟩ := okWide_struct hu hval
 rw [hn] at hs
 obtain ⟨fuel, h⟩ := hd
 exact ⟨cs.toList, by simp, by simpa using hs, fuel, _, h⟩
theorem slice_kinds {t e : TypeId} {fuel n : Nat} {c : Value} {x : DataW H × List MemPlace} (num : Nat → Bool) (hu : Tryz.prog.underlying t = some (.slice e)) (hn : Tryz.prog.cellsOf e = n) (h0 : 0 < n)
  (ht : DataW.trod enc Tryz.prog W 0 sp held fuel t [c] = some x) (hk : (List.range n).all (fun i => leafOf Tryz.prog 9 e i == some (if num i then 3 else 4)) = true) :
  ∃ (A : Option Addr) (len cp : Nat) (D : Nat → Nat → Int) (B : Nat → Nat → Bool), c = .slice A len cp ∧ len ≤ cp ∧ cp ≤ 9223372036854775807 ∧ (A = none → cp = 0) ∧ RecsAt W A len n (fun i j => if num j then .int .i64 (D i j) else .bool (B i j)) ∧ ∀ i, i < len → ∀ j, j < n → num j = true → I64 (D i j) := by
 obtain ⟨A, len, cp, V, rfl, h1, h2, h3, h4, h5⟩ := recs_trod hu hn h0 ht
 have hf : ∀ i, i < len → ∃ z : (Nat → Int) × (Nat → Bool), (∀ j, j < n → V i j = if num j then .int .i64 (z.1 j) else .bool (z.2 j)) ∧ ∀ j, j < n → num j = true → I64 (z.1 j) := fun i hi => by
  obtain ⟨m, y, hm⟩ := h5 i hi
  obtain ⟨f, b, hfb, hi64⟩ := kinds num hn (by simp) hm hk
  refine ⟨(f, b), fun j hj => ?_, hi64⟩
  rw [← hfb j hj]
  simp [List.getD, hj]
 obtain ⟨Z, hZ⟩ := choose_lt hf
 refine ⟨A, len, cp, fun i => (Z i).1, fun i => (Z i).2, rfl, h1, h2, h3, fun hp => ?_, fun i hi j hj hn => (hZ i hi).2 j hj hn⟩
 obtain ⟨b, off, hA, hlt, hc⟩ := h4 hp
 exact ⟨b, off, hA, hlt, fun k hk j hj => by rw [hc k hk j hj, (hZ k hk).1 j hj]⟩
end
end Go.Proofs.YtlabfpjlckdmfaaGreat

namespace Go.Proofs.YtlabfpjlckdmfaaGreat
open Go Go.RowKit Go.Proofs Go.ChangeShapes Go.WideShapes Go.ChangeAt Go.Deep
set_option maxRecDepth 100000
set_option maxHeartbeats 4000000
section
variable {H : Type} {enc : TypeId × Value → H} {W : World} {sp : Nat → Bool} {held : Bool}
theorem fcs_trod {fuel : Nat} {c : Value} {x : DataW H × List MemPlace} (ht : DataW.trod enc Tryz.prog W 0 sp held fuel 26 [c] = some x) :
  ∃ (A : Option Addr) (n cp : Nat) (D : Nat → Nat → Int) (B : Nat → Nat → Bool), c = .slice A n cp ∧ n ≤ cp ∧ cp ≤ 9223372036854775807 ∧ RecsAt W A n 12 (fcV D B) := by
 obtain ⟨A, n, cp, D, B, rfl, h1, h2, h3, h4, -⟩ := slice_kinds (e := 98) (n := 12) (fun j => decide (j < 10)) (by kernel_rfl) (by kernel_rfl) (Nat.succ_pos _) ht (by kernel_rfl)
 refine ⟨A, n, cp, D, B, rfl, h1, h2, ?_⟩
 have e : fcV D B = fun i j => if (fun j => decide (j < 10)) j = true then .int .i64 (D i j) else .bool (B i j) := by
  funext i j; unfold fcV; by_cases h : j < 10 <;> simp [h]
 rw [e]; exact h4
theorem sis_trod {fuel : Nat} {c : Value} {x : DataW H × List MemPlace} (ht : DataW.trod enc Tryz.prog W 0 sp held fuel 27 [c] = some x) :
  ∃ (A : Option Addr) (n cp : Nat) (D : Nat → Nat → Int) (B : Nat → Nat → Bool), c = .slice A n cp ∧ n ≤ cp ∧ cp ≤ 9223372036854775807 ∧ RecsAt W A n 7 (siV D B) := by
 obtain ⟨A, n, cp, D, B, rfl, h1, h2, h3, h4, -⟩ := slice_kinds (e := 101) (n := 7) (fun j => decide (j < 5)) (by kernel_rfl) (by kernel_rfl) (Nat.succ_pos _) ht (by kernel_rfl)
 refine ⟨A, n, cp, D, B, rfl, h1, h2, ?_⟩
 have e : siV D B = fun i j => if (fun j => decide (j < 5)) j = true then .int .i64 (D i j) else .bool (B i j) := by
  funext i j; unfold siV; by_cases h : j < 5 <;> simp [h]
 rw [e]; exact h4
end
end Go.Proofs.YtlabfpjlckdmfaaGreat
