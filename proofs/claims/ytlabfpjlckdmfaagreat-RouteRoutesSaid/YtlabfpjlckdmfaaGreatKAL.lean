/- Texts joined: KAL. -/
import Derived.Test.YtlabfpjlckdmfaaGreatKAK
import Derived.Test.YtlabfpjlckdmfaaGreatKZN
set_option linter.all false
namespace Go.Proofs.YtlabfpjlckdmfaaGreat
open Go Go.RowKit Go.Proofs
set_option maxRecDepth 100000
set_option maxHeartbeats 8000000
theorem wCheck_c (M : MetD) (vF vS : Value) (w : World) (hA : MetAt w vF vS M) :
  Calls Tryz.prog 46 #[.agg #[.int .i64 M.places, .int .i64 M.any.a0, .int .i64 M.any.a1, .int .i64 M.any.a2, .int .i64 M.any.a3, .int .i64 M.any.a4, .int .i64 M.any.a5, .bool M.any.i, .bool M.any.s, .int .i64 M.mw, .int .i64 M.ms, .int .i64 M.mc, vF, vS]] w fun e w' => e = .returned (.int .i64 M.err) ∧ Below w.heap.size w w' := by
 have HA := hI9 hA
 obtain ⟨⟨A, cF, rfl, hF1, hF2, -⟩, ⟨A2, cS, rfl, hS1, hS2, -⟩⟩ := hA
 have hsk := fun w1 => sky_c M.any w1
 have hcb := fun b c w1 h0 h1 h2 => cfb_c b c M.mw M.ms M.mc w1 h0 h1 h2
 unfold MetD.err MetD.bad
 cases b0 : inB M.places 1 8
 ·rw [show (!false || _) = true from rfl, if_pos rfl]
  skip
  go_enter Tryz.func46, Tryz.ntmps46
  go_wp2_with (first | (go_at_call 69; (with_reducible refine (wwithin_c _ _ _ _).mono ?_); rintro e w1 ⟨rfl, rfl⟩))
  have _x := frm3 w #[.int .i64 M.places, .int .i64 M.any.a0, .int .i64 M.any.a1, .int .i64 M.any.a2, .int .i64 M.any.a3, .int .i64 M.any.a4, .int .i64 M.any.a5, .bool M.any.i, .bool M.any.s, .int .i64 M.mw, .int .i64 M.ms, .int .i64 M.mc, .slice A M.n cF, .slice A2 M.m cS] 29 #[.func (.func 68) #[] #[.pointer (some ⟨w.heap.size, 0, none⟩)]] 111 #[.func (.func 70) #[] #[]] 111
  have HX := hI9 _x.1
  have HP := hI9 _x.2.1
  have HT := hI9 _x.2.2.1
  have HB := hI9 _x.2.2.2.1
  have zW := _x.2.2.2.2
  clear _x
  generalize World.alloc (World.alloc (World.alloc w _) _) _ = W at *
  go_ret
  exact ⟨rfl, HB.out⟩
 have hpl := inB_iff.1 b0
 rw [show ∀ b : Bool, (!true || b) = b from fun _ => rfl]
 cases b1 : M.any.inr
 ·rw [b1] at hsk
  have HSK := hI9 hsk
  clear hsk hcb
  rw [show ∀ b : Bool, (!false || b) = true from fun _ => rfl, if_pos rfl]
  go_enter Tryz.func46, Tryz.ntmps46
  go_wp2_with (first | (go_at_call 69; (with_reducible refine (wwithin_c _ _ _ _).mono ?_); rintro e w1 ⟨rfl, rfl⟩))
  have _x := frm3 w #[.int .i64 M.places, .int .i64 M.any.a0, .int .i64 M.any.a1, .int .i64 M.any.a2, .int .i64 M.any.a3, .int .i64 M.any.a4, .int .i64 M.any.a5, .bool M.any.i, .bool M.any.s, .int .i64 M.mw, .int .i64 M.ms, .int .i64 M.mc, .slice A M.n cF, .slice A2 M.m cS] 29 #[.func (.func 68) #[] #[.pointer (some ⟨w.heap.size, 0, none⟩)]] 111 #[.func (.func 70) #[] #[]] 111
  have HX := hI9 _x.1
  have HP := hI9 _x.2.1
  have HT := hI9 _x.2.2.1
  have HB := hI9 _x.2.2.2.1
  have zW := _x.2.2.2.2
  clear _x
  generalize World.alloc (World.alloc (World.alloc w _) _) _ = W at *
  refine (HSK.out _).mono ?_
  rintro _ w1 ⟨rfl, hb1⟩
  have nHX := hI9 (HX.out.below hb1)
  have nHP := hI9 (HP.out.below hb1)
  have nHT := hI9 (HT.out.below hb1)
  have nHB := hI9 (bthen HB.out hb1)
  clear HX HP HT HB hb1
  have HX := nHX
  have HP := nHP
  have HT := nHT
  have HB := nHB
  clear nHX nHP nHT nHB
  have m9 := HX.out.cell 9
  have m10 := HX.out.cell 10
  have m11 := HX.out.cell 11
  simp only [gtA, gtS, gtZ] at m9 m10 m11
  go_wp2_with (fail)
  go_ret
  exact ⟨rfl, HB.out⟩
 rw [b1] at hsk
 have HSK := hI9 hsk
 clear hsk
 rw [show ∀ b : Bool, (!true || b) = b from fun _ => rfl]
 cases b2 : rngB M.mw M.ms M.mc
 case true =>
  rw [b2] at hcb
  have HCB := hI9 hcb
  clear hcb
  rw [Bool.true_or, if_pos rfl]
  go_enter Tryz.func46, Tryz.ntmps46
  go_wp2_with (first | (go_at_call 69; (with_reducible refine (wwithin_c _ _ _ _).mono ?_); rintro e w1 ⟨rfl, rfl⟩))
  have _x := frm3 w #[.int .i64 M.places, .int .i64 M.any.a0, .int .i64 M.any.a1, .int .i64 M.any.a2, .int .i64 M.any.a3, .int .i64 M.any.a4, .int .i64 M.any.a5, .bool M.any.i, .bool M.any.s, .int .i64 M.mw, .int .i64 M.ms, .int .i64 M.mc, .slice A M.n cF, .slice A2 M.m cS] 29 #[.func (.func 68) #[] #[.pointer (some ⟨w.heap.size, 0, none⟩)]] 111 #[.func (.func 70) #[] #[]] 111
  have HX := hI9 _x.1
  have HP := hI9 _x.2.1
  have HT := hI9 _x.2.2.1
  have HB := hI9 _x.2.2.2.1
  have zW := _x.2.2.2.2
  clear _x
  generalize World.alloc (World.alloc (World.alloc w _) _) _ = W at *
  refine (HSK.out _).mono ?_
  rintro _ w1 ⟨rfl, hb1⟩
  have nHX := hI9 (HX.out.below hb1)
  have nHP := hI9 (HP.out.below hb1)
  have nHT := hI9 (HT.out.below hb1)
  have nHB := hI9 (bthen HB.out hb1)
  clear HX HP HT HB hb1
  have HX := nHX
  have HP := nHP
  have HT := nHT
  have HB := nHB
  clear nHX nHP nHT nHB
  have m9 := HX.out.cell 9
  have m10 := HX.out.cell 10
  have m11 := HX.out.cell 11
  simp only [gtA, gtS, gtZ] at m9 m10 m11
  go_wp2_with (fail)
  clear m9 m10 m11
  refine (HCB.out _ _ _ (by first | (simp; done) | (rw [cell_new_at _ _ _ _ _ (by simp)]; first | rfl | (simp; done))) (by first | (simp; done) | (rw [cell_new_at _ _ _ _ _ (by simp)]; first | rfl | (simp; done))) (by first | (simp; done) | (rw [cell_new_at _ _ _ _ _ (by simp)]; first | rfl | (simp; done)))).mono ?_
  rintro _ w2 ⟨rfl, hb2'⟩
  have hb2 := bthen (bal (Below.refl w1.heap.size w1) _) hb2'
  clear hb2'
  have nHX := hI9 (HX.out.below hb2)
  have nHP := hI9 (HP.out.below hb2)
  have nHT := hI9 (HT.out.below hb2)
  have nHB := hI9 (bthen HB.out hb2)
  clear HX HP HT HB hb2
  have HX := nHX
  have HP := nHP
  have HT := nHT
  have HB := nHB
  clear nHX nHP nHT nHB
  have m12 := HX.out.cell 12
  simp only [gtA, gtS, gtZ] at m12
  go_wp2_with (fail)
  go_ret
  exact ⟨rfl, HB.out⟩
 rw [b2] at hcb
 have HCB := hI9 hcb
 clear hcb
 rw [Bool.false_or]
 by_cases b3 : 40 < M.n
 ·have b3z : (40 : Int) < (M.n : Int) := by omega
  rw [show decide (40 < M.n) = true from decide_eq_true b3, Bool.true_or, if_pos rfl]
  go_enter Tryz.func46, Tryz.ntmps46
  go_wp2_with (first | (go_at_call 69; (with_reducible refine (wwithin_c _ _ _ _).mono ?_); rintro e w1 ⟨rfl, rfl⟩))
  have _x := frm3 w #[.int .i64 M.places, .int .i64 M.any.a0, .int .i64 M.any.a1, .int .i64 M.any.a2, .int .i64 M.any.a3, .int .i64 M.any.a4, .int .i64 M.any.a5, .bool M.any.i, .bool M.any.s, .int .i64 M.mw, .int .i64 M.ms, .int .i64 M.mc, .slice A M.n cF, .slice A2 M.m cS] 29 #[.func (.func 68) #[] #[.pointer (some ⟨w.heap.size, 0, none⟩)]] 111 #[.func (.func 70) #[] #[]] 111
  have HX := hI9 _x.1
  have HP := hI9 _x.2.1
  have HT := hI9 _x.2.2.1
  have HB := hI9 _x.2.2.2.1
  have zW := _x.2.2.2.2
  clear _x
  generalize World.alloc (World.alloc (World.alloc w _) _) _ = W at *
  refine (HSK.out _).mono ?_
  rintro _ w1 ⟨rfl, hb1⟩
  have nHX := hI9 (HX.out.below hb1)
  have nHP := hI9 (HP.out.below hb1)
  have nHT := hI9 (HT.out.below hb1)
  have nHB := hI9 (bthen HB.out hb1)
  clear HX HP HT HB hb1
  have HX := nHX
  have HP := nHP
  have HT := nHT
  have HB := nHB
  clear nHX nHP nHT nHB
  have m9 := HX.out.cell 9
  have m10 := HX.out.cell 10
  have m11 := HX.out.cell 11
  simp only [gtA, gtS, gtZ] at m9 m10 m11
  go_wp2_with (fail)
  clear m9 m10 m11
  refine (HCB.out _ _ _ (by first | (simp; done) | (rw [cell_new_at _ _ _ _ _ (by simp)]; first | rfl | (simp; done))) (by first | (simp; done) | (rw [cell_new_at _ _ _ _ _ (by simp)]; first | rfl | (simp; done))) (by first | (simp; done) | (rw [cell_new_at _ _ _ _ _ (by simp)]; first | rfl | (simp; done)))).mono ?_
  rintro _ w2 ⟨rfl, hb2'⟩
  have hb2 := bthen (bal (Below.refl w1.heap.size w1) _) hb2'
  clear hb2'
  have nHX := hI9 (HX.out.below hb2)
  have nHP := hI9 (HP.out.below hb2)
  have nHT := hI9 (HT.out.below hb2)
  have nHB := hI9 (bthen HB.out hb2)
  clear HX HP HT HB hb2
  have HX := nHX
  have HP := nHP
  have HT := nHT
  have HB := nHB
  clear nHX nHP nHT nHB
  have m12 := HX.out.cell 12
  simp only [gtA, gtS, gtZ] at m12
  go_wp2_with (fail)
  go_ret
  exact ⟨rfl, HB.out⟩
 have b3z : ¬ (40 : Int) < (M.n : Int) := by omega
 rw [show decide (40 < M.n) = false from decide_eq_false b3, Bool.false_or]
 have hcf := fun (w1 : World) (h : MetAt w1 (.slice A M.n cF) (.slice A2 M.m cS) M) (g0 : w1.cell? ⟨w.heap.size, 0, none⟩ = some (.int .i64 M.places)) (g1 : w1.cell? ⟨w.heap.size + 1, 0, none⟩ = some (.func (.func 68) #[] #[.pointer (some ⟨w.heap.size, 0, none⟩)])) (g2 : w1.cell? ⟨w.heap.size + 1 + 1, 0, none⟩ = some (.func (.func 70) #[] #[])) =>
  cfFc_c A M.n cF M.D M.B 71 #[.pointer (some ⟨w.heap.size + 1, 0, none⟩), .pointer (some ⟨w.heap.size + 1 + 1, 0, none⟩)] M.fcB w1 (by omega) Tryz.entF (by
   obtain ⟨A', c', e', -, -, hr⟩ := h.f
   simp only [Value.slice.injEq] at e'
   obtain ⟨rfl, -, -⟩ := e'
   exact FcsAt.of hr) (fun W i hi hb => fcast_c _ _ _ M.places (M.D i 0) (M.D i 1) (M.D i 2) (M.D i 3) (M.fc i) W ((hb.cell (p := ⟨w.heap.size + 1, 0, none⟩) (blk_lt g1)).trans g1) ((hb.cell (p := ⟨w.heap.size + 1 + 1, 0, none⟩) (blk_lt g2)).trans g2) ((hb.cell (p := ⟨w.heap.size, 0, none⟩) (blk_lt g0)).trans g0) hpl.1 hpl.2)
 cases b4 : (List.range M.n).any M.fcB
 case true =>
  rw [b4] at hcf
  have HCF := hI9 hcf
  clear hcf
  rw [Bool.true_or, if_pos rfl]
  go_enter Tryz.func46, Tryz.ntmps46
  go_wp2_with (first | (go_at_call 69; (with_reducible refine (wwithin_c _ _ _ _).mono ?_); rintro e w1 ⟨rfl, rfl⟩))
  have _x := frm3 w #[.int .i64 M.places, .int .i64 M.any.a0, .int .i64 M.any.a1, .int .i64 M.any.a2, .int .i64 M.any.a3, .int .i64 M.any.a4, .int .i64 M.any.a5, .bool M.any.i, .bool M.any.s, .int .i64 M.mw, .int .i64 M.ms, .int .i64 M.mc, .slice A M.n cF, .slice A2 M.m cS] 29 #[.func (.func 68) #[] #[.pointer (some ⟨w.heap.size, 0, none⟩)]] 111 #[.func (.func 70) #[] #[]] 111
  have HX := hI9 _x.1
  have HP := hI9 _x.2.1
  have HT := hI9 _x.2.2.1
  have HB := hI9 _x.2.2.2.1
  have zW := _x.2.2.2.2
  clear _x
  generalize World.alloc (World.alloc (World.alloc w _) _) _ = W at *
  refine (HSK.out _).mono ?_
  rintro _ w1 ⟨rfl, hb1⟩
  have nHX := hI9 (HX.out.below hb1)
  have nHP := hI9 (HP.out.below hb1)
  have nHT := hI9 (HT.out.below hb1)
  have nHB := hI9 (bthen HB.out hb1)
  clear HX HP HT HB hb1
  have HX := nHX
  have HP := nHP
  have HT := nHT
  have HB := nHB
  clear nHX nHP nHT nHB
  have m9 := HX.out.cell 9
  have m10 := HX.out.cell 10
  have m11 := HX.out.cell 11
  simp only [gtA, gtS, gtZ] at m9 m10 m11
  go_wp2_with (fail)
  clear m9 m10 m11
  refine (HCB.out _ _ _ (by first | (simp; done) | (rw [cell_new_at _ _ _ _ _ (by simp)]; first | rfl | (simp; done))) (by first | (simp; done) | (rw [cell_new_at _ _ _ _ _ (by simp)]; first | rfl | (simp; done))) (by first | (simp; done) | (rw [cell_new_at _ _ _ _ _ (by simp)]; first | rfl | (simp; done)))).mono ?_
  rintro _ w2 ⟨rfl, hb2'⟩
  have hb2 := bthen (bal (Below.refl w1.heap.size w1) _) hb2'
  clear hb2'
  have nHX := hI9 (HX.out.below hb2)
  have nHP := hI9 (HP.out.below hb2)
  have nHT := hI9 (HT.out.below hb2)
  have nHB := hI9 (bthen HB.out hb2)
  clear HX HP HT HB hb2
  have HX := nHX
  have HP := nHP
  have HT := nHT
  have HB := nHB
  clear nHX nHP nHT nHB
  have m12 := HX.out.cell 12
  simp only [gtA, gtS, gtZ] at m12
  go_wp2_with (fail)
  refine (HCF.out _ (HA.out.below HB.out) (HX.out.cell 0) (HP.out.cell 0) (HT.out.cell 0)).mono ?_
  rintro _ w3 ⟨rfl, hb3⟩
  clear m12
  have nHX := hI9 (HX.out.below hb3)
  have nHP := hI9 (HP.out.below hb3)
  have nHT := hI9 (HT.out.below hb3)
  have nHB := hI9 (bthen HB.out hb3)
  clear HX HP HT HB hb3
  have HX := nHX
  have HP := nHP
  have HT := nHT
  have HB := nHB
  clear nHX nHP nHT nHB
  have m13 := HX.out.cell 13
  simp only [gtA, gtS, gtZ] at m13
  go_wp2_with (fail)
  go_ret
  exact ⟨rfl, HB.out⟩
 rw [b4] at hcf
 have HCF := hI9 hcf
 clear hcf
 rw [Bool.false_or]
 by_cases b5 : 20 < M.m
 ·have b5z : (20 : Int) < (M.m : Int) := by omega
  rw [show decide (20 < M.m) = true from decide_eq_true b5, Bool.true_or, if_pos rfl]
  go_enter Tryz.func46, Tryz.ntmps46
  go_wp2_with (first | (go_at_call 69; (with_reducible refine (wwithin_c _ _ _ _).mono ?_); rintro e w1 ⟨rfl, rfl⟩))
  have _x := frm3 w #[.int .i64 M.places, .int .i64 M.any.a0, .int .i64 M.any.a1, .int .i64 M.any.a2, .int .i64 M.any.a3, .int .i64 M.any.a4, .int .i64 M.any.a5, .bool M.any.i, .bool M.any.s, .int .i64 M.mw, .int .i64 M.ms, .int .i64 M.mc, .slice A M.n cF, .slice A2 M.m cS] 29 #[.func (.func 68) #[] #[.pointer (some ⟨w.heap.size, 0, none⟩)]] 111 #[.func (.func 70) #[] #[]] 111
  have HX := hI9 _x.1
  have HP := hI9 _x.2.1
  have HT := hI9 _x.2.2.1
  have HB := hI9 _x.2.2.2.1
  have zW := _x.2.2.2.2
  clear _x
  generalize World.alloc (World.alloc (World.alloc w _) _) _ = W at *
  refine (HSK.out _).mono ?_
  rintro _ w1 ⟨rfl, hb1⟩
  have nHX := hI9 (HX.out.below hb1)
  have nHP := hI9 (HP.out.below hb1)
  have nHT := hI9 (HT.out.below hb1)
  have nHB := hI9 (bthen HB.out hb1)
  clear HX HP HT HB hb1
  have HX := nHX
  have HP := nHP
  have HT := nHT
  have HB := nHB
  clear nHX nHP nHT nHB
  have m9 := HX.out.cell 9
  have m10 := HX.out.cell 10
  have m11 := HX.out.cell 11
  simp only [gtA, gtS, gtZ] at m9 m10 m11
  go_wp2_with (fail)
  clear m9 m10 m11
  refine (HCB.out _ _ _ (by first | (simp; done) | (rw [cell_new_at _ _ _ _ _ (by simp)]; first | rfl | (simp; done))) (by first | (simp; done) | (rw [cell_new_at _ _ _ _ _ (by simp)]; first | rfl | (simp; done))) (by first | (simp; done) | (rw [cell_new_at _ _ _ _ _ (by simp)]; first | rfl | (simp; done)))).mono ?_
  rintro _ w2 ⟨rfl, hb2'⟩
  have hb2 := bthen (bal (Below.refl w1.heap.size w1) _) hb2'
  clear hb2'
  have nHX := hI9 (HX.out.below hb2)
  have nHP := hI9 (HP.out.below hb2)
  have nHT := hI9 (HT.out.below hb2)
  have nHB := hI9 (bthen HB.out hb2)
  clear HX HP HT HB hb2
  have HX := nHX
  have HP := nHP
  have HT := nHT
  have HB := nHB
  clear nHX nHP nHT nHB
  have m12 := HX.out.cell 12
  simp only [gtA, gtS, gtZ] at m12
  go_wp2_with (fail)
  refine (HCF.out _ (HA.out.below HB.out) (HX.out.cell 0) (HP.out.cell 0) (HT.out.cell 0)).mono ?_
  rintro _ w3 ⟨rfl, hb3⟩
  clear m12
  have nHX := hI9 (HX.out.below hb3)
  have nHP := hI9 (HP.out.below hb3)
  have nHT := hI9 (HT.out.below hb3)
  have nHB := hI9 (bthen HB.out hb3)
  clear HX HP HT HB hb3
  have HX := nHX
  have HP := nHP
  have HT := nHT
  have HB := nHB
  clear nHX nHP nHT nHB
  have m13 := HX.out.cell 13
  simp only [gtA, gtS, gtZ] at m13
  go_wp2_with (fail)
  go_ret
  exact ⟨rfl, HB.out⟩
 have b5z : ¬ (20 : Int) < (M.m : Int) := by omega
 rw [show decide (20 < M.m) = false from decide_eq_false b5, Bool.false_or]
 have hcs := fun (w1 : World) (h : MetAt w1 (.slice A M.n cF) (.slice A2 M.m cS) M) (g0 : w1.cell? ⟨w.heap.size, 0, none⟩ = some (.int .i64 M.places)) (g1 : w1.cell? ⟨w.heap.size + 1, 0, none⟩ = some (.func (.func 68) #[] #[.pointer (some ⟨w.heap.size, 0, none⟩)])) (g2 : w1.cell? ⟨w.heap.size + 1 + 1, 0, none⟩ = some (.func (.func 70) #[] #[])) =>
  cfSi_c A2 M.m cS M.E M.C 73 #[.pointer (some ⟨w.heap.size + 1, 0, none⟩), .pointer (some ⟨w.heap.size + 1 + 1, 0, none⟩)] M.siB w1 (by omega) Tryz.entS (by
   obtain ⟨A', c', e', -, -, hr⟩ := h.s
   simp only [Value.slice.injEq] at e'
   obtain ⟨rfl, -, -⟩ := e'
   exact SisAt.of hr) (fun W i hi hb => sight_c _ _ _ M.places (M.E i 0) (M.E i 1) (M.E i 2) (M.E i 3) (M.E i 4) (M.C i 5) (M.C i 6) W ((hb.cell (p := ⟨w.heap.size + 1, 0, none⟩) (blk_lt g1)).trans g1) ((hb.cell (p := ⟨w.heap.size + 1 + 1, 0, none⟩) (blk_lt g2)).trans g2) ((hb.cell (p := ⟨w.heap.size, 0, none⟩) (blk_lt g0)).trans g0) hpl.1 hpl.2)
 cases b6 : (List.range M.m).any M.siB
 case true =>
  rw [b6] at hcs
  have HCS := hI9 hcs
  clear hcs
  rw [if_pos rfl]
  go_enter Tryz.func46, Tryz.ntmps46
  go_wp2_with (first | (go_at_call 69; (with_reducible refine (wwithin_c _ _ _ _).mono ?_); rintro e w1 ⟨rfl, rfl⟩))
  have _x := frm3 w #[.int .i64 M.places, .int .i64 M.any.a0, .int .i64 M.any.a1, .int .i64 M.any.a2, .int .i64 M.any.a3, .int .i64 M.any.a4, .int .i64 M.any.a5, .bool M.any.i, .bool M.any.s, .int .i64 M.mw, .int .i64 M.ms, .int .i64 M.mc, .slice A M.n cF, .slice A2 M.m cS] 29 #[.func (.func 68) #[] #[.pointer (some ⟨w.heap.size, 0, none⟩)]] 111 #[.func (.func 70) #[] #[]] 111
  have HX := hI9 _x.1
  have HP := hI9 _x.2.1
  have HT := hI9 _x.2.2.1
  have HB := hI9 _x.2.2.2.1
  have zW := _x.2.2.2.2
  clear _x
  generalize World.alloc (World.alloc (World.alloc w _) _) _ = W at *
  refine (HSK.out _).mono ?_
  rintro _ w1 ⟨rfl, hb1⟩
  have nHX := hI9 (HX.out.below hb1)
  have nHP := hI9 (HP.out.below hb1)
  have nHT := hI9 (HT.out.below hb1)
  have nHB := hI9 (bthen HB.out hb1)
  clear HX HP HT HB hb1
  have HX := nHX
  have HP := nHP
  have HT := nHT
  have HB := nHB
  clear nHX nHP nHT nHB
  have m9 := HX.out.cell 9
  have m10 := HX.out.cell 10
  have m11 := HX.out.cell 11
  simp only [gtA, gtS, gtZ] at m9 m10 m11
  go_wp2_with (fail)
  clear m9 m10 m11
  refine (HCB.out _ _ _ (by first | (simp; done) | (rw [cell_new_at _ _ _ _ _ (by simp)]; first | rfl | (simp; done))) (by first | (simp; done) | (rw [cell_new_at _ _ _ _ _ (by simp)]; first | rfl | (simp; done))) (by first | (simp; done) | (rw [cell_new_at _ _ _ _ _ (by simp)]; first | rfl | (simp; done)))).mono ?_
  rintro _ w2 ⟨rfl, hb2'⟩
  have hb2 := bthen (bal (Below.refl w1.heap.size w1) _) hb2'
  clear hb2'
  have nHX := hI9 (HX.out.below hb2)
  have nHP := hI9 (HP.out.below hb2)
  have nHT := hI9 (HT.out.below hb2)
  have nHB := hI9 (bthen HB.out hb2)
  clear HX HP HT HB hb2
  have HX := nHX
  have HP := nHP
  have HT := nHT
  have HB := nHB
  clear nHX nHP nHT nHB
  have m12 := HX.out.cell 12
  simp only [gtA, gtS, gtZ] at m12
  go_wp2_with (fail)
  refine (HCF.out _ (HA.out.below HB.out) (HX.out.cell 0) (HP.out.cell 0) (HT.out.cell 0)).mono ?_
  rintro _ w3 ⟨rfl, hb3⟩
  clear m12
  have nHX := hI9 (HX.out.below hb3)
  have nHP := hI9 (HP.out.below hb3)
  have nHT := hI9 (HT.out.below hb3)
  have nHB := hI9 (bthen HB.out hb3)
  clear HX HP HT HB hb3
  have HX := nHX
  have HP := nHP
  have HT := nHT
  have HB := nHB
  clear nHX nHP nHT nHB
  have m13 := HX.out.cell 13
  simp only [gtA, gtS, gtZ] at m13
  go_wp2_with (fail)
  refine (HCS.out _ (HA.out.below HB.out) (HX.out.cell 0) (HP.out.cell 0) (HT.out.cell 0)).mono ?_
  rintro _ w4 ⟨rfl, hb4⟩
  clear m13
  have nHX := hI9 (HX.out.below hb4)
  have nHP := hI9 (HP.out.below hb4)
  have nHT := hI9 (HT.out.below hb4)
  have nHB := hI9 (bthen HB.out hb4)
  clear HX HP HT HB hb4
  have HX := nHX
  have HP := nHP
  have HT := nHT
  have HB := nHB
  clear nHX nHP nHT nHB
  go_wp2_with (fail)
  go_ret
  exact ⟨rfl, HB.out⟩
 rw [b6] at hcs
 have HCS := hI9 hcs
 clear hcs
 rw [if_neg (by decide)]
 go_enter Tryz.func46, Tryz.ntmps46
 go_wp2_with (first | (go_at_call 69; (with_reducible refine (wwithin_c _ _ _ _).mono ?_); rintro e w1 ⟨rfl, rfl⟩))
 have _x := frm3 w #[.int .i64 M.places, .int .i64 M.any.a0, .int .i64 M.any.a1, .int .i64 M.any.a2, .int .i64 M.any.a3, .int .i64 M.any.a4, .int .i64 M.any.a5, .bool M.any.i, .bool M.any.s, .int .i64 M.mw, .int .i64 M.ms, .int .i64 M.mc, .slice A M.n cF, .slice A2 M.m cS] 29 #[.func (.func 68) #[] #[.pointer (some ⟨w.heap.size, 0, none⟩)]] 111 #[.func (.func 70) #[] #[]] 111
 have HX := hI9 _x.1
 have HP := hI9 _x.2.1
 have HT := hI9 _x.2.2.1
 have HB := hI9 _x.2.2.2.1
 have zW := _x.2.2.2.2
 clear _x
 generalize World.alloc (World.alloc (World.alloc w _) _) _ = W at *
 refine (HSK.out _).mono ?_
 rintro _ w1 ⟨rfl, hb1⟩
 have nHX := hI9 (HX.out.below hb1)
 have nHP := hI9 (HP.out.below hb1)
 have nHT := hI9 (HT.out.below hb1)
 have nHB := hI9 (bthen HB.out hb1)
 clear HX HP HT HB hb1
 have HX := nHX
 have HP := nHP
 have HT := nHT
 have HB := nHB
 clear nHX nHP nHT nHB
 have m9 := HX.out.cell 9
 have m10 := HX.out.cell 10
 have m11 := HX.out.cell 11
 simp only [gtA, gtS, gtZ] at m9 m10 m11
 go_wp2_with (fail)
 clear m9 m10 m11
 refine (HCB.out _ _ _ (by first | (simp; done) | (rw [cell_new_at _ _ _ _ _ (by simp)]; first | rfl | (simp; done))) (by first | (simp; done) | (rw [cell_new_at _ _ _ _ _ (by simp)]; first | rfl | (simp; done))) (by first | (simp; done) | (rw [cell_new_at _ _ _ _ _ (by simp)]; first | rfl | (simp; done)))).mono ?_
 rintro _ w2 ⟨rfl, hb2'⟩
 have hb2 := bthen (bal (Below.refl w1.heap.size w1) _) hb2'
 clear hb2'
 have nHX := hI9 (HX.out.below hb2)
 have nHP := hI9 (HP.out.below hb2)
 have nHT := hI9 (HT.out.below hb2)
 have nHB := hI9 (bthen HB.out hb2)
 clear HX HP HT HB hb2
 have HX := nHX
 have HP := nHP
 have HT := nHT
 have HB := nHB
 clear nHX nHP nHT nHB
 have m12 := HX.out.cell 12
 simp only [gtA, gtS, gtZ] at m12
 go_wp2_with (fail)
 refine (HCF.out _ (HA.out.below HB.out) (HX.out.cell 0) (HP.out.cell 0) (HT.out.cell 0)).mono ?_
 rintro _ w3 ⟨rfl, hb3⟩
 clear m12
 have nHX := hI9 (HX.out.below hb3)
 have nHP := hI9 (HP.out.below hb3)
 have nHT := hI9 (HT.out.below hb3)
 have nHB := hI9 (bthen HB.out hb3)
 clear HX HP HT HB hb3
 have HX := nHX
 have HP := nHP
 have HT := nHT
 have HB := nHB
 clear nHX nHP nHT nHB
 have m13 := HX.out.cell 13
 simp only [gtA, gtS, gtZ] at m13
 go_wp2_with (fail)
 refine (HCS.out _ (HA.out.below HB.out) (HX.out.cell 0) (HP.out.cell 0) (HT.out.cell 0)).mono ?_
 rintro _ w4 ⟨rfl, hb4⟩
 clear m13
 have nHX := hI9 (HX.out.below hb4)
 have nHP := hI9 (HP.out.below hb4)
 have nHT := hI9 (HT.out.below hb4)
 have nHB := hI9 (bthen HB.out hb4)
 clear HX HP HT HB hb4
 have HX := nHX
 have HP := nHP
 have HT := nHT
 have HB := nHB
 clear nHX nHP nHT nHB
 go_wp2_with (fail)
 go_ret
 exact ⟨rfl, HB.out⟩
end Go.Proofs.YtlabfpjlckdmfaaGreat

namespace Go.Proofs.YtlabfpjlckdmfaaGreat
open Go Go.RowKit Go.Proofs Go.ChangeShapes Go.WideShapes Go.ChangeAt Go.Deep
set_option maxRecDepth 100000
set_option maxHeartbeats 4000000
section
variable {H : Type} {enc : TypeId × Value → H} {W : World} {sp : Nat → Bool} {held : Bool}
theorem fcs_trod {fuel : Nat} {c : Value} {x : DataW H × List MemPlace} (ht : DataW.trod enc Tryz.prog W 0 sp held fuel 26 [c] = some x) :
  ∃ (A : Option Addr) (n cp : Nat) (D : Nat → Nat → Int) (B : Nat → Nat → Bool), c = .slice A n cp ∧ n ≤ cp ∧ cp ≤ 9223372036854775807 ∧ RecsAt W A n 12 (fcV D B) := by
 obtain ⟨A, n, cp, D, B, rfl, h1, h2, h3, h4, -⟩ := slice_kinds (e := 98) (n := 12) (fun j => decide (j < 10)) (by kernel_rfl) (by kernel_rfl) (Nat.succ_pos _) ht (by kernel_rfl)
 refine ⟨A, n, cp, D, B, rfl, h1, h2, ?_⟩
 have e : fcV D B = fun i j => if (fun j => decide (j < 10)) j = true then .int .i64 (D i j) else .bool (B i j) := by
  funext i j; unfold fcV; by_cases h : j < 10 <;> simp [h]
 rw [e]; exact h4
theorem sis_trod {fuel : Nat} {c : Value} {x : DataW H × List MemPlace} (ht : DataW.trod enc Tryz.prog W 0 sp held fuel 27 [c] = some x) :
  ∃ (A : Option Addr) (n cp : Nat) (D : Nat → Nat → Int) (B : Nat → Nat → Bool), c = .slice A n cp ∧ n ≤ cp ∧ cp ≤ 9223372036854775807 ∧ RecsAt W A n 7 (siV D B) := by
 obtain ⟨A, n, cp, D, B, rfl, h1, h2, h3, h4, -⟩ := slice_kinds (e := 101) (n := 7) (fun j => decide (j < 5)) (by kernel_rfl) (by kernel_rfl) (Nat.succ_pos _) ht (by kernel_rfl)
 refine ⟨A, n, cp, D, B, rfl, h1, h2, ?_⟩
 have e : siV D B = fun i j => if (fun j => decide (j < 5)) j = true then .int .i64 (D i j) else .bool (B i j) := by
  funext i j; unfold siV; by_cases h : j < 5 <;> simp [h]
 rw [e]; exact h4
end
end Go.Proofs.YtlabfpjlckdmfaaGreat

namespace Go.Proofs.YtlabfpjlckdmfaaGreat
set_option maxRecDepth 100000
open Go Go.RowKit Go.Proofs Go.ChangeShapes Go.WideShapes Go.ChangeAt Go.Deep
section
variable {H : Type} {enc : TypeId × Value → H} {W : World} {sp : Nat → Bool} {held : Bool}
theorem int_trod_one {r : Reach} {b0 : Nat} {v : Value} {d : DataW H} {ps : List MemPlace} (hval : Value.okWide Tryz.prog W r b0 3 v) (hd : DataW.Trod enc Tryz.prog W 0 sp held 3 v d ps) :
  ∃ n, v = .int .i64 n ∧ I64 n := by
 obtain ⟨n, rfl⟩ := okWide_int Tryz.undInt hval
 obtain ⟨fuel, h⟩ := hd
 obtain ⟨m, e, hm⟩ := int_trod (show DataW.trod enc Tryz.prog W 0 sp held fuel 3 [.int .i64 n] = some _ from h)
 exact ⟨m, e, hm⟩
end
end Go.Proofs.YtlabfpjlckdmfaaGreat
