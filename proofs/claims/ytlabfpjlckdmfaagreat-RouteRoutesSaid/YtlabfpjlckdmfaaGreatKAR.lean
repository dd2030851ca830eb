/- Texts joined: KAR. -/
import Derived.Test.YtlabfpjlckdmfaaGreatKAQ
set_option linter.all false
namespace Go.Proofs.YtlabfpjlckdmfaaGreat
open Go Go.RowKit Go.Proofs
set_option maxRecDepth 100000
set_option maxHeartbeats 8000000
theorem r5right_c (M : MetD) (vF vS : Value) (A : Option Addr) (n c : Nat) (S : Tab) (P : Nat) (F : FliD) (vR : Value) (w : World) (hc1 : n ≤ c) (hc2 : c ≤ 9223372036854775807) (hL : RecsAt w A n 3 (nV S)) (hR : SlI w vR F.m F.R) (hN : NetOk P S n) (hP : M.places = P) (hp8 : 1 ≤ P ∧ P ≤ 8) :
  Calls Tryz.prog 26 #[.agg #[.int .i64 M.places, .int .i64 M.any.a0, .int .i64 M.any.a1, .int .i64 M.any.a2, .int .i64 M.any.a3, .int .i64 M.any.a4, .int .i64 M.any.a5, .bool M.any.i, .bool M.any.s, .int .i64 M.mw, .int .i64 M.ms, .int .i64 M.mc, vF, vS], .slice A n c, .agg #[vR, .int .i64 F.dep, .int .i64 F.fuel, .int .i64 F.burn, .int .i64 F.res]] w fun e w' => e = .returned (.bool (F.okB P (lgT S n))) ∧ RowKit.Below w.heap.size w w' := by
 have HL := hI9 hL
 have HR0 := hI9 hR
 have HNK := hI9 hN
 have HP := hI9 hP
 obtain ⟨AR, cR, rfl, r1, r2, hR⟩ := hR
 have HR := hI9 hR
 clear hL hN hR hP
 obtain ⟨Q, hQ⟩ : ∃ q, q = F.okB P (lgT S n) := ⟨_, rfl⟩
 rw [← hQ]
 have HQ := hI9 hQ
 clear hQ
 cases b1 : inB (F.m : Int) 1 8
 case false =>
  have HNO := hI9 (show Q = false from HQ.out.trans (by
   cases e : F.okB P (lgT S n)
   ·rfl
   ·have := (FliD.okB_iff.1 e).1; unfold FliD.nums at this; simp [b1] at this))
  go_enter Tryz.func26, Tryz.ntmps26
  go_wp2_with (fail)
  have _x := frm2 w #[.int .i64 M.places, .int .i64 M.any.a0, .int .i64 M.any.a1, .int .i64 M.any.a2, .int .i64 M.any.a3, .int .i64 M.any.a4, .int .i64 M.any.a5, .bool M.any.i, .bool M.any.s, .int .i64 M.mw, .int .i64 M.ms, .int .i64 M.mc, vF, vS] 29 #[(.slice AR F.m cR), .int .i64 F.dep, .int .i64 F.fuel, .int .i64 F.burn, .int .i64 F.res] 37
  have HX := hI9 _x.1
  have HF := hI9 _x.2.1
  have HB := hI9 _x.2.2.1
  have zW := _x.2.2.2
  clear _x
  generalize World.alloc (World.alloc w _) _ = W at *
  have hx0 := HF.out.cell 0
  have hx1 := HF.out.cell 1
  have hx2 := HF.out.cell 2
  have hx3 := HF.out.cell 3
  have hx4 := HF.out.cell 4
  simp only [gtA, gtS, gtZ] at hx0 hx1 hx2 hx3 hx4
  go_wp2_with (first | (go_at_call 20; (with_reducible refine (r5within_c _ _ _ _).mono ?_); rintro e w1 ⟨rfl, rfl⟩))
  go_ret
  exact ⟨by rw [HNO.out]; rfl, HB.out⟩
 cases b2 : inB F.dep 0 2000
 case false =>
  have HNO := hI9 (show Q = false from HQ.out.trans (by
   cases e : F.okB P (lgT S n)
   ·rfl
   ·have := (FliD.okB_iff.1 e).1; unfold FliD.nums at this; simp [b2] at this))
  go_enter Tryz.func26, Tryz.ntmps26
  go_wp2_with (fail)
  have _x := frm2 w #[.int .i64 M.places, .int .i64 M.any.a0, .int .i64 M.any.a1, .int .i64 M.any.a2, .int .i64 M.any.a3, .int .i64 M.any.a4, .int .i64 M.any.a5, .bool M.any.i, .bool M.any.s, .int .i64 M.mw, .int .i64 M.ms, .int .i64 M.mc, vF, vS] 29 #[(.slice AR F.m cR), .int .i64 F.dep, .int .i64 F.fuel, .int .i64 F.burn, .int .i64 F.res] 37
  have HX := hI9 _x.1
  have HF := hI9 _x.2.1
  have HB := hI9 _x.2.2.1
  have zW := _x.2.2.2
  clear _x
  generalize World.alloc (World.alloc w _) _ = W at *
  have hx0 := HF.out.cell 0
  have hx1 := HF.out.cell 1
  have hx2 := HF.out.cell 2
  have hx3 := HF.out.cell 3
  have hx4 := HF.out.cell 4
  simp only [gtA, gtS, gtZ] at hx0 hx1 hx2 hx3 hx4
  go_wp2_with (first | (go_at_call 20; (with_reducible refine (r5within_c _ _ _ _).mono ?_); rintro e w1 ⟨rfl, rfl⟩))
  go_ret
  exact ⟨by rw [HNO.out]; rfl, HB.out⟩
 cases b3 : inB F.fuel 0 100000
 case false =>
  have HNO := hI9 (show Q = false from HQ.out.trans (by
   cases e : F.okB P (lgT S n)
   ·rfl
   ·have := (FliD.okB_iff.1 e).1; unfold FliD.nums at this; simp [b3] at this))
  go_enter Tryz.func26, Tryz.ntmps26
  go_wp2_with (fail)
  have _x := frm2 w #[.int .i64 M.places, .int .i64 M.any.a0, .int .i64 M.any.a1, .int .i64 M.any.a2, .int .i64 M.any.a3, .int .i64 M.any.a4, .int .i64 M.any.a5, .bool M.any.i, .bool M.any.s, .int .i64 M.mw, .int .i64 M.ms, .int .i64 M.mc, vF, vS] 29 #[(.slice AR F.m cR), .int .i64 F.dep, .int .i64 F.fuel, .int .i64 F.burn, .int .i64 F.res] 37
  have HX := hI9 _x.1
  have HF := hI9 _x.2.1
  have HB := hI9 _x.2.2.1
  have zW := _x.2.2.2
  clear _x
  generalize World.alloc (World.alloc w _) _ = W at *
  have hx0 := HF.out.cell 0
  have hx1 := HF.out.cell 1
  have hx2 := HF.out.cell 2
  have hx3 := HF.out.cell 3
  have hx4 := HF.out.cell 4
  simp only [gtA, gtS, gtZ] at hx0 hx1 hx2 hx3 hx4
  go_wp2_with (first | (go_at_call 20; (with_reducible refine (r5within_c _ _ _ _).mono ?_); rintro e w1 ⟨rfl, rfl⟩))
  go_ret
  exact ⟨by rw [HNO.out]; rfl, HB.out⟩
 cases b4 : inB F.res 0 100000
 case false =>
  have HNO := hI9 (show Q = false from HQ.out.trans (by
   cases e : F.okB P (lgT S n)
   ·rfl
   ·have := (FliD.okB_iff.1 e).1; unfold FliD.nums at this; simp [b4] at this))
  go_enter Tryz.func26, Tryz.ntmps26
  go_wp2_with (fail)
  have _x := frm2 w #[.int .i64 M.places, .int .i64 M.any.a0, .int .i64 M.any.a1, .int .i64 M.any.a2, .int .i64 M.any.a3, .int .i64 M.any.a4, .int .i64 M.any.a5, .bool M.any.i, .bool M.any.s, .int .i64 M.mw, .int .i64 M.ms, .int .i64 M.mc, vF, vS] 29 #[(.slice AR F.m cR), .int .i64 F.dep, .int .i64 F.fuel, .int .i64 F.burn, .int .i64 F.res] 37
  have HX := hI9 _x.1
  have HF := hI9 _x.2.1
  have HB := hI9 _x.2.2.1
  have zW := _x.2.2.2
  clear _x
  generalize World.alloc (World.alloc w _) _ = W at *
  have hx0 := HF.out.cell 0
  have hx1 := HF.out.cell 1
  have hx2 := HF.out.cell 2
  have hx3 := HF.out.cell 3
  have hx4 := HF.out.cell 4
  simp only [gtA, gtS, gtZ] at hx0 hx1 hx2 hx3 hx4
  go_wp2_with (first | (go_at_call 20; (with_reducible refine (r5within_c _ _ _ _).mono ?_); rintro e w1 ⟨rfl, rfl⟩))
  go_ret
  exact ⟨by rw [HNO.out]; rfl, HB.out⟩
 cases b5 : inB F.burn 1 100000
 case false =>
  have HNO := hI9 (show Q = false from HQ.out.trans (by
   cases e : F.okB P (lgT S n)
   ·rfl
   ·have := (FliD.okB_iff.1 e).1; unfold FliD.nums at this; simp [b5] at this))
  go_enter Tryz.func26, Tryz.ntmps26
  go_wp2_with (fail)
  have _x := frm2 w #[.int .i64 M.places, .int .i64 M.any.a0, .int .i64 M.any.a1, .int .i64 M.any.a2, .int .i64 M.any.a3, .int .i64 M.any.a4, .int .i64 M.any.a5, .bool M.any.i, .bool M.any.s, .int .i64 M.mw, .int .i64 M.ms, .int .i64 M.mc, vF, vS] 29 #[(.slice AR F.m cR), .int .i64 F.dep, .int .i64 F.fuel, .int .i64 F.burn, .int .i64 F.res] 37
  have HX := hI9 _x.1
  have HF := hI9 _x.2.1
  have HB := hI9 _x.2.2.1
  have zW := _x.2.2.2
  clear _x
  generalize World.alloc (World.alloc w _) _ = W at *
  have hx0 := HF.out.cell 0
  have hx1 := HF.out.cell 1
  have hx2 := HF.out.cell 2
  have hx3 := HF.out.cell 3
  have hx4 := HF.out.cell 4
  simp only [gtA, gtS, gtZ] at hx0 hx1 hx2 hx3 hx4
  go_wp2_with (first | (go_at_call 20; (with_reducible refine (r5within_c _ _ _ _).mono ?_); rintro e w1 ⟨rfl, rfl⟩))
  go_ret
  exact ⟨by rw [HNO.out]; rfl, HB.out⟩
 have HNU := hI9 (show F.nums = true by unfold FliD.nums; rw [b1, b2, b3, b4, b5]; rfl)
 go_enter Tryz.func26, Tryz.ntmps26
 go_wp2_with (fail)
 have _x := frm2 w #[.int .i64 M.places, .int .i64 M.any.a0, .int .i64 M.any.a1, .int .i64 M.any.a2, .int .i64 M.any.a3, .int .i64 M.any.a4, .int .i64 M.any.a5, .bool M.any.i, .bool M.any.s, .int .i64 M.mw, .int .i64 M.ms, .int .i64 M.mc, vF, vS] 29 #[(.slice AR F.m cR), .int .i64 F.dep, .int .i64 F.fuel, .int .i64 F.burn, .int .i64 F.res] 37
 have HX := hI9 _x.1
 have HF := hI9 _x.2.1
 have HB := hI9 _x.2.2.1
 have zW := _x.2.2.2
 clear _x
 generalize World.alloc (World.alloc w _) _ = W at *
 have hx0 := HF.out.cell 0
 have hx1 := HF.out.cell 1
 have hx2 := HF.out.cell 2
 have hx3 := HF.out.cell 3
 have hx4 := HF.out.cell 4
 simp only [gtA, gtS, gtZ] at hx0 hx1 hx2 hx3 hx4
 go_wp2_with (first | (go_at_call 20; (with_reducible refine (r5within_c _ _ _ _).mono ?_); rintro e w1 ⟨rfl, rfl⟩))
 have hnu := FliD.nums_iff.1 HNU.out
 clear b1 b2 b3 b4 b5 hx0 hx1 hx2 hx3 hx4
 go_loopg [7] F.m (fun gy iv wr => ∃ i : Nat, iv = .int .i64 i ∧ i ≤ F.m ∧ F.m - i ≤ gy ∧ Hid (∀ j, j < i → 0 ≤ F.R j ∧ F.R j < P) ∧ Hid (RowKit.Below w.heap.size w wr) ∧ Hid (Blk wr w.heap.size 29 #[.int .i64 M.places, .int .i64 M.any.a0, .int .i64 M.any.a1, .int .i64 M.any.a2, .int .i64 M.any.a3, .int .i64 M.any.a4, .int .i64 M.any.a5, .bool M.any.i, .bool M.any.s, .int .i64 M.mw, .int .i64 M.ms, .int .i64 M.mc, vF, vS]) ∧ Hid (Blk wr (w.heap.size + 1) 37 #[.slice AR F.m cR, .int .i64 F.dep, .int .i64 F.fuel, .int .i64 F.burn, .int .i64 F.res]))
 case atStart => exact ⟨0, rfl, Nat.zero_le _, Nat.le_refl _, hI9 (fun j hj => by omega), HB, HX, HF⟩
 case round =>
  clear HB HX HF
  obtain ⟨i, rfl, hi, hgy, HA, HB, HX, HF⟩ := hrel
  have hx0 := HF.out.cell 0
  have hm0 := HX.out.cell 0
  simp only [List.getElem?_toArray, List.getElem?_cons_zero] at hx0 hm0
  by_cases hlt : i < F.m
  case pos =>
   have hltz : (i : Int) < (F.m : Int) := by omega
   obtain ⟨bR, oR, rfl, hbR, hcR⟩ := HR.out (by omega)
   have cr : wr.cell? ⟨bR, oR + i, none⟩ = some (.int .i64 (F.R i)) := (HB.out.cell (p := ⟨bR, oR + i, none⟩) hbR).trans (by have := hcR i hlt 0 (by omega); rw [Nat.mul_one, Nat.add_zero] at this; exact this)
   rw [HP.out] at hm0
   have hpw : IntKind.i64.wrap ((P : Int) - 1) = (P : Int) - 1 := by rw [IntKind.wrap_i64]; omega
   clear hcR
   cases q1 : inB (F.R i) 0 ((P : Int) - 1)
   case false =>
    have HNO := hI9 (show Q = false from HQ.out.trans (by
     cases e : F.okB P (lgT S n)
     ·rfl
     ·have := (FliD.okB_iff.1 e).2.1.1 i hlt
      have q2 : ¬ inB (F.R i) 0 ((P : Int) - 1) = true := by rw [q1]; decide
      rw [inB_iff] at q2
      omega))
    go_wp2
    go_quiet ((go_at_call 20; (with_reducible refine qsame (r5within_c _ _ _ _))))
    have HB2 := hI9 (bdn HB.out nq)
    clear HB HX HF hx0 hm0 cr
    generalize wr.drewN nq = wr at *
    go_wp2_with (fail)
    go_ret
    exact ⟨by rw [HNO.out]; rfl, HB2.out⟩
   have q2 := inB_iff.1 q1
   go_wp2
   go_quiet ((go_at_call 20; (with_reducible refine qsame (r5within_c _ _ _ _))))
   have nB := hI9 (bdn HB.out nq)
   have nX := hI9 (HX.out.below (bdn (RowKit.Below.refl _ _) nq))
   have nF := hI9 (HF.out.below (bdn (RowKit.Below.refl _ _) nq))
   clear HB HX HF hx0 hm0 cr
   generalize wr.drewN nq = wr at *
   have HA2 := hI9 (show ∀ j, j < i + 1 → 0 ≤ F.R j ∧ F.R j < P from fun j hj => by
    by_cases e : j = i
    ·subst e; omega
    ·exact HA.out j (by omega))
   go_wp2_with (fail)
   go_roundg (F.m - (i + 1))
   case measure => omega
   case rel => exact ⟨i + 1, by first | rfl | go_num | (congr 1; omega), by omega, Nat.le_refl _, HA2, nB, nX, nF⟩
  have him : i = F.m := by omega
  have hnl : ¬ (i : Int) < (F.m : Int) := by omega
  have HAM := hI9 (show ∀ j, j < F.m → 0 ≤ F.R j ∧ F.R j < P from him ▸ HA.out)
  clear HA him
  go_wp2_with (refine wpl_row rfl 37 (.tmp 5) rfl _ rfl _ 5 HF.out Tryz.rowFli rfl ?_; simp only [Act.put])
  refine (r5flown_c A n c S P F (.slice AR F.m cR) _ hc1 hc2 (HL.out.below HB.out) (HR0.out.below HB.out) HNK.out hnu.1 hnu.2.1 HAM.out).mono ?_
  rintro e w2 ⟨v, rfl, hb2, hsl⟩
  have HB2 := hI9 (bthen HB.out hb2)
  clear HB HX HF hx0 hm0 hb2
  cases hlb : F.legB (lgT S n)
  case false =>
   have HNO := hI9 (show Q = false from HQ.out.trans (by
    cases e : F.okB P (lgT S n)
    ·rfl
    ·have := FliD.legB_iff.2 (FliD.okB_iff.1 e).2.1.2
     rw [hlb] at this; cases this))
   clear hlb hsl
   go_wp2_with (fail)
   go_ret
   exact ⟨by rw [HNO.out]; rfl, HB2.out⟩
  obtain ⟨A2, c2, rfl, e2, e3, e4⟩ := hsl hlb
  obtain ⟨b2, o2, rfl, hb2, hc2'⟩ := e4 (by omega)
  have HFW := hI9 (FliD.legB_iff.1 hlb)
  clear hlb hsl e4
  obtain ⟨m, hm⟩ : ∃ m, F.m = m + 1 := ⟨F.m - 1, by omega⟩
  have cl : w2.cell? ⟨b2, o2 + m, none⟩ = some (.int .i64 (F.at_ (lgT S n) m)) := by have := hc2' m (by omega) 0 (by omega); rw [Nat.mul_one, Nat.add_zero] at this; exact this
  have HO := hI9 (show Q = decide (F.at_ (lgT S n) m ≤ 2000) from HQ.out.trans (by
   by_cases h : F.at_ (lgT S n) m ≤ 2000
   ·rw [decide_eq_true h]
    exact FliD.okB_iff.2 ⟨HNU.out, ⟨HAM.out, HFW.out⟩, by rw [show F.m - 1 = m by omega]; exact h⟩
   ·rw [decide_eq_false h]
    cases e : F.okB P (lgT S n)
    ·rfl
    ·have := (FliD.okB_iff.1 e).2.2
     rw [show F.m - 1 = m by omega] at this
     exact absurd this h))
  have hmz : IntKind.i64.wrap ((F.m : Int) - 1) = (m : Int) := by rw [IntKind.wrap_i64]; omega
  have hmz2 : (m : Int) < (F.m : Int) := by omega
  clear hc2' hm
  generalize F.at_ (lgT S n) m = D at *
  by_cases h : D ≤ 2000
  ·have HNO := hI9 (HO.out.trans (decide_eq_true h))
   go_wp2_with (fail)
   go_ret
   exact ⟨by rw [HNO.out]; rfl, HB2.out⟩
  ·go_wp2_with (fail)
   go_ret
   exact ⟨by rw [HO.out]; rfl, HB2.out⟩
theorem r5Check_c (M : MetD) (vF vS : Value) (A : Option Addr) (n c : Nat) (S : Tab) (F : FliD) (vR : Value) (w : World) (hM : MetAt w vF vS M) (hc1 : n ≤ c) (hc2 : c ≤ 9223372036854775807) (hL : RecsAt w A n 3 (nV S)) (hR : SlI w vR F.m F.R) :
  Calls Tryz.prog 10 #[.agg #[.int .i64 M.places, .int .i64 M.any.a0, .int .i64 M.any.a1, .int .i64 M.any.a2, .int .i64 M.any.a3, .int .i64 M.any.a4, .int .i64 M.any.a5, .bool M.any.i, .bool M.any.s, .int .i64 M.mw, .int .i64 M.ms, .int .i64 M.mc, vF, vS], .slice A n c, .agg #[vR, .int .i64 F.dep, .int .i64 F.fuel, .int .i64 F.burn, .int .i64 F.res]] w fun e w' => e = .returned (.int .i64 (nfE (netE M S n) M S n F)) ∧ RowKit.Below w.heap.size w w' := by
 have HM := hI9 hM
 have HL := hI9 hL
 have HR := hI9 hR
 clear hM hL hR
 have hnn := fun w1 h1 h2 => r5CheckNet_c M vF vS A n c S w1 h1 hc1 hc2 h2
 obtain ⟨E, hE⟩ : ∃ q, q = netE M S n := ⟨_, rfl⟩
 obtain ⟨NE, hNE⟩ : ∃ q, q = nfE E M S n F := ⟨_, rfl⟩
 rw [← hE] at hnn ⊢
 rw [← hNE]
 have HNN := hI9 hnn
 clear hnn
 unfold nfE at hNE
 have tok : True := trivial
 by_cases h0 : E = 0
 case neg =>
  rw [if_neg h0] at hNE
  have hz : (E != 0) = true := by simpa using h0
  have HH := hI9 hNE
  clear hNE h0 hE
  go_enter Tryz.func10, Tryz.ntmps10
  go_wp2_with (fail)
  have _x := frm2 w #[.int .i64 M.places, .int .i64 M.any.a0, .int .i64 M.any.a1, .int .i64 M.any.a2, .int .i64 M.any.a3, .int .i64 M.any.a4, .int .i64 M.any.a5, .bool M.any.i, .bool M.any.s, .int .i64 M.mw, .int .i64 M.ms, .int .i64 M.mc, vF, vS] 29 #[vR, .int .i64 F.dep, .int .i64 F.fuel, .int .i64 F.burn, .int .i64 F.res] 37
  have HX := hI9 _x.1
  have HF := hI9 _x.2.1
  have HB := hI9 _x.2.2.1
  have zW := _x.2.2.2
  clear _x
  generalize World.alloc (World.alloc w _) _ = W at *
  go_wp2_with (first | (have _t := tok; refine wpl_row rfl 29 _ rfl _ rfl _ 14 HX.out Tryz.rowMet rfl ?_; simp only [Act.put]; clear tok) | (go_at_call 6; (with_reducible refine (HNN.out _ (HM.out.below HB.out) (HL.out.below HB.out)).mono ?_); rintro e w1 ⟨rfl, hb1⟩; have nHX := hI9 (HX.out.below hb1); have nHF := hI9 (HF.out.below hb1); have nHB := hI9 (bthen HB.out hb1); have zz1 := hb1.size; clear HX HF HB hb1; have HX := nHX; have HF := nHF; have HB := nHB; clear nHX nHF nHB))
  go_ret
  exact ⟨by rw [HH.out]; rfl, HB.out⟩
 rw [if_pos h0] at hNE
 subst h0
 obtain ⟨f1, f2⟩ := netE_ok hE.symm
 obtain ⟨f3, f4, f5, f6⟩ := net_facts f1 f2
 have HRI := hI9 (fun w1 h1 h2 => r5right_c M vF vS A n c S M.places.toNat F vR w1 hc1 hc2 h1 h2 f6 f3 f4)
 clear hE f1 f2 f3 f4 f5 f6
 have tok2 : True := trivial
 cases hok : F.okB M.places.toNat (lgT S n)
 all_goals
  rw [hok] at hNE HRI
  have HH := hI9 hNE
  clear hNE hok
  go_enter Tryz.func10, Tryz.ntmps10
  go_wp2_with (fail)
  have _x := frm2 w #[.int .i64 M.places, .int .i64 M.any.a0, .int .i64 M.any.a1, .int .i64 M.any.a2, .int .i64 M.any.a3, .int .i64 M.any.a4, .int .i64 M.any.a5, .bool M.any.i, .bool M.any.s, .int .i64 M.mw, .int .i64 M.ms, .int .i64 M.mc, vF, vS] 29 #[vR, .int .i64 F.dep, .int .i64 F.fuel, .int .i64 F.burn, .int .i64 F.res] 37
  have HX := hI9 _x.1
  have HF := hI9 _x.2.1
  have HB := hI9 _x.2.2.1
  have zW := _x.2.2.2
  clear _x
  generalize World.alloc (World.alloc w _) _ = W at *
  have tok3 : True := trivial
  go_wp2_with (first | (have _t := tok; refine wpl_row rfl 29 _ rfl _ rfl _ 14 HX.out Tryz.rowMet rfl ?_; simp only [Act.put]; clear tok) | (have _t := tok3; refine wpl_row rfl 29 _ rfl _ rfl _ 14 HX.out Tryz.rowMet rfl ?_; simp only [Act.put]; clear tok3) | (have _t := tok2; refine wpl_row rfl 37 (.tmp 5) rfl _ rfl _ 5 HF.out Tryz.rowFli rfl ?_; simp only [Act.put]; clear tok2) | (go_at_call 6; (with_reducible refine (HNN.out _ (HM.out.below HB.out) (HL.out.below HB.out)).mono ?_); rintro e w1 ⟨rfl, hb1⟩; have nHX := hI9 (HX.out.below hb1); have nHF := hI9 (HF.out.below hb1); have nHB := hI9 (bthen HB.out hb1); have zz1 := hb1.size; clear HX HF HB hb1; have HX := nHX; have HF := nHF; have HB := nHB; clear nHX nHF nHB) | (go_at_call 26; (with_reducible refine (HRI.out _ (HL.out.below HB.out) (HR.out.below HB.out)).mono ?_); rintro e w1 ⟨rfl, hb1⟩; have nHX := hI9 (HX.out.below hb1); have nHF := hI9 (HF.out.below hb1); have nHB := hI9 (bthen HB.out hb1); have zz1 := hb1.size; clear HX HF HB hb1; have HX := nHX; have HF := nHF; have HB := nHB; clear nHX nHF nHB))
  go_ret
  exact ⟨by rw [HH.out]; rfl, HB.out⟩
end Go.Proofs.YtlabfpjlckdmfaaGreat

namespace Go.Proofs.YtlabfpjlckdmfaaGreat
open Go Go.RowKit Go.Proofs
set_option maxRecDepth 100000
set_option maxHeartbeats 8000000
def ArrRes (E : Int) (w : World) (v : Value) (F : FliD) (lt : Tab) : Prop := (E = 0 → SlI w v F.m (F.at_ lt)) ∧ (E ≠ 0 → v = .slice none 0 0)
def TabV (w : World) (v : Value) (P : Nat) (t : Tab) : Prop := ∃ g c lo hi r, v = .slice (some ⟨g, 0, none⟩) P c ∧ Sq w 3 lo hi g r P t
theorem TabV.below {w w' : World} {v : Value} {P : Nat} {t : Tab} (h : TabV w v P t) (hb : RowKit.Below w.heap.size w w') : TabV w' v P t := by
 obtain ⟨g, c, lo, hi, r, e, h⟩ := h
 exact ⟨g, c, lo, hi, r, e, h.below hb⟩
theorem r5Arrive_c (M : MetD) (vF vS : Value) (A : Option Addr) (n c : Nat) (S : Tab) (F : FliD) (vR : Value) (w : World) (hM : MetAt w vF vS M) (hc1 : n ≤ c) (hc2 : c ≤ 9223372036854775807) (hL : RecsAt w A n 3 (nV S)) (hR : SlI w vR F.m F.R) :
  Calls Tryz.prog 27 #[.agg #[.int .i64 M.places, .int .i64 M.any.a0, .int .i64 M.any.a1, .int .i64 M.any.a2, .int .i64 M.any.a3, .int .i64 M.any.a4, .int .i64 M.any.a5, .bool M.any.i, .bool M.any.s, .int .i64 M.mw, .int .i64 M.ms, .int .i64 M.mc, vF, vS], .slice A n c, .agg #[vR, .int .i64 F.dep, .int .i64 F.fuel, .int .i64 F.burn, .int .i64 F.res]] w fun e w' => ∃ v, e = .returned (.tuple #[v, .int .i64 (nfE (netE M S n) M S n F)]) ∧ RowKit.Below w.heap.size w w' ∧ ArrRes (nfE (netE M S n) M S n F) w' v F (lgT S n) := by
 have HM := hI9 hM
 have HL := hI9 hL
 have HR := hI9 hR
 clear hM hL hR
 have HNN := hI9 (fun w1 h1 h2 h3 => r5Check_c M vF vS A n c S F vR w1 h1 hc1 hc2 h2 h3)
 obtain ⟨NE, hNE⟩ : ∃ q, q = nfE (netE M S n) M S n F := ⟨_, rfl⟩
 rw [← hNE] at HNN ⊢
 have tok : True := trivial
 have tok2 : True := trivial
 by_cases h0 : NE = 0
 case neg =>
  have hz : (NE != 0) = true := by simpa using h0
  have H0 := hI9 h0
  clear h0 hNE
  go_enter Tryz.func27, Tryz.ntmps27
  go_wp2_with (fail)
  have _x := frm2 w #[.int .i64 M.places, .int .i64 M.any.a0, .int .i64 M.any.a1, .int .i64 M.any.a2, .int .i64 M.any.a3, .int .i64 M.any.a4, .int .i64 M.any.a5, .bool M.any.i, .bool M.any.s, .int .i64 M.mw, .int .i64 M.ms, .int .i64 M.mc, vF, vS] 29 #[vR, .int .i64 F.dep, .int .i64 F.fuel, .int .i64 F.burn, .int .i64 F.res] 37
  have HX := hI9 _x.1
  have HF := hI9 _x.2.1
  have HB := hI9 _x.2.2.1
  have zW := _x.2.2.2
  clear _x
  generalize World.alloc (World.alloc w _) _ = W at *
  go_wp2_with (first | (have _t := tok; refine wpl_row rfl 29 (.tmp 3) rfl _ rfl _ 14 HX.out Tryz.rowMet rfl ?_; simp only [Act.put]; clear tok) | (have _t := tok2; refine wpl_row rfl 37 (.tmp 5) rfl _ rfl _ 5 HF.out Tryz.rowFli rfl ?_; simp only [Act.put]; clear tok2) | (go_at_call 10; (with_reducible refine (HNN.out _ (HM.out.below HB.out) (HL.out.below HB.out) (HR.out.below HB.out)).mono ?_); rintro e w1 ⟨rfl, hb1⟩; have nHX := hI9 (HX.out.below hb1); have nHF := hI9 (HF.out.below hb1); have nHB := hI9 (bthen HB.out hb1); have zz1 := hb1.size; clear HX HF HB hb1; have HX := nHX; have HF := nHF; have HB := nHB; clear nHX nHF nHB))
  go_ret2
  exact ⟨.slice none 0 0, rfl, HB.out, fun h => absurd h H0.out, fun _ => rfl⟩
 subst h0
 have hE : netE M S n = 0 ∧ F.okB M.places.toNat (lgT S n) = true := by
  unfold nfE at hNE
  by_cases h : netE M S n = 0
  ·rw [if_pos h] at hNE
   refine ⟨h, ?_⟩
   cases e : F.okB M.places.toNat (lgT S n)
   ·rw [e] at hNE; cases hNE
   ·rfl
  ·rw [if_neg h] at hNE; exact absurd hNE.symm h
 obtain ⟨f1, f2⟩ := netE_ok hE.1
 obtain ⟨f3, f4, f5, f6⟩ := net_facts f1 f2
 have hok := FliD.okB_iff.1 hE.2
 have hnu := FliD.nums_iff.1 hok.1
 have hlb := FliD.legB_iff.2 hok.2.1.2
 have hfl := fun w1 h1 h2 => r5flown_c A n c S M.places.toNat F vR w1 hc1 hc2 h1 h2 f6 hnu.1 hnu.2.1 hok.2.1.1
 rw [hlb] at hfl
 have HFL := hI9 hfl
 clear hfl hlb hnu hok f1 f2 f3 f4 f5 f6 hE hNE
 have tok3 : True := trivial
 go_enter Tryz.func27, Tryz.ntmps27
 go_wp2_with (fail)
 have _x := frm2 w #[.int .i64 M.places, .int .i64 M.any.a0, .int .i64 M.any.a1, .int .i64 M.any.a2, .int .i64 M.any.a3, .int .i64 M.any.a4, .int .i64 M.any.a5, .bool M.any.i, .bool M.any.s, .int .i64 M.mw, .int .i64 M.ms, .int .i64 M.mc, vF, vS] 29 #[vR, .int .i64 F.dep, .int .i64 F.fuel, .int .i64 F.burn, .int .i64 F.res] 37
 have HX := hI9 _x.1
 have HF := hI9 _x.2.1
 have HB := hI9 _x.2.2.1
 have zW := _x.2.2.2
 clear _x
 generalize World.alloc (World.alloc w _) _ = W at *
 go_wp2_with (first | (have _t := tok; refine wpl_row rfl 29 (.tmp 3) rfl _ rfl _ 14 HX.out Tryz.rowMet rfl ?_; simp only [Act.put]; clear tok) | (have _t := tok2; refine wpl_row rfl 37 (.tmp 5) rfl _ rfl _ 5 HF.out Tryz.rowFli rfl ?_; simp only [Act.put]; clear tok2) | (have _t := tok3; refine wpl_row rfl 37 (.tmp 5) rfl _ rfl _ 5 HF.out Tryz.rowFli rfl ?_; simp only [Act.put]; clear tok3) | (go_at_call 10; (with_reducible refine (HNN.out _ (HM.out.below HB.out) (HL.out.below HB.out) (HR.out.below HB.out)).mono ?_); rintro e w1 ⟨rfl, hb1⟩; have nHX := hI9 (HX.out.below hb1); have nHF := hI9 (HF.out.below hb1); have nHB := hI9 (bthen HB.out hb1); have zz1 := hb1.size; clear HX HF HB hb1; have HX := nHX; have HF := nHF; have HB := nHB; clear nHX nHF nHB))
 refine (HFL.out _ (HL.out.below HB.out) (HR.out.below HB.out)).mono ?_
 rintro e w2 ⟨v, rfl, hb2, hv⟩
 have hs := hv (by trivial)
 have HSA := hI9 hs
 obtain ⟨A2, c2, rfl, -⟩ := hs
 have HB2 := hI9 (bthen HB.out hb2)
 clear HB HX HF hb2 hv
 go_wp2_with (fail)
 go_ret2
 exact ⟨.slice A2 F.m c2, rfl, HB2.out, fun _ => HSA.out, fun h => absurd rfl h⟩
end Go.Proofs.YtlabfpjlckdmfaaGreat

namespace Go.Proofs.YtlabfpjlckdmfaaGreat
open Go Go.RowKit Go.Proofs
set_option maxRecDepth 100000
set_option maxHeartbeats 8000000
theorem rw_cutSky_c (x y : Sk) (w : World) (hx : x.ok) (hy : y.ok) :
  Calls Tryz.prog 125 #[.agg x.cells, .agg y.cells] w fun e w' => e = .returned (.tuple #[.agg (Sk.mk (x.cut y).a0 (x.cut y).a1 (x.cut y).a2 (x.cut y).a3 (x.cut y).a4 (x.cut y).a5 (x.i && y.i) (x.s && y.s)).cells, .bool (x.odd y)]) ∧ Below w.heap.size w w' := by
 obtain ⟨a0, a1, a2, a3, a4, a5, ai, as1⟩ := x
 obtain ⟨b0, b1, b2, b3, b4, b5, bi, bs⟩ := y
 obtain ⟨p1, p2, p3⟩ := hx
 obtain ⟨q1, q2, q3⟩ := hy
 have h1 := fun w1 => rw_cut_c a0 a1 b0 b1 w1 p1 q1
 have h2 := fun w1 => rw_cut_c a2 a3 b2 b3 w1 p2 q2
 have h3 := fun w1 => rw_cut_c a4 a5 b4 b5 w1 p3 q3
 clear p1 p2 p3 q1 q2 q3
 unfold Sk.cut Sk.odd skF Sk.cells
 dsimp only
 generalize cuL a0 a1 b0 b1 = l1 at *
 generalize cuH a0 a1 b0 b1 = g1 at *
 generalize cuF a0 a1 b0 b1 = F1 at *
 generalize cuL a2 a3 b2 b3 = l2 at *
 generalize cuH a2 a3 b2 b3 = g2 at *
 generalize cuF a2 a3 b2 b3 = F2 at *
 generalize cuL a4 a5 b4 b5 = l3 at *
 generalize cuH a4 a5 b4 b5 = g3 at *
 generalize cuF a4 a5 b4 b5 = F3 at *
 have H1 := hI9 h1
 have H2 := hI9 h2
 have H3 := hI9 h3
 clear h1 h2 h3
 go_enter Tryz.func125, Tryz.ntmps125
 go_wp2_with (fail)
 have _x := frm3 w #[.int .i64 a0, .int .i64 a1, .int .i64 a2, .int .i64 a3, .int .i64 a4, .int .i64 a5, .bool ai, .bool as1] 25 #[.int .i64 b0, .int .i64 b1, .int .i64 b2, .int .i64 b3, .int .i64 b4, .int .i64 b5, .bool bi, .bool bs] 25 #[.int .i64 0, .int .i64 0, .int .i64 0, .int .i64 0, .int .i64 0, .int .i64 0, .bool false, .bool false] 25
 have HX := hI9 _x.1
 have HY := hI9 _x.2.1
 have HR := hI9 _x.2.2.1
 have HB := hI9 _x.2.2.2.1
 have zW := _x.2.2.2.2
 clear _x
 generalize World.alloc (World.alloc (World.alloc w _) _) _ = W at *
 have zHX := HX.out.lt
 have cHX0 := HX.out.cell 0
 have cHX1 := HX.out.cell 1
 have zHY := HY.out.lt
 have cHY0 := HY.out.cell 0
 have cHY1 := HY.out.cell 1
 go_wp2_with (fail)
 refine (H1.out _).mono ?_
 rintro e w1 ⟨rfl, hb1⟩
 have nHX := hI9 (HX.out.below hb1)
 have nHY := hI9 (HY.out.below hb1)
 have nHR := hI9 (HR.out.below hb1)
 have nHB := hI9 (bthen HB.out hb1)
 clear HX HY HR HB hb1
 have HX := nHX
 have HY := nHY
 have HR := nHR
 have HB := nHB
 clear nHX nHY nHR nHB
 have zHX := HX.out.lt
 have cHX2 := HX.out.cell 2
 have cHX3 := HX.out.cell 3
 have zHY := HY.out.lt
 have cHY2 := HY.out.cell 2
 have cHY3 := HY.out.cell 3
 go_wp2_with (fail)
 have bHP := Blk.new w1 23 #[.int .i64 l1, .int .i64 g1]
 have nHX := hI9 (HX.out.alloc (.cells #[.int .i64 l1, .int .i64 g1] 23))
 have nHY := hI9 (HY.out.alloc (.cells #[.int .i64 l1, .int .i64 g1] 23))
 have nHR := hI9 (HR.out.alloc (.cells #[.int .i64 l1, .int .i64 g1] 23))
 have nHB := hI9 (bal HB.out (.cells #[.int .i64 l1, .int .i64 g1] 23))
 clear HX HY HR HB
 have HX := nHX
 have HY := nHY
 have HR := nHR
 have HB := nHB
 clear nHX nHY nHR nHB
 generalize w1.alloc (.cells #[.int .i64 l1, .int .i64 g1] 23) = W2 at *
 generalize w1.heap.size = gHP at *
 have HP := hI9 bHP
 clear bHP
 refine (H2.out _).mono ?_
 rintro e w1 ⟨rfl, hb1⟩
 have nHX := hI9 (HX.out.below hb1)
 have nHY := hI9 (HY.out.below hb1)
 have nHR := hI9 (HR.out.below hb1)
 have nHP := hI9 (HP.out.below hb1)
 have nHB := hI9 (bthen HB.out hb1)
 clear HX HY HR HP HB hb1
 have HX := nHX
 have HY := nHY
 have HR := nHR
 have HP := nHP
 have HB := nHB
 clear nHX nHY nHR nHP nHB
 have zHX := HX.out.lt
 have cHX4 := HX.out.cell 4
 have cHX5 := HX.out.cell 5
 have zHY := HY.out.lt
 have cHY4 := HY.out.cell 4
 have cHY5 := HY.out.cell 5
 go_wp2_with (fail)
 have bHQ := Blk.new w1 23 #[.int .i64 l2, .int .i64 g2]
 have nHX := hI9 (HX.out.alloc (.cells #[.int .i64 l2, .int .i64 g2] 23))
 have nHY := hI9 (HY.out.alloc (.cells #[.int .i64 l2, .int .i64 g2] 23))
 have nHR := hI9 (HR.out.alloc (.cells #[.int .i64 l2, .int .i64 g2] 23))
 have nHP := hI9 (HP.out.alloc (.cells #[.int .i64 l2, .int .i64 g2] 23))
 have nHB := hI9 (bal HB.out (.cells #[.int .i64 l2, .int .i64 g2] 23))
 clear HX HY HR HP HB
 have HX := nHX
 have HY := nHY
 have HR := nHR
 have HP := nHP
 have HB := nHB
 clear nHX nHY nHR nHP nHB
 generalize w1.alloc (.cells #[.int .i64 l2, .int .i64 g2] 23) = W2 at *
 generalize w1.heap.size = gHQ at *
 have HQ := hI9 bHQ
 clear bHQ
 refine (H3.out _).mono ?_
 rintro e w1 ⟨rfl, hb1⟩
 have nHX := hI9 (HX.out.below hb1)
 have nHY := hI9 (HY.out.below hb1)
 have nHR := hI9 (HR.out.below hb1)
 have nHP := hI9 (HP.out.below hb1)
 have nHQ := hI9 (HQ.out.below hb1)
 have nHB := hI9 (bthen HB.out hb1)
 clear HX HY HR HP HQ HB hb1
 have HX := nHX
 have HY := nHY
 have HR := nHR
 have HP := nHP
 have HQ := nHQ
 have HB := nHB
 clear nHX nHY nHR nHP nHQ nHB
 have zR := HR.out.lt
 have zP := HP.out.lt
 have zQ := HQ.out.lt
 have zX := HX.out.lt
 have zY := HY.out.lt
 have x6 := HX.out.cell 6
 have x7 := HX.out.cell 7
 have y6 := HY.out.cell 6
 have y7 := HY.out.cell 7
 have p0 := HP.out.cell 0
 have p1 := HP.out.cell 1
 have q0 := HQ.out.cell 0
 have q1 := HQ.out.cell 1
 simp only [gtA, gtS, gtZ] at x6 x7 y6 y7 p0 p1 q0 q1
 cases ai <;> cases as1 <;> cases F1 <;> cases F2
 all_goals
  go_wp2_with (first | (refine wpList_store_row rfl 25 (.tmp 4) (.tmp 51) rfl (w.heap.size + 1 + 1) _ rfl rfl 25 #[.int .i64 0, .int .i64 0, .int .i64 0, .int .i64 0, .int .i64 0, .int .i64 0, .bool false, .bool false] (HR.out.alloc _) Tryz.sizeSky rfl (oneS _ _ _ _ _ _ _ _) ?_; simp only [Act.put]))
  exact bodyPost_ret (res_ct rfl _ _ _ 8 rfl (setRow_heap _ _ _ _ _ _ (HR.out.alloc _)) Tryz.rowSky rfl) rfl ⟨rfl, rowBelow (bal HB.out _) (by omega) _⟩
end Go.Proofs.YtlabfpjlckdmfaaGreat
