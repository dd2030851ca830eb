/- Contracts: the reference's right, Check, Arrive of routes. -/
import Derived.Test.YtonfnhonbnfdoaaGreatNaI
set_option linter.all false
namespace Go.Proofs.YtonfnhonbnfdoaaGreat
open Go Go.RowKit Go.Proofs
set_option maxRecDepth 100000
set_option maxHeartbeats 8000000
theorem r5right_c (M : MetD) (vF vS : Value) (A : Option Addr) (n c : Nat) (S : Tab) (P : Nat) (F : FliD) (vR : Value) (w : World) (hc1 : n ≤ c) (hc2 : c ≤ 9223372036854775807) (hL : RecsAt w A n 3 (nV S)) (hR : SlI w vR F.m F.R) (hN : NetOk P S n) (hP : M.places = P) (hp8 : 1 ≤ P ∧ P ≤ 8) :
   Calls Tryz.prog 33 #[.agg #[.int .i64 M.places, .int .i64 M.any.a0, .int .i64 M.any.a1, .int .i64 M.any.a2, .int .i64 M.any.a3, .int .i64 M.any.a4, .int .i64 M.any.a5, .bool M.any.i, .bool M.any.s, .int .i64 M.mw, .int .i64 M.ms, .int .i64 M.mc, vF, vS], .slice A n c, .agg #[vR, .int .i64 F.dep, .int .i64 F.fuel, .int .i64 F.burn, .int .i64 F.res]] w fun e w' => e = .returned (.bool (F.okB P (lgT S n))) ∧ RowKit.Below w.heap.size w w' := by
  have HL := Lib.hid hL
  have HR0 := Lib.hid hR
  have HNK := Lib.hid hN
  have HP := Lib.hid hP
  obtain ⟨AR, cR, rfl, r1, r2, hR⟩ := hR
  have HR := Lib.hid hR
  clear hL hN hR hP
  obtain ⟨Q, hQ⟩ : ∃ q, q = F.okB P (lgT S n) := ⟨_, rfl⟩
  rw [← hQ]
  have HQ := Lib.hid hQ
  clear hQ
  cases b1 : inB (F.m : Int) 1 8
  case false =>
    have HNO := Lib.hid (show Q = false from HQ.out.trans (by
      cases e : F.okB P (lgT S n)
      · rfl
      · have := (FliD.okB_iff.1 e).1; unfold FliD.nums at this; simp [b1] at this))
    go_enter Tryz.func33, Tryz.ntmps33
    go_wp2_with (fail)
    have _x := frm2 w #[.int .i64 M.places, .int .i64 M.any.a0, .int .i64 M.any.a1, .int .i64 M.any.a2, .int .i64 M.any.a3, .int .i64 M.any.a4, .int .i64 M.any.a5, .bool M.any.i, .bool M.any.s, .int .i64 M.mw, .int .i64 M.ms, .int .i64 M.mc, vF, vS] 29 #[(.slice AR F.m cR), .int .i64 F.dep, .int .i64 F.fuel, .int .i64 F.burn, .int .i64 F.res] 37
    have HX := Lib.hid _x.1
    have HF := Lib.hid _x.2.1
    have HB := Lib.hid _x.2.2.1
    have zW := _x.2.2.2
    clear _x
    generalize World.alloc (World.alloc w _) _ = W at *
    have hx0 := HF.out.cell 0
    have hx1 := HF.out.cell 1
    have hx2 := HF.out.cell 2
    have hx3 := HF.out.cell 3
    have hx4 := HF.out.cell 4
    simp only [List.getElem?_toArray, List.getElem?_cons_succ, List.getElem?_cons_zero] at hx0 hx1 hx2 hx3 hx4
    go_wp2_with (first | (go_at_call 49; (with_reducible refine (r5within_c _ _ _ _).mono ?_); rintro e w1 ⟨rfl, rfl⟩))
    go_ret
    exact ⟨by rw [HNO.out]; rfl, HB.out⟩
  cases b2 : inB F.dep 0 2000
  case false =>
    have HNO := Lib.hid (show Q = false from HQ.out.trans (by
      cases e : F.okB P (lgT S n)
      · rfl
      · have := (FliD.okB_iff.1 e).1; unfold FliD.nums at this; simp [b2] at this))
    go_enter Tryz.func33, Tryz.ntmps33
    go_wp2_with (fail)
    have _x := frm2 w #[.int .i64 M.places, .int .i64 M.any.a0, .int .i64 M.any.a1, .int .i64 M.any.a2, .int .i64 M.any.a3, .int .i64 M.any.a4, .int .i64 M.any.a5, .bool M.any.i, .bool M.any.s, .int .i64 M.mw, .int .i64 M.ms, .int .i64 M.mc, vF, vS] 29 #[(.slice AR F.m cR), .int .i64 F.dep, .int .i64 F.fuel, .int .i64 F.burn, .int .i64 F.res] 37
    have HX := Lib.hid _x.1
    have HF := Lib.hid _x.2.1
    have HB := Lib.hid _x.2.2.1
    have zW := _x.2.2.2
    clear _x
    generalize World.alloc (World.alloc w _) _ = W at *
    have hx0 := HF.out.cell 0
    have hx1 := HF.out.cell 1
    have hx2 := HF.out.cell 2
    have hx3 := HF.out.cell 3
    have hx4 := HF.out.cell 4
    simp only [List.getElem?_toArray, List.getElem?_cons_succ, List.getElem?_cons_zero] at hx0 hx1 hx2 hx3 hx4
    go_wp2_with (first | (go_at_call 49; (with_reducible refine (r5within_c _ _ _ _).mono ?_); rintro e w1 ⟨rfl, rfl⟩))
    go_ret
    exact ⟨by rw [HNO.out]; rfl, HB.out⟩
  cases b3 : inB F.fuel 0 100000
  case false =>
    have HNO := Lib.hid (show Q = false from HQ.out.trans (by
      cases e : F.okB P (lgT S n)
      · rfl
      · have := (FliD.okB_iff.1 e).1; unfold FliD.nums at this; simp [b3] at this))
    go_enter Tryz.func33, Tryz.ntmps33
    go_wp2_with (fail)
    have _x := frm2 w #[.int .i64 M.places, .int .i64 M.any.a0, .int .i64 M.any.a1, .int .i64 M.any.a2, .int .i64 M.any.a3, .int .i64 M.any.a4, .int .i64 M.any.a5, .bool M.any.i, .bool M.any.s, .int .i64 M.mw, .int .i64 M.ms, .int .i64 M.mc, vF, vS] 29 #[(.slice AR F.m cR), .int .i64 F.dep, .int .i64 F.fuel, .int .i64 F.burn, .int .i64 F.res] 37
    have HX := Lib.hid _x.1
    have HF := Lib.hid _x.2.1
    have HB := Lib.hid _x.2.2.1
    have zW := _x.2.2.2
    clear _x
    generalize World.alloc (World.alloc w _) _ = W at *
    have hx0 := HF.out.cell 0
    have hx1 := HF.out.cell 1
    have hx2 := HF.out.cell 2
    have hx3 := HF.out.cell 3
    have hx4 := HF.out.cell 4
    simp only [List.getElem?_toArray, List.getElem?_cons_succ, List.getElem?_cons_zero] at hx0 hx1 hx2 hx3 hx4
    go_wp2_with (first | (go_at_call 49; (with_reducible refine (r5within_c _ _ _ _).mono ?_); rintro e w1 ⟨rfl, rfl⟩))
    go_ret
    exact ⟨by rw [HNO.out]; rfl, HB.out⟩
  cases b4 : inB F.res 0 100000
  case false =>
    have HNO := Lib.hid (show Q = false from HQ.out.trans (by
      cases e : F.okB P (lgT S n)
      · rfl
      · have := (FliD.okB_iff.1 e).1; unfold FliD.nums at this; simp [b4] at this))
    go_enter Tryz.func33, Tryz.ntmps33
    go_wp2_with (fail)
    have _x := frm2 w #[.int .i64 M.places, .int .i64 M.any.a0, .int .i64 M.any.a1, .int .i64 M.any.a2, .int .i64 M.any.a3, .int .i64 M.any.a4, .int .i64 M.any.a5, .bool M.any.i, .bool M.any.s, .int .i64 M.mw, .int .i64 M.ms, .int .i64 M.mc, vF, vS] 29 #[(.slice AR F.m cR), .int .i64 F.dep, .int .i64 F.fuel, .int .i64 F.burn, .int .i64 F.res] 37
    have HX := Lib.hid _x.1
    have HF := Lib.hid _x.2.1
    have HB := Lib.hid _x.2.2.1
    have zW := _x.2.2.2
    clear _x
    generalize World.alloc (World.alloc w _) _ = W at *
    have hx0 := HF.out.cell 0
    have hx1 := HF.out.cell 1
    have hx2 := HF.out.cell 2
    have hx3 := HF.out.cell 3
    have hx4 := HF.out.cell 4
    simp only [List.getElem?_toArray, List.getElem?_cons_succ, List.getElem?_cons_zero] at hx0 hx1 hx2 hx3 hx4
    go_wp2_with (first | (go_at_call 49; (with_reducible refine (r5within_c _ _ _ _).mono ?_); rintro e w1 ⟨rfl, rfl⟩))
    go_ret
    exact ⟨by rw [HNO.out]; rfl, HB.out⟩
  cases b5 : inB F.burn 1 100000
  case false =>
    have HNO := Lib.hid (show Q = false from HQ.out.trans (by
      cases e : F.okB P (lgT S n)
      · rfl
      · have := (FliD.okB_iff.1 e).1; unfold FliD.nums at this; simp [b5] at this))
    go_enter Tryz.func33, Tryz.ntmps33
    go_wp2_with (fail)
    have _x := frm2 w #[.int .i64 M.places, .int .i64 M.any.a0, .int .i64 M.any.a1, .int .i64 M.any.a2, .int .i64 M.any.a3, .int .i64 M.any.a4, .int .i64 M.any.a5, .bool M.any.i, .bool M.any.s, .int .i64 M.mw, .int .i64 M.ms, .int .i64 M.mc, vF, vS] 29 #[(.slice AR F.m cR), .int .i64 F.dep, .int .i64 F.fuel, .int .i64 F.burn, .int .i64 F.res] 37
    have HX := Lib.hid _x.1
    have HF := Lib.hid _x.2.1
    have HB := Lib.hid _x.2.2.1
    have zW := _x.2.2.2
    clear _x
    generalize World.alloc (World.alloc w _) _ = W at *
    have hx0 := HF.out.cell 0
    have hx1 := HF.out.cell 1
    have hx2 := HF.out.cell 2
    have hx3 := HF.out.cell 3
    have hx4 := HF.out.cell 4
    simp only [List.getElem?_toArray, List.getElem?_cons_succ, List.getElem?_cons_zero] at hx0 hx1 hx2 hx3 hx4
    go_wp2_with (first | (go_at_call 49; (with_reducible refine (r5within_c _ _ _ _).mono ?_); rintro e w1 ⟨rfl, rfl⟩))
    go_ret
    exact ⟨by rw [HNO.out]; rfl, HB.out⟩
  have HNU := Lib.hid (show F.nums = true by unfold FliD.nums; rw [b1, b2, b3, b4, b5]; rfl)
  go_enter Tryz.func33, Tryz.ntmps33
  go_wp2_with (fail)
  have _x := frm2 w #[.int .i64 M.places, .int .i64 M.any.a0, .int .i64 M.any.a1, .int .i64 M.any.a2, .int .i64 M.any.a3, .int .i64 M.any.a4, .int .i64 M.any.a5, .bool M.any.i, .bool M.any.s, .int .i64 M.mw, .int .i64 M.ms, .int .i64 M.mc, vF, vS] 29 #[(.slice AR F.m cR), .int .i64 F.dep, .int .i64 F.fuel, .int .i64 F.burn, .int .i64 F.res] 37
  have HX := Lib.hid _x.1
  have HF := Lib.hid _x.2.1
  have HB := Lib.hid _x.2.2.1
  have zW := _x.2.2.2
  clear _x
  generalize World.alloc (World.alloc w _) _ = W at *
  have hx0 := HF.out.cell 0
  have hx1 := HF.out.cell 1
  have hx2 := HF.out.cell 2
  have hx3 := HF.out.cell 3
  have hx4 := HF.out.cell 4
  simp only [List.getElem?_toArray, List.getElem?_cons_succ, List.getElem?_cons_zero] at hx0 hx1 hx2 hx3 hx4
  go_wp2_with (first | (go_at_call 49; (with_reducible refine (r5within_c _ _ _ _).mono ?_); rintro e w1 ⟨rfl, rfl⟩))
  have hnu := FliD.nums_iff.1 HNU.out
  clear b1 b2 b3 b4 b5 hx0 hx1 hx2 hx3 hx4
  go_loopg [7] F.m (fun gy iv wr => ∃ i : Nat, iv = .int .i64 i ∧ i ≤ F.m ∧ F.m - i ≤ gy ∧ Hid (∀ j, j < i → 0 ≤ F.R j ∧ F.R j < P) ∧ Hid (RowKit.Below w.heap.size w wr) ∧ Hid (Blk wr w.heap.size 29 #[.int .i64 M.places, .int .i64 M.any.a0, .int .i64 M.any.a1, .int .i64 M.any.a2, .int .i64 M.any.a3, .int .i64 M.any.a4, .int .i64 M.any.a5, .bool M.any.i, .bool M.any.s, .int .i64 M.mw, .int .i64 M.ms, .int .i64 M.mc, vF, vS]) ∧ Hid (Blk wr (w.heap.size + 1) 37 #[.slice AR F.m cR, .int .i64 F.dep, .int .i64 F.fuel, .int .i64 F.burn, .int .i64 F.res]))
  case atStart => exact ⟨0, rfl, Nat.zero_le _, Nat.le_refl _, Lib.hid (fun j hj => by omega), HB, HX, HF⟩
  case round =>
    clear HB HX HF
    obtain ⟨i, rfl, hi, hgy, HA, HB, HX, HF⟩ := hrel
    have hx0 := HF.out.cell 0
    have hm0 := HX.out.cell 0
    simp only [List.getElem?_toArray, List.getElem?_cons_zero] at hx0 hm0
    by_cases hlt : i < F.m
    case pos =>
      have hltz : (i : Int) < (F.m : Int) := by omega
      obtain ⟨bR, oR, rfl, hbR, hcR⟩ := HR.out (by omega)
      have cr : wr.cell? ⟨bR, oR + i, none⟩ = some (.int .i64 (F.R i)) := (HB.out.cell (p := ⟨bR, oR + i, none⟩) hbR).trans (by have := hcR i hlt 0 (by omega); rw [Nat.mul_one, Nat.add_zero] at this; exact this)
      rw [HP.out] at hm0
      have hpw : IntKind.i64.wrap ((P : Int) - 1) = (P : Int) - 1 := by rw [IntKind.wrap_i64]; omega
      clear hcR
      cases q1 : inB (F.R i) 0 ((P : Int) - 1)
      case false =>
        have HNO := Lib.hid (show Q = false from HQ.out.trans (by
          cases e : F.okB P (lgT S n)
          · rfl
          · have := (FliD.okB_iff.1 e).2.1.1 i hlt
            have q2 : ¬ inB (F.R i) 0 ((P : Int) - 1) = true := by rw [q1]; decide
            rw [inB_iff] at q2
            omega))
        go_wp2
        go_quiet ((go_at_call 49; (with_reducible refine qsame (r5within_c _ _ _ _))))
        have HB2 := Lib.hid (bdn HB.out nq)
        clear HB HX HF hx0 hm0 cr
        generalize wr.drewN nq = wr at *
        go_wp2_with (fail)
        go_ret
        exact ⟨by rw [HNO.out]; rfl, HB2.out⟩
      have q2 := inB_iff.1 q1
      go_wp2
      go_quiet ((go_at_call 49; (with_reducible refine qsame (r5within_c _ _ _ _))))
      have nB := Lib.hid (bdn HB.out nq)
      have nX := Lib.hid (HX.out.below (bdn (RowKit.Below.refl _ _) nq))
      have nF := Lib.hid (HF.out.below (bdn (RowKit.Below.refl _ _) nq))
      clear HB HX HF hx0 hm0 cr
      generalize wr.drewN nq = wr at *
      have HA2 := Lib.hid (show ∀ j, j < i + 1 → 0 ≤ F.R j ∧ F.R j < P from fun j hj => by
        by_cases e : j = i
        · subst e; omega
        · exact HA.out j (by omega))
      go_wp2_with (fail)
      go_roundg (F.m - (i + 1))
      case measure => omega
      case rel => exact ⟨i + 1, by first | rfl | go_num | (congr 1; omega), by omega, Nat.le_refl _, HA2, nB, nX, nF⟩
    have him : i = F.m := by omega
    have hnl : ¬ (i : Int) < (F.m : Int) := by omega
    have HAM := Lib.hid (show ∀ j, j < F.m → 0 ≤ F.R j ∧ F.R j < P from him ▸ HA.out)
    clear HA him
    go_wp2_with (refine wpl_row rfl 37 (.tmp 5) rfl _ rfl #[.slice AR F.m cR, .int .i64 F.dep, .int .i64 F.fuel, .int .i64 F.burn, .int .i64 F.res] 5 HF.out Tryz.rowFli rfl ?_; simp only [Act.put])
    refine (r5flown_c A n c S P F (.slice AR F.m cR) _ hc1 hc2 (HL.out.below HB.out) (HR0.out.below HB.out) HNK.out hnu.1 hnu.2.1 HAM.out).mono ?_
    rintro e w2 ⟨v, rfl, hb2, hsl⟩
    have HB2 := Lib.hid (bthen HB.out hb2)
    clear HB HX HF hx0 hm0 hb2
    cases hlb : F.legB (lgT S n)
    case false =>
      have HNO := Lib.hid (show Q = false from HQ.out.trans (by
        cases e : F.okB P (lgT S n)
        · rfl
        · have := FliD.legB_iff.2 (FliD.okB_iff.1 e).2.1.2
          rw [hlb] at this; cases this))
      clear hlb hsl
      go_wp2_with (fail)
      go_ret
      exact ⟨by rw [HNO.out]; rfl, HB2.out⟩
    obtain ⟨A2, c2, rfl, e2, e3, e4⟩ := hsl hlb
    obtain ⟨b2, o2, rfl, hb2, hc2'⟩ := e4 (by omega)
    have HFW := Lib.hid (FliD.legB_iff.1 hlb)
    clear hlb hsl e4
    obtain ⟨m, hm⟩ : ∃ m, F.m = m + 1 := ⟨F.m - 1, by omega⟩
    have cl : w2.cell? ⟨b2, o2 + m, none⟩ = some (.int .i64 (F.at_ (lgT S n) m)) := by have := hc2' m (by omega) 0 (by omega); rw [Nat.mul_one, Nat.add_zero] at this; exact this
    have HO := Lib.hid (show Q = decide (F.at_ (lgT S n) m ≤ 2000) from HQ.out.trans (by
      by_cases h : F.at_ (lgT S n) m ≤ 2000
      · rw [decide_eq_true h]
        exact FliD.okB_iff.2 ⟨HNU.out, ⟨HAM.out, HFW.out⟩, by rw [show F.m - 1 = m by omega]; exact h⟩
      · rw [decide_eq_false h]
        cases e : F.okB P (lgT S n)
        · rfl
        · have := (FliD.okB_iff.1 e).2.2
          rw [show F.m - 1 = m by omega] at this
          exact absurd this h))
    have hmz : IntKind.i64.wrap ((F.m : Int) - 1) = (m : Int) := by rw [IntKind.wrap_i64]; omega
    have hmz2 : (m : Int) < (F.m : Int) := by omega
    clear hc2' hm
    generalize F.at_ (lgT S n) m = D at *
    by_cases h : D ≤ 2000
    · have HNO := Lib.hid (HO.out.trans (decide_eq_true h))
      go_wp2_with (fail)
      go_ret
      exact ⟨by rw [HNO.out]; rfl, HB2.out⟩
    · go_wp2_with (fail)
      go_ret
      exact ⟨by rw [HO.out]; rfl, HB2.out⟩
theorem r5Check_c (M : MetD) (vF vS : Value) (A : Option Addr) (n c : Nat) (S : Tab) (F : FliD) (vR : Value) (w : World) (hM : MetAt w vF vS M) (hc1 : n ≤ c) (hc2 : c ≤ 9223372036854775807) (hL : RecsAt w A n 3 (nV S)) (hR : SlI w vR F.m F.R) :
   Calls Tryz.prog 10 #[.agg #[.int .i64 M.places, .int .i64 M.any.a0, .int .i64 M.any.a1, .int .i64 M.any.a2, .int .i64 M.any.a3, .int .i64 M.any.a4, .int .i64 M.any.a5, .bool M.any.i, .bool M.any.s, .int .i64 M.mw, .int .i64 M.ms, .int .i64 M.mc, vF, vS], .slice A n c, .agg #[vR, .int .i64 F.dep, .int .i64 F.fuel, .int .i64 F.burn, .int .i64 F.res]] w fun e w' => e = .returned (.int .i64 (nfE (netE M S n) M S n F)) ∧ RowKit.Below w.heap.size w w' := by
  have HM := Lib.hid hM
  have HL := Lib.hid hL
  have HR := Lib.hid hR
  clear hM hL hR
  have hnn := fun w1 h1 h2 => r5CheckNet_c M vF vS A n c S w1 h1 hc1 hc2 h2
  obtain ⟨E, hE⟩ : ∃ q, q = netE M S n := ⟨_, rfl⟩
  obtain ⟨NE, hNE⟩ : ∃ q, q = nfE E M S n F := ⟨_, rfl⟩
  rw [← hE] at hnn ⊢
  rw [← hNE]
  have HNN := Lib.hid hnn
  clear hnn
  unfold nfE at hNE
  have tok : True := trivial
  by_cases h0 : E = 0
  case neg =>
    rw [if_neg h0] at hNE
    have hz : (E != 0) = true := by simpa using h0
    have HH := Lib.hid hNE
    clear hNE h0 hE
    go_enter Tryz.func10, Tryz.ntmps10
    go_wp2_with (fail)
    have _x := frm2 w #[.int .i64 M.places, .int .i64 M.any.a0, .int .i64 M.any.a1, .int .i64 M.any.a2, .int .i64 M.any.a3, .int .i64 M.any.a4, .int .i64 M.any.a5, .bool M.any.i, .bool M.any.s, .int .i64 M.mw, .int .i64 M.ms, .int .i64 M.mc, vF, vS] 29 #[vR, .int .i64 F.dep, .int .i64 F.fuel, .int .i64 F.burn, .int .i64 F.res] 37
    have HX := Lib.hid _x.1
    have HF := Lib.hid _x.2.1
    have HB := Lib.hid _x.2.2.1
    have zW := _x.2.2.2
    clear _x
    generalize World.alloc (World.alloc w _) _ = W at *
    go_wp2_with (first | (have _t := tok; refine wpl_row rfl 29 _ rfl _ rfl #[.int .i64 M.places, .int .i64 M.any.a0, .int .i64 M.any.a1, .int .i64 M.any.a2, .int .i64 M.any.a3, .int .i64 M.any.a4, .int .i64 M.any.a5, .bool M.any.i, .bool M.any.s, .int .i64 M.mw, .int .i64 M.ms, .int .i64 M.mc, vF, vS] 14 HX.out Tryz.rowMet rfl ?_; simp only [Act.put]; clear tok) | (go_at_call 17; (with_reducible refine (HNN.out _ (HM.out.below HB.out) (HL.out.below HB.out)).mono ?_); rintro e w1 ⟨rfl, hb1⟩; have nHX := Lib.hid (HX.out.below hb1); have nHF := Lib.hid (HF.out.below hb1); have nHB := Lib.hid (bthen HB.out hb1); have zz1 := hb1.size; clear HX HF HB hb1; have HX := nHX; have HF := nHF; have HB := nHB; clear nHX nHF nHB))
    go_ret
    exact ⟨by rw [HH.out]; rfl, HB.out⟩
  rw [if_pos h0] at hNE
  subst h0
  obtain ⟨f1, f2⟩ := netE_ok hE.symm
  obtain ⟨f3, f4, f5, f6⟩ := net_facts f1 f2
  have HRI := Lib.hid (fun w1 h1 h2 => r5right_c M vF vS A n c S M.places.toNat F vR w1 hc1 hc2 h1 h2 f6 f3 f4)
  clear hE f1 f2 f3 f4 f5 f6
  have tok2 : True := trivial
  cases hok : F.okB M.places.toNat (lgT S n)
  all_goals
    rw [hok] at hNE HRI
    have HH := Lib.hid hNE
    clear hNE hok
    go_enter Tryz.func10, Tryz.ntmps10
    go_wp2_with (fail)
    have _x := frm2 w #[.int .i64 M.places, .int .i64 M.any.a0, .int .i64 M.any.a1, .int .i64 M.any.a2, .int .i64 M.any.a3, .int .i64 M.any.a4, .int .i64 M.any.a5, .bool M.any.i, .bool M.any.s, .int .i64 M.mw, .int .i64 M.ms, .int .i64 M.mc, vF, vS] 29 #[vR, .int .i64 F.dep, .int .i64 F.fuel, .int .i64 F.burn, .int .i64 F.res] 37
    have HX := Lib.hid _x.1
    have HF := Lib.hid _x.2.1
    have HB := Lib.hid _x.2.2.1
    have zW := _x.2.2.2
    clear _x
    generalize World.alloc (World.alloc w _) _ = W at *
    have tok3 : True := trivial
    go_wp2_with (first | (have _t := tok; refine wpl_row rfl 29 _ rfl _ rfl #[.int .i64 M.places, .int .i64 M.any.a0, .int .i64 M.any.a1, .int .i64 M.any.a2, .int .i64 M.any.a3, .int .i64 M.any.a4, .int .i64 M.any.a5, .bool M.any.i, .bool M.any.s, .int .i64 M.mw, .int .i64 M.ms, .int .i64 M.mc, vF, vS] 14 HX.out Tryz.rowMet rfl ?_; simp only [Act.put]; clear tok) | (have _t := tok3; refine wpl_row rfl 29 _ rfl _ rfl #[.int .i64 M.places, .int .i64 M.any.a0, .int .i64 M.any.a1, .int .i64 M.any.a2, .int .i64 M.any.a3, .int .i64 M.any.a4, .int .i64 M.any.a5, .bool M.any.i, .bool M.any.s, .int .i64 M.mw, .int .i64 M.ms, .int .i64 M.mc, vF, vS] 14 HX.out Tryz.rowMet rfl ?_; simp only [Act.put]; clear tok3) | (have _t := tok2; refine wpl_row rfl 37 (.tmp 5) rfl _ rfl #[vR, .int .i64 F.dep, .int .i64 F.fuel, .int .i64 F.burn, .int .i64 F.res] 5 HF.out Tryz.rowFli rfl ?_; simp only [Act.put]; clear tok2) | (go_at_call 17; (with_reducible refine (HNN.out _ (HM.out.below HB.out) (HL.out.below HB.out)).mono ?_); rintro e w1 ⟨rfl, hb1⟩; have nHX := Lib.hid (HX.out.below hb1); have nHF := Lib.hid (HF.out.below hb1); have nHB := Lib.hid (bthen HB.out hb1); have zz1 := hb1.size; clear HX HF HB hb1; have HX := nHX; have HF := nHF; have HB := nHB; clear nHX nHF nHB) | (go_at_call 33; (with_reducible refine (HRI.out _ (HL.out.below HB.out) (HR.out.below HB.out)).mono ?_); rintro e w1 ⟨rfl, hb1⟩; have nHX := Lib.hid (HX.out.below hb1); have nHF := Lib.hid (HF.out.below hb1); have nHB := Lib.hid (bthen HB.out hb1); have zz1 := hb1.size; clear HX HF HB hb1; have HX := nHX; have HF := nHF; have HB := nHB; clear nHX nHF nHB))
    go_ret
    exact ⟨by rw [HH.out]; rfl, HB.out⟩
end Go.Proofs.YtonfnhonbnfdoaaGreat
