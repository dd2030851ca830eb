/- Texts joined: JAP. -/
import Derived.Test.YtbgkbdhdkpjcdaaGreatJAM
import Derived.Test.YtbgkbdhdkpjcdaaGreatNbE
import Derived.Test.YtbgkbdhdkpjcdaaGreatJAB
import Derived.Deep.WholeRow
import Derived.OpenShut
import Derived.Deep.Slices
import Derived.ChangeArms
import Derived.ChangeSlices
import Derived.WideShapes
import Derived.Test.YtbgkbdhdkpjcdaaGreatRows
import Derived.WalkKit
import Derived.ProofKit
import Derived.Below
import Derived.Carry
import Derived.ChangeSame
set_option linter.all false
namespace Go.Proofs.YtbgkbdhdkpjcdaaGreat
open Go Go.RowKit Go.Proofs
set_option maxRecDepth 100000
set_option maxHeartbeats 8000000
/-- A slice of k rows of numbers. -/
def TabR (w : World) (v : Value) (k n : Nat) (t : Tab) : Prop := ∃ A c, v = .slice A k c ∧ ∀ i, i < k → ∃ b o A2 c2, A = some ⟨b, o, none⟩ ∧ b < w.heap.size ∧ w.cell? ⟨b, o + i, none⟩ = some (.slice A2 n c2) ∧ SlI w (.slice A2 n c2) n (t i)
theorem TabR.below {w w' : World} {v : Value} {k n : Nat} {t : Tab} (h : TabR w v k n t) (hb : RowKit.Below w.heap.size w w') : TabR w' v k n t := by
  obtain ⟨A, c, e, h⟩ := h
  refine ⟨A, c, e, fun i hi => ?_⟩
  obtain ⟨b, o, A2, c2, e1, e2, e3, e4⟩ := h i hi
  exact ⟨b, o, A2, c2, e1, by have := hb.size; omega, (hb.cell (p := ⟨b, o + i, none⟩) e2).trans e3, e4.below hb⟩
theorem TimRes.tab {E : Int} {w : World} {v : Value} {P : Nat} {t : Tab} (h : TimRes E w v P t) : TabR w v (if E = 0 then P else 0) P t := by
  by_cases h0 : E = 0
  · rw [if_pos h0]
    obtain ⟨g, c, lo, hi, r, rfl, hs⟩ := h.1 h0
    refine ⟨some ⟨g, 0, none⟩, c, rfl, fun i hi2 => ?_⟩
    obtain ⟨c2, q1, q2, q3⟩ := hs.o i hi2
    have g1 := hs.gl
    have g2 := hs.rl i hi2
    refine ⟨g, 0, some ⟨r i, 0, none⟩, c2, rfl, by omega, by rw [Nat.zero_add]; exact q3, _, c2, rfl, q1, q2, fun _ => ⟨r i, 0, rfl, by omega, fun j hj q hq => ?_⟩⟩
    obtain rfl : q = 0 := by omega
    rw [Nat.mul_one, Nat.zero_add, Nat.add_zero]
    exact hs.cell hi2 hj
  · rw [if_neg h0]
    rw [h.2 h0]
    exact ⟨none, 0, rfl, fun i hi => absurd hi (Nat.not_lt_zero _)⟩
theorem ArrRes.sli {E : Int} {w : World} {v : Value} {F : FliD} {lt : Tab} (h : ArrRes E w v F lt) : SlI w v (if E = 0 then F.m else 0) (F.at_ lt) := by
  by_cases h0 : E = 0
  · rw [if_pos h0]; exact h.1 h0
  · rw [if_neg h0, h.2 h0]
    exact ⟨none, 0, rfl, Nat.le_refl _, by decide, fun h => absurd h (Nat.lt_irrefl _)⟩
theorem RouteTimes_c (M : MetD) (vF vS : Value) (lw ls lc : Int) (li lb : Bool) (A : Option Addr) (n c : Nat) (S : Tab) (F : FliD) (vR : Value) (w : World) (hM : MetAt w vF vS M) (hc1 : n ≤ c) (hc2 : c ≤ 9223372036854775807) (hL : RecsAt w A n 3 (nV S)) (hR : SlI w vR F.m F.R) :
   Calls Tryz.prog 6 #[.agg #[.int .i64 M.places, .int .i64 M.any.a0, .int .i64 M.any.a1, .int .i64 M.any.a2, .int .i64 M.any.a3, .int .i64 M.any.a4, .int .i64 M.any.a5, .bool M.any.i, .bool M.any.s, .int .i64 M.mw, .int .i64 M.ms, .int .i64 M.mc, vF, vS, .int .i64 lw, .int .i64 ls, .int .i64 lc, .bool li, .bool lb, .slice A n c], .agg #[vR, .int .i64 F.dep, .int .i64 F.fuel, .int .i64 F.burn, .int .i64 F.res]] w fun e w' => e = .returned (.bool true) ∧ RowKit.Below w.heap.size w w' := by
  have HM := Lib.hid hM
  have HL := Lib.hid hL
  have HR := Lib.hid hR
  have hck := fun w1 h1 h2 h3 => rCheck_c M vF vS A n c S F vR w1 h1 hc1 hc2 h2 h3
  have hcr := fun w1 h1 h2 h3 => r5Check_c M vF vS A n c S F vR w1 h1 hc1 hc2 h2 h3
  have hti := fun w1 h1 h2 => rTimes_c M vF vS A n c S w1 h1 hc1 hc2 h2
  have htr := fun w1 h1 h2 => r5Times_c M vF vS A n c S w1 h1 hc1 hc2 h2
  have har := fun w1 h1 h2 h3 => rArrive_c M vF vS A n c S F vR w1 h1 hc1 hc2 h2 h3
  have hal := fun w1 h1 h2 h3 => r5Arrive_c M vF vS A n c S F vR w1 h1 hc1 hc2 h2 h3
  clear hM hL hR
  have hk8 : (if netE M S n = 0 then M.places.toNat else 0) ≤ 8 := by
    by_cases h : netE M S n = 0
    · rw [if_pos h]
      obtain ⟨f1, f2⟩ := netE_ok h
      exact (net_facts f1 f2).2.1.2
    · rw [if_neg h]; decide
  generalize nfE (netE M S n) M S n F = NE at *
  generalize netE M S n = E at *
  generalize M.places.toNat = P at *
  generalize timT S n P = tt at *
  obtain ⟨k, hk⟩ : ∃ k, k = if E = 0 then P else 0 := ⟨_, rfl⟩
  obtain ⟨q, hq⟩ : ∃ q, q = if NE = 0 then F.m else 0 := ⟨_, rfl⟩
  have HTB := Lib.hid (fun w v (h : TimRes E w v P tt) => show TabR w v k P tt by rw [hk]; exact h.tab)
  have HAB := Lib.hid (fun w v (h : ArrRes NE w v F (lgT S n)) => show SlI w v q (F.at_ (lgT S n)) by rw [hq]; exact h.sli)
  rw [← hk] at hk8
  clear hk hq
  have HCK := Lib.hid hck
  have HCR := Lib.hid hcr
  have HTI := Lib.hid hti
  have HTR := Lib.hid htr
  have HAR := Lib.hid har
  have HAL := Lib.hid hal
  clear hck hcr hti htr har hal
  have nee : (NE != NE) = false := by simp
  have eee : (E != E) = false := by simp
  have nEe : (NE == NE) = true := by simp
  go_enter Tryz.func6, Tryz.ntmps6
  go_wp2_with (fail)
  have bHX : Blk ((w.alloc (.cells #[.int .i64 M.places, .int .i64 M.any.a0, .int .i64 M.any.a1, .int .i64 M.any.a2, .int .i64 M.any.a3, .int .i64 M.any.a4, .int .i64 M.any.a5, .bool M.any.i, .bool M.any.s, .int .i64 M.mw, .int .i64 M.ms, .int .i64 M.mc, vF, vS, .int .i64 lw, .int .i64 ls, .int .i64 lc, .bool li, .bool lb, .slice A n c] 34)).alloc (.cells #[vR, .int .i64 F.dep, .int .i64 F.fuel, .int .i64 F.burn, .int .i64 F.res] 37)) (w.heap.size) 34 #[.int .i64 M.places, .int .i64 M.any.a0, .int .i64 M.any.a1, .int .i64 M.any.a2, .int .i64 M.any.a3, .int .i64 M.any.a4, .int .i64 M.any.a5, .bool M.any.i, .bool M.any.s, .int .i64 M.mw, .int .i64 M.ms, .int .i64 M.mc, vF, vS, .int .i64 lw, .int .i64 ls, .int .i64 lc, .bool li, .bool lb, .slice A n c] := (by repeat (first | (refine Blk.newAt _ _ _ ?_; first | rfl | (simp; done)) | refine Blk.alloc ?_ _))
  have bHY : Blk ((w.alloc (.cells #[.int .i64 M.places, .int .i64 M.any.a0, .int .i64 M.any.a1, .int .i64 M.any.a2, .int .i64 M.any.a3, .int .i64 M.any.a4, .int .i64 M.any.a5, .bool M.any.i, .bool M.any.s, .int .i64 M.mw, .int .i64 M.ms, .int .i64 M.mc, vF, vS, .int .i64 lw, .int .i64 ls, .int .i64 lc, .bool li, .bool lb, .slice A n c] 34)).alloc (.cells #[vR, .int .i64 F.dep, .int .i64 F.fuel, .int .i64 F.burn, .int .i64 F.res] 37)) (w.heap.size + 1) 37 #[vR, .int .i64 F.dep, .int .i64 F.fuel, .int .i64 F.burn, .int .i64 F.res] := (by repeat (first | (refine Blk.newAt _ _ _ ?_; first | rfl | (simp; done)) | refine Blk.alloc ?_ _))
  have bHB : Below w.heap.size w ((w.alloc (.cells #[.int .i64 M.places, .int .i64 M.any.a0, .int .i64 M.any.a1, .int .i64 M.any.a2, .int .i64 M.any.a3, .int .i64 M.any.a4, .int .i64 M.any.a5, .bool M.any.i, .bool M.any.s, .int .i64 M.mw, .int .i64 M.ms, .int .i64 M.mc, vF, vS, .int .i64 lw, .int .i64 ls, .int .i64 lc, .bool li, .bool lb, .slice A n c] 34)).alloc (.cells #[vR, .int .i64 F.dep, .int .i64 F.fuel, .int .i64 F.burn, .int .i64 F.res] 37)) := (by repeat' (first | exact Below.refl _ _ | assumption | refine Below.drew ?_ | refine bdn ?_ _ | refine bal ?_ _ | refine Below.setCell ?_ (by first | (simp; done) | omega | (simp; omega)) _))
  generalize ((w.alloc (.cells #[.int .i64 M.places, .int .i64 M.any.a0, .int .i64 M.any.a1, .int .i64 M.any.a2, .int .i64 M.any.a3, .int .i64 M.any.a4, .int .i64 M.any.a5, .bool M.any.i, .bool M.any.s, .int .i64 M.mw, .int .i64 M.ms, .int .i64 M.mc, vF, vS, .int .i64 lw, .int .i64 ls, .int .i64 lc, .bool li, .bool lb, .slice A n c] 34)).alloc (.cells #[vR, .int .i64 F.dep, .int .i64 F.fuel, .int .i64 F.burn, .int .i64 F.res] 37)) = W at *
  have zW := bHY.lt
  have HX := Lib.hid bHX
  have HY := Lib.hid bHY
  have HB := Lib.hid bHB
  clear bHX bHY bHB
  have x19 : ∀ r : After W, r.w.cell? ⟨w.heap.size, 19, none⟩ = some (.slice A n c) := fun r => (HX.out.below r.below).cell 19
  have hX2 := Lib.hid (fun r : After W => HX.out.below r.below)
  have hY2 := Lib.hid (fun r : After W => HY.out.below r.below)
  have HC1 := Lib.hid (fun r : After W => HCK.out r.w ((HM.out.below HB.out).below r.below) ((HL.out.below HB.out).below r.below) ((HR.out.below HB.out).below r.below))
  have HC2 := Lib.hid (fun r : After W => HCR.out r.w ((HM.out.below HB.out).below r.below) ((HL.out.below HB.out).below r.below) ((HR.out.below HB.out).below r.below))
  refine wp_region_after (by kernel_rfl) (by kernel_rfl) ?_
  go_big_quiet_step (fail)
  refine wpq_mid rfl 29 _ rfl w.heap.size 0 rfl 34 #[.int .i64 M.places, .int .i64 M.any.a0, .int .i64 M.any.a1, .int .i64 M.any.a2, .int .i64 M.any.a3, .int .i64 M.any.a4, .int .i64 M.any.a5, .bool M.any.i, .bool M.any.s, .int .i64 M.mw, .int .i64 M.ms, .int .i64 M.mc, vF, vS, .int .i64 lw, .int .i64 ls, .int .i64 lc, .bool li, .bool lb, .slice A n c] #[.int .i64 M.places, .int .i64 M.any.a0, .int .i64 M.any.a1, .int .i64 M.any.a2, .int .i64 M.any.a3, .int .i64 M.any.a4, .int .i64 M.any.a5, .bool M.any.i, .bool M.any.s, .int .i64 M.mw, .int .i64 M.ms, .int .i64 M.mc, vF, vS] 14 (fun _ hw => by obtain ⟨r, rfl⟩ := hw; exact hX2.out r) Tryz.rowMet [] [.int .i64 lw, .int .i64 ls, .int .i64 lc, .bool li, .bool lb, .slice A n c] rfl rfl rfl ?_; simp only [Act.put, List.setIfInBounds_toArray, List.set_cons_succ, List.set_cons_zero]
  iterate 2 (go_big_quiet_step (fail))
  refine wpq_row rfl 37 _ rfl (w.heap.size + 1) rfl #[vR, .int .i64 F.dep, .int .i64 F.fuel, .int .i64 F.burn, .int .i64 F.res] 5 (fun _ hw => by obtain ⟨r, rfl⟩ := hw; exact hY2.out r) Tryz.rowFli rfl ?_; simp only [Act.put, List.setIfInBounds_toArray, List.set_cons_succ, List.set_cons_zero]
  go_big_quiet_step (first | (go_at_call 34; (with_reducible refine qafter (HC1.out _))))
  go_big_quiet_step (fail)
  refine wpq_mid rfl 29 _ rfl w.heap.size 0 rfl 34 #[.int .i64 M.places, .int .i64 M.any.a0, .int .i64 M.any.a1, .int .i64 M.any.a2, .int .i64 M.any.a3, .int .i64 M.any.a4, .int .i64 M.any.a5, .bool M.any.i, .bool M.any.s, .int .i64 M.mw, .int .i64 M.ms, .int .i64 M.mc, vF, vS, .int .i64 lw, .int .i64 ls, .int .i64 lc, .bool li, .bool lb, .slice A n c] #[.int .i64 M.places, .int .i64 M.any.a0, .int .i64 M.any.a1, .int .i64 M.any.a2, .int .i64 M.any.a3, .int .i64 M.any.a4, .int .i64 M.any.a5, .bool M.any.i, .bool M.any.s, .int .i64 M.mw, .int .i64 M.ms, .int .i64 M.mc, vF, vS] 14 (fun _ hw => by obtain ⟨r, rfl⟩ := hw; exact hX2.out r) Tryz.rowMet [] [.int .i64 lw, .int .i64 ls, .int .i64 lc, .bool li, .bool lb, .slice A n c] rfl rfl rfl ?_; simp only [Act.put, List.setIfInBounds_toArray, List.set_cons_succ, List.set_cons_zero]
  iterate 2 (go_big_quiet_step (fail))
  refine wpq_row rfl 37 _ rfl (w.heap.size + 1) rfl #[vR, .int .i64 F.dep, .int .i64 F.fuel, .int .i64 F.burn, .int .i64 F.res] 5 (fun _ hw => by obtain ⟨r, rfl⟩ := hw; exact hY2.out r) Tryz.rowFli rfl ?_; simp only [Act.put, List.setIfInBounds_toArray, List.set_cons_succ, List.set_cons_zero]
  go_big_quiet_step (first | (go_at_call 18; (with_reducible refine qafter (HC2.out _))))
  go_big_quiet_step (fail)
  refine wpQuiet_nil ?_
  rintro W3 ⟨r3, hr3⟩
  have hb3 : RowKit.Below W.heap.size W W3 := by rw [hr3]; exact r3.below
  clear hr3 r3 hX2 hY2 HC1 HC2 x19
  have nHX := Lib.hid (HX.out.below hb3)
  have nHY := Lib.hid (HY.out.below hb3)
  have nHB := Lib.hid (bthen HB.out hb3)
  clear HX HY HB hb3
  have HX := nHX
  have HY := nHY
  have HB := nHB
  clear nHX nHY nHB
  have x19 := HX.out.cell 19
  simp only [List.getElem?_toArray, List.getElem?_cons_succ, List.getElem?_cons_zero] at x19
  go_wp2_with (first | (refine wpl_mid rfl 29 _ rfl _ 0 rfl 34 #[.int .i64 M.places, .int .i64 M.any.a0, .int .i64 M.any.a1, .int .i64 M.any.a2, .int .i64 M.any.a3, .int .i64 M.any.a4, .int .i64 M.any.a5, .bool M.any.i, .bool M.any.s, .int .i64 M.mw, .int .i64 M.ms, .int .i64 M.mc, vF, vS, .int .i64 lw, .int .i64 ls, .int .i64 lc, .bool li, .bool lb, .slice A n c] #[.int .i64 M.places, .int .i64 M.any.a0, .int .i64 M.any.a1, .int .i64 M.any.a2, .int .i64 M.any.a3, .int .i64 M.any.a4, .int .i64 M.any.a5, .bool M.any.i, .bool M.any.s, .int .i64 M.mw, .int .i64 M.ms, .int .i64 M.mc, vF, vS] 14 HX.out Tryz.rowMet [] [.int .i64 lw, .int .i64 ls, .int .i64 lc, .bool li, .bool lb, .slice A n c] rfl rfl rfl ?_; simp only [Act.put]))
  refine (HTI.out _ (HM.out.below HB.out) (HL.out.below HB.out)).mono ?_
  rintro e w4 ⟨v, rfl, hb4, hv⟩
  obtain ⟨AT, cT, rfl, ht1⟩ := HTB.out _ _ hv
  have HT0 := Lib.hid (HTB.out _ _ hv)
  clear hv ht1 x19
  have nHX := Lib.hid (HX.out.below hb4)
  have nHY := Lib.hid (HY.out.below hb4)
  have nHB := Lib.hid (bthen HB.out hb4)
  clear HX HY HB hb4
  have HX := nHX
  have HY := nHY
  have HB := nHB
  clear nHX nHY nHB
  have x19 := HX.out.cell 19
  simp only [List.getElem?_toArray, List.getElem?_cons_succ, List.getElem?_cons_zero] at x19
  go_wp2_with (first | (refine wpl_mid rfl 29 _ rfl _ 0 rfl 34 #[.int .i64 M.places, .int .i64 M.any.a0, .int .i64 M.any.a1, .int .i64 M.any.a2, .int .i64 M.any.a3, .int .i64 M.any.a4, .int .i64 M.any.a5, .bool M.any.i, .bool M.any.s, .int .i64 M.mw, .int .i64 M.ms, .int .i64 M.mc, vF, vS, .int .i64 lw, .int .i64 ls, .int .i64 lc, .bool li, .bool lb, .slice A n c] #[.int .i64 M.places, .int .i64 M.any.a0, .int .i64 M.any.a1, .int .i64 M.any.a2, .int .i64 M.any.a3, .int .i64 M.any.a4, .int .i64 M.any.a5, .bool M.any.i, .bool M.any.s, .int .i64 M.mw, .int .i64 M.ms, .int .i64 M.mc, vF, vS] 14 HX.out Tryz.rowMet [] [.int .i64 lw, .int .i64 ls, .int .i64 lc, .bool li, .bool lb, .slice A n c] rfl rfl rfl ?_; simp only [Act.put]))
  refine (HTR.out _ (HM.out.below HB.out) (HL.out.below HB.out)).mono ?_
  rintro e w5 ⟨v, rfl, hb5, hv⟩
  have HT2 := HTB.out _ _ hv
  have HT1 := HT0.out.below hb5
  clear hv HT0 x19
  obtain ⟨AU, cU, rfl, ht2⟩ := HT2
  obtain ⟨A0, c0, e0, ht1⟩ := HT1
  simp only [Value.slice.injEq, true_and] at e0
  obtain ⟨rfl, rfl⟩ := e0
  have H1 := Lib.hid ht1
  have H2 := Lib.hid ht2
  clear ht1 ht2
  have nHX := Lib.hid (HX.out.below hb5)
  have nHY := Lib.hid (HY.out.below hb5)
  have nHB := Lib.hid (bthen HB.out hb5)
  clear HX HY HB hb5
  have HX := nHX
  have HY := nHY
  have HB := nHB
  clear nHX nHY nHB
  have hkk : ((k : Int) != (k : Int)) = false := by simp
  go_wp2_with (fail)
  go_loopg [9] k (fun gy iv wr => ∃ i : Nat, iv = .int .i64 i ∧ i ≤ k ∧ k - i ≤ gy ∧ Hid (RowKit.Below w5.heap.size w5 wr))
  case atStart => exact ⟨0, rfl, Nat.zero_le _, Nat.sub_le _ _, Lib.hid (RowKit.Below.refl _ _)⟩
  case round =>
    obtain ⟨i, rfl, hi, hgy, HW⟩ := hrel
    by_cases hlt : i < k
    case pos =>
      have hltz : (i : Int) < (k : Int) := by omega
      obtain ⟨b1, o1, A3, c3, rfl, p1, q1, s1⟩ := H1.out i hlt
      obtain ⟨b2, o2, A4, c4, rfl, p2, q2, s2⟩ := H2.out i hlt
      have HSM := Lib.hid (fun r : After wr => l5same_c (.slice A3 P c3) (.slice A4 P c4) P (tt i) (tt i) r.w (s1.below (bthen HW.out r.below)) (s2.below (bthen HW.out r.below)) (fun _ _ => rfl))
      have f1 : ∀ r : After wr, r.w.cell? ⟨b1, o1 + i, none⟩ = some (.slice A3 P c3) := fun r => ((bthen HW.out r.below).cell (p := ⟨b1, o1 + i, none⟩) p1).trans q1
      have f2 : ∀ r : After wr, r.w.cell? ⟨b2, o2 + i, none⟩ = some (.slice A4 P c4) := fun r => ((bthen HW.out r.below).cell (p := ⟨b2, o2 + i, none⟩) p2).trans q2
      clear q1 q2 s1 s2
      go_wp2_with (fail)
      refine wp_region_after (by kernel_rfl) (by kernel_rfl) ?_
      iterate 10 (go_big_quiet_step (first | (go_at_call 36; (with_reducible refine qafter (HSM.out _)))))
      refine wpQuiet_nil ?_
      rintro W6 ⟨r6, hr6⟩
      have nW := Lib.hid (bthen HW.out (show RowKit.Below wr.heap.size wr W6 by rw [hr6]; exact r6.below))
      clear hr6 r6 HSM f1 f2 HW
      go_wp2_with (fail)
      go_roundg (k - (i + 1))
      case measure => omega
      case rel => exact ⟨i + 1, by first | rfl | go_num | (congr 1; omega), by omega, Nat.le_refl _, nW⟩
    obtain rfl : k = i := by omega
    have hw := HW.out
    clear HW
    have nHX := Lib.hid (HX.out.below hw)
    have nHY := Lib.hid (HY.out.below hw)
    have nHB := Lib.hid (bthen HB.out hw)
    clear HX HY HB hw
    have HX := nHX
    have HY := nHY
    have HB := nHB
    clear nHX nHY nHB
    have x19 := HX.out.cell 19
    simp only [List.getElem?_toArray, List.getElem?_cons_succ, List.getElem?_cons_zero] at x19
    have tok : True := trivial
    go_wp2_with (first | (refine wpl_mid rfl 29 _ rfl _ 0 rfl 34 #[.int .i64 M.places, .int .i64 M.any.a0, .int .i64 M.any.a1, .int .i64 M.any.a2, .int .i64 M.any.a3, .int .i64 M.any.a4, .int .i64 M.any.a5, .bool M.any.i, .bool M.any.s, .int .i64 M.mw, .int .i64 M.ms, .int .i64 M.mc, vF, vS, .int .i64 lw, .int .i64 ls, .int .i64 lc, .bool li, .bool lb, .slice A n c] #[.int .i64 M.places, .int .i64 M.any.a0, .int .i64 M.any.a1, .int .i64 M.any.a2, .int .i64 M.any.a3, .int .i64 M.any.a4, .int .i64 M.any.a5, .bool M.any.i, .bool M.any.s, .int .i64 M.mw, .int .i64 M.ms, .int .i64 M.mc, vF, vS] 14 HX.out Tryz.rowMet [] [.int .i64 lw, .int .i64 ls, .int .i64 lc, .bool li, .bool lb, .slice A n c] rfl rfl rfl ?_; simp only [Act.put]) | (have _t := tok; refine wpl_row rfl 37 (.tmp 3) rfl _ rfl #[vR, .int .i64 F.dep, .int .i64 F.fuel, .int .i64 F.burn, .int .i64 F.res] 5 HY.out Tryz.rowFli rfl ?_; simp only [Act.put]; clear tok))
    refine (HAR.out _ (HM.out.below HB.out) (HL.out.below HB.out) (HR.out.below HB.out)).mono ?_
    rintro e w7 ⟨v, rfl, hb7, hv⟩
    have HA1 := Lib.hid (HAB.out _ _ hv)
    obtain ⟨A7, c7, rfl, -⟩ := HAB.out _ _ hv
    clear hv x19
    have nHX := Lib.hid (HX.out.below hb7)
    have nHY := Lib.hid (HY.out.below hb7)
    have nHB := Lib.hid (bthen HB.out hb7)
    clear HX HY HB hb7
    have HX := nHX
    have HY := nHY
    have HB := nHB
    clear nHX nHY nHB
    have x19 := HX.out.cell 19
    simp only [List.getElem?_toArray, List.getElem?_cons_succ, List.getElem?_cons_zero] at x19
    have tok : True := trivial
    go_wp2_with (first | (refine wpl_mid rfl 29 _ rfl _ 0 rfl 34 #[.int .i64 M.places, .int .i64 M.any.a0, .int .i64 M.any.a1, .int .i64 M.any.a2, .int .i64 M.any.a3, .int .i64 M.any.a4, .int .i64 M.any.a5, .bool M.any.i, .bool M.any.s, .int .i64 M.mw, .int .i64 M.ms, .int .i64 M.mc, vF, vS, .int .i64 lw, .int .i64 ls, .int .i64 lc, .bool li, .bool lb, .slice A n c] #[.int .i64 M.places, .int .i64 M.any.a0, .int .i64 M.any.a1, .int .i64 M.any.a2, .int .i64 M.any.a3, .int .i64 M.any.a4, .int .i64 M.any.a5, .bool M.any.i, .bool M.any.s, .int .i64 M.mw, .int .i64 M.ms, .int .i64 M.mc, vF, vS] 14 HX.out Tryz.rowMet [] [.int .i64 lw, .int .i64 ls, .int .i64 lc, .bool li, .bool lb, .slice A n c] rfl rfl rfl ?_; simp only [Act.put]) | (have _t := tok; refine wpl_row rfl 37 (.tmp 3) rfl _ rfl #[vR, .int .i64 F.dep, .int .i64 F.fuel, .int .i64 F.burn, .int .i64 F.res] 5 HY.out Tryz.rowFli rfl ?_; simp only [Act.put]; clear tok))
    refine (HAL.out _ (HM.out.below HB.out) (HL.out.below HB.out) (HR.out.below HB.out)).mono ?_
    rintro e w8 ⟨v, rfl, hb8, hv⟩
    have HA2 := HAB.out _ _ hv
    have HA3 := HA1.out.below hb8
    obtain ⟨A8, c8, rfl, -⟩ := HAB.out _ _ hv
    clear hv x19 HA1
    have HSM := Lib.hid (l5same_c _ _ _ _ _ w8 HA3 HA2 (fun _ _ => rfl))
    clear HA2 HA3
    have nHX := Lib.hid (HX.out.below hb8)
    have nHB := Lib.hid (bthen HB.out hb8)
    clear HX HB hb8
    have HX := nHX
    have HB := nHB
    clear nHX nHB
    go_wp2_with (first | (go_at_call 36; (with_reducible refine (HSM.out).mono ?_); rintro e w1 ⟨rfl, hb1⟩; have nHX := Lib.hid (HX.out.below hb1); have nHB := Lib.hid (bthen HB.out hb1); have zz1 := hb1.size; clear HX HB hb1; have HX := nHX; have HB := nHB; clear nHX nHB) | (go_at_call 26; (with_reducible refine (rworks_c _).mono ?_); rintro e w1 ⟨rfl, hb1⟩; have nHX := Lib.hid (HX.out.below hb1); have nHB := Lib.hid (bthen HB.out hb1); have zz1 := hb1.size; clear HX HB hb1; have HX := nHX; have HB := nHB; clear nHX nHB))
    go_ret
    exact ⟨rfl, HB.out⟩
end Go.Proofs.YtbgkbdhdkpjcdaaGreat

namespace Go.Proofs.YtbgkbdhdkpjcdaaGreat
open Go Go.RowKit Go.Proofs
set_option maxRecDepth 100000
set_option maxHeartbeats 4000000

/-- What a table's look-up reads as. -/
structure Look where
  T : Tbl
  xl : Int
  xh : Int
  yl : Int
  yh : Int
def Look.on (k : Look) : Bool := lkE k.T k.xl k.xh k.yl k.yh
end Go.Proofs.YtbgkbdhdkpjcdaaGreat

namespace Go.Proofs.YtbgkbdhdkpjcdaaGreat
open Go Go.RowKit Go.Proofs
set_option maxRecDepth 100000
set_option maxHeartbeats 4000000

end Go.Proofs.YtbgkbdhdkpjcdaaGreat

namespace Go.Proofs.YtbgkbdhdkpjcdaaGreat
open Go Go.RowKit Go.Proofs
set_option maxRecDepth 100000
set_option maxHeartbeats 4000000

end Go.Proofs.YtbgkbdhdkpjcdaaGreat

namespace Go.Proofs.YtbgkbdhdkpjcdaaGreat
open Go Go.RowKit Go.Proofs
set_option maxRecDepth 100000
set_option maxHeartbeats 4000000

theorem isSl_one {v : Value} (h : IsSl v) : v.oneCell' = true := by obtain ⟨a, n, c, rfl⟩ := h; rfl
theorem RotAt.one {w : World} {hx hy hv gx gy gv lx ly lv px py pv nx ny nv ax ay av cx cy cv dx dy dv : Value} {cl bu : Int} {S : Tabs} (h : RotAt w hx hy hv gx gy gv lx ly lv px py pv nx ny nv ax ay av cx cy cv dx dy dv cl bu S) (wl wh tl th el eh nl nh : Int) : (#[hx, hy, hv, gx, gy, gv, lx, ly, lv, px, py, pv, nx, ny, nv, ax, ay, av, cx, cy, cv, dx, dy, dv, .int .i64 cl, .int .i64 bu, .int .i64 wl, .int .i64 wh, .int .i64 tl, .int .i64 th, .int .i64 el, .int .i64 eh, .int .i64 nl, .int .i64 nh] : Array Value).all (·.oneCell') = true := by
  rw [Array.all_eq_true_iff_forall_mem]
  intro x hx'
  simp only [List.mem_toArray, List.mem_cons, List.not_mem_nil, or_false] at hx'
  rcases hx' with rfl | rfl | rfl | rfl | rfl | rfl | rfl | rfl | rfl | rfl | rfl | rfl | rfl | rfl | rfl | rfl | rfl | rfl | rfl | rfl | rfl | rfl | rfl | rfl | rfl | rfl | rfl | rfl | rfl | rfl | rfl | rfl | rfl | rfl
  any_goals rfl
  · exact isSl_one h.h.s1
  · exact isSl_one h.h.s2
  · exact isSl_one h.h.s3
  · exact isSl_one h.g.s1
  · exact isSl_one h.g.s2
  · exact isSl_one h.g.s3
  · exact isSl_one h.l.s1
  · exact isSl_one h.l.s2
  · exact isSl_one h.l.s3
  · exact isSl_one h.p.s1
  · exact isSl_one h.p.s2
  · exact isSl_one h.p.s3
  · exact isSl_one h.n.s1
  · exact isSl_one h.n.s2
  · exact isSl_one h.n.s3
  · exact isSl_one h.a.s1
  · exact isSl_one h.a.s2
  · exact isSl_one h.a.s3
  · exact isSl_one h.c.s1
  · exact isSl_one h.c.s2
  · exact isSl_one h.c.s3
  · exact isSl_one h.d.s1
  · exact isSl_one h.d.s2
  · exact isSl_one h.d.s3
end Go.Proofs.YtbgkbdhdkpjcdaaGreat

namespace Go.Proofs.YtbgkbdhdkpjcdaaGreat
open Go Go.RowKit Go.Proofs Go.ChangeShapes Go.WideShapes Go.ChangeAt Go.Deep
set_option maxRecDepth 100000
set_option maxHeartbeats 4000000

theorem Tryz.undInt : Tryz.prog.underlying 3 = some (.int .i64) := by kernel_rfl
section
variable {H : Type} {enc : TypeId × Value → H} {W : World} {sp : Nat → Bool} {held : Bool}

theorem wf_I64 {n : Int} (h : (Lit.int .i64 n).wf = true) : I64 n := by
  exact bounds_i64 h

end
end Go.Proofs.YtbgkbdhdkpjcdaaGreat

/- A rotor among the arguments: its cells and tables. -/
namespace Go.Proofs.YtbgkbdhdkpjcdaaGreat
open Go Go.RowKit Go.Proofs Go.ChangeShapes Go.WideShapes Go.ChangeAt Go.Deep
set_option maxRecDepth 100000
set_option maxHeartbeats 4000000

def fieldAt (d : Option TypeDesc) (i : Nat) : Option (TypeId × Nat) := match d with | some (.struct fs) => fs[i]?.map (fun f => (f.type, f.offset)) | _ => none
theorem fieldAt_struct {P : Program} {T : TypeId} {i : Nat} {r : TypeId × Nat} (h : fieldAt (P.underlying T) i = some r) : ∃ fs, P.underlying T = some (.struct fs) := by
  unfold fieldAt at h; split at h
  · rename_i fs e; exact ⟨fs, e⟩
  · exact absurd h (by simp)

section
variable {H : Type} {enc : TypeId × Value → H} {W : World} {sp : Nat → Bool} {held : Bool}

theorem trod_field {P : Program} {fuel : Nat} {T t : TypeId} {o k i : Nat} {cs : List Value} {x : DataW H × List MemPlace} (hf : fieldAt (P.underlying T) i = some (t, o)) (hk : P.cellsOf t = k)
    (h : DataW.trod enc P W 0 sp held fuel T cs = some x) : ∃ m y, DataW.trod enc P W 0 sp held m t ((cs.drop o).take k) = some y := by
  obtain ⟨fs, hu⟩ := fieldAt_struct hf
  obtain ⟨xs, m, -, -, -, hl, hg⟩ := DataW.trod_struct hu h
  rw [hu] at hf
  simp only [fieldAt, Option.map_eq_some_iff, Prod.mk.injEq] at hf
  obtain ⟨f, hfi, e1, e2⟩ := hf
  have := hg i f hfi
  rw [e1, e2, hk] at this
  have hlt : i < xs.length := by rw [hl]; exact (Array.getElem?_eq_some_iff.1 hfi).1
  exact ⟨m, xs[i], by rw [this, List.getElem?_eq_getElem hlt]⟩

theorem take1 {n : Nat} {l : List Value} (h : l.length = n + 1) : ∃ c l', l = c :: l' ∧ l'.length = n := by
  cases l with
  | nil => simp at h
  | cons c l' => exact ⟨c, l', rfl, by simpa using h⟩

end
end Go.Proofs.YtbgkbdhdkpjcdaaGreat

/- The end of a row whose call leaves a world that has grown: the arguments read as they did. -/
namespace Go.Proofs.YtbgkbdhdkpjcdaaGreat
open Go Go.RowKit Go.Proofs Go.ChangeShapes Go.WideShapes Go.ChangeAt

theorem Tryz.laidOut' : laidOutB Tryz.prog = true := by kernel_rfl

section
variable {H : Type} {enc : TypeId × Value → H} {P : Program}
theorem post_kept {f : Func} {s : ChangeSpec} {apart fresh handsOn again : Bool} {W W' : World} {args : Array Value} {v : Value} {ds gs : List (DataW H)} {before pa pv : List MemPlace}
    (hW : DataW.Whole enc P f.params.toList s.vars apart W args.toList ds gs before) (hb : Below W.heap.size W W')
    (hres : ∀ (b : Nat) (sp : Nat → Bool) (hd : Bool), DataW.TrodAll enc P W' b sp hd f.resultTypes.toList (v.resultList f.resultTypes.size) (s.fn H (ds ++ gs)).results [])
    (hargs : ∀ sp : Nat → Bool, (∀ p ∈ before, sp p.block = true) → DataW.TrodAll enc P W' 0 sp true f.params.toList args.toList (s.fn H (ds ++ gs)).args pa)
    (hvars : ∀ sp : Nat → Bool, (∀ p ∈ before, sp p.block = true) → DataW.TrodVars enc P W' sp s.vars (s.fn H (ds ++ gs)).vars pv)
    (hps : before = pa ++ pv)
    (hok : ∀ (j : Nat) (t : TypeId) (r : Value), f.resultTypes[j]? = some t → (v.resultList f.resultTypes.size)[j]? = some r → Value.okWide P W' .any 0 t r) :
    s.post enc P f apart fresh handsOn again W args v W' := by
  have old := fun p (hp : p ∈ before) => hW.lt p hp
  have mark : ∀ p ∈ before, (fun b => decide (b < W.heap.size)) p.block = true := fun p hp => decide_eq_true (old p hp)
  obtain ⟨-, -, -, -, -, hz, hn⟩ := id hW
  subst hps
  refine ⟨ds, gs, pa ++ pv, [], pa, pv, hW, hres _ _ _, hargs _ mark, hvars _ mark, World.keptBut_mono (fun p hp => ⟨hp, Or.inr (List.mem_append.1 hp)⟩) (hb.frame (· ∈ pa ++ pv)), fun _ => ⟨hok, _, _, ([] ++ pa) ++ pv, ⟨[] ++ pa, pv, trodAll_append (hargs _ (fun _ _ => rfl)) (hres _ _ _), hvars _ (fun _ _ => rfl), rfl, fun b off hp => ?_, fun ha => by simpa using hn ha⟩, fun p hp _ => by simpa using hp⟩⟩
  have hin : MemPlace.cell b off ∈ pa ++ pv := by simpa using hp
  exact (hb.frozen (p := ⟨b, off, none⟩) (old _ hin)).trans (hz b off hin)
end
end Go.Proofs.YtbgkbdhdkpjcdaaGreat

namespace Go.Proofs.YtbgkbdhdkpjcdaaGreat
open Go Go.RowKit Go.Proofs Go.ChangeShapes Go.WideShapes Go.ChangeAt Go.Deep
set_option maxRecDepth 100000
set_option maxHeartbeats 4000000

section
variable {H : Type} {enc : TypeId × Value → H} {W : World} {sp : Nat → Bool} {held : Bool}

theorem int_trod {fuel : Nat} {c : Value} {x : DataW H × List MemPlace} (h : DataW.trod enc Tryz.prog W 0 sp held fuel 3 [c] = some x) : ∃ n, c = .int .i64 n ∧ I64 n := by
  obtain ⟨n, e, -, w⟩ := DataW.trod_int Tryz.undInt h
  exact ⟨n, by simpa using e, wf_I64 w⟩
end
end Go.Proofs.YtbgkbdhdkpjcdaaGreat
