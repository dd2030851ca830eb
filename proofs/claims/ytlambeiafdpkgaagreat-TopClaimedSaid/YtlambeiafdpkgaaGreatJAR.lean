/- Texts joined: JAR. -/
import Derived.Test.YtlambeiafdpkgaaGreatJAQ
set_option linter.all false
namespace Go.Proofs.YtlambeiafdpkgaaGreat
open Go Go.RowKit Go.Proofs
set_option maxRecDepth 100000
set_option maxHeartbeats 8000000
theorem dquiet_c (D : DekD) (vA vB vC : Value) (Mo : MovD) (vP vR vV : Value) (t : Int) (w : World) (hO : D.Ok) (hM : Mo.Ok) (hA : MovAt w vP vR vV Mo) (ht : 0 ≤ t) :
  Calls Tryz.prog 59 #[.agg #[.int .i64 D.size, .int .i64 D.load, .int .i64 D.wind, vA, .int .i64 D.pitch, .int .i64 D.roll, .int .i64 D.heave, .int .i64 D.fire, vB, vC], .agg #[vP, vR, vV], .int .i64 t] w fun e w' => e = .returned (.bool (quiB D Mo t)) ∧ Below w.heap.size w w' := by
 by_cases hn : Mo.np = 0
 ·have h1 : quiB D Mo t = true := by unfold quiB; rw [if_pos hn]
  rw [h1]
  obtain ⟨A, c, rfl, -, -, -⟩ := hA.p.e
  rw [hn]
  clear h1 hn hO hM hA
  go_enter Tryz.func59, Tryz.ntmps59
  go_wp2
  go_ret
  exact ⟨rfl, (by repeat' (first | exact Below.refl _ _ | assumption | refine Below.drew ?_ | refine bdn ?_ _ | refine bal ?_ _ | refine Below.setCell ?_ (by first | (simp; done) | omega | (simp; omega)) _))⟩
 by_cases hge : (Mo.np : Int) ≤ t
 ·have h1 : quiB D Mo t = false := by unfold quiB; rw [if_neg hn, if_pos hge]
  rw [h1]
  obtain ⟨A, c, rfl, -, -, -⟩ := hA.p.e
  have hnz : ((Mo.np : Int) == 0) = false := by simp; omega
  clear h1 hO hM hA
  go_enter Tryz.func59, Tryz.ntmps59
  go_wp2
  go_ret
  exact ⟨rfl, (by repeat' (first | exact Below.refl _ _ | assumption | refine Below.drew ?_ | refine bdn ?_ _ | refine bal ?_ _ | refine Below.setCell ?_ (by first | (simp; done) | omega | (simp; omega)) _))⟩
 obtain ⟨k, rfl⟩ : ∃ k : Nat, t = (k : Int) := ⟨t.toNat, by omega⟩
 have hk : k < Mo.np := by omega
 have h1 : quiB D Mo k = (decide (amo (Mo.P k) ≤ D.pitch) && (decide (amo (Mo.R k) ≤ D.roll) && decide (amo (if 0 < (k : Int) then Mo.V k - Mo.V (k - 1) else 0) ≤ D.heave))) := by
  unfold quiB; rw [if_neg hn, if_neg hge]; simp only [Int.toNat_natCast]
 rw [h1]
 obtain ⟨b1, f1, c1, rfl, hb1, hc1⟩ := hA.p.ints (by omega)
 obtain ⟨b2, f2, c2, rfl, hb2, hc2⟩ := (hM.r ▸ hA.r).ints (by omega)
 obtain ⟨b3, f3, c3, rfl, hb3, hc3⟩ := (hM.v ▸ hA.v).ints (by omega)
 have hn2 := hM.n
 have hk2 : k ≤ 2000 := by omega
 have pP := hM.p1 k hk
 have pR := hM.r1 k hk
 have pV := hM.v1 k hk
 have a1 := fun w1 => damount_c (Mo.P k) w1 (by omega) (by omega)
 have a2 := fun w1 => damount_c (Mo.R k) w1 (by omega) (by omega)
 have hnz : ((Mo.np : Int) == 0) = false := by simp; omega
 have hgz : (k : Int) < (Mo.np : Int) := by omega
 have HC1 := hI9 hc1
 have HC2 := hI9 hc2
 have HC3 := hI9 hc3
 have A1 := hI9 a1
 have A2 := hI9 a2
 clear h1 hO hc1 hc2 hc3 a1 a2 hn hge
 rcases k with _ | j
 ·rw [if_neg (by decide)]
  have A3 := hI9 (fun w1 => damount_c 0 w1 (by omega) (by omega))
  by_cases g1 : amo (Mo.P 0) ≤ D.pitch
  ·have q1 : decide (amo (Mo.P 0) ≤ D.pitch) = true := decide_eq_true g1
   by_cases g2 : amo (Mo.R 0) ≤ D.roll
   ·have q2 : decide (amo (Mo.R 0) ≤ D.roll) = true := decide_eq_true g2
    rw [q1, q2, Bool.true_and, Bool.true_and]
    go_enter Tryz.func59, Tryz.ntmps59
    go_wp2_with (fail)
    have _x := frm2 w #[.int .i64 D.size, .int .i64 D.load, .int .i64 D.wind, vA, .int .i64 D.pitch, .int .i64 D.roll, .int .i64 D.heave, .int .i64 D.fire, vB, vC] 26 #[.slice (some ⟨b1, f1, none⟩) Mo.np c1, .slice (some ⟨b2, f2, none⟩) Mo.np c2, .slice (some ⟨b3, f3, none⟩) Mo.np c3] 37
    have HY := hI9 _x.1
    have HX := hI9 _x.2.1
    have HB := hI9 _x.2.2.1
    have zW := _x.2.2.2
    clear _x
    generalize World.alloc (World.alloc w _) _ = W at *
    have zHX := HX.out.lt
    have cHX0 := HX.out.cell 0
    have cHX1 := HX.out.cell 1
    have cHX2 := HX.out.cell 2
    have zHY := HY.out.lt
    have cHY4 := HY.out.cell 4
    have cHY5 := HY.out.cell 5
    have cHY6 := HY.out.cell 6
    go_wp2_with (fail)
    have m0 : ∀ r : After W, r.w.cell? ⟨w.heap.size + 1, 0, none⟩ = some (.slice (some ⟨b1, f1, none⟩) Mo.np c1) := fun (r : After W) => (HX.out.below r.below).cell 0
    have m1 : ∀ r : After W, r.w.cell? ⟨w.heap.size + 1, 1, none⟩ = some (.slice (some ⟨b2, f2, none⟩) Mo.np c2) := fun (r : After W) => (HX.out.below r.below).cell 1
    have d4 : ∀ r : After W, r.w.cell? ⟨w.heap.size, 4, none⟩ = some (.int .i64 D.pitch) := fun (r : After W) => (HY.out.below r.below).cell 4
    have d5 : ∀ r : After W, r.w.cell? ⟨w.heap.size, 5, none⟩ = some (.int .i64 D.roll) := fun (r : After W) => (HY.out.below r.below).cell 5
    have d6 : ∀ r : After W, r.w.cell? ⟨w.heap.size, 6, none⟩ = some (.int .i64 D.heave) := fun (r : After W) => (HY.out.below r.below).cell 6
    have eP : ∀ r : After W, r.w.cell? ⟨b1, f1 + 0, none⟩ = some (.int .i64 (Mo.P 0)) := fun (r : After W) => ((bthen HB.out r.below).cell (p := ⟨b1, f1 + 0, none⟩) hb1).trans (HC1.out 0 hk)
    have eR : ∀ r : After W, r.w.cell? ⟨b2, f2 + 0, none⟩ = some (.int .i64 (Mo.R 0)) := fun (r : After W) => ((bthen HB.out r.below).cell (p := ⟨b2, f2 + 0, none⟩) hb2).trans (HC2.out 0 hk)
    try simp only [Nat.add_zero] at eP eR
    refine wp_region_aftert 27 (by kernel_rfl) (by kernel_rfl) ?_
    simp only [List.take_succ_cons, List.take_zero, List.drop_succ_cons, List.drop_zero]
    iterate 27 (go_big_quiet_step (first | (go_at_call 109; (with_reducible refine qafter_same (A1.out _))) | (go_at_call 109; (with_reducible refine qafter_same (A2.out _))) | (go_at_call 109; (with_reducible refine qafter_same (A3.out _)))))
    refine wpQuiet_nil ?_
    rintro _ ⟨r, rfl⟩
    have BR := r.below
    go_wp2_with (fail)
    try dsimp only [NoPanic]
    go_wp2_with (fail)
    go_ret
    exact ⟨rfl, bthen HB.out BR⟩
   ·have q2 : decide (amo (Mo.R 0) ≤ D.roll) = false := decide_eq_false g2
    rw [q1, q2, Bool.true_and, Bool.false_and]
    go_enter Tryz.func59, Tryz.ntmps59
    go_wp2_with (fail)
    have _x := frm2 w #[.int .i64 D.size, .int .i64 D.load, .int .i64 D.wind, vA, .int .i64 D.pitch, .int .i64 D.roll, .int .i64 D.heave, .int .i64 D.fire, vB, vC] 26 #[.slice (some ⟨b1, f1, none⟩) Mo.np c1, .slice (some ⟨b2, f2, none⟩) Mo.np c2, .slice (some ⟨b3, f3, none⟩) Mo.np c3] 37
    have HY := hI9 _x.1
    have HX := hI9 _x.2.1
    have HB := hI9 _x.2.2.1
    have zW := _x.2.2.2
    clear _x
    generalize World.alloc (World.alloc w _) _ = W at *
    have zHX := HX.out.lt
    have cHX0 := HX.out.cell 0
    have cHX1 := HX.out.cell 1
    have cHX2 := HX.out.cell 2
    have zHY := HY.out.lt
    have cHY4 := HY.out.cell 4
    have cHY5 := HY.out.cell 5
    have cHY6 := HY.out.cell 6
    go_wp2_with (fail)
    have m0 : ∀ r : After W, r.w.cell? ⟨w.heap.size + 1, 0, none⟩ = some (.slice (some ⟨b1, f1, none⟩) Mo.np c1) := fun (r : After W) => (HX.out.below r.below).cell 0
    have m1 : ∀ r : After W, r.w.cell? ⟨w.heap.size + 1, 1, none⟩ = some (.slice (some ⟨b2, f2, none⟩) Mo.np c2) := fun (r : After W) => (HX.out.below r.below).cell 1
    have d4 : ∀ r : After W, r.w.cell? ⟨w.heap.size, 4, none⟩ = some (.int .i64 D.pitch) := fun (r : After W) => (HY.out.below r.below).cell 4
    have d5 : ∀ r : After W, r.w.cell? ⟨w.heap.size, 5, none⟩ = some (.int .i64 D.roll) := fun (r : After W) => (HY.out.below r.below).cell 5
    have d6 : ∀ r : After W, r.w.cell? ⟨w.heap.size, 6, none⟩ = some (.int .i64 D.heave) := fun (r : After W) => (HY.out.below r.below).cell 6
    have eP : ∀ r : After W, r.w.cell? ⟨b1, f1 + 0, none⟩ = some (.int .i64 (Mo.P 0)) := fun (r : After W) => ((bthen HB.out r.below).cell (p := ⟨b1, f1 + 0, none⟩) hb1).trans (HC1.out 0 hk)
    have eR : ∀ r : After W, r.w.cell? ⟨b2, f2 + 0, none⟩ = some (.int .i64 (Mo.R 0)) := fun (r : After W) => ((bthen HB.out r.below).cell (p := ⟨b2, f2 + 0, none⟩) hb2).trans (HC2.out 0 hk)
    try simp only [Nat.add_zero] at eP eR
    refine wp_region_aftert 27 (by kernel_rfl) (by kernel_rfl) ?_
    simp only [List.take_succ_cons, List.take_zero, List.drop_succ_cons, List.drop_zero]
    iterate 27 (go_big_quiet_step (first | (go_at_call 109; (with_reducible refine qafter_same (A1.out _))) | (go_at_call 109; (with_reducible refine qafter_same (A2.out _))) | (go_at_call 109; (with_reducible refine qafter_same (A3.out _)))))
    refine wpQuiet_nil ?_
    rintro _ ⟨r, rfl⟩
    have BR := r.below
    go_wp2_with (fail)
    try dsimp only [NoPanic]
    go_wp2_with (fail)
    go_ret
    exact ⟨rfl, bthen HB.out BR⟩
  ·have q1 : decide (amo (Mo.P 0) ≤ D.pitch) = false := decide_eq_false g1
   rw [q1, Bool.false_and]
   go_enter Tryz.func59, Tryz.ntmps59
   go_wp2_with (fail)
   have _x := frm2 w #[.int .i64 D.size, .int .i64 D.load, .int .i64 D.wind, vA, .int .i64 D.pitch, .int .i64 D.roll, .int .i64 D.heave, .int .i64 D.fire, vB, vC] 26 #[.slice (some ⟨b1, f1, none⟩) Mo.np c1, .slice (some ⟨b2, f2, none⟩) Mo.np c2, .slice (some ⟨b3, f3, none⟩) Mo.np c3] 37
   have HY := hI9 _x.1
   have HX := hI9 _x.2.1
   have HB := hI9 _x.2.2.1
   have zW := _x.2.2.2
   clear _x
   generalize World.alloc (World.alloc w _) _ = W at *
   have zHX := HX.out.lt
   have cHX0 := HX.out.cell 0
   have cHX1 := HX.out.cell 1
   have cHX2 := HX.out.cell 2
   have zHY := HY.out.lt
   have cHY4 := HY.out.cell 4
   have cHY5 := HY.out.cell 5
   have cHY6 := HY.out.cell 6
   go_wp2_with (fail)
   have m0 : ∀ r : After W, r.w.cell? ⟨w.heap.size + 1, 0, none⟩ = some (.slice (some ⟨b1, f1, none⟩) Mo.np c1) := fun (r : After W) => (HX.out.below r.below).cell 0
   have m1 : ∀ r : After W, r.w.cell? ⟨w.heap.size + 1, 1, none⟩ = some (.slice (some ⟨b2, f2, none⟩) Mo.np c2) := fun (r : After W) => (HX.out.below r.below).cell 1
   have d4 : ∀ r : After W, r.w.cell? ⟨w.heap.size, 4, none⟩ = some (.int .i64 D.pitch) := fun (r : After W) => (HY.out.below r.below).cell 4
   have d5 : ∀ r : After W, r.w.cell? ⟨w.heap.size, 5, none⟩ = some (.int .i64 D.roll) := fun (r : After W) => (HY.out.below r.below).cell 5
   have d6 : ∀ r : After W, r.w.cell? ⟨w.heap.size, 6, none⟩ = some (.int .i64 D.heave) := fun (r : After W) => (HY.out.below r.below).cell 6
   have eP : ∀ r : After W, r.w.cell? ⟨b1, f1 + 0, none⟩ = some (.int .i64 (Mo.P 0)) := fun (r : After W) => ((bthen HB.out r.below).cell (p := ⟨b1, f1 + 0, none⟩) hb1).trans (HC1.out 0 hk)
   have eR : ∀ r : After W, r.w.cell? ⟨b2, f2 + 0, none⟩ = some (.int .i64 (Mo.R 0)) := fun (r : After W) => ((bthen HB.out r.below).cell (p := ⟨b2, f2 + 0, none⟩) hb2).trans (HC2.out 0 hk)
   try simp only [Nat.add_zero] at eP eR
   refine wp_region_aftert 27 (by kernel_rfl) (by kernel_rfl) ?_
   simp only [List.take_succ_cons, List.take_zero, List.drop_succ_cons, List.drop_zero]
   iterate 27 (go_big_quiet_step (first | (go_at_call 109; (with_reducible refine qafter_same (A1.out _))) | (go_at_call 109; (with_reducible refine qafter_same (A2.out _))) | (go_at_call 109; (with_reducible refine qafter_same (A3.out _)))))
   refine wpQuiet_nil ?_
   rintro _ ⟨r, rfl⟩
   have BR := r.below
   go_wp2_with (fail)
   try dsimp only [NoPanic]
   go_wp2_with (fail)
   go_ret
   exact ⟨rfl, bthen HB.out BR⟩
 ·rw [if_pos (by omega), Nat.add_sub_cancel]
  have pV2 := hM.v1 j (by omega)
  have hj2 : j ≤ 2000 := by omega
  have hz0 : (0 : Int) < ((j + 1 : Nat) : Int) := by omega
  have hz1 : (j : Int) < (Mo.np : Int) := by omega
  have A3 := hI9 (fun w1 => damount_c (Mo.V (j + 1) - Mo.V j) w1 (by omega) (by omega))
  by_cases g1 : amo (Mo.P (j + 1)) ≤ D.pitch
  ·have q1 : decide (amo (Mo.P (j + 1)) ≤ D.pitch) = true := decide_eq_true g1
   by_cases g2 : amo (Mo.R (j + 1)) ≤ D.roll
   ·have q2 : decide (amo (Mo.R (j + 1)) ≤ D.roll) = true := decide_eq_true g2
    rw [q1, q2, Bool.true_and, Bool.true_and]
    go_enter Tryz.func59, Tryz.ntmps59
    go_wp2_with (fail)
    have _x := frm2 w #[.int .i64 D.size, .int .i64 D.load, .int .i64 D.wind, vA, .int .i64 D.pitch, .int .i64 D.roll, .int .i64 D.heave, .int .i64 D.fire, vB, vC] 26 #[.slice (some ⟨b1, f1, none⟩) Mo.np c1, .slice (some ⟨b2, f2, none⟩) Mo.np c2, .slice (some ⟨b3, f3, none⟩) Mo.np c3] 37
    have HY := hI9 _x.1
    have HX := hI9 _x.2.1
    have HB := hI9 _x.2.2.1
    have zW := _x.2.2.2
    clear _x
    generalize World.alloc (World.alloc w _) _ = W at *
    have zHX := HX.out.lt
    have cHX0 := HX.out.cell 0
    have cHX1 := HX.out.cell 1
    have cHX2 := HX.out.cell 2
    have zHY := HY.out.lt
    have cHY4 := HY.out.cell 4
    have cHY5 := HY.out.cell 5
    have cHY6 := HY.out.cell 6
    go_wp2_with (fail)
    have m2 : ∀ r : After W, r.w.cell? ⟨w.heap.size + 1, 2, none⟩ = some (.slice (some ⟨b3, f3, none⟩) Mo.np c3) := fun (r : After W) => (HX.out.below r.below).cell 2
    have v1 : ∀ r : After W, r.w.cell? ⟨b3, f3 + (j + 1), none⟩ = some (.int .i64 (Mo.V (j + 1))) := fun (r : After W) => ((bthen HB.out r.below).cell (p := ⟨b3, f3 + (j + 1), none⟩) hb3).trans (HC3.out (j + 1) hk)
    have v0 : ∀ r : After W, r.w.cell? ⟨b3, f3 + j, none⟩ = some (.int .i64 (Mo.V j)) := fun (r : After W) => ((bthen HB.out r.below).cell (p := ⟨b3, f3 + j, none⟩) hb3).trans (HC3.out j (by omega))
    refine wp_region_aftert 12 (by kernel_rfl) (by kernel_rfl) ?_
    simp only [List.take_succ_cons, List.take_zero, List.drop_succ_cons, List.drop_zero]
    iterate 12 (go_big_quiet_step (fail))
    refine wpQuiet_nil ?_
    rintro wq ⟨⟨w1, hb1⟩, rfl⟩
    clear m2 v1 v0
    have nHX := hI9 (HX.out.below hb1)
    have nHY := hI9 (HY.out.below hb1)
    have nHB := hI9 (bthen HB.out hb1)
    clear HX HY HB hb1
    have HX := nHX
    have HY := nHY
    have HB := nHB
    clear nHX nHY nHB
    go_wp2_with (fail)
    try dsimp only [NoPanic]
    go_wp2_with (fail)
    have m0 : ∀ r : After wq, r.w.cell? ⟨w.heap.size + 1, 0, none⟩ = some (.slice (some ⟨b1, f1, none⟩) Mo.np c1) := fun (r : After wq) => (HX.out.below r.below).cell 0
    have m1 : ∀ r : After wq, r.w.cell? ⟨w.heap.size + 1, 1, none⟩ = some (.slice (some ⟨b2, f2, none⟩) Mo.np c2) := fun (r : After wq) => (HX.out.below r.below).cell 1
    have d4 : ∀ r : After wq, r.w.cell? ⟨w.heap.size, 4, none⟩ = some (.int .i64 D.pitch) := fun (r : After wq) => (HY.out.below r.below).cell 4
    have d5 : ∀ r : After wq, r.w.cell? ⟨w.heap.size, 5, none⟩ = some (.int .i64 D.roll) := fun (r : After wq) => (HY.out.below r.below).cell 5
    have d6 : ∀ r : After wq, r.w.cell? ⟨w.heap.size, 6, none⟩ = some (.int .i64 D.heave) := fun (r : After wq) => (HY.out.below r.below).cell 6
    have eP : ∀ r : After wq, r.w.cell? ⟨b1, f1 + (j + 1), none⟩ = some (.int .i64 (Mo.P (j + 1))) := fun (r : After wq) => ((bthen HB.out r.below).cell (p := ⟨b1, f1 + (j + 1), none⟩) hb1).trans (HC1.out (j + 1) hk)
    have eR : ∀ r : After wq, r.w.cell? ⟨b2, f2 + (j + 1), none⟩ = some (.int .i64 (Mo.R (j + 1))) := fun (r : After wq) => ((bthen HB.out r.below).cell (p := ⟨b2, f2 + (j + 1), none⟩) hb2).trans (HC2.out (j + 1) hk)
    try simp only [Nat.add_zero] at eP eR
    refine wp_region_aftert 27 (by kernel_rfl) (by kernel_rfl) ?_
    simp only [List.take_succ_cons, List.take_zero, List.drop_succ_cons, List.drop_zero]
    iterate 27 (go_big_quiet_step (first | (go_at_call 109; (with_reducible refine qafter_same (A1.out _))) | (go_at_call 109; (with_reducible refine qafter_same (A2.out _))) | (go_at_call 109; (with_reducible refine qafter_same (A3.out _)))))
    refine wpQuiet_nil ?_
    rintro _ ⟨r, rfl⟩
    have BR := r.below
    go_wp2_with (fail)
    try dsimp only [NoPanic]
    go_wp2_with (fail)
    go_ret
    exact ⟨rfl, bthen HB.out BR⟩
   ·have q2 : decide (amo (Mo.R (j + 1)) ≤ D.roll) = false := decide_eq_false g2
    rw [q1, q2, Bool.true_and, Bool.false_and]
    go_enter Tryz.func59, Tryz.ntmps59
    go_wp2_with (fail)
    have _x := frm2 w #[.int .i64 D.size, .int .i64 D.load, .int .i64 D.wind, vA, .int .i64 D.pitch, .int .i64 D.roll, .int .i64 D.heave, .int .i64 D.fire, vB, vC] 26 #[.slice (some ⟨b1, f1, none⟩) Mo.np c1, .slice (some ⟨b2, f2, none⟩) Mo.np c2, .slice (some ⟨b3, f3, none⟩) Mo.np c3] 37
    have HY := hI9 _x.1
    have HX := hI9 _x.2.1
    have HB := hI9 _x.2.2.1
    have zW := _x.2.2.2
    clear _x
    generalize World.alloc (World.alloc w _) _ = W at *
    have zHX := HX.out.lt
    have cHX0 := HX.out.cell 0
    have cHX1 := HX.out.cell 1
    have cHX2 := HX.out.cell 2
    have zHY := HY.out.lt
    have cHY4 := HY.out.cell 4
    have cHY5 := HY.out.cell 5
    have cHY6 := HY.out.cell 6
    go_wp2_with (fail)
    have m2 : ∀ r : After W, r.w.cell? ⟨w.heap.size + 1, 2, none⟩ = some (.slice (some ⟨b3, f3, none⟩) Mo.np c3) := fun (r : After W) => (HX.out.below r.below).cell 2
    have v1 : ∀ r : After W, r.w.cell? ⟨b3, f3 + (j + 1), none⟩ = some (.int .i64 (Mo.V (j + 1))) := fun (r : After W) => ((bthen HB.out r.below).cell (p := ⟨b3, f3 + (j + 1), none⟩) hb3).trans (HC3.out (j + 1) hk)
    have v0 : ∀ r : After W, r.w.cell? ⟨b3, f3 + j, none⟩ = some (.int .i64 (Mo.V j)) := fun (r : After W) => ((bthen HB.out r.below).cell (p := ⟨b3, f3 + j, none⟩) hb3).trans (HC3.out j (by omega))
    refine wp_region_aftert 12 (by kernel_rfl) (by kernel_rfl) ?_
    simp only [List.take_succ_cons, List.take_zero, List.drop_succ_cons, List.drop_zero]
    iterate 12 (go_big_quiet_step (fail))
    refine wpQuiet_nil ?_
    rintro wq ⟨⟨w1, hb1⟩, rfl⟩
    clear m2 v1 v0
    have nHX := hI9 (HX.out.below hb1)
    have nHY := hI9 (HY.out.below hb1)
    have nHB := hI9 (bthen HB.out hb1)
    clear HX HY HB hb1
    have HX := nHX
    have HY := nHY
    have HB := nHB
    clear nHX nHY nHB
    go_wp2_with (fail)
    try dsimp only [NoPanic]
    go_wp2_with (fail)
    have m0 : ∀ r : After wq, r.w.cell? ⟨w.heap.size + 1, 0, none⟩ = some (.slice (some ⟨b1, f1, none⟩) Mo.np c1) := fun (r : After wq) => (HX.out.below r.below).cell 0
    have m1 : ∀ r : After wq, r.w.cell? ⟨w.heap.size + 1, 1, none⟩ = some (.slice (some ⟨b2, f2, none⟩) Mo.np c2) := fun (r : After wq) => (HX.out.below r.below).cell 1
    have d4 : ∀ r : After wq, r.w.cell? ⟨w.heap.size, 4, none⟩ = some (.int .i64 D.pitch) := fun (r : After wq) => (HY.out.below r.below).cell 4
    have d5 : ∀ r : After wq, r.w.cell? ⟨w.heap.size, 5, none⟩ = some (.int .i64 D.roll) := fun (r : After wq) => (HY.out.below r.below).cell 5
    have d6 : ∀ r : After wq, r.w.cell? ⟨w.heap.size, 6, none⟩ = some (.int .i64 D.heave) := fun (r : After wq) => (HY.out.below r.below).cell 6
    have eP : ∀ r : After wq, r.w.cell? ⟨b1, f1 + (j + 1), none⟩ = some (.int .i64 (Mo.P (j + 1))) := fun (r : After wq) => ((bthen HB.out r.below).cell (p := ⟨b1, f1 + (j + 1), none⟩) hb1).trans (HC1.out (j + 1) hk)
    have eR : ∀ r : After wq, r.w.cell? ⟨b2, f2 + (j + 1), none⟩ = some (.int .i64 (Mo.R (j + 1))) := fun (r : After wq) => ((bthen HB.out r.below).cell (p := ⟨b2, f2 + (j + 1), none⟩) hb2).trans (HC2.out (j + 1) hk)
    try simp only [Nat.add_zero] at eP eR
    refine wp_region_aftert 27 (by kernel_rfl) (by kernel_rfl) ?_
    simp only [List.take_succ_cons, List.take_zero, List.drop_succ_cons, List.drop_zero]
    iterate 27 (go_big_quiet_step (first | (go_at_call 109; (with_reducible refine qafter_same (A1.out _))) | (go_at_call 109; (with_reducible refine qafter_same (A2.out _))) | (go_at_call 109; (with_reducible refine qafter_same (A3.out _)))))
    refine wpQuiet_nil ?_
    rintro _ ⟨r, rfl⟩
    have BR := r.below
    go_wp2_with (fail)
    try dsimp only [NoPanic]
    go_wp2_with (fail)
    go_ret
    exact ⟨rfl, bthen HB.out BR⟩
  ·have q1 : decide (amo (Mo.P (j + 1)) ≤ D.pitch) = false := decide_eq_false g1
   rw [q1, Bool.false_and]
   go_enter Tryz.func59, Tryz.ntmps59
   go_wp2_with (fail)
   have _x := frm2 w #[.int .i64 D.size, .int .i64 D.load, .int .i64 D.wind, vA, .int .i64 D.pitch, .int .i64 D.roll, .int .i64 D.heave, .int .i64 D.fire, vB, vC] 26 #[.slice (some ⟨b1, f1, none⟩) Mo.np c1, .slice (some ⟨b2, f2, none⟩) Mo.np c2, .slice (some ⟨b3, f3, none⟩) Mo.np c3] 37
   have HY := hI9 _x.1
   have HX := hI9 _x.2.1
   have HB := hI9 _x.2.2.1
   have zW := _x.2.2.2
   clear _x
   generalize World.alloc (World.alloc w _) _ = W at *
   have zHX := HX.out.lt
   have cHX0 := HX.out.cell 0
   have cHX1 := HX.out.cell 1
   have cHX2 := HX.out.cell 2
   have zHY := HY.out.lt
   have cHY4 := HY.out.cell 4
   have cHY5 := HY.out.cell 5
   have cHY6 := HY.out.cell 6
   go_wp2_with (fail)
   have m2 : ∀ r : After W, r.w.cell? ⟨w.heap.size + 1, 2, none⟩ = some (.slice (some ⟨b3, f3, none⟩) Mo.np c3) := fun (r : After W) => (HX.out.below r.below).cell 2
   have v1 : ∀ r : After W, r.w.cell? ⟨b3, f3 + (j + 1), none⟩ = some (.int .i64 (Mo.V (j + 1))) := fun (r : After W) => ((bthen HB.out r.below).cell (p := ⟨b3, f3 + (j + 1), none⟩) hb3).trans (HC3.out (j + 1) hk)
   have v0 : ∀ r : After W, r.w.cell? ⟨b3, f3 + j, none⟩ = some (.int .i64 (Mo.V j)) := fun (r : After W) => ((bthen HB.out r.below).cell (p := ⟨b3, f3 + j, none⟩) hb3).trans (HC3.out j (by omega))
   refine wp_region_aftert 12 (by kernel_rfl) (by kernel_rfl) ?_
   simp only [List.take_succ_cons, List.take_zero, List.drop_succ_cons, List.drop_zero]
   iterate 12 (go_big_quiet_step (fail))
   refine wpQuiet_nil ?_
   rintro wq ⟨⟨w1, hb1⟩, rfl⟩
   clear m2 v1 v0
   have nHX := hI9 (HX.out.below hb1)
   have nHY := hI9 (HY.out.below hb1)
   have nHB := hI9 (bthen HB.out hb1)
   clear HX HY HB hb1
   have HX := nHX
   have HY := nHY
   have HB := nHB
   clear nHX nHY nHB
   go_wp2_with (fail)
   try dsimp only [NoPanic]
   go_wp2_with (fail)
   have m0 : ∀ r : After wq, r.w.cell? ⟨w.heap.size + 1, 0, none⟩ = some (.slice (some ⟨b1, f1, none⟩) Mo.np c1) := fun (r : After wq) => (HX.out.below r.below).cell 0
   have m1 : ∀ r : After wq, r.w.cell? ⟨w.heap.size + 1, 1, none⟩ = some (.slice (some ⟨b2, f2, none⟩) Mo.np c2) := fun (r : After wq) => (HX.out.below r.below).cell 1
   have d4 : ∀ r : After wq, r.w.cell? ⟨w.heap.size, 4, none⟩ = some (.int .i64 D.pitch) := fun (r : After wq) => (HY.out.below r.below).cell 4
   have d5 : ∀ r : After wq, r.w.cell? ⟨w.heap.size, 5, none⟩ = some (.int .i64 D.roll) := fun (r : After wq) => (HY.out.below r.below).cell 5
   have d6 : ∀ r : After wq, r.w.cell? ⟨w.heap.size, 6, none⟩ = some (.int .i64 D.heave) := fun (r : After wq) => (HY.out.below r.below).cell 6
   have eP : ∀ r : After wq, r.w.cell? ⟨b1, f1 + (j + 1), none⟩ = some (.int .i64 (Mo.P (j + 1))) := fun (r : After wq) => ((bthen HB.out r.below).cell (p := ⟨b1, f1 + (j + 1), none⟩) hb1).trans (HC1.out (j + 1) hk)
   have eR : ∀ r : After wq, r.w.cell? ⟨b2, f2 + (j + 1), none⟩ = some (.int .i64 (Mo.R (j + 1))) := fun (r : After wq) => ((bthen HB.out r.below).cell (p := ⟨b2, f2 + (j + 1), none⟩) hb2).trans (HC2.out (j + 1) hk)
   try simp only [Nat.add_zero] at eP eR
   refine wp_region_aftert 27 (by kernel_rfl) (by kernel_rfl) ?_
   simp only [List.take_succ_cons, List.take_zero, List.drop_succ_cons, List.drop_zero]
   iterate 27 (go_big_quiet_step (first | (go_at_call 109; (with_reducible refine qafter_same (A1.out _))) | (go_at_call 109; (with_reducible refine qafter_same (A2.out _))) | (go_at_call 109; (with_reducible refine qafter_same (A3.out _)))))
   refine wpQuiet_nil ?_
   rintro _ ⟨r, rfl⟩
   have BR := r.below
   go_wp2_with (fail)
   try dsimp only [NoPanic]
   go_wp2_with (fail)
   go_ret
   exact ⟨rfl, bthen HB.out BR⟩
end Go.Proofs.YtlambeiafdpkgaaGreat

namespace Go.Proofs.YtlambeiafdpkgaaGreat
open Go Go.RowKit Go.Proofs
set_option maxRecDepth 100000
set_option maxHeartbeats 8000000
structure FliD where
 m : Nat
 R : Nat → Int
 dep : Int
 fuel : Int
 burn : Int
 res : Int
def nL (R : Nat → Int) (i _j : Nat) : Value := .int .i64 (R i)
def FliD.at_ (F : FliD) (lt : Tab) : Nat → Int
 | 0 => F.dep
 | i + 1 => F.at_ lt i + lt (F.R i).toNat (F.R (i + 1)).toNat
def FliD.nums (F : FliD) : Bool := inB F.m 1 8 && (inB F.dep 0 2000 && (inB F.fuel 0 100000 && (inB F.res 0 100000 && inB F.burn 1 100000)))
def FliD.flown (F : FliD) (P : Nat) (lt : Tab) (i : Nat) : Prop := (∀ j, j < i → 0 ≤ F.R j ∧ F.R j < P) ∧ ∀ j, j + 1 < i → 0 ≤ lt (F.R j).toNat (F.R (j + 1)).toNat
def FliD.ok (F : FliD) (P : Nat) (lt : Tab) : Prop := F.nums = true ∧ F.flown P lt F.m ∧ F.at_ lt (F.m - 1) ≤ 2000
def SlI (w : World) (v : Value) (n : Nat) (R : Nat → Int) : Prop := ∃ A c, v = .slice A n c ∧ n ≤ c ∧ c ≤ 9223372036854775807 ∧ RecsAt w A n 1 (nL R)
theorem SlI.below {w w' : World} {v : Value} {n : Nat} {R : Nat → Int} (h : SlI w v n R) (hb : RowKit.Below w.heap.size w w') : SlI w' v n R := by
 obtain ⟨A, c, e, q1, q2, h⟩ := h
 exact ⟨A, c, e, q1, q2, h.below hb⟩
def FliAt (w : World) (v vN : Value) (M : MetD) (vF vS : Value) (P : Nat) (lt tt : Tab) (F : FliD) (vR : Value) (lw ls lc : Int) (li lb : Bool) : Prop :=
 ∃ gx vA, v = .pointer (some ⟨gx, 0, none⟩) ∧ Blk w gx 119 #[vN, vR, .int .i64 F.dep, .int .i64 F.fuel, .int .i64 F.burn, .int .i64 F.res, .int .i64 lw, .int .i64 ls, .int .i64 lc, .bool li, .bool lb, vA] ∧ NetAt w vN M vF vS P lt tt ∧ SlI w vR F.m F.R ∧ SlI w vA F.m (F.at_ lt) ∧ some gx ≠ vA.ownBlock
theorem FliAt.below {w w' : World} {v vN : Value} {M : MetD} {vF vS : Value} {P : Nat} {lt tt : Tab} {F : FliD} {vR : Value} {lw ls lc : Int} {li lb : Bool} (h : FliAt w v vN M vF vS P lt tt F vR lw ls lc li lb) (hb : RowKit.Below w.heap.size w w') : FliAt w' v vN M vF vS P lt tt F vR lw ls lc li lb := by
 obtain ⟨gx, vA, e, h1, h2, h3, h4, h5⟩ := h
 exact ⟨gx, vA, e, h1.below hb, h2.below hb, h3.below hb, h4.below hb, h5⟩
structure FlK (F : FliD) (vR : Value) (lt : Tab) (gN gX i : Nat) (vA : Value) (w wr : World) : Prop where
 b : RowKit.Below w.heap.size w wr
 f : Blk wr w.heap.size 70 #[vR, .int .i64 F.dep, .int .i64 F.fuel, .int .i64 F.burn, .int .i64 F.res]
 x : Blk wr gX 119 #[.pointer (some ⟨gN, 0, none⟩), vR, .int .i64 F.dep, .int .i64 F.fuel, .int .i64 F.burn, .int .i64 F.res, .int .i64 0, .int .i64 0, .int .i64 0, .bool false, .bool false, vA]
 o : wr.ownsRow w.heap.size 3 1 vA i ((List.range i).map fun j => .int .i64 (F.at_ lt j))
 g : w.heap.size ≤ gX
theorem FlK.below {F : FliD} {vR : Value} {lt : Tab} {gN gX i : Nat} {vA : Value} {w wr w2 : World} (h : FlK F vR lt gN gX i vA w wr) (hb : RowKit.Below wr.heap.size wr w2) : FlK F vR lt gN gX i vA w w2 :=
 ⟨bthen h.b hb, h.f.below hb, h.x.below hb, ownsRow_below h.o hb, h.g⟩
theorem own_blk_ne {w : World} {base g n : Nat} {T U : TypeId} {v : Value} {xs : List Value} {cs : Array Value} (h : w.ownsRow base T 1 v n xs) (hb : Blk w g U cs) (hne : T ≠ U) : some g ≠ v.ownBlock := by
 rcases h.2 with ⟨rfl, -⟩ | ⟨k, cap, cur, rfl, -, h3, -⟩
 ·intro e; cases e
 ·intro e
  have : g = k := by simpa [Value.ownBlock] using e
  subst this
  exact blk_ne (show Blk w g T cur from h3) hb hne rfl
theorem FlK.step {F : FliD} {vR : Value} {lt : Tab} {gN gX i : Nat} {vA vB : Value} {w wr w1 w2 : World} (h : FlK F vR lt gN gX i vA w wr) (hb : RowKit.Below wr.heap.size wr w1) (ho : w2.ownsRow w.heap.size 3 1 vB (i + 1) ((List.range i).map (fun j => .int .i64 (F.at_ lt j)) ++ [.int .i64 (F.at_ lt i)]))
  (hg : w1.grownBy w2 vA.ownBlock) : FlK F vR lt gN gX (i + 1) vB w (w2.setCell ⟨gX, 11, none⟩ vB) := by
 have h1 := h.below hb
 have hvo : ∀ b, some b = vA.ownBlock → w.heap.size ≤ b := fun b q => (ownLt h1.o q).1
 have hb2 : RowKit.Below w.heap.size w w2 := h1.b.trans (belowGrew hg h1.b.size hvo)
 have hf := h1.f.grew hg (own_blk_ne h1.o h1.f (by decide))
 have hx := h1.x.grew hg (own_blk_ne h1.o h1.x (by decide))
 have hne : some gX ≠ vB.ownBlock := own_blk_ne ho hx (by decide)
 refine ⟨bset hb2 h.g _, hf.far' (blk_ne hf hx (by decide)) _, hx.set_ 11 vB, ?_, h.g⟩
 have e : (List.range (i + 1)).map (fun j => Value.int .i64 (F.at_ lt j)) = (List.range i).map (fun j => .int .i64 (F.at_ lt j)) ++ [.int .i64 (F.at_ lt i)] := by rw [List.range_succ, List.map_append]; rfl
 rw [e]
 obtain ⟨o1, o2⟩ := ho
 refine ⟨o1, ?_⟩
 rcases o2 with ⟨q1, q2⟩ | ⟨k, cap, cur, q1, q2, q3, q4⟩
 ·exact Or.inl ⟨q1, q2⟩
 ·refine Or.inr ⟨k, cap, cur, q1, q2, ?_, q4⟩
  exact (show Blk w2 k _ cur from q3).far' (fun e => hne (by rw [q1, e]; rfl)) _
def FliD.now (F : FliD) (lt : Tab) : Nat → Int
 | 0 => F.dep
 | i + 1 => F.at_ lt i
end Go.Proofs.YtlambeiafdpkgaaGreat

namespace Go.Proofs.YtlambeiafdpkgaaGreat
open Go Go.RowKit Go.Proofs
set_option maxRecDepth 100000
set_option maxHeartbeats 8000000
end Go.Proofs.YtlambeiafdpkgaaGreat
