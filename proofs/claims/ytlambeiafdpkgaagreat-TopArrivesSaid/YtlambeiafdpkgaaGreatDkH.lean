import Derived.Test.YtlambeiafdpkgaaGreatJAV
set_option linter.all false
namespace Go.Proofs.YtlambeiafdpkgaaGreat
open Go Go.RowKit Go.Proofs
set_option maxRecDepth 100000
set_option maxHeartbeats 8000000
theorem dquiet_c (D : DekD) (vA vB vC : Value) (Mo : MovD) (vP vR vV : Value) (t : Int) (w : World) (hO : D.Ok) (hM : Mo.Ok) (hA : MovAt w vP vR vV Mo) (ht : 0 ≤ t) :
  Calls Tryz.prog 59 #[.agg #[.int .i64 D.size, .int .i64 D.load, .int .i64 D.wind, vA, .int .i64 D.pitch, .int .i64 D.roll, .int .i64 D.heave, .int .i64 D.fire, vB, vC], .agg #[vP, vR, vV], .int .i64 t] w fun e w' => e = .returned (.bool (quiB D Mo t)) ∧ Below w.heap.size w w' := by
 by_cases hn : Mo.np = 0
 ·have h1 : quiB D Mo t = true := by unfold quiB; rw [if_pos hn]
  rw [h1]
  obtain ⟨A, c, rfl, -, -, -⟩ := hA.p.e
  rw [hn]
  clear h1 hn hO hM hA
  go_enter Tryz.func59, Tryz.ntmps59
  go_wp2
  go_ret
  exact ⟨rfl, (by repeat' (first | exact Below.refl _ _ | assumption | refine Below.drew ?_ | refine bdn ?_ _ | refine bal ?_ _ | refine Below.setCell ?_ (by first | (simp; done) | omega | (simp; omega)) _))⟩
 by_cases hge : (Mo.np : Int) ≤ t
 ·have h1 : quiB D Mo t = false := by unfold quiB; rw [if_neg hn, if_pos hge]
  rw [h1]
  obtain ⟨A, c, rfl, -, -, -⟩ := hA.p.e
  have hnz : ((Mo.np : Int) == 0) = false := by simp; omega
  clear h1 hO hM hA
  go_enter Tryz.func59, Tryz.ntmps59
  go_wp2
  go_ret
  exact ⟨rfl, (by repeat' (first | exact Below.refl _ _ | assumption | refine Below.drew ?_ | refine bdn ?_ _ | refine bal ?_ _ | refine Below.setCell ?_ (by first | (simp; done) | omega | (simp; omega)) _))⟩
 obtain ⟨k, rfl⟩ : ∃ k : Nat, t = (k : Int) := ⟨t.toNat, by omega⟩
 have hk : k < Mo.np := by omega
 have h1 : quiB D Mo k = (decide (amo (Mo.P k) ≤ D.pitch) && (decide (amo (Mo.R k) ≤ D.roll) && decide (amo (if 0 < (k : Int) then Mo.V k - Mo.V (k - 1) else 0) ≤ D.heave))) := by
  unfold quiB; rw [if_neg hn, if_neg hge]; simp only [Int.toNat_natCast]
 rw [h1]
 obtain ⟨b1, f1, c1, rfl, hb1, hc1⟩ := hA.p.ints (by omega)
 obtain ⟨b2, f2, c2, rfl, hb2, hc2⟩ := (hM.r ▸ hA.r).ints (by omega)
 obtain ⟨b3, f3, c3, rfl, hb3, hc3⟩ := (hM.v ▸ hA.v).ints (by omega)
 have hn2 := hM.n
 have hk2 : k ≤ 2000 := by omega
 have pP := hM.p1 k hk
 have pR := hM.r1 k hk
 have pV := hM.v1 k hk
 have a1 := fun w1 => damount_c (Mo.P k) w1 (by omega) (by omega)
 have a2 := fun w1 => damount_c (Mo.R k) w1 (by omega) (by omega)
 have hnz : ((Mo.np : Int) == 0) = false := by simp; omega
 have hgz : (k : Int) < (Mo.np : Int) := by omega
 have HC1 := hI9 hc1
 have HC2 := hI9 hc2
 have HC3 := hI9 hc3
 have A1 := hI9 a1
 have A2 := hI9 a2
 clear h1 hO hc1 hc2 hc3 a1 a2 hn hge
 rcases k with _ | j
 ·rw [if_neg (by decide)]
  have A3 := hI9 (fun w1 => damount_c 0 w1 (by omega) (by omega))
  by_cases g1 : amo (Mo.P 0) ≤ D.pitch
  ·have q1 : decide (amo (Mo.P 0) ≤ D.pitch) = true := decide_eq_true g1
   by_cases g2 : amo (Mo.R 0) ≤ D.roll
   ·have q2 : decide (amo (Mo.R 0) ≤ D.roll) = true := decide_eq_true g2
    rw [q1, q2, Bool.true_and, Bool.true_and]
    go_enter Tryz.func59, Tryz.ntmps59
    go_wp2_with (fail)
    have _x := frm2 w #[.int .i64 D.size, .int .i64 D.load, .int .i64 D.wind, vA, .int .i64 D.pitch, .int .i64 D.roll, .int .i64 D.heave, .int .i64 D.fire, vB, vC] 26 #[.slice (some ⟨b1, f1, none⟩) Mo.np c1, .slice (some ⟨b2, f2, none⟩) Mo.np c2, .slice (some ⟨b3, f3, none⟩) Mo.np c3] 37
    have HY := hI9 _x.1
    have HX := hI9 _x.2.1
    have HB := hI9 _x.2.2.1
    have zW := _x.2.2.2
    clear _x
    generalize World.alloc (World.alloc w _) _ = W at *
    have zHX := HX.out.lt
    have cHX0 := HX.out.cell 0
    have cHX1 := HX.out.cell 1
    have cHX2 := HX.out.cell 2
    have zHY := HY.out.lt
    have cHY4 := HY.out.cell 4
    have cHY5 := HY.out.cell 5
    have cHY6 := HY.out.cell 6
    go_wp2_with (fail)
    have m0 : ∀ r : After W, r.w.cell? ⟨w.heap.size + 1, 0, none⟩ = some (.slice (some ⟨b1, f1, none⟩) Mo.np c1) := fun (r : After W) => (HX.out.below r.below).cell 0
    have m1 : ∀ r : After W, r.w.cell? ⟨w.heap.size + 1, 1, none⟩ = some (.slice (some ⟨b2, f2, none⟩) Mo.np c2) := fun (r : After W) => (HX.out.below r.below).cell 1
    have d4 : ∀ r : After W, r.w.cell? ⟨w.heap.size, 4, none⟩ = some (.int .i64 D.pitch) := fun (r : After W) => (HY.out.below r.below).cell 4
    have d5 : ∀ r : After W, r.w.cell? ⟨w.heap.size, 5, none⟩ = some (.int .i64 D.roll) := fun (r : After W) => (HY.out.below r.below).cell 5
    have d6 : ∀ r : After W, r.w.cell? ⟨w.heap.size, 6, none⟩ = some (.int .i64 D.heave) := fun (r : After W) => (HY.out.below r.below).cell 6
    have eP : ∀ r : After W, r.w.cell? ⟨b1, f1 + 0, none⟩ = some (.int .i64 (Mo.P 0)) := fun (r : After W) => ((bthen HB.out r.below).cell (p := ⟨b1, f1 + 0, none⟩) hb1).trans (HC1.out 0 hk)
    have eR : ∀ r : After W, r.w.cell? ⟨b2, f2 + 0, none⟩ = some (.int .i64 (Mo.R 0)) := fun (r : After W) => ((bthen HB.out r.below).cell (p := ⟨b2, f2 + 0, none⟩) hb2).trans (HC2.out 0 hk)
    try simp only [Nat.add_zero] at eP eR
    refine wp_region_aftert 27 (by kernel_rfl) (by kernel_rfl) ?_
    simp only [List.take_succ_cons, List.take_zero, List.drop_succ_cons, List.drop_zero]
    iterate 27 (go_big_quiet_step (first | (go_at_call 109; (with_reducible refine qafter_same (A1.out _))) | (go_at_call 109; (with_reducible refine qafter_same (A2.out _))) | (go_at_call 109; (with_reducible refine qafter_same (A3.out _)))))
    refine wpQuiet_nil ?_
    rintro _ ⟨r, rfl⟩
    have BR := r.below
    go_wp2_with (fail)
    try dsimp only [NoPanic]
    go_wp2_with (fail)
    go_ret
    exact ⟨rfl, bthen HB.out BR⟩
   ·have q2 : decide (amo (Mo.R 0) ≤ D.roll) = false := decide_eq_false g2
    rw [q1, q2, Bool.true_and, Bool.false_and]
    go_enter Tryz.func59, Tryz.ntmps59
    go_wp2_with (fail)
    have _x := frm2 w #[.int .i64 D.size, .int .i64 D.load, .int .i64 D.wind, vA, .int .i64 D.pitch, .int .i64 D.roll, .int .i64 D.heave, .int .i64 D.fire, vB, vC] 26 #[.slice (some ⟨b1, f1, none⟩) Mo.np c1, .slice (some ⟨b2, f2, none⟩) Mo.np c2, .slice (some ⟨b3, f3, none⟩) Mo.np c3] 37
    have HY := hI9 _x.1
    have HX := hI9 _x.2.1
    have HB := hI9 _x.2.2.1
    have zW := _x.2.2.2
    clear _x
    generalize World.alloc (World.alloc w _) _ = W at *
    have zHX := HX.out.lt
    have cHX0 := HX.out.cell 0
    have cHX1 := HX.out.cell 1
    have cHX2 := HX.out.cell 2
    have zHY := HY.out.lt
    have cHY4 := HY.out.cell 4
    have cHY5 := HY.out.cell 5
    have cHY6 := HY.out.cell 6
    go_wp2_with (fail)
    have m0 : ∀ r : After W, r.w.cell? ⟨w.heap.size + 1, 0, none⟩ = some (.slice (some ⟨b1, f1, none⟩) Mo.np c1) := fun (r : After W) => (HX.out.below r.below).cell 0
    have m1 : ∀ r : After W, r.w.cell? ⟨w.heap.size + 1, 1, none⟩ = some (.slice (some ⟨b2, f2, none⟩) Mo.np c2) := fun (r : After W) => (HX.out.below r.below).cell 1
    have d4 : ∀ r : After W, r.w.cell? ⟨w.heap.size, 4, none⟩ = some (.int .i64 D.pitch) := fun (r : After W) => (HY.out.below r.below).cell 4
    have d5 : ∀ r : After W, r.w.cell? ⟨w.heap.size, 5, none⟩ = some (.int .i64 D.roll) := fun (r : After W) => (HY.out.below r.below).cell 5
    have d6 : ∀ r : After W, r.w.cell? ⟨w.heap.size, 6, none⟩ = some (.int .i64 D.heave) := fun (r : After W) => (HY.out.below r.below).cell 6
    have eP : ∀ r : After W, r.w.cell? ⟨b1, f1 + 0, none⟩ = some (.int .i64 (Mo.P 0)) := fun (r : After W) => ((bthen HB.out r.below).cell (p := ⟨b1, f1 + 0, none⟩) hb1).trans (HC1.out 0 hk)
    have eR : ∀ r : After W, r.w.cell? ⟨b2, f2 + 0, none⟩ = some (.int .i64 (Mo.R 0)) := fun (r : After W) => ((bthen HB.out r.below).cell (p := ⟨b2, f2 + 0, none⟩) hb2).trans (HC2.out 0 hk)
    try simp only [Nat.add_zero] at eP eR
    refine wp_region_aftert 27 (by kernel_rfl) (by kernel_rfl) ?_
    simp only [List.take_succ_cons, List.take_zero, List.drop_succ_cons, List.drop_zero]
    iterate 27 (go_big_quiet_step (first | (go_at_call 109; (with_reducible refine qafter_same (A1.out _))) | (go_at_call 109; (with_reducible refine qafter_same (A2.out _))) | (go_at_call 109; (with_reducible refine qafter_same (A3.out _)))))
    refine wpQuiet_nil ?_
    rintro _ ⟨r, rfl⟩
    have BR := r.below
    go_wp2_with (fail)
    try dsimp only [NoPanic]
    go_wp2_with (fail)
    go_ret
    exact ⟨rfl, bthen HB.out BR⟩
  ·have q1 : decide (amo (Mo.P 0) ≤ D.pitch) = false := decide_eq_false g1
   rw [q1, Bool.false_and]
   go_enter Tryz.func59, Tryz.ntmps59
   go_wp2_with (fail)
   have _x := frm2 w #[.int .i64 D.size, .int .i64 D.load, .int .i64 D.wind, vA, .int .i64 D.pitch, .int .i64 D.roll, .int .i64 D.heave, .int .i64 D.fire, vB, vC] 26 #[.slice (some ⟨b1, f1, none⟩) Mo.np c1, .slice (some ⟨b2, f2, none⟩) Mo.np c2, .slice (some ⟨b3, f3, none⟩) Mo.np c3] 37
   have HY := hI9 _x.1
   have HX := hI9 _x.2.1
   have HB := hI9 _x.2.2.1
   have zW := _x.2.2.2
   clear _x
   generalize World.alloc (World.alloc w _) _ = W at *
   have zHX := HX.out.lt
   have cHX0 := HX.out.cell 0
   have cHX1 := HX.out.cell 1
   have cHX2 := HX.out.cell 2
   have zHY := HY.out.lt
   have cHY4 := HY.out.cell 4
   have cHY5 := HY.out.cell 5
   have cHY6 := HY.out.cell 6
   go_wp2_with (fail)
   have m0 : ∀ r : After W, r.w.cell? ⟨w.heap.size + 1, 0, none⟩ = some (.slice (some ⟨b1, f1, none⟩) Mo.np c1) := fun (r : After W) => (HX.out.below r.below).cell 0
   have m1 : ∀ r : After W, r.w.cell? ⟨w.heap.size + 1, 1, none⟩ = some (.slice (some ⟨b2, f2, none⟩) Mo.np c2) := fun (r : After W) => (HX.out.below r.below).cell 1
   have d4 : ∀ r : After W, r.w.cell? ⟨w.heap.size, 4, none⟩ = some (.int .i64 D.pitch) := fun (r : After W) => (HY.out.below r.below).cell 4
   have d5 : ∀ r : After W, r.w.cell? ⟨w.heap.size, 5, none⟩ = some (.int .i64 D.roll) := fun (r : After W) => (HY.out.below r.below).cell 5
   have d6 : ∀ r : After W, r.w.cell? ⟨w.heap.size, 6, none⟩ = some (.int .i64 D.heave) := fun (r : After W) => (HY.out.below r.below).cell 6
   have eP : ∀ r : After W, r.w.cell? ⟨b1, f1 + 0, none⟩ = some (.int .i64 (Mo.P 0)) := fun (r : After W) => ((bthen HB.out r.below).cell (p := ⟨b1, f1 + 0, none⟩) hb1).trans (HC1.out 0 hk)
   have eR : ∀ r : After W, r.w.cell? ⟨b2, f2 + 0, none⟩ = some (.int .i64 (Mo.R 0)) := fun (r : After W) => ((bthen HB.out r.below).cell (p := ⟨b2, f2 + 0, none⟩) hb2).trans (HC2.out 0 hk)
   try simp only [Nat.add_zero] at eP eR
   refine wp_region_aftert 27 (by kernel_rfl) (by kernel_rfl) ?_
   simp only [List.take_succ_cons, List.take_zero, List.drop_succ_cons, List.drop_zero]
   iterate 27 (go_big_quiet_step (first | (go_at_call 109; (with_reducible refine qafter_same (A1.out _))) | (go_at_call 109; (with_reducible refine qafter_same (A2.out _))) | (go_at_call 109; (with_reducible refine qafter_same (A3.out _)))))
   refine wpQuiet_nil ?_
   rintro _ ⟨r, rfl⟩
   have BR := r.below
   go_wp2_with (fail)
   try dsimp only [NoPanic]
   go_wp2_with (fail)
   go_ret
   exact ⟨rfl, bthen HB.out BR⟩
 ·rw [if_pos (by omega), Nat.add_sub_cancel]
  have pV2 := hM.v1 j (by omega)
  have hj2 : j ≤ 2000 := by omega
  have hz0 : (0 : Int) < ((j + 1 : Nat) : Int) := by omega
  have hz1 : (j : Int) < (Mo.np : Int) := by omega
  have A3 := hI9 (fun w1 => damount_c (Mo.V (j + 1) - Mo.V j) w1 (by omega) (by omega))
  by_cases g1 : amo (Mo.P (j + 1)) ≤ D.pitch
  ·have q1 : decide (amo (Mo.P (j + 1)) ≤ D.pitch) = true := decide_eq_true g1
   by_cases g2 : amo (Mo.R (j + 1)) ≤ D.roll
   ·have q2 : decide (amo (Mo.R (j + 1)) ≤ D.roll) = true := decide_eq_true g2
    rw [q1, q2, Bool.true_and, Bool.true_and]
    go_enter Tryz.func59, Tryz.ntmps59
    go_wp2_with (fail)
    have _x := frm2 w #[.int .i64 D.size, .int .i64 D.load, .int .i64 D.wind, vA, .int .i64 D.pitch, .int .i64 D.roll, .int .i64 D.heave, .int .i64 D.fire, vB, vC] 26 #[.slice (some ⟨b1, f1, none⟩) Mo.np c1, .slice (some ⟨b2, f2, none⟩) Mo.np c2, .slice (some ⟨b3, f3, none⟩) Mo.np c3] 37
    have HY := hI9 _x.1
    have HX := hI9 _x.2.1
    have HB := hI9 _x.2.2.1
    have zW := _x.2.2.2
    clear _x
    generalize World.alloc (World.alloc w _) _ = W at *
    have zHX := HX.out.lt
    have cHX0 := HX.out.cell 0
    have cHX1 := HX.out.cell 1
    have cHX2 := HX.out.cell 2
    have zHY := HY.out.lt
    have cHY4 := HY.out.cell 4
    have cHY5 := HY.out.cell 5
    have cHY6 := HY.out.cell 6
    go_wp2_with (fail)
    have m2 : ∀ r : After W, r.w.cell? ⟨w.heap.size + 1, 2, none⟩ = some (.slice (some ⟨b3, f3, none⟩) Mo.np c3) := fun (r : After W) => (HX.out.below r.below).cell 2
    have v1 : ∀ r : After W, r.w.cell? ⟨b3, f3 + (j + 1), none⟩ = some (.int .i64 (Mo.V (j + 1))) := fun (r : After W) => ((bthen HB.out r.below).cell (p := ⟨b3, f3 + (j + 1), none⟩) hb3).trans (HC3.out (j + 1) hk)
    have v0 : ∀ r : After W, r.w.cell? ⟨b3, f3 + j, none⟩ = some (.int .i64 (Mo.V j)) := fun (r : After W) => ((bthen HB.out r.below).cell (p := ⟨b3, f3 + j, none⟩) hb3).trans (HC3.out j (by omega))
    refine wp_region_aftert 12 (by kernel_rfl) (by kernel_rfl) ?_
    simp only [List.take_succ_cons, List.take_zero, List.drop_succ_cons, List.drop_zero]
    iterate 12 (go_big_quiet_step (fail))
    refine wpQuiet_nil ?_
    rintro wq ⟨⟨w1, hb1⟩, rfl⟩
    clear m2 v1 v0
    have nHX := hI9 (HX.out.below hb1)
    have nHY := hI9 (HY.out.below hb1)
    have nHB := hI9 (bthen HB.out hb1)
    clear HX HY HB hb1
    have HX := nHX
    have HY := nHY
    have HB := nHB
    clear nHX nHY nHB
    go_wp2_with (fail)
    try dsimp only [NoPanic]
    go_wp2_with (fail)
    have m0 : ∀ r : After wq, r.w.cell? ⟨w.heap.size + 1, 0, none⟩ = some (.slice (some ⟨b1, f1, none⟩) Mo.np c1) := fun (r : After wq) => (HX.out.below r.below).cell 0
    have m1 : ∀ r : After wq, r.w.cell? ⟨w.heap.size + 1, 1, none⟩ = some (.slice (some ⟨b2, f2, none⟩) Mo.np c2) := fun (r : After wq) => (HX.out.below r.below).cell 1
    have d4 : ∀ r : After wq, r.w.cell? ⟨w.heap.size, 4, none⟩ = some (.int .i64 D.pitch) := fun (r : After wq) => (HY.out.below r.below).cell 4
    have d5 : ∀ r : After wq, r.w.cell? ⟨w.heap.size, 5, none⟩ = some (.int .i64 D.roll) := fun (r : After wq) => (HY.out.below r.below).cell 5
    have d6 : ∀ r : After wq, r.w.cell? ⟨w.heap.size, 6, none⟩ = some (.int .i64 D.heave) := fun (r : After wq) => (HY.out.below r.below).cell 6
    have eP : ∀ r : After wq, r.w.cell? ⟨b1, f1 + (j + 1), none⟩ = some (.int .i64 (Mo.P (j + 1))) := fun (r : After wq) => ((bthen HB.out r.below).cell (p := ⟨b1, f1 + (j + 1), none⟩) hb1).trans (HC1.out (j + 1) hk)
    have eR : ∀ r : After wq, r.w.cell? ⟨b2, f2 + (j + 1), none⟩ = some (.int .i64 (Mo.R (j + 1))) := fun (r : After wq) => ((bthen HB.out r.below).cell (p := ⟨b2, f2 + (j + 1), none⟩) hb2).trans (HC2.out (j + 1) hk)
    try simp only [Nat.add_zero] at eP eR
    refine wp_region_aftert 27 (by kernel_rfl) (by kernel_rfl) ?_
    simp only [List.take_succ_cons, List.take_zero, List.drop_succ_cons, List.drop_zero]
    iterate 27 (go_big_quiet_step (first | (go_at_call 109; (with_reducible refine qafter_same (A1.out _))) | (go_at_call 109; (with_reducible refine qafter_same (A2.out _))) | (go_at_call 109; (with_reducible refine qafter_same (A3.out _)))))
    refine wpQuiet_nil ?_
    rintro _ ⟨r, rfl⟩
    have BR := r.below
    go_wp2_with (fail)
    try dsimp only [NoPanic]
    go_wp2_with (fail)
    go_ret
    exact ⟨rfl, bthen HB.out BR⟩
   ·have q2 : decide (amo (Mo.R (j + 1)) ≤ D.roll) = false := decide_eq_false g2
    rw [q1, q2, Bool.true_and, Bool.false_and]
    go_enter Tryz.func59, Tryz.ntmps59
    go_wp2_with (fail)
    have _x := frm2 w #[.int .i64 D.size, .int .i64 D.load, .int .i64 D.wind, vA, .int .i64 D.pitch, .int .i64 D.roll, .int .i64 D.heave, .int .i64 D.fire, vB, vC] 26 #[.slice (some ⟨b1, f1, none⟩) Mo.np c1, .slice (some ⟨b2, f2, none⟩) Mo.np c2, .slice (some ⟨b3, f3, none⟩) Mo.np c3] 37
    have HY := hI9 _x.1
    have HX := hI9 _x.2.1
    have HB := hI9 _x.2.2.1
    have zW := _x.2.2.2
    clear _x
    generalize World.alloc (World.alloc w _) _ = W at *
    have zHX := HX.out.lt
    have cHX0 := HX.out.cell 0
    have cHX1 := HX.out.cell 1
    have cHX2 := HX.out.cell 2
    have zHY := HY.out.lt
    have cHY4 := HY.out.cell 4
    have cHY5 := HY.out.cell 5
    have cHY6 := HY.out.cell 6
    go_wp2_with (fail)
    have m2 : ∀ r : After W, r.w.cell? ⟨w.heap.size + 1, 2, none⟩ = some (.slice (some ⟨b3, f3, none⟩) Mo.np c3) := fun (r : After W) => (HX.out.below r.below).cell 2
    have v1 : ∀ r : After W, r.w.cell? ⟨b3, f3 + (j + 1), none⟩ = some (.int .i64 (Mo.V (j + 1))) := fun (r : After W) => ((bthen HB.out r.below).cell (p := ⟨b3, f3 + (j + 1), none⟩) hb3).trans (HC3.out (j + 1) hk)
    have v0 : ∀ r : After W, r.w.cell? ⟨b3, f3 + j, none⟩ = some (.int .i64 (Mo.V j)) := fun (r : After W) => ((bthen HB.out r.below).cell (p := ⟨b3, f3 + j, none⟩) hb3).trans (HC3.out j (by omega))
    refine wp_region_aftert 12 (by kernel_rfl) (by kernel_rfl) ?_
    simp only [List.take_succ_cons, List.take_zero, List.drop_succ_cons, List.drop_zero]
    iterate 12 (go_big_quiet_step (fail))
    refine wpQuiet_nil ?_
    rintro wq ⟨⟨w1, hb1⟩, rfl⟩
    clear m2 v1 v0
    have nHX := hI9 (HX.out.below hb1)
    have nHY := hI9 (HY.out.below hb1)
    have nHB := hI9 (bthen HB.out hb1)
    clear HX HY HB hb1
    have HX := nHX
    have HY := nHY
    have HB := nHB
    clear nHX nHY nHB
    go_wp2_with (fail)
    try dsimp only [NoPanic]
    go_wp2_with (fail)
    have m0 : ∀ r : After wq, r.w.cell? ⟨w.heap.size + 1, 0, none⟩ = some (.slice (some ⟨b1, f1, none⟩) Mo.np c1) := fun (r : After wq) => (HX.out.below r.below).cell 0
    have m1 : ∀ r : After wq, r.w.cell? ⟨w.heap.size + 1, 1, none⟩ = some (.slice (some ⟨b2, f2, none⟩) Mo.np c2) := fun (r : After wq) => (HX.out.below r.below).cell 1
    have d4 : ∀ r : After wq, r.w.cell? ⟨w.heap.size, 4, none⟩ = some (.int .i64 D.pitch) := fun (r : After wq) => (HY.out.below r.below).cell 4
    have d5 : ∀ r : After wq, r.w.cell? ⟨w.heap.size, 5, none⟩ = some (.int .i64 D.roll) := fun (r : After wq) => (HY.out.below r.below).cell 5
    have d6 : ∀ r : After wq, r.w.cell? ⟨w.heap.size, 6, none⟩ = some (.int .i64 D.heave) := fun (r : After wq) => (HY.out.below r.below).cell 6
    have eP : ∀ r : After wq, r.w.cell? ⟨b1, f1 + (j + 1), none⟩ = some (.int .i64 (Mo.P (j + 1))) := fun (r : After wq) => ((bthen HB.out r.below).cell (p := ⟨b1, f1 + (j + 1), none⟩) hb1).trans (HC1.out (j + 1) hk)
    have eR : ∀ r : After wq, r.w.cell? ⟨b2, f2 + (j + 1), none⟩ = some (.int .i64 (Mo.R (j + 1))) := fun (r : After wq) => ((bthen HB.out r.below).cell (p := ⟨b2, f2 + (j + 1), none⟩) hb2).trans (HC2.out (j + 1) hk)
    try simp only [Nat.add_zero] at eP eR
    refine wp_region_aftert 27 (by kernel_rfl) (by kernel_rfl) ?_
    simp only [List.take_succ_cons, List.take_zero, List.drop_succ_cons, List.drop_zero]
    iterate 27 (go_big_quiet_step (first | (go_at_call 109; (with_reducible refine qafter_same (A1.out _))) | (go_at_call 109; (with_reducible refine qafter_same (A2.out _))) | (go_at_call 109; (with_reducible refine qafter_same (A3.out _)))))
    refine wpQuiet_nil ?_
    rintro _ ⟨r, rfl⟩
    have BR := r.below
    go_wp2_with (fail)
    try dsimp only [NoPanic]
    go_wp2_with (fail)
    go_ret
    exact ⟨rfl, bthen HB.out BR⟩
  ·have q1 : decide (amo (Mo.P (j + 1)) ≤ D.pitch) = false := decide_eq_false g1
   rw [q1, Bool.false_and]
   go_enter Tryz.func59, Tryz.ntmps59
   go_wp2_with (fail)
   have _x := frm2 w #[.int .i64 D.size, .int .i64 D.load, .int .i64 D.wind, vA, .int .i64 D.pitch, .int .i64 D.roll, .int .i64 D.heave, .int .i64 D.fire, vB, vC] 26 #[.slice (some ⟨b1, f1, none⟩) Mo.np c1, .slice (some ⟨b2, f2, none⟩) Mo.np c2, .slice (some ⟨b3, f3, none⟩) Mo.np c3] 37
   have HY := hI9 _x.1
   have HX := hI9 _x.2.1
   have HB := hI9 _x.2.2.1
   have zW := _x.2.2.2
   clear _x
   generalize World.alloc (World.alloc w _) _ = W at *
   have zHX := HX.out.lt
   have cHX0 := HX.out.cell 0
   have cHX1 := HX.out.cell 1
   have cHX2 := HX.out.cell 2
   have zHY := HY.out.lt
   have cHY4 := HY.out.cell 4
   have cHY5 := HY.out.cell 5
   have cHY6 := HY.out.cell 6
   go_wp2_with (fail)
   have m2 : ∀ r : After W, r.w.cell? ⟨w.heap.size + 1, 2, none⟩ = some (.slice (some ⟨b3, f3, none⟩) Mo.np c3) := fun (r : After W) => (HX.out.below r.below).cell 2
   have v1 : ∀ r : After W, r.w.cell? ⟨b3, f3 + (j + 1), none⟩ = some (.int .i64 (Mo.V (j + 1))) := fun (r : After W) => ((bthen HB.out r.below).cell (p := ⟨b3, f3 + (j + 1), none⟩) hb3).trans (HC3.out (j + 1) hk)
   have v0 : ∀ r : After W, r.w.cell? ⟨b3, f3 + j, none⟩ = some (.int .i64 (Mo.V j)) := fun (r : After W) => ((bthen HB.out r.below).cell (p := ⟨b3, f3 + j, none⟩) hb3).trans (HC3.out j (by omega))
   refine wp_region_aftert 12 (by kernel_rfl) (by kernel_rfl) ?_
   simp only [List.take_succ_cons, List.take_zero, List.drop_succ_cons, List.drop_zero]
   iterate 12 (go_big_quiet_step (fail))
   refine wpQuiet_nil ?_
   rintro wq ⟨⟨w1, hb1⟩, rfl⟩
   clear m2 v1 v0
   have nHX := hI9 (HX.out.below hb1)
   have nHY := hI9 (HY.out.below hb1)
   have nHB := hI9 (bthen HB.out hb1)
   clear HX HY HB hb1
   have HX := nHX
   have HY := nHY
   have HB := nHB
   clear nHX nHY nHB
   go_wp2_with (fail)
   try dsimp only [NoPanic]
   go_wp2_with (fail)
   have m0 : ∀ r : After wq, r.w.cell? ⟨w.heap.size + 1, 0, none⟩ = some (.slice (some ⟨b1, f1, none⟩) Mo.np c1) := fun (r : After wq) => (HX.out.below r.below).cell 0
   have m1 : ∀ r : After wq, r.w.cell? ⟨w.heap.size + 1, 1, none⟩ = some (.slice (some ⟨b2, f2, none⟩) Mo.np c2) := fun (r : After wq) => (HX.out.below r.below).cell 1
   have d4 : ∀ r : After wq, r.w.cell? ⟨w.heap.size, 4, none⟩ = some (.int .i64 D.pitch) := fun (r : After wq) => (HY.out.below r.below).cell 4
   have d5 : ∀ r : After wq, r.w.cell? ⟨w.heap.size, 5, none⟩ = some (.int .i64 D.roll) := fun (r : After wq) => (HY.out.below r.below).cell 5
   have d6 : ∀ r : After wq, r.w.cell? ⟨w.heap.size, 6, none⟩ = some (.int .i64 D.heave) := fun (r : After wq) => (HY.out.below r.below).cell 6
   have eP : ∀ r : After wq, r.w.cell? ⟨b1, f1 + (j + 1), none⟩ = some (.int .i64 (Mo.P (j + 1))) := fun (r : After wq) => ((bthen HB.out r.below).cell (p := ⟨b1, f1 + (j + 1), none⟩) hb1).trans (HC1.out (j + 1) hk)
   have eR : ∀ r : After wq, r.w.cell? ⟨b2, f2 + (j + 1), none⟩ = some (.int .i64 (Mo.R (j + 1))) := fun (r : After wq) => ((bthen HB.out r.below).cell (p := ⟨b2, f2 + (j + 1), none⟩) hb2).trans (HC2.out (j + 1) hk)
   try simp only [Nat.add_zero] at eP eR
   refine wp_region_aftert 27 (by kernel_rfl) (by kernel_rfl) ?_
   simp only [List.take_succ_cons, List.take_zero, List.drop_succ_cons, List.drop_zero]
   iterate 27 (go_big_quiet_step (first | (go_at_call 109; (with_reducible refine qafter_same (A1.out _))) | (go_at_call 109; (with_reducible refine qafter_same (A2.out _))) | (go_at_call 109; (with_reducible refine qafter_same (A3.out _)))))
   refine wpQuiet_nil ?_
   rintro _ ⟨r, rfl⟩
   have BR := r.below
   go_wp2_with (fail)
   try dsimp only [NoPanic]
   go_wp2_with (fail)
   go_ret
   exact ⟨rfl, bthen HB.out BR⟩
end Go.Proofs.YtlambeiafdpkgaaGreat
