import Derived.Test.YtlambeiafdpkgaaGreatJAT
set_option linter.all false
namespace Go.Proofs.YtlambeiafdpkgaaGreat
open Go Go.RowKit Go.Proofs
set_option maxRecDepth 100000
set_option maxHeartbeats 8000000
theorem dwhy_c (D : DekD) (vA vB vC : Value) (M : MetD) (vF vS : Value) (Mo : MovD) (vP vR vV : Value) (a : AppD) (t : Int) (w : World) (hD : DekAt w vA vB vC D) (hA : MetAt w vF vS M) (hV : MovAt w vP vR vV Mo) (hO : D.Ok) (hMo : Mo.Ok) (ht0 : 0 ≤ t) (ht1 : t ≤ 2000) (hlo : 0 ≤ a.lo) (hhi : a.hi ≤ 719) :
  Calls Tryz.prog 31 #[.agg #[.int .i64 D.size, .int .i64 D.load, .int .i64 D.wind, vA, .int .i64 D.pitch, .int .i64 D.roll, .int .i64 D.heave, .int .i64 D.fire, vB, vC, .int .i64 M.places, .int .i64 M.any.a0, .int .i64 M.any.a1, .int .i64 M.any.a2, .int .i64 M.any.a3, .int .i64 M.any.a4, .int .i64 M.any.a5, .bool M.any.i, .bool M.any.s, .int .i64 M.mw, .int .i64 M.ms, .int .i64 M.mc, vF, vS, vP, vR, vV], .agg #[.int .i64 a.size, .int .i64 a.weight, .int .i64 a.lw, .int .i64 a.ls, .int .i64 a.lc, .bool a.li, .bool a.lt, .int .i64 a.place, .int .i64 a.lo, .int .i64 a.hi], .int .i64 t] w fun e w' => ∃ A c, e = .returned (.slice A (whyN D M Mo a t) c) ∧ Below w.heap.size w w' := by
 have HD := hI9 hD
 have HA := hI9 hA
 have HV := hI9 hV
 obtain ⟨A3, cC, rfl, -, -, -⟩ := hD.u.e
 have hli := fun w1 h => dlimit_c D vA vB (.slice A3 D.nu cC) a.lo a.hi w1 hO h hlo hhi
 have hqu := fun w1 h => dquiet_c D vA vB (.slice A3 D.nu cC) Mo vP vR vV t w1 hO hMo h ht0
 have hmn := fun w1 h => dmanned_c D vA vB (.slice A3 D.nu cC) t w1 hO h
 have hop := fun w1 h => wOpen_c M vF vS a.lw a.ls a.lc a.li a.lt a.place t w1 h
 have hmy := fun w1 h => wMay_c M vF vS a.place t w1 h
 have hsu := fun gt w1 (h : DekAt w1 vA vB (.slice A3 D.nu cC) D) h2 => dshut_c A3 cC gt D t w1 (by have := hO.nu; omega) (by obtain ⟨A', c', e, -, -, h⟩ := h.u.e; simp only [Value.slice.injEq] at e; obtain ⟨rfl, -, rfl⟩ := e; exact h) h2
 have hN : whyN D M Mo a t = sumC [decide (a.size ≤ D.size) && decide (a.weight ≤ D.load), openV M a.lw a.ls a.lc a.li a.lt a.place t, decide ((mayV M a.place t).a1 ≤ limV D a.lo a.hi), quiB D Mo t, manB D t, !shuB D t] 6 := by
  unfold whyN whyH; exact sum6 _ _ _ _ _ _
 rw [hN]
 rcases hx : mayV M a.place t with ⟨a0, a1, a2, a3, a4, a5, xi, xs⟩
 rw [hx] at hmy
 unfold Sk.cells at hmy
 dsimp only at hmy ⊢
 generalize openV M a.lw a.ls a.lc a.li a.lt a.place t = B1 at *
 generalize opE M a.lw a.ls a.lc a.place t = E1 at *
 generalize atE M a.place t = E2 at *
 generalize limV D a.lo a.hi = L at *
 generalize quiB D Mo t = B3 at *
 generalize manB D t = B4 at *
 generalize shuB D t = B5 at *
 obtain ⟨b0, hb0⟩ : ∃ q, q = decide (a.weight ≤ D.load) := ⟨_, rfl⟩
 obtain ⟨b2, hb2⟩ : ∃ q, q = decide (a1 ≤ L) := ⟨_, rfl⟩
 rw [← hb0, ← hb2]
 have HB0 := hI9 hb0
 have HB2 := hI9 hb2
 have HLI := hI9 hli
 have HQU := hI9 hqu
 have HMN := hI9 hmn
 have HOP := hI9 hop
 have HMY := hI9 hmy
 have HSU := hI9 hsu
 clear hli hqu hmn hop hmy hsu hb0 hb2 hN hx hD hA hV hO hMo
 by_cases g1 : a.size ≤ D.size
 ·have q1 : decide (a.size ≤ D.size) = true := decide_eq_true g1
  rw [q1, Bool.true_and]
  go_enter Tryz.func31, Tryz.ntmps31
  go_wp2_with (fail)
  have _x := frm3 w #[.int .i64 D.size, .int .i64 D.load, .int .i64 D.wind, vA, .int .i64 D.pitch, .int .i64 D.roll, .int .i64 D.heave, .int .i64 D.fire, vB, .slice A3 D.nu cC, .int .i64 M.places, .int .i64 M.any.a0, .int .i64 M.any.a1, .int .i64 M.any.a2, .int .i64 M.any.a3, .int .i64 M.any.a4, .int .i64 M.any.a5, .bool M.any.i, .bool M.any.s, .int .i64 M.mw, .int .i64 M.ms, .int .i64 M.mc, vF, vS, vP, vR, vV] 98 #[.int .i64 a.size, .int .i64 a.weight, .int .i64 a.lw, .int .i64 a.ls, .int .i64 a.lc, .bool a.li, .bool a.lt, .int .i64 a.place, .int .i64 a.lo, .int .i64 a.hi] 43 #[.int .i64 t] 3
  have HX := hI9 _x.1
  have HY := hI9 _x.2.1
  have HT := hI9 _x.2.2.1
  have HB := hI9 _x.2.2.2.1
  have zW := _x.2.2.2.2
  clear _x
  generalize World.alloc (World.alloc (World.alloc w _) _) _ = W at *
  have zHY := HY.out.lt
  have cHY2 := HY.out.cell 2
  have cHY3 := HY.out.cell 3
  have cHY4 := HY.out.cell 4
  have cHY5 := HY.out.cell 5
  have cHY6 := HY.out.cell 6
  have cHY7 := HY.out.cell 7
  have zHT := HT.out.lt
  have cHT0 := HT.out.cell 0
  go_wp2_with (first | (refine wpl_mid rfl 34 _ rfl w.heap.size 10 rfl 98 _ #[.int .i64 M.places, .int .i64 M.any.a0, .int .i64 M.any.a1, .int .i64 M.any.a2, .int .i64 M.any.a3, .int .i64 M.any.a4, .int .i64 M.any.a5, .bool M.any.i, .bool M.any.s, .int .i64 M.mw, .int .i64 M.ms, .int .i64 M.mc, vF, vS] 14 HX.out Tryz.rowMet [.int .i64 D.size, .int .i64 D.load, .int .i64 D.wind, vA, .int .i64 D.pitch, .int .i64 D.roll, .int .i64 D.heave, .int .i64 D.fire, vB, .slice A3 D.nu cC] [vP, vR, vV] rfl rfl rfl ?_; simp only [Act.put]) | (go_at_call 11; (with_reducible refine (HOP.out _ (HA.out.below HB.out)).mono ?_); rintro e w1 ⟨rfl, hb1⟩; have nHX := hI9 (HX.out.below hb1); have nHY := hI9 (HY.out.below hb1); have nHT := hI9 (HT.out.below hb1); have nHB := hI9 (bthen HB.out hb1); have zz1 := hb1.size; clear HX HY HT HB hb1; have HX := nHX; have HY := nHY; have HT := nHT; have HB := nHB; clear nHX nHY nHT nHB; (try clear zHY); have zHY := HY.out.lt; (try clear cHY7); have cHY7 := HY.out.cell 7; (try clear zHT); have zHT := HT.out.lt; (try clear cHT0); have cHT0 := HT.out.cell 0))
  refine (HMY.out _ (HA.out.below HB.out)).mono ?_
  rintro e w1 ⟨rfl, hb1⟩
  have nHX := hI9 (HX.out.below hb1)
  have nHY := hI9 (HY.out.below hb1)
  have nHT := hI9 (HT.out.below hb1)
  have nHB := hI9 (bthen HB.out hb1)
  clear HX HY HT HB hb1
  have HX := nHX
  have HY := nHY
  have HT := nHT
  have HB := nHB
  clear nHX nHY nHT nHB
  go_wp2_with (fail)
  have bHS := Blk.new w1 30 #[.int .i64 a0, .int .i64 a1, .int .i64 a2, .int .i64 a3, .int .i64 a4, .int .i64 a5, .bool xi, .bool xs]
  have nHX := hI9 (HX.out.alloc (.cells #[.int .i64 a0, .int .i64 a1, .int .i64 a2, .int .i64 a3, .int .i64 a4, .int .i64 a5, .bool xi, .bool xs] 30))
  have nHY := hI9 (HY.out.alloc (.cells #[.int .i64 a0, .int .i64 a1, .int .i64 a2, .int .i64 a3, .int .i64 a4, .int .i64 a5, .bool xi, .bool xs] 30))
  have nHT := hI9 (HT.out.alloc (.cells #[.int .i64 a0, .int .i64 a1, .int .i64 a2, .int .i64 a3, .int .i64 a4, .int .i64 a5, .bool xi, .bool xs] 30))
  have nHB := hI9 (bal HB.out (.cells #[.int .i64 a0, .int .i64 a1, .int .i64 a2, .int .i64 a3, .int .i64 a4, .int .i64 a5, .bool xi, .bool xs] 30))
  clear HX HY HT HB
  have HX := nHX
  have HY := nHY
  have HT := nHT
  have HB := nHB
  clear nHX nHY nHT nHB
  generalize w1.alloc (.cells #[.int .i64 a0, .int .i64 a1, .int .i64 a2, .int .i64 a3, .int .i64 a4, .int .i64 a5, .bool xi, .bool xs] 30) = W2 at *
  generalize w1.heap.size = gHS at *
  have HS := hI9 bHS
  clear bHS
  have hX2 := hI9 (fun r : After W2 => HX.out.below r.below)
  have hY2 := hI9 (fun r : After W2 => HY.out.below r.below)
  have hT2 := hI9 (fun r : After W2 => HT.out.below r.below)
  have hS2 := hI9 (fun r : After W2 => HS.out.below r.below)
  have hD2 := hI9 (fun r : After W2 => (HD.out.below HB.out).below r.below)
  have hV2 := hI9 (fun r : After W2 => (HV.out.below HB.out).below r.below)
  have y0 : ∀ r : After W2, r.w.cell? ⟨w.heap.size + 1, 0, none⟩ = some (.int .i64 a.size) := fun (r : After W2) => (HY.out.below r.below).cell 0
  have y1 : ∀ r : After W2, r.w.cell? ⟨w.heap.size + 1, 1, none⟩ = some (.int .i64 a.weight) := fun (r : After W2) => (HY.out.below r.below).cell 1
  have y8 : ∀ r : After W2, r.w.cell? ⟨w.heap.size + 1, 8, none⟩ = some (.int .i64 a.lo) := fun (r : After W2) => (HY.out.below r.below).cell 8
  have y9 : ∀ r : After W2, r.w.cell? ⟨w.heap.size + 1, 9, none⟩ = some (.int .i64 a.hi) := fun (r : After W2) => (HY.out.below r.below).cell 9
  have x0 : ∀ r : After W2, r.w.cell? ⟨w.heap.size, 0, none⟩ = some (.int .i64 D.size) := fun (r : After W2) => (HX.out.below r.below).cell 0
  have x1 : ∀ r : After W2, r.w.cell? ⟨w.heap.size, 1, none⟩ = some (.int .i64 D.load) := fun (r : After W2) => (HX.out.below r.below).cell 1
  have x9 : ∀ r : After W2, r.w.cell? ⟨w.heap.size, 9, none⟩ = some (.slice A3 D.nu cC) := fun (r : After W2) => (HX.out.below r.below).cell 9
  have t0 : ∀ r : After W2, r.w.cell? ⟨w.heap.size + 1 + 1, 0, none⟩ = some (.int .i64 t) := fun (r : After W2) => (HT.out.below r.below).cell 0
  have s1 : ∀ r : After W2, r.w.cell? ⟨gHS, 1, none⟩ = some (.int .i64 a1) := fun (r : After W2) => (HS.out.below r.below).cell 1
  have HSH := hI9 (fun r : After W2 => HSU.out (w.heap.size + 1 + 1) r.w ((hD2.out r)) (t0 r))
  refine wp_region_after (by kernel_rfl) (by kernel_rfl) ?_
  iterate 19 (go_big_quiet_step (fail))
  refine wpq_mid rfl 26 _ rfl w.heap.size 0 rfl 98 _ #[.int .i64 D.size, .int .i64 D.load, .int .i64 D.wind, vA, .int .i64 D.pitch, .int .i64 D.roll, .int .i64 D.heave, .int .i64 D.fire, vB, .slice A3 D.nu cC] 10 (fun _ hw => by obtain ⟨r, rfl⟩ := hw; exact hX2.out r) Tryz.rowDek [] [.int .i64 M.places, .int .i64 M.any.a0, .int .i64 M.any.a1, .int .i64 M.any.a2, .int .i64 M.any.a3, .int .i64 M.any.a4, .int .i64 M.any.a5, .bool M.any.i, .bool M.any.s, .int .i64 M.mw, .int .i64 M.ms, .int .i64 M.mc, vF, vS, vP, vR, vV] rfl rfl rfl ?_; simp only [Act.put, List.setIfInBounds_toArray, List.set_cons_succ, List.set_cons_zero]
  iterate 5 (go_big_quiet_step (first | (go_at_call 58; (with_reducible refine qafter (HLI.out _ (hD2.out _)))) | (go_at_call 59; (with_reducible refine qafter (HQU.out _ (hV2.out _)))) | (go_at_call 60; (with_reducible refine qafter (HMN.out _ (hD2.out _)))) | (go_at_call 61; (with_reducible refine qafter (HSH.out _)))))
  refine wpq_mid rfl 26 _ rfl w.heap.size 0 rfl 98 _ #[.int .i64 D.size, .int .i64 D.load, .int .i64 D.wind, vA, .int .i64 D.pitch, .int .i64 D.roll, .int .i64 D.heave, .int .i64 D.fire, vB, .slice A3 D.nu cC] 10 (fun _ hw => by obtain ⟨r, rfl⟩ := hw; exact hX2.out r) Tryz.rowDek [] [.int .i64 M.places, .int .i64 M.any.a0, .int .i64 M.any.a1, .int .i64 M.any.a2, .int .i64 M.any.a3, .int .i64 M.any.a4, .int .i64 M.any.a5, .bool M.any.i, .bool M.any.s, .int .i64 M.mw, .int .i64 M.ms, .int .i64 M.mc, vF, vS, vP, vR, vV] rfl rfl rfl ?_; simp only [Act.put, List.setIfInBounds_toArray, List.set_cons_succ, List.set_cons_zero]
  go_big_quiet_step (fail)
  refine wpq_mid rfl 37 _ rfl w.heap.size 24 rfl 98 _ #[vP, vR, vV] 3 (fun _ hw => by obtain ⟨r, rfl⟩ := hw; exact hX2.out r) Tryz.rowMov [.int .i64 D.size, .int .i64 D.load, .int .i64 D.wind, vA, .int .i64 D.pitch, .int .i64 D.roll, .int .i64 D.heave, .int .i64 D.fire, vB, .slice A3 D.nu cC, .int .i64 M.places, .int .i64 M.any.a0, .int .i64 M.any.a1, .int .i64 M.any.a2, .int .i64 M.any.a3, .int .i64 M.any.a4, .int .i64 M.any.a5, .bool M.any.i, .bool M.any.s, .int .i64 M.mw, .int .i64 M.ms, .int .i64 M.mc, vF, vS] [] rfl rfl rfl ?_; simp only [Act.put, List.setIfInBounds_toArray, List.set_cons_succ, List.set_cons_zero]
  iterate 3 (go_big_quiet_step (first | (go_at_call 58; (with_reducible refine qafter (HLI.out _ (hD2.out _)))) | (go_at_call 59; (with_reducible refine qafter (HQU.out _ (hV2.out _)))) | (go_at_call 60; (with_reducible refine qafter (HMN.out _ (hD2.out _)))) | (go_at_call 61; (with_reducible refine qafter (HSH.out _)))))
  refine wpq_mid rfl 26 _ rfl w.heap.size 0 rfl 98 _ #[.int .i64 D.size, .int .i64 D.load, .int .i64 D.wind, vA, .int .i64 D.pitch, .int .i64 D.roll, .int .i64 D.heave, .int .i64 D.fire, vB, .slice A3 D.nu cC] 10 (fun _ hw => by obtain ⟨r, rfl⟩ := hw; exact hX2.out r) Tryz.rowDek [] [.int .i64 M.places, .int .i64 M.any.a0, .int .i64 M.any.a1, .int .i64 M.any.a2, .int .i64 M.any.a3, .int .i64 M.any.a4, .int .i64 M.any.a5, .bool M.any.i, .bool M.any.s, .int .i64 M.mw, .int .i64 M.ms, .int .i64 M.mc, vF, vS, vP, vR, vV] rfl rfl rfl ?_; simp only [Act.put, List.setIfInBounds_toArray, List.set_cons_succ, List.set_cons_zero]
  iterate 10 (go_big_quiet_step (first | (go_at_call 58; (with_reducible refine qafter (HLI.out _ (hD2.out _)))) | (go_at_call 59; (with_reducible refine qafter (HQU.out _ (hV2.out _)))) | (go_at_call 60; (with_reducible refine qafter (HMN.out _ (hD2.out _)))) | (go_at_call 61; (with_reducible refine qafter (HSH.out _)))))
  refine wpQuiet_nil ?_
  rintro wq ⟨⟨w1, hb1⟩, rfl⟩
  clear hS2 hX2 hY2 hT2 hD2 hV2 y0 y1 y8 y9 x0 x1 x9 t0 s1
  have nHX := hI9 (HX.out.below hb1)
  have nHY := hI9 (HY.out.below hb1)
  have nHT := hI9 (HT.out.below hb1)
  have nHS := hI9 (HS.out.below hb1)
  have nHB := hI9 (bthen HB.out hb1)
  clear HX HY HT HS HB hb1
  have HX := nHX
  have HY := nHY
  have HT := nHT
  have HS := nHS
  have HB := nHB
  clear nHX nHY nHT nHS nHB
  rw [show decide (a.weight ≤ D.load) = b0 from HB0.out.symm, show decide (a1 ≤ L) = b2 from HB2.out.symm]
  have K0 := hI9 (show WyK w [b0, B1, b2, B3, B4, !B5] 0 (.slice none 0 0) wq from ⟨HB.out, ⟨[], Nat.le_refl _, rfl, World.ownsRow_nil _ _ _ _⟩⟩)
  clear HX HY HT HS HB HD HA HV HLI HQU HMN HSH HOP HMY
  go_wp2_with (fail)
  go_loopg [6, 74] 6 (fun gx v i wr => ∃ k : Nat, i = .int .i64 k ∧ k ≤ 6 ∧ 6 - k ≤ gx ∧ Hid (WyK w [b0, B1, b2, B3, B4, !B5] k v wr))
  case atStart => exact ⟨0, rfl, Nat.zero_le _, Nat.le_refl _, K0⟩
  case round =>
   clear K0
   obtain ⟨k, rfl, hk, hgx, K0⟩ := hrel
   obtain ⟨l, hl6, hl, ho⟩ := K0.out.o
   have HLN := hI9 hl
   clear hl
   rcases (show k = 0 ∨ k = 1 ∨ k = 2 ∨ k = 3 ∨ k = 4 ∨ k = 5 ∨ k = 6 by omega) with rfl | rfl | rfl | rfl | rfl | rfl | rfl
   ·cases b0
    ·skip
     have ix : ∀ w : World, (Instr.index 148 (.agg #[.bool false, .bool B1, .bool b2, .bool B3, .bool B4, .bool (!B5)]) (.int .i64 0)).run Tryz.prog w = .ok (.bool false) w := fun _ => by kernel_rfl
     have iy : ∀ w : World, (Instr.index 148 (.agg #[.bool false, .bool B1, .bool b2, .bool B3, .bool B4, .bool (!B5)]) (.int .i64 ((0 : Nat) : Int))).run Tryz.prog w = .ok (.bool false) w := fun _ => by kernel_rfl
     go_wp2_with (at_builtin; go_loud (refine wpl_appN rfl _ _ rfl w.heap.size _ l rfl (ho.alloc _) _ 1 rfl ?u1 (by omega) ?u2 ?_))
     case u1 => simp [encN]
     case u2 => have := K0.out.b.size; first | omega | (simp; omega)
     ·intro v2 w2 o2 g2 n2
      have L1 := hI9 (WyK.add K0.out.b hl6 HLN.out ho rfl (by simpa using o2) g2)
      clear o2 g2 n2
      go_wp2_with (fail)
      go_roundg (6 - 1)
      case measure => omega
      case rel => exact ⟨1, by first | rfl | go_num | (congr 1; omega), by omega, Nat.le_refl _, L1⟩
    ·skip
     have ix : ∀ w : World, (Instr.index 148 (.agg #[.bool true, .bool B1, .bool b2, .bool B3, .bool B4, .bool (!B5)]) (.int .i64 0)).run Tryz.prog w = .ok (.bool true) w := fun _ => by kernel_rfl
     have iy : ∀ w : World, (Instr.index 148 (.agg #[.bool true, .bool B1, .bool b2, .bool B3, .bool B4, .bool (!B5)]) (.int .i64 ((0 : Nat) : Int))).run Tryz.prog w = .ok (.bool true) w := fun _ => by kernel_rfl
     go_wp2_with (fail)
     go_roundg (6 - 1)
     case measure => omega
     case rel => exact ⟨1, by first | rfl | go_num | (congr 1; omega), by omega, Nat.le_refl _, hI9 (K0.out.skip rfl)⟩
   ·cases B1
    ·skip
     have ix : ∀ w : World, (Instr.index 148 (.agg #[.bool b0, .bool false, .bool b2, .bool B3, .bool B4, .bool (!B5)]) (.int .i64 1)).run Tryz.prog w = .ok (.bool false) w := fun _ => by kernel_rfl
     have iy : ∀ w : World, (Instr.index 148 (.agg #[.bool b0, .bool false, .bool b2, .bool B3, .bool B4, .bool (!B5)]) (.int .i64 ((1 : Nat) : Int))).run Tryz.prog w = .ok (.bool false) w := fun _ => by kernel_rfl
     go_wp2_with (at_builtin; go_loud (refine wpl_appN rfl _ _ rfl w.heap.size _ l rfl (ho.alloc _) _ 2 rfl ?u1 (by omega) ?u2 ?_))
     case u1 => simp [encN]
     case u2 => have := K0.out.b.size; first | omega | (simp; omega)
     ·intro v2 w2 o2 g2 n2
      have L1 := hI9 (WyK.add K0.out.b hl6 HLN.out ho rfl (by simpa using o2) g2)
      clear o2 g2 n2
      go_wp2_with (fail)
      go_roundg (6 - 2)
      case measure => omega
      case rel => exact ⟨2, by first | rfl | go_num | (congr 1; omega), by omega, Nat.le_refl _, L1⟩
    ·skip
     have ix : ∀ w : World, (Instr.index 148 (.agg #[.bool b0, .bool true, .bool b2, .bool B3, .bool B4, .bool (!B5)]) (.int .i64 1)).run Tryz.prog w = .ok (.bool true) w := fun _ => by kernel_rfl
     have iy : ∀ w : World, (Instr.index 148 (.agg #[.bool b0, .bool true, .bool b2, .bool B3, .bool B4, .bool (!B5)]) (.int .i64 ((1 : Nat) : Int))).run Tryz.prog w = .ok (.bool true) w := fun _ => by kernel_rfl
     go_wp2_with (fail)
     go_roundg (6 - 2)
     case measure => omega
     case rel => exact ⟨2, by first | rfl | go_num | (congr 1; omega), by omega, Nat.le_refl _, hI9 (K0.out.skip rfl)⟩
   ·cases b2
    ·skip
     have ix : ∀ w : World, (Instr.index 148 (.agg #[.bool b0, .bool B1, .bool false, .bool B3, .bool B4, .bool (!B5)]) (.int .i64 2)).run Tryz.prog w = .ok (.bool false) w := fun _ => by kernel_rfl
     have iy : ∀ w : World, (Instr.index 148 (.agg #[.bool b0, .bool B1, .bool false, .bool B3, .bool B4, .bool (!B5)]) (.int .i64 ((2 : Nat) : Int))).run Tryz.prog w = .ok (.bool false) w := fun _ => by kernel_rfl
     go_wp2_with (at_builtin; go_loud (refine wpl_appN rfl _ _ rfl w.heap.size _ l rfl (ho.alloc _) _ 3 rfl ?u1 (by omega) ?u2 ?_))
     case u1 => simp [encN]
     case u2 => have := K0.out.b.size; first | omega | (simp; omega)
     ·intro v2 w2 o2 g2 n2
      have L1 := hI9 (WyK.add K0.out.b hl6 HLN.out ho rfl (by simpa using o2) g2)
      clear o2 g2 n2
      go_wp2_with (fail)
      go_roundg (6 - 3)
      case measure => omega
      case rel => exact ⟨3, by first | rfl | go_num | (congr 1; omega), by omega, Nat.le_refl _, L1⟩
    ·skip
     have ix : ∀ w : World, (Instr.index 148 (.agg #[.bool b0, .bool B1, .bool true, .bool B3, .bool B4, .bool (!B5)]) (.int .i64 2)).run Tryz.prog w = .ok (.bool true) w := fun _ => by kernel_rfl
     have iy : ∀ w : World, (Instr.index 148 (.agg #[.bool b0, .bool B1, .bool true, .bool B3, .bool B4, .bool (!B5)]) (.int .i64 ((2 : Nat) : Int))).run Tryz.prog w = .ok (.bool true) w := fun _ => by kernel_rfl
     go_wp2_with (fail)
     go_roundg (6 - 3)
     case measure => omega
     case rel => exact ⟨3, by first | rfl | go_num | (congr 1; omega), by omega, Nat.le_refl _, hI9 (K0.out.skip rfl)⟩
   ·cases B3
    ·skip
     have ix : ∀ w : World, (Instr.index 148 (.agg #[.bool b0, .bool B1, .bool b2, .bool false, .bool B4, .bool (!B5)]) (.int .i64 3)).run Tryz.prog w = .ok (.bool false) w := fun _ => by kernel_rfl
     have iy : ∀ w : World, (Instr.index 148 (.agg #[.bool b0, .bool B1, .bool b2, .bool false, .bool B4, .bool (!B5)]) (.int .i64 ((3 : Nat) : Int))).run Tryz.prog w = .ok (.bool false) w := fun _ => by kernel_rfl
     go_wp2_with (at_builtin; go_loud (refine wpl_appN rfl _ _ rfl w.heap.size _ l rfl (ho.alloc _) _ 4 rfl ?u1 (by omega) ?u2 ?_))
     case u1 => simp [encN]
     case u2 => have := K0.out.b.size; first | omega | (simp; omega)
     ·intro v2 w2 o2 g2 n2
      have L1 := hI9 (WyK.add K0.out.b hl6 HLN.out ho rfl (by simpa using o2) g2)
      clear o2 g2 n2
      go_wp2_with (fail)
      go_roundg (6 - 4)
      case measure => omega
      case rel => exact ⟨4, by first | rfl | go_num | (congr 1; omega), by omega, Nat.le_refl _, L1⟩
    ·skip
     have ix : ∀ w : World, (Instr.index 148 (.agg #[.bool b0, .bool B1, .bool b2, .bool true, .bool B4, .bool (!B5)]) (.int .i64 3)).run Tryz.prog w = .ok (.bool true) w := fun _ => by kernel_rfl
     have iy : ∀ w : World, (Instr.index 148 (.agg #[.bool b0, .bool B1, .bool b2, .bool true, .bool B4, .bool (!B5)]) (.int .i64 ((3 : Nat) : Int))).run Tryz.prog w = .ok (.bool true) w := fun _ => by kernel_rfl
     go_wp2_with (fail)
     go_roundg (6 - 4)
     case measure => omega
     case rel => exact ⟨4, by first | rfl | go_num | (congr 1; omega), by omega, Nat.le_refl _, hI9 (K0.out.skip rfl)⟩
   ·cases B4
    ·skip
     have ix : ∀ w : World, (Instr.index 148 (.agg #[.bool b0, .bool B1, .bool b2, .bool B3, .bool false, .bool (!B5)]) (.int .i64 4)).run Tryz.prog w = .ok (.bool false) w := fun _ => by kernel_rfl
     have iy : ∀ w : World, (Instr.index 148 (.agg #[.bool b0, .bool B1, .bool b2, .bool B3, .bool false, .bool (!B5)]) (.int .i64 ((4 : Nat) : Int))).run Tryz.prog w = .ok (.bool false) w := fun _ => by kernel_rfl
     go_wp2_with (at_builtin; go_loud (refine wpl_appN rfl _ _ rfl w.heap.size _ l rfl (ho.alloc _) _ 5 rfl ?u1 (by omega) ?u2 ?_))
     case u1 => simp [encN]
     case u2 => have := K0.out.b.size; first | omega | (simp; omega)
     ·intro v2 w2 o2 g2 n2
      have L1 := hI9 (WyK.add K0.out.b hl6 HLN.out ho rfl (by simpa using o2) g2)
      clear o2 g2 n2
      go_wp2_with (fail)
      go_roundg (6 - 5)
      case measure => omega
      case rel => exact ⟨5, by first | rfl | go_num | (congr 1; omega), by omega, Nat.le_refl _, L1⟩
    ·skip
     have ix : ∀ w : World, (Instr.index 148 (.agg #[.bool b0, .bool B1, .bool b2, .bool B3, .bool true, .bool (!B5)]) (.int .i64 4)).run Tryz.prog w = .ok (.bool true) w := fun _ => by kernel_rfl
     have iy : ∀ w : World, (Instr.index 148 (.agg #[.bool b0, .bool B1, .bool b2, .bool B3, .bool true, .bool (!B5)]) (.int .i64 ((4 : Nat) : Int))).run Tryz.prog w = .ok (.bool true) w := fun _ => by kernel_rfl
     go_wp2_with (fail)
     go_roundg (6 - 5)
     case measure => omega
     case rel => exact ⟨5, by first | rfl | go_num | (congr 1; omega), by omega, Nat.le_refl _, hI9 (K0.out.skip rfl)⟩
   ·cases B5
    ·skip
     have ix : ∀ w : World, (Instr.index 148 (.agg #[.bool b0, .bool B1, .bool b2, .bool B3, .bool B4, .bool true]) (.int .i64 5)).run Tryz.prog w = .ok (.bool true) w := fun _ => by kernel_rfl
     have iy : ∀ w : World, (Instr.index 148 (.agg #[.bool b0, .bool B1, .bool b2, .bool B3, .bool B4, .bool true]) (.int .i64 ((5 : Nat) : Int))).run Tryz.prog w = .ok (.bool true) w := fun _ => by kernel_rfl
     go_wp2_with (fail)
     go_roundg (6 - 6)
     case measure => omega
     case rel => exact ⟨6, by first | rfl | go_num | (congr 1; omega), by omega, Nat.le_refl _, hI9 (K0.out.skip rfl)⟩
    ·skip
     have ix : ∀ w : World, (Instr.index 148 (.agg #[.bool b0, .bool B1, .bool b2, .bool B3, .bool B4, .bool false]) (.int .i64 5)).run Tryz.prog w = .ok (.bool false) w := fun _ => by kernel_rfl
     have iy : ∀ w : World, (Instr.index 148 (.agg #[.bool b0, .bool B1, .bool b2, .bool B3, .bool B4, .bool false]) (.int .i64 ((5 : Nat) : Int))).run Tryz.prog w = .ok (.bool false) w := fun _ => by kernel_rfl
     go_wp2_with (at_builtin; go_loud (refine wpl_appN rfl _ _ rfl w.heap.size _ l rfl (ho.alloc _) _ 6 rfl ?u1 (by omega) ?u2 ?_))
     case u1 => simp [encN]
     case u2 => have := K0.out.b.size; first | omega | (simp; omega)
     ·intro v2 w2 o2 g2 n2
      have L1 := hI9 (WyK.add K0.out.b hl6 HLN.out ho rfl (by simpa using o2) g2)
      clear o2 g2 n2
      go_wp2_with (fail)
      go_roundg (6 - 6)
      case measure => omega
      case rel => exact ⟨6, by first | rfl | go_num | (congr 1; omega), by omega, Nat.le_refl _, L1⟩
   ·obtain ⟨A, c, rfl⟩ := K0.out.fin
    go_wp2_with (fail)
    go_ret
    exact ⟨A, c, rfl, K0.out.b⟩
 ·have q1 : decide (a.size ≤ D.size) = false := decide_eq_false g1
  rw [q1, Bool.false_and]
  go_enter Tryz.func31, Tryz.ntmps31
  go_wp2_with (fail)
  have _x := frm3 w #[.int .i64 D.size, .int .i64 D.load, .int .i64 D.wind, vA, .int .i64 D.pitch, .int .i64 D.roll, .int .i64 D.heave, .int .i64 D.fire, vB, .slice A3 D.nu cC, .int .i64 M.places, .int .i64 M.any.a0, .int .i64 M.any.a1, .int .i64 M.any.a2, .int .i64 M.any.a3, .int .i64 M.any.a4, .int .i64 M.any.a5, .bool M.any.i, .bool M.any.s, .int .i64 M.mw, .int .i64 M.ms, .int .i64 M.mc, vF, vS, vP, vR, vV] 98 #[.int .i64 a.size, .int .i64 a.weight, .int .i64 a.lw, .int .i64 a.ls, .int .i64 a.lc, .bool a.li, .bool a.lt, .int .i64 a.place, .int .i64 a.lo, .int .i64 a.hi] 43 #[.int .i64 t] 3
  have HX := hI9 _x.1
  have HY := hI9 _x.2.1
  have HT := hI9 _x.2.2.1
  have HB := hI9 _x.2.2.2.1
  have zW := _x.2.2.2.2
  clear _x
  generalize World.alloc (World.alloc (World.alloc w _) _) _ = W at *
  have zHY := HY.out.lt
  have cHY2 := HY.out.cell 2
  have cHY3 := HY.out.cell 3
  have cHY4 := HY.out.cell 4
  have cHY5 := HY.out.cell 5
  have cHY6 := HY.out.cell 6
  have cHY7 := HY.out.cell 7
  have zHT := HT.out.lt
  have cHT0 := HT.out.cell 0
  go_wp2_with (first | (refine wpl_mid rfl 34 _ rfl w.heap.size 10 rfl 98 _ #[.int .i64 M.places, .int .i64 M.any.a0, .int .i64 M.any.a1, .int .i64 M.any.a2, .int .i64 M.any.a3, .int .i64 M.any.a4, .int .i64 M.any.a5, .bool M.any.i, .bool M.any.s, .int .i64 M.mw, .int .i64 M.ms, .int .i64 M.mc, vF, vS] 14 HX.out Tryz.rowMet [.int .i64 D.size, .int .i64 D.load, .int .i64 D.wind, vA, .int .i64 D.pitch, .int .i64 D.roll, .int .i64 D.heave, .int .i64 D.fire, vB, .slice A3 D.nu cC] [vP, vR, vV] rfl rfl rfl ?_; simp only [Act.put]) | (go_at_call 11; (with_reducible refine (HOP.out _ (HA.out.below HB.out)).mono ?_); rintro e w1 ⟨rfl, hb1⟩; have nHX := hI9 (HX.out.below hb1); have nHY := hI9 (HY.out.below hb1); have nHT := hI9 (HT.out.below hb1); have nHB := hI9 (bthen HB.out hb1); have zz1 := hb1.size; clear HX HY HT HB hb1; have HX := nHX; have HY := nHY; have HT := nHT; have HB := nHB; clear nHX nHY nHT nHB; (try clear zHY); have zHY := HY.out.lt; (try clear cHY7); have cHY7 := HY.out.cell 7; (try clear zHT); have zHT := HT.out.lt; (try clear cHT0); have cHT0 := HT.out.cell 0))
  refine (HMY.out _ (HA.out.below HB.out)).mono ?_
  rintro e w1 ⟨rfl, hb1⟩
  have nHX := hI9 (HX.out.below hb1)
  have nHY := hI9 (HY.out.below hb1)
  have nHT := hI9 (HT.out.below hb1)
  have nHB := hI9 (bthen HB.out hb1)
  clear HX HY HT HB hb1
  have HX := nHX
  have HY := nHY
  have HT := nHT
  have HB := nHB
  clear nHX nHY nHT nHB
  go_wp2_with (fail)
  have bHS := Blk.new w1 30 #[.int .i64 a0, .int .i64 a1, .int .i64 a2, .int .i64 a3, .int .i64 a4, .int .i64 a5, .bool xi, .bool xs]
  have nHX := hI9 (HX.out.alloc (.cells #[.int .i64 a0, .int .i64 a1, .int .i64 a2, .int .i64 a3, .int .i64 a4, .int .i64 a5, .bool xi, .bool xs] 30))
  have nHY := hI9 (HY.out.alloc (.cells #[.int .i64 a0, .int .i64 a1, .int .i64 a2, .int .i64 a3, .int .i64 a4, .int .i64 a5, .bool xi, .bool xs] 30))
  have nHT := hI9 (HT.out.alloc (.cells #[.int .i64 a0, .int .i64 a1, .int .i64 a2, .int .i64 a3, .int .i64 a4, .int .i64 a5, .bool xi, .bool xs] 30))
  have nHB := hI9 (bal HB.out (.cells #[.int .i64 a0, .int .i64 a1, .int .i64 a2, .int .i64 a3, .int .i64 a4, .int .i64 a5, .bool xi, .bool xs] 30))
  clear HX HY HT HB
  have HX := nHX
  have HY := nHY
  have HT := nHT
  have HB := nHB
  clear nHX nHY nHT nHB
  generalize w1.alloc (.cells #[.int .i64 a0, .int .i64 a1, .int .i64 a2, .int .i64 a3, .int .i64 a4, .int .i64 a5, .bool xi, .bool xs] 30) = W2 at *
  generalize w1.heap.size = gHS at *
  have HS := hI9 bHS
  clear bHS
  have hX2 := hI9 (fun r : After W2 => HX.out.below r.below)
  have hY2 := hI9 (fun r : After W2 => HY.out.below r.below)
  have hT2 := hI9 (fun r : After W2 => HT.out.below r.below)
  have hS2 := hI9 (fun r : After W2 => HS.out.below r.below)
  have hD2 := hI9 (fun r : After W2 => (HD.out.below HB.out).below r.below)
  have hV2 := hI9 (fun r : After W2 => (HV.out.below HB.out).below r.below)
  have y0 : ∀ r : After W2, r.w.cell? ⟨w.heap.size + 1, 0, none⟩ = some (.int .i64 a.size) := fun (r : After W2) => (HY.out.below r.below).cell 0
  have y1 : ∀ r : After W2, r.w.cell? ⟨w.heap.size + 1, 1, none⟩ = some (.int .i64 a.weight) := fun (r : After W2) => (HY.out.below r.below).cell 1
  have y8 : ∀ r : After W2, r.w.cell? ⟨w.heap.size + 1, 8, none⟩ = some (.int .i64 a.lo) := fun (r : After W2) => (HY.out.below r.below).cell 8
  have y9 : ∀ r : After W2, r.w.cell? ⟨w.heap.size + 1, 9, none⟩ = some (.int .i64 a.hi) := fun (r : After W2) => (HY.out.below r.below).cell 9
  have x0 : ∀ r : After W2, r.w.cell? ⟨w.heap.size, 0, none⟩ = some (.int .i64 D.size) := fun (r : After W2) => (HX.out.below r.below).cell 0
  have x1 : ∀ r : After W2, r.w.cell? ⟨w.heap.size, 1, none⟩ = some (.int .i64 D.load) := fun (r : After W2) => (HX.out.below r.below).cell 1
  have x9 : ∀ r : After W2, r.w.cell? ⟨w.heap.size, 9, none⟩ = some (.slice A3 D.nu cC) := fun (r : After W2) => (HX.out.below r.below).cell 9
  have t0 : ∀ r : After W2, r.w.cell? ⟨w.heap.size + 1 + 1, 0, none⟩ = some (.int .i64 t) := fun (r : After W2) => (HT.out.below r.below).cell 0
  have s1 : ∀ r : After W2, r.w.cell? ⟨gHS, 1, none⟩ = some (.int .i64 a1) := fun (r : After W2) => (HS.out.below r.below).cell 1
  have HSH := hI9 (fun r : After W2 => HSU.out (w.heap.size + 1 + 1) r.w ((hD2.out r)) (t0 r))
  refine wp_region_after (by kernel_rfl) (by kernel_rfl) ?_
  iterate 19 (go_big_quiet_step (fail))
  refine wpq_mid rfl 26 _ rfl w.heap.size 0 rfl 98 _ #[.int .i64 D.size, .int .i64 D.load, .int .i64 D.wind, vA, .int .i64 D.pitch, .int .i64 D.roll, .int .i64 D.heave, .int .i64 D.fire, vB, .slice A3 D.nu cC] 10 (fun _ hw => by obtain ⟨r, rfl⟩ := hw; exact hX2.out r) Tryz.rowDek [] [.int .i64 M.places, .int .i64 M.any.a0, .int .i64 M.any.a1, .int .i64 M.any.a2, .int .i64 M.any.a3, .int .i64 M.any.a4, .int .i64 M.any.a5, .bool M.any.i, .bool M.any.s, .int .i64 M.mw, .int .i64 M.ms, .int .i64 M.mc, vF, vS, vP, vR, vV] rfl rfl rfl ?_; simp only [Act.put, List.setIfInBounds_toArray, List.set_cons_succ, List.set_cons_zero]
  iterate 5 (go_big_quiet_step (first | (go_at_call 58; (with_reducible refine qafter (HLI.out _ (hD2.out _)))) | (go_at_call 59; (with_reducible refine qafter (HQU.out _ (hV2.out _)))) | (go_at_call 60; (with_reducible refine qafter (HMN.out _ (hD2.out _)))) | (go_at_call 61; (with_reducible refine qafter (HSH.out _)))))
  refine wpq_mid rfl 26 _ rfl w.heap.size 0 rfl 98 _ #[.int .i64 D.size, .int .i64 D.load, .int .i64 D.wind, vA, .int .i64 D.pitch, .int .i64 D.roll, .int .i64 D.heave, .int .i64 D.fire, vB, .slice A3 D.nu cC] 10 (fun _ hw => by obtain ⟨r, rfl⟩ := hw; exact hX2.out r) Tryz.rowDek [] [.int .i64 M.places, .int .i64 M.any.a0, .int .i64 M.any.a1, .int .i64 M.any.a2, .int .i64 M.any.a3, .int .i64 M.any.a4, .int .i64 M.any.a5, .bool M.any.i, .bool M.any.s, .int .i64 M.mw, .int .i64 M.ms, .int .i64 M.mc, vF, vS, vP, vR, vV] rfl rfl rfl ?_; simp only [Act.put, List.setIfInBounds_toArray, List.set_cons_succ, List.set_cons_zero]
  go_big_quiet_step (fail)
  refine wpq_mid rfl 37 _ rfl w.heap.size 24 rfl 98 _ #[vP, vR, vV] 3 (fun _ hw => by obtain ⟨r, rfl⟩ := hw; exact hX2.out r) Tryz.rowMov [.int .i64 D.size, .int .i64 D.load, .int .i64 D.wind, vA, .int .i64 D.pitch, .int .i64 D.roll, .int .i64 D.heave, .int .i64 D.fire, vB, .slice A3 D.nu cC, .int .i64 M.places, .int .i64 M.any.a0, .int .i64 M.any.a1, .int .i64 M.any.a2, .int .i64 M.any.a3, .int .i64 M.any.a4, .int .i64 M.any.a5, .bool M.any.i, .bool M.any.s, .int .i64 M.mw, .int .i64 M.ms, .int .i64 M.mc, vF, vS] [] rfl rfl rfl ?_; simp only [Act.put, List.setIfInBounds_toArray, List.set_cons_succ, List.set_cons_zero]
  iterate 3 (go_big_quiet_step (first | (go_at_call 58; (with_reducible refine qafter (HLI.out _ (hD2.out _)))) | (go_at_call 59; (with_reducible refine qafter (HQU.out _ (hV2.out _)))) | (go_at_call 60; (with_reducible refine qafter (HMN.out _ (hD2.out _)))) | (go_at_call 61; (with_reducible refine qafter (HSH.out _)))))
  refine wpq_mid rfl 26 _ rfl w.heap.size 0 rfl 98 _ #[.int .i64 D.size, .int .i64 D.load, .int .i64 D.wind, vA, .int .i64 D.pitch, .int .i64 D.roll, .int .i64 D.heave, .int .i64 D.fire, vB, .slice A3 D.nu cC] 10 (fun _ hw => by obtain ⟨r, rfl⟩ := hw; exact hX2.out r) Tryz.rowDek [] [.int .i64 M.places, .int .i64 M.any.a0, .int .i64 M.any.a1, .int .i64 M.any.a2, .int .i64 M.any.a3, .int .i64 M.any.a4, .int .i64 M.any.a5, .bool M.any.i, .bool M.any.s, .int .i64 M.mw, .int .i64 M.ms, .int .i64 M.mc, vF, vS, vP, vR, vV] rfl rfl rfl ?_; simp only [Act.put, List.setIfInBounds_toArray, List.set_cons_succ, List.set_cons_zero]
  iterate 10 (go_big_quiet_step (first | (go_at_call 58; (with_reducible refine qafter (HLI.out _ (hD2.out _)))) | (go_at_call 59; (with_reducible refine qafter (HQU.out _ (hV2.out _)))) | (go_at_call 60; (with_reducible refine qafter (HMN.out _ (hD2.out _)))) | (go_at_call 61; (with_reducible refine qafter (HSH.out _)))))
  refine wpQuiet_nil ?_
  rintro wq ⟨⟨w1, hb1⟩, rfl⟩
  clear hS2 hX2 hY2 hT2 hD2 hV2 y0 y1 y8 y9 x0 x1 x9 t0 s1
  have nHX := hI9 (HX.out.below hb1)
  have nHY := hI9 (HY.out.below hb1)
  have nHT := hI9 (HT.out.below hb1)
  have nHS := hI9 (HS.out.below hb1)
  have nHB := hI9 (bthen HB.out hb1)
  clear HX HY HT HS HB hb1
  have HX := nHX
  have HY := nHY
  have HT := nHT
  have HS := nHS
  have HB := nHB
  clear nHX nHY nHT nHS nHB
  rw [show decide (a1 ≤ L) = b2 from HB2.out.symm]
  have K0 := hI9 (show WyK w [false, B1, b2, B3, B4, !B5] 0 (.slice none 0 0) wq from ⟨HB.out, ⟨[], Nat.le_refl _, rfl, World.ownsRow_nil _ _ _ _⟩⟩)
  clear HX HY HT HS HB HD HA HV HLI HQU HMN HSH HOP HMY
  go_wp2_with (fail)
  go_loopg [6, 74] 6 (fun gx v i wr => ∃ k : Nat, i = .int .i64 k ∧ k ≤ 6 ∧ 6 - k ≤ gx ∧ Hid (WyK w [false, B1, b2, B3, B4, !B5] k v wr))
  case atStart => exact ⟨0, rfl, Nat.zero_le _, Nat.le_refl _, K0⟩
  case round =>
   clear K0
   obtain ⟨k, rfl, hk, hgx, K0⟩ := hrel
   obtain ⟨l, hl6, hl, ho⟩ := K0.out.o
   have HLN := hI9 hl
   clear hl
   rcases (show k = 0 ∨ k = 1 ∨ k = 2 ∨ k = 3 ∨ k = 4 ∨ k = 5 ∨ k = 6 by omega) with rfl | rfl | rfl | rfl | rfl | rfl | rfl
   ·skip
    have ix : ∀ w : World, (Instr.index 148 (.agg #[.bool false, .bool B1, .bool b2, .bool B3, .bool B4, .bool (!B5)]) (.int .i64 0)).run Tryz.prog w = .ok (.bool false) w := fun _ => by kernel_rfl
    have iy : ∀ w : World, (Instr.index 148 (.agg #[.bool false, .bool B1, .bool b2, .bool B3, .bool B4, .bool (!B5)]) (.int .i64 ((0 : Nat) : Int))).run Tryz.prog w = .ok (.bool false) w := fun _ => by kernel_rfl
    go_wp2_with (at_builtin; go_loud (refine wpl_appN rfl _ _ rfl w.heap.size _ l rfl (ho.alloc _) _ 1 rfl ?u1 (by omega) ?u2 ?_))
    case u1 => simp [encN]
    case u2 => have := K0.out.b.size; first | omega | (simp; omega)
    ·intro v2 w2 o2 g2 n2
     have L1 := hI9 (WyK.add K0.out.b hl6 HLN.out ho rfl (by simpa using o2) g2)
     clear o2 g2 n2
     go_wp2_with (fail)
     go_roundg (6 - 1)
     case measure => omega
     case rel => exact ⟨1, by first | rfl | go_num | (congr 1; omega), by omega, Nat.le_refl _, L1⟩
   ·cases B1
    ·skip
     have ix : ∀ w : World, (Instr.index 148 (.agg #[.bool false, .bool false, .bool b2, .bool B3, .bool B4, .bool (!B5)]) (.int .i64 1)).run Tryz.prog w = .ok (.bool false) w := fun _ => by kernel_rfl
     have iy : ∀ w : World, (Instr.index 148 (.agg #[.bool false, .bool false, .bool b2, .bool B3, .bool B4, .bool (!B5)]) (.int .i64 ((1 : Nat) : Int))).run Tryz.prog w = .ok (.bool false) w := fun _ => by kernel_rfl
     go_wp2_with (at_builtin; go_loud (refine wpl_appN rfl _ _ rfl w.heap.size _ l rfl (ho.alloc _) _ 2 rfl ?u1 (by omega) ?u2 ?_))
     case u1 => simp [encN]
     case u2 => have := K0.out.b.size; first | omega | (simp; omega)
     ·intro v2 w2 o2 g2 n2
      have L1 := hI9 (WyK.add K0.out.b hl6 HLN.out ho rfl (by simpa using o2) g2)
      clear o2 g2 n2
      go_wp2_with (fail)
      go_roundg (6 - 2)
      case measure => omega
      case rel => exact ⟨2, by first | rfl | go_num | (congr 1; omega), by omega, Nat.le_refl _, L1⟩
    ·skip
     have ix : ∀ w : World, (Instr.index 148 (.agg #[.bool false, .bool true, .bool b2, .bool B3, .bool B4, .bool (!B5)]) (.int .i64 1)).run Tryz.prog w = .ok (.bool true) w := fun _ => by kernel_rfl
     have iy : ∀ w : World, (Instr.index 148 (.agg #[.bool false, .bool true, .bool b2, .bool B3, .bool B4, .bool (!B5)]) (.int .i64 ((1 : Nat) : Int))).run Tryz.prog w = .ok (.bool true) w := fun _ => by kernel_rfl
     go_wp2_with (fail)
     go_roundg (6 - 2)
     case measure => omega
     case rel => exact ⟨2, by first | rfl | go_num | (congr 1; omega), by omega, Nat.le_refl _, hI9 (K0.out.skip rfl)⟩
   ·cases b2
    ·skip
     have ix : ∀ w : World, (Instr.index 148 (.agg #[.bool false, .bool B1, .bool false, .bool B3, .bool B4, .bool (!B5)]) (.int .i64 2)).run Tryz.prog w = .ok (.bool false) w := fun _ => by kernel_rfl
     have iy : ∀ w : World, (Instr.index 148 (.agg #[.bool false, .bool B1, .bool false, .bool B3, .bool B4, .bool (!B5)]) (.int .i64 ((2 : Nat) : Int))).run Tryz.prog w = .ok (.bool false) w := fun _ => by kernel_rfl
     go_wp2_with (at_builtin; go_loud (refine wpl_appN rfl _ _ rfl w.heap.size _ l rfl (ho.alloc _) _ 3 rfl ?u1 (by omega) ?u2 ?_))
     case u1 => simp [encN]
     case u2 => have := K0.out.b.size; first | omega | (simp; omega)
     ·intro v2 w2 o2 g2 n2
      have L1 := hI9 (WyK.add K0.out.b hl6 HLN.out ho rfl (by simpa using o2) g2)
      clear o2 g2 n2
      go_wp2_with (fail)
      go_roundg (6 - 3)
      case measure => omega
      case rel => exact ⟨3, by first | rfl | go_num | (congr 1; omega), by omega, Nat.le_refl _, L1⟩
    ·skip
     have ix : ∀ w : World, (Instr.index 148 (.agg #[.bool false, .bool B1, .bool true, .bool B3, .bool B4, .bool (!B5)]) (.int .i64 2)).run Tryz.prog w = .ok (.bool true) w := fun _ => by kernel_rfl
     have iy : ∀ w : World, (Instr.index 148 (.agg #[.bool false, .bool B1, .bool true, .bool B3, .bool B4, .bool (!B5)]) (.int .i64 ((2 : Nat) : Int))).run Tryz.prog w = .ok (.bool true) w := fun _ => by kernel_rfl
     go_wp2_with (fail)
     go_roundg (6 - 3)
     case measure => omega
     case rel => exact ⟨3, by first | rfl | go_num | (congr 1; omega), by omega, Nat.le_refl _, hI9 (K0.out.skip rfl)⟩
   ·cases B3
    ·skip
     have ix : ∀ w : World, (Instr.index 148 (.agg #[.bool false, .bool B1, .bool b2, .bool false, .bool B4, .bool (!B5)]) (.int .i64 3)).run Tryz.prog w = .ok (.bool false) w := fun _ => by kernel_rfl
     have iy : ∀ w : World, (Instr.index 148 (.agg #[.bool false, .bool B1, .bool b2, .bool false, .bool B4, .bool (!B5)]) (.int .i64 ((3 : Nat) : Int))).run Tryz.prog w = .ok (.bool false) w := fun _ => by kernel_rfl
     go_wp2_with (at_builtin; go_loud (refine wpl_appN rfl _ _ rfl w.heap.size _ l rfl (ho.alloc _) _ 4 rfl ?u1 (by omega) ?u2 ?_))
     case u1 => simp [encN]
     case u2 => have := K0.out.b.size; first | omega | (simp; omega)
     ·intro v2 w2 o2 g2 n2
      have L1 := hI9 (WyK.add K0.out.b hl6 HLN.out ho rfl (by simpa using o2) g2)
      clear o2 g2 n2
      go_wp2_with (fail)
      go_roundg (6 - 4)
      case measure => omega
      case rel => exact ⟨4, by first | rfl | go_num | (congr 1; omega), by omega, Nat.le_refl _, L1⟩
    ·skip
     have ix : ∀ w : World, (Instr.index 148 (.agg #[.bool false, .bool B1, .bool b2, .bool true, .bool B4, .bool (!B5)]) (.int .i64 3)).run Tryz.prog w = .ok (.bool true) w := fun _ => by kernel_rfl
     have iy : ∀ w : World, (Instr.index 148 (.agg #[.bool false, .bool B1, .bool b2, .bool true, .bool B4, .bool (!B5)]) (.int .i64 ((3 : Nat) : Int))).run Tryz.prog w = .ok (.bool true) w := fun _ => by kernel_rfl
     go_wp2_with (fail)
     go_roundg (6 - 4)
     case measure => omega
     case rel => exact ⟨4, by first | rfl | go_num | (congr 1; omega), by omega, Nat.le_refl _, hI9 (K0.out.skip rfl)⟩
   ·cases B4
    ·skip
     have ix : ∀ w : World, (Instr.index 148 (.agg #[.bool false, .bool B1, .bool b2, .bool B3, .bool false, .bool (!B5)]) (.int .i64 4)).run Tryz.prog w = .ok (.bool false) w := fun _ => by kernel_rfl
     have iy : ∀ w : World, (Instr.index 148 (.agg #[.bool false, .bool B1, .bool b2, .bool B3, .bool false, .bool (!B5)]) (.int .i64 ((4 : Nat) : Int))).run Tryz.prog w = .ok (.bool false) w := fun _ => by kernel_rfl
     go_wp2_with (at_builtin; go_loud (refine wpl_appN rfl _ _ rfl w.heap.size _ l rfl (ho.alloc _) _ 5 rfl ?u1 (by omega) ?u2 ?_))
     case u1 => simp [encN]
     case u2 => have := K0.out.b.size; first | omega | (simp; omega)
     ·intro v2 w2 o2 g2 n2
      have L1 := hI9 (WyK.add K0.out.b hl6 HLN.out ho rfl (by simpa using o2) g2)
      clear o2 g2 n2
      go_wp2_with (fail)
      go_roundg (6 - 5)
      case measure => omega
      case rel => exact ⟨5, by first | rfl | go_num | (congr 1; omega), by omega, Nat.le_refl _, L1⟩
    ·skip
     have ix : ∀ w : World, (Instr.index 148 (.agg #[.bool false, .bool B1, .bool b2, .bool B3, .bool true, .bool (!B5)]) (.int .i64 4)).run Tryz.prog w = .ok (.bool true) w := fun _ => by kernel_rfl
     have iy : ∀ w : World, (Instr.index 148 (.agg #[.bool false, .bool B1, .bool b2, .bool B3, .bool true, .bool (!B5)]) (.int .i64 ((4 : Nat) : Int))).run Tryz.prog w = .ok (.bool true) w := fun _ => by kernel_rfl
     go_wp2_with (fail)
     go_roundg (6 - 5)
     case measure => omega
     case rel => exact ⟨5, by first | rfl | go_num | (congr 1; omega), by omega, Nat.le_refl _, hI9 (K0.out.skip rfl)⟩
   ·cases B5
    ·skip
     have ix : ∀ w : World, (Instr.index 148 (.agg #[.bool false, .bool B1, .bool b2, .bool B3, .bool B4, .bool true]) (.int .i64 5)).run Tryz.prog w = .ok (.bool true) w := fun _ => by kernel_rfl
     have iy : ∀ w : World, (Instr.index 148 (.agg #[.bool false, .bool B1, .bool b2, .bool B3, .bool B4, .bool true]) (.int .i64 ((5 : Nat) : Int))).run Tryz.prog w = .ok (.bool true) w := fun _ => by kernel_rfl
     go_wp2_with (fail)
     go_roundg (6 - 6)
     case measure => omega
     case rel => exact ⟨6, by first | rfl | go_num | (congr 1; omega), by omega, Nat.le_refl _, hI9 (K0.out.skip rfl)⟩
    ·skip
     have ix : ∀ w : World, (Instr.index 148 (.agg #[.bool false, .bool B1, .bool b2, .bool B3, .bool B4, .bool false]) (.int .i64 5)).run Tryz.prog w = .ok (.bool false) w := fun _ => by kernel_rfl
     have iy : ∀ w : World, (Instr.index 148 (.agg #[.bool false, .bool B1, .bool b2, .bool B3, .bool B4, .bool false]) (.int .i64 ((5 : Nat) : Int))).run Tryz.prog w = .ok (.bool false) w := fun _ => by kernel_rfl
     go_wp2_with (at_builtin; go_loud (refine wpl_appN rfl _ _ rfl w.heap.size _ l rfl (ho.alloc _) _ 6 rfl ?u1 (by omega) ?u2 ?_))
     case u1 => simp [encN]
     case u2 => have := K0.out.b.size; first | omega | (simp; omega)
     ·intro v2 w2 o2 g2 n2
      have L1 := hI9 (WyK.add K0.out.b hl6 HLN.out ho rfl (by simpa using o2) g2)
      clear o2 g2 n2
      go_wp2_with (fail)
      go_roundg (6 - 6)
      case measure => omega
      case rel => exact ⟨6, by first | rfl | go_num | (congr 1; omega), by omega, Nat.le_refl _, L1⟩
   ·obtain ⟨A, c, rfl⟩ := K0.out.fin
    go_wp2_with (fail)
    go_ret
    exact ⟨A, c, rfl, K0.out.b⟩
end Go.Proofs.YtlambeiafdpkgaaGreat
