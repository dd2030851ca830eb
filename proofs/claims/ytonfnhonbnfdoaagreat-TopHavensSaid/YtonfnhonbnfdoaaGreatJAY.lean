/- Texts joined: JAY. -/
import Derived.Test.YtonfnhonbnfdoaaGreatWhA
import Derived.Test.YtonfnhonbnfdoaaGreatJAM
import Derived.Test.YtonfnhonbnfdoaaGreatJAW
import Derived.Test.YtonfnhonbnfdoaaGreatJAU
set_option linter.all false
namespace Go.Proofs.YtonfnhonbnfdoaaGreat
open Go Go.RowKit Go.Proofs
set_option maxRecDepth 100000
set_option maxHeartbeats 8000000
/-- From weather i on, k more: is each one possible, and may it follow the one before? -/
def realR (M : MetD) (p f : Int) (G : Nat → Nat → Int) (H : Nat → Nat → Bool) : Nat → Nat → Int × Bool
  | 0, _ => (0, true)
  | k + 1, i => if hasB (M.may p (f + i)) (G i 0) (G i 1) (G i 2) (H i 3) (H i 4) && (decide (i = 0) || folB M (G (i - 1) 0) (G (i - 1) 1) (G (i - 1) 2) (G i 0) (G i 1) (G i 2)) then realR M p f G H k (i + 1) else (f + i, false)
def wvA (n : Nat) (G : Nat → Nat → Int) : Bool := (List.range n).any fun i => !wvB (G i 0) (G i 1) (G i 2)
def realE (M : MetD) (p f : Int) (n : Nat) (G : Nat → Nat → Int) : Int := if atE M p f = 0 then (if 2000 < f + n - 1 then 2 else if wvA n G then 42 else 0) else atE M p f
def realV (M : MetD) (p f : Int) (n : Nat) (G : Nat → Nat → Int) (H : Nat → Nat → Bool) : Int × Bool := if realE M p f n G = 0 then realR M p f G H n 0 else (0, false)
theorem wes_at {w : World} {A : Option Addr} {n : Nat} {G : Nat → Nat → Int} {H : Nat → Nat → Bool} (h : RecsAt w A n 5 (weV G H)) : WesAt w A n G H := by
  intro hn
  obtain ⟨b, off, e, hb, hc⟩ := h hn
  exact ⟨b, off, e, hb, fun k hk => ⟨hc k hk 0 (by omega), hc k hk 1 (by omega), hc k hk 2 (by omega), hc k hk 3 (by omega), hc k hk 4 (by omega)⟩⟩
theorem cfReal_c (A : Option Addr) (n c : Nat) (G : Nat → Nat → Int) (H : Nat → Nat → Bool) (w : World) (hn : n ≤ 100) (h : RecsAt w A n 5 (weV G H)) :
   Calls Tryz.prog 42 #[.slice A n c, .func (.func 43) #[] #[]] w fun e w' => e = .returned (.bool (wvA n G)) ∧ Below w.heap.size w w' :=
  cfWe_c A n c G H 43 #[] (fun i => !wvB (G i 0) (G i 1) (G i 2)) w (by omega) Tryz.entR (wes_at h) (fun w1 k hk hb => real1_c _ _ _ _ _ w1)
section
variable {P : Program} {ops : Array Oper} {rest : List Oper} {o : Oper} {a : Act} {w : World}
theorem wpq_row_g {C : World → Prop} {Q : Act → Prop} (hgd : Region.wanted o (yielded ops a.tmps) = true) (ty : TypeId) (x : Operand) (ho : o.op = .load ty x)
    (g : Nat) (hx : a.eval x = .pointer (some ⟨g, 0, none⟩)) (cs : Array Value) (n : Nat) (hB : ∀ w, C w → w.heap[g]? = some (.cells cs ty (0, 0)))
    (hr : RowTy P ty n) (hn : cs.size = n)
    (h : wpQuiet P ops C Q rest (a.put o.dst (.agg cs))) : wpQuiet P ops C Q (o :: rest) a := by
  obtain ⟨hu, hi⟩ := hr
  cases hd : P.underlying ty with
  | none => rw [hd] at hu; cases hu
  | some d =>
  rw [hd] at hu
  refine wpQuiet_step fun K hK => ?_
  simp only [hgd, if_true]
  refine ⟨.agg cs, fun w' hw' => ?_, hK _ h⟩
  unfold Oper.quietAt execOp
  simp only [ho, hx, Instr.loadAt, Instr.sureAddr, Sem.run_bind, Sem.run_pure, Result.andThen_ok, run_loadVar_row w' g ty ty cs (0, 0) d (hB w' hw') hd (by cases d <;> first | rfl | (simp at hu)) (by rw [hi, hn])]
  exact ⟨rfl, rfl⟩
end
/-- What the loop keeps. -/
structure ReK (M : MetD) (vF vS : Value) (w wr : World) : Prop where
  b : Below w.heap.size w wr
  m : Blk wr w.heap.size 29 #[.int .i64 M.places, .int .i64 M.any.a0, .int .i64 M.any.a1, .int .i64 M.any.a2, .int .i64 M.any.a3, .int .i64 M.any.a4, .int .i64 M.any.a5, .bool M.any.i, .bool M.any.s, .int .i64 M.mw, .int .i64 M.ms, .int .i64 M.mc, vF, vS]
theorem ReK.grow {M : MetD} {vF vS : Value} {w wr w2 : World} (h : ReK M vF vS w wr) (hb : Below wr.heap.size wr w2) : ReK M vF vS w w2 := ⟨bthen h.b hb, h.m.below hb⟩
-- done
theorem Real_c (M : MetD) (vF vS : Value) (p f : Int) (A : Option Addr) (n c : Nat) (G : Nat → Nat → Int) (H : Nat → Nat → Bool) (w : World) (hA : MetAt w vF vS M) (hn : n ≤ 100) (hL : RecsAt w A n 5 (weV G H)) :
   Calls Tryz.prog 15 #[.agg #[.int .i64 M.places, .int .i64 M.any.a0, .int .i64 M.any.a1, .int .i64 M.any.a2, .int .i64 M.any.a3, .int .i64 M.any.a4, .int .i64 M.any.a5, .bool M.any.i, .bool M.any.s, .int .i64 M.mw, .int .i64 M.ms, .int .i64 M.mc, vF, vS], .int .i64 p, .int .i64 f, .slice A n c] w fun e w' => e = .returned (.tuple #[.int .i64 (realV M p f n G H).1, .bool (realV M p f n G H).2, .int .i64 (realE M p f n G)]) ∧ Below w.heap.size w w' := by
  have HA := Lib.hid hA
  have HL := Lib.hid hL
  have hat := fun w1 h => wcheckAt_c M vF vS p f f w1 h
  have HCF := Lib.hid (fun w1 h => cfReal_c A n c G H w1 hn h)
  clear hA hL
  unfold realV realE
  by_cases he : atE M p f = 0
  · obtain ⟨hM, hf0, hf1⟩ := atE_ok he
    have HM := Lib.hid hM
    rw [he] at hat ⊢
    have HAT := Lib.hid hat
    clear hat he hM
    rw [if_pos rfl]
    by_cases hmany : 2000 < f + n - 1
    · rw [if_pos hmany, if_neg (by decide)]
      go_enter Tryz.func15, Tryz.ntmps15
      go_wp2_with (fail)
      have _x := frm1 w #[.int .i64 M.places, .int .i64 M.any.a0, .int .i64 M.any.a1, .int .i64 M.any.a2, .int .i64 M.any.a3, .int .i64 M.any.a4, .int .i64 M.any.a5, .bool M.any.i, .bool M.any.s, .int .i64 M.mw, .int .i64 M.ms, .int .i64 M.mc, vF, vS] 29
      have HX := Lib.hid _x.1
      have HB := Lib.hid _x.2.1
      have zW := _x.2.2
      clear _x
      generalize World.alloc w _ = W at *
      have hM2 := Lib.hid (fun r : After _ => HX.out.below r.below)
      have hA2 := Lib.hid (fun r : After _ => (HA.out.below HB.out).below r.below)
      refine wp_region_aftert 5 (by kernel_rfl) (by kernel_rfl) ?_
      simp only [List.take_succ_cons, List.take_zero, List.drop_succ_cons, List.drop_zero]
      refine wpq_row rfl 29 _ rfl _ rfl _ 14 (fun _ hw => by obtain ⟨r, rfl⟩ := hw; exact hM2.out r) Tryz.rowMet rfl ?_
      simp only [Act.put, List.setIfInBounds_toArray, List.set_cons_succ, List.set_cons_zero]
      iterate 2 (go_big_quiet_step (fail))
      go_big_quiet_step (first | (go_at_call 41; (with_reducible refine qafter (wat_c _ _ _))))
      go_big_quiet_step (first | (go_at_call 40; (with_reducible refine qafter (HAT.out _ (hA2.out _)))))
      refine wpQuiet_nil ?_
      rintro _ ⟨r, rfl⟩
      have BR := r.below
      clear hM2 hA2
      generalize r.w = wr at *
      have nHX := Lib.hid (HX.out.below BR)
      have nHB := Lib.hid (bthen HB.out BR)
      clear HX HB BR
      have HX := nHX
      have HB := nHB
      clear nHX nHB
      go_wp2_with (fail)
      go_ret3
      exact ⟨rfl, HB.out⟩
    rw [if_neg hmany]
    cases hw : wvA n G
    case true =>
      rw [hw] at HCF
      rw [if_pos rfl, if_neg (by decide)]
      go_enter Tryz.func15, Tryz.ntmps15
      go_wp2_with (fail)
      have _x := frm1 w #[.int .i64 M.places, .int .i64 M.any.a0, .int .i64 M.any.a1, .int .i64 M.any.a2, .int .i64 M.any.a3, .int .i64 M.any.a4, .int .i64 M.any.a5, .bool M.any.i, .bool M.any.s, .int .i64 M.mw, .int .i64 M.ms, .int .i64 M.mc, vF, vS] 29
      have HX := Lib.hid _x.1
      have HB := Lib.hid _x.2.1
      have zW := _x.2.2
      clear _x
      generalize World.alloc w _ = W at *
      have hM2 := Lib.hid (fun r : After _ => HX.out.below r.below)
      have hA2 := Lib.hid (fun r : After _ => (HA.out.below HB.out).below r.below)
      refine wp_region_aftert 5 (by kernel_rfl) (by kernel_rfl) ?_
      simp only [List.take_succ_cons, List.take_zero, List.drop_succ_cons, List.drop_zero]
      refine wpq_row rfl 29 _ rfl _ rfl _ 14 (fun _ hw => by obtain ⟨r, rfl⟩ := hw; exact hM2.out r) Tryz.rowMet rfl ?_
      simp only [Act.put, List.setIfInBounds_toArray, List.set_cons_succ, List.set_cons_zero]
      iterate 2 (go_big_quiet_step (fail))
      go_big_quiet_step (first | (go_at_call 41; (with_reducible refine qafter (wat_c _ _ _))))
      go_big_quiet_step (first | (go_at_call 40; (with_reducible refine qafter (HAT.out _ (hA2.out _)))))
      refine wpQuiet_nil ?_
      rintro _ ⟨r, rfl⟩
      have BR := r.below
      clear hM2 hA2
      generalize r.w = wr at *
      have nHX := Lib.hid (HX.out.below BR)
      have nHB := Lib.hid (bthen HB.out BR)
      clear HX HB BR
      have HX := nHX
      have HB := nHB
      clear nHX nHB
      go_wp2_with (first | (go_at_call 42; (with_reducible refine (HCF.out _ (HL.out.below HB.out)).mono ?_); rintro e w1 ⟨rfl, hb1⟩; have nHX := Lib.hid (HX.out.below hb1); have nHB := Lib.hid (bthen HB.out hb1); have zz1 := hb1.size; clear HX HB hb1; have HX := nHX; have HB := nHB; clear nHX nHB))
      go_ret3
      exact ⟨rfl, HB.out⟩
    rw [hw] at HCF
    rw [show (if false = true then (42 : Int) else 0) = 0 from rfl, if_pos rfl]
    have HWV := Lib.hid (show ∀ i, i < n → wvB (G i 0) (G i 1) (G i 2) = true from fun i hi => by
      unfold wvA at hw
      have := List.any_eq_false.1 hw i (List.mem_range.2 hi)
      simpa using this)
    clear hw
    obtain ⟨R, hR⟩ : ∃ q, q = realR M p f G H n 0 := ⟨_, rfl⟩
    rw [← hR]
    have HR := Lib.hid hR
    clear hR
    go_enter Tryz.func15, Tryz.ntmps15
    go_wp2_with (fail)
    have _x := frm1 w #[.int .i64 M.places, .int .i64 M.any.a0, .int .i64 M.any.a1, .int .i64 M.any.a2, .int .i64 M.any.a3, .int .i64 M.any.a4, .int .i64 M.any.a5, .bool M.any.i, .bool M.any.s, .int .i64 M.mw, .int .i64 M.ms, .int .i64 M.mc, vF, vS] 29
    have HX := Lib.hid _x.1
    have HB := Lib.hid _x.2.1
    have zW := _x.2.2
    clear _x
    generalize World.alloc w _ = W at *
    have hM2 := Lib.hid (fun r : After _ => HX.out.below r.below)
    have hA2 := Lib.hid (fun r : After _ => (HA.out.below HB.out).below r.below)
    refine wp_region_aftert 5 (by kernel_rfl) (by kernel_rfl) ?_
    simp only [List.take_succ_cons, List.take_zero, List.drop_succ_cons, List.drop_zero]
    refine wpq_row rfl 29 _ rfl _ rfl _ 14 (fun _ hw => by obtain ⟨r, rfl⟩ := hw; exact hM2.out r) Tryz.rowMet rfl ?_
    simp only [Act.put, List.setIfInBounds_toArray, List.set_cons_succ, List.set_cons_zero]
    iterate 2 (go_big_quiet_step (fail))
    go_big_quiet_step (first | (go_at_call 41; (with_reducible refine qafter (wat_c _ _ _))))
    go_big_quiet_step (first | (go_at_call 40; (with_reducible refine qafter (HAT.out _ (hA2.out _)))))
    refine wpQuiet_nil ?_
    rintro _ ⟨r, rfl⟩
    have BR := r.below
    clear hM2 hA2
    generalize r.w = wr at *
    have nHX := Lib.hid (HX.out.below BR)
    have nHB := Lib.hid (bthen HB.out BR)
    clear HX HB BR
    have HX := nHX
    have HB := nHB
    clear nHX nHB
    go_wp2_with (first | (go_at_call 42; (with_reducible refine (HCF.out _ (HL.out.below HB.out)).mono ?_); rintro e w1 ⟨rfl, hb1⟩; have nHX := Lib.hid (HX.out.below hb1); have nHB := Lib.hid (bthen HB.out hb1); have zz1 := hb1.size; clear HX HB hb1; have HX := nHX; have HB := nHB; clear nHX nHB))
    have K0 := Lib.hid (show ReK M vF vS w _ from ⟨HB.out, HX.out⟩)
    clear HX HB HCF HAT
    go_loopg [34] n (fun gx i wr => ∃ k : Nat, i = .int .i64 k ∧ k ≤ n ∧ n - k ≤ gx ∧ Hid (ReK M vF vS w wr) ∧ Hid (realR M p f G H (n - k) k = R))
    case atStart => exact ⟨0, rfl, Nat.zero_le _, Nat.le_refl _, K0, HR.out.symm⟩
    case round =>
      clear K0
      obtain ⟨k, rfl, hk, hgx, K0, HE⟩ := hrel
      by_cases hlt : k < n
      · have hltz : (k : Int) < (n : Int) := by omega
        obtain ⟨bw, off, rfl, hbw, hcell⟩ := HL.out (by omega)
        have c0 : wr.cell? ⟨bw, off + k * 5, none⟩ = some (.int .i64 (G k 0)) := (K0.out.b.cell (p := ⟨bw, off + k * 5 + 0, none⟩) hbw).trans (hcell k (by omega) 0 (by omega))
        have c1 : wr.cell? ⟨bw, off + k * 5 + 1, none⟩ = some (.int .i64 (G k 1)) := (K0.out.b.cell (p := ⟨bw, off + k * 5 + 1, none⟩) hbw).trans (hcell k (by omega) 1 (by omega))
        have c2 : wr.cell? ⟨bw, off + k * 5 + 2, none⟩ = some (.int .i64 (G k 2)) := (K0.out.b.cell (p := ⟨bw, off + k * 5 + 2, none⟩) hbw).trans (hcell k (by omega) 2 (by omega))
        have c3 : wr.cell? ⟨bw, off + k * 5 + 3, none⟩ = some (.bool (H k 3)) := (K0.out.b.cell (p := ⟨bw, off + k * 5 + 3, none⟩) hbw).trans (hcell k (by omega) 3 (by omega))
        have c4 : wr.cell? ⟨bw, off + k * 5 + 4, none⟩ = some (.bool (H k 4)) := (K0.out.b.cell (p := ⟨bw, off + k * 5 + 4, none⟩) hbw).trans (hcell k (by omega) 4 (by omega))
        have HCE := Lib.hid hcell
        clear hcell
        have hE := HE.out
        rw [show n - k = (n - (k + 1)) + 1 by omega] at hE
        unfold realR at hE
        have hm := fun w1 h => may_c M vF vS p (f + k) w1 HM.out h (by omega) (by omega)
        obtain ⟨a0, a1, a2, a3, a4, a5, xi, xs, hY⟩ : ∃ a0 a1 a2 a3 a4 a5 xi xs, M.may p (f + k) = ⟨a0, a1, a2, a3, a4, a5, xi, xs⟩ := ⟨_, _, _, _, _, _, _, _, rfl⟩
        have hh := fun w1 => has_c (M.may p (f + k)) (G k 0) (G k 1) (G k 2) (H k 3) (H k 4) w1
        generalize hasB (M.may p (f + k)) (G k 0) (G k 1) (G k 2) (H k 3) (H k 4) = HH at *
        rw [hY] at hm hh
        dsimp only [Sk.cells] at hm hh
        have HMY := Lib.hid hm
        have HHS := Lib.hid hh
        have HE2 := Lib.hid hE
        clear hm hh hE HE hY HR
        go_wp2_with (first | (refine wpl_row rfl 29 (.tmp 4) rfl _ rfl #[.int .i64 M.places, .int .i64 M.any.a0, .int .i64 M.any.a1, .int .i64 M.any.a2, .int .i64 M.any.a3, .int .i64 M.any.a4, .int .i64 M.any.a5, .bool M.any.i, .bool M.any.s, .int .i64 M.mw, .int .i64 M.ms, .int .i64 M.mc, vF, vS] 14 ?_ Tryz.rowMet rfl ?_; (focus exact K0.out.m.alloc _); simp only [Act.put]))
        have HW := Lib.hid (Blk.new wr 57 #[.int .i64 (G k 0), .int .i64 (G k 1), .int .i64 (G k 2), .bool (H k 3), .bool (H k 4)])
        have HX := Lib.hid (K0.out.m.alloc (.cells #[.int .i64 (G k 0), .int .i64 (G k 1), .int .i64 (G k 2), .bool (H k 3), .bool (H k 4)] 57))
        have HB := Lib.hid (bal K0.out.b (.cells #[.int .i64 (G k 0), .int .i64 (G k 1), .int .i64 (G k 2), .bool (H k 3), .bool (H k 4)] 57))
        generalize wr.alloc (.cells #[.int .i64 (G k 0), .int .i64 (G k 1), .int .i64 (G k 2), .bool (H k 3), .bool (H k 4)] 57) = w1 at *
        have hgW : wr.heap.size < w1.heap.size := HW.out.lt
        generalize hgz : wr.heap.size = gW at *
        clear hgz c0 c1 c2 c3 c4
        refine (HMY.out _ (HA.out.below HB.out)).mono ?_
        rintro e w1 ⟨v, ys, rfl, hb1, -, -⟩
        have nHX := Lib.hid (HX.out.below hb1)
        have nHW := Lib.hid (HW.out.below hb1)
        have nHB := Lib.hid (bthen HB.out hb1)
        clear HX HW HB hb1
        have HX := nHX
        have HW := nHW
        have HB := nHB
        clear nHX nHW nHB
        go_wp2_with (fail)
        have bHS := Blk.new w1 108 #[.int .i64 a0, .int .i64 a1, .int .i64 a2, .int .i64 a3, .int .i64 a4, .int .i64 a5, .bool xi, .bool xs]
        have nHX := Lib.hid (HX.out.alloc (.cells #[.int .i64 a0, .int .i64 a1, .int .i64 a2, .int .i64 a3, .int .i64 a4, .int .i64 a5, .bool xi, .bool xs] 108))
        have nHW := Lib.hid (HW.out.alloc (.cells #[.int .i64 a0, .int .i64 a1, .int .i64 a2, .int .i64 a3, .int .i64 a4, .int .i64 a5, .bool xi, .bool xs] 108))
        have nHB := Lib.hid (bal HB.out (.cells #[.int .i64 a0, .int .i64 a1, .int .i64 a2, .int .i64 a3, .int .i64 a4, .int .i64 a5, .bool xi, .bool xs] 108))
        clear HX HW HB
        have HX := nHX
        have HW := nHW
        have HB := nHB
        clear nHX nHW nHB
        generalize w1.alloc (.cells #[.int .i64 a0, .int .i64 a1, .int .i64 a2, .int .i64 a3, .int .i64 a4, .int .i64 a5, .bool xi, .bool xs] 108) = W2 at *
        generalize w1.heap.size = gHS at *
        have HS := Lib.hid bHS
        clear bHS
        have hS2 := Lib.hid (fun r : After W2 => HS.out.below r.below)
        have hW2 := Lib.hid (fun r : After W2 => HW.out.below r.below)
        have hX2 := Lib.hid (fun r : After W2 => HX.out.below r.below)
        refine wp_region_after (by kernel_rfl) (by kernel_rfl) ?_
        refine wpq_row rfl 108 _ rfl _ rfl _ 8 (fun _ hw => by obtain ⟨r, rfl⟩ := hw; exact hS2.out r) Tryz.rowSet rfl ?_
        simp only [Act.put, List.setIfInBounds_toArray, List.set_cons_succ, List.set_cons_zero]
        refine wpq_row rfl 57 _ rfl _ rfl _ 5 (fun _ hw => by obtain ⟨r, rfl⟩ := hw; exact hW2.out r) Tryz.rowWe rfl ?_
        simp only [Act.put, List.setIfInBounds_toArray, List.set_cons_succ, List.set_cons_zero]
        cases HH
        case false =>
          have HR2 := Lib.hid (show (f + k, false) = R from HE2.out)
          clear HE2
          iterate 17 (go_big_quiet_step (first | (go_at_call 47; (with_reducible refine qafter (HHS.out _)))))
          refine wpQuiet_nil ?_
          rintro _ ⟨⟨w1, hb1⟩, rfl⟩
          clear hS2 hW2 hX2
          have nHX := Lib.hid (HX.out.below hb1)
          have nHW := Lib.hid (HW.out.below hb1)
          have nHB := Lib.hid (bthen HB.out hb1)
          clear HX HW HB hb1
          have HX := nHX
          have HW := nHW
          have HB := nHB
          clear nHX nHW nHB
          go_wp2_with (fail)
          go_ret3
          exact ⟨by rw [← HR2.out]; first | rfl | go_num, HB.out⟩
        case true =>
          rcases k with _ | j
          · have HE3 := Lib.hid (show realR M p f G H (n - (0 + 1)) (0 + 1) = R from HE2.out)
            clear HE2
            iterate 17 (go_big_quiet_step (first | (go_at_call 47; (with_reducible refine qafter (HHS.out _)))))
            refine wpQuiet_nil ?_
            rintro _ ⟨⟨w1, hb1⟩, rfl⟩
            clear hS2 hW2 hX2
            have nHX := Lib.hid (HX.out.below hb1)
            have nHW := Lib.hid (HW.out.below hb1)
            have nHB := Lib.hid (bthen HB.out hb1)
            clear HX HW HB hb1
            have HX := nHX
            have HW := nHW
            have HB := nHB
            clear nHX nHW nHB
            go_wp2_with (fail)
            go_roundg (n - (0 + 1))
            case measure => omega
            case rel => exact ⟨0 + 1, by first | rfl | go_num | (congr 1; omega), by omega, Nat.le_refl _, Lib.hid ⟨HB.out, HX.out⟩, HE3⟩
          · have hE3 := HE2.out
            rw [show decide (j + 1 = 0) = false from rfl, Bool.true_and, Bool.false_or, show j + 1 - 1 = j from rfl] at hE3
            have hfo := fun w1 => follows_c M vF vS (G j 0) (G j 1) (G j 2) (H j 3) (H j 4) (G (j + 1) 0) (G (j + 1) 1) (G (j + 1) 2) (H (j + 1) 3) (H (j + 1) 4) w1 (HWV.out j (by omega)) (HWV.out (j + 1) hlt)
            generalize folB M (G j 0) (G j 1) (G j 2) (G (j + 1) 0) (G (j + 1) 1) (G (j + 1) 2) = F at *
            have HFO := Lib.hid hfo
            have a10 : ∀ r : After W2, r.w.cell? ⟨bw, off + j * 5, none⟩ = some (.int .i64 (G j 0)) := fun (r : After W2) => ((bthen HB.out r.below).cell (p := ⟨bw, off + j * 5 + 0, none⟩) hbw).trans (HCE.out j (by omega) 0 (by omega))
            have a11 : ∀ r : After W2, r.w.cell? ⟨bw, off + j * 5 + 1, none⟩ = some (.int .i64 (G j 1)) := fun (r : After W2) => ((bthen HB.out r.below).cell (p := ⟨bw, off + j * 5 + 1, none⟩) hbw).trans (HCE.out j (by omega) 1 (by omega))
            have a12 : ∀ r : After W2, r.w.cell? ⟨bw, off + j * 5 + 2, none⟩ = some (.int .i64 (G j 2)) := fun (r : After W2) => ((bthen HB.out r.below).cell (p := ⟨bw, off + j * 5 + 2, none⟩) hbw).trans (HCE.out j (by omega) 2 (by omega))
            have a13 : ∀ r : After W2, r.w.cell? ⟨bw, off + j * 5 + 3, none⟩ = some (.bool (H j 3)) := fun (r : After W2) => ((bthen HB.out r.below).cell (p := ⟨bw, off + j * 5 + 3, none⟩) hbw).trans (HCE.out j (by omega) 3 (by omega))
            have a14 : ∀ r : After W2, r.w.cell? ⟨bw, off + j * 5 + 4, none⟩ = some (.bool (H j 4)) := fun (r : After W2) => ((bthen HB.out r.below).cell (p := ⟨bw, off + j * 5 + 4, none⟩) hbw).trans (HCE.out j (by omega) 4 (by omega))
            have HE3 := Lib.hid hE3
            clear hfo hE3 HE2
            have hj0 : (0 : Int) < ((j + 1 : Nat) : Int) := by omega
            iterate 6 (go_big_quiet_step (first | (go_at_call 47; (with_reducible refine qafter (HHS.out _)))))
            refine wpq_row_g rfl 29 _ rfl _ rfl _ 14 (fun _ hw => by obtain ⟨r, rfl⟩ := hw; exact hX2.out r) Tryz.rowMet rfl ?_
            simp only [Act.put, List.setIfInBounds_toArray, List.set_cons_succ, List.set_cons_zero]
            iterate 5 (go_big_quiet_step (fail))
            refine wpq_row_g rfl 57 _ rfl _ rfl _ 5 (fun _ hw => by obtain ⟨r, rfl⟩ := hw; exact hW2.out r) Tryz.rowWe rfl ?_
            simp only [Act.put, List.setIfInBounds_toArray, List.set_cons_succ, List.set_cons_zero]
            cases F
            case false =>
              have HR2 := Lib.hid (show (f + ((j + 1 : Nat) : Int), false) = R from HE3.out)
              clear HE3
              iterate 4 (go_big_quiet_step (first | (go_at_call 48; (with_reducible refine qafter (HFO.out _)))))
              refine wpQuiet_nil ?_
              rintro _ ⟨⟨w1, hb1⟩, rfl⟩
              clear hS2 hW2 hX2 a10 a11 a12 a13 a14
              have nHX := Lib.hid (HX.out.below hb1)
              have nHW := Lib.hid (HW.out.below hb1)
              have nHB := Lib.hid (bthen HB.out hb1)
              clear HX HW HB hb1
              have HX := nHX
              have HW := nHW
              have HB := nHB
              clear nHX nHW nHB
              go_wp2_with (fail)
              go_ret3
              exact ⟨by rw [← HR2.out]; first | rfl | go_num, HB.out⟩
            case true =>
              have HR2 := Lib.hid (show realR M p f G H (n - (j + 1 + 1)) (j + 1 + 1) = R from HE3.out)
              clear HE3
              iterate 4 (go_big_quiet_step (first | (go_at_call 48; (with_reducible refine qafter (HFO.out _)))))
              refine wpQuiet_nil ?_
              rintro _ ⟨⟨w1, hb1⟩, rfl⟩
              clear hS2 hW2 hX2 a10 a11 a12 a13 a14
              have nHX := Lib.hid (HX.out.below hb1)
              have nHW := Lib.hid (HW.out.below hb1)
              have nHB := Lib.hid (bthen HB.out hb1)
              clear HX HW HB hb1
              have HX := nHX
              have HW := nHW
              have HB := nHB
              clear nHX nHW nHB
              go_wp2_with (fail)
              go_roundg (n - (j + 1 + 1))
              case measure => omega
              case rel => exact ⟨j + 1 + 1, by first | rfl | go_num | (congr 1; omega), by omega, Nat.le_refl _, Lib.hid ⟨HB.out, HX.out⟩, HR2⟩
      · obtain rfl : k = n := by omega
        have hE := HE.out
        rw [Nat.sub_self] at hE
        unfold realR at hE
        have HE2 := Lib.hid hE
        clear hE HE
        go_wp2_with (fail)
        go_ret3
        exact ⟨by rw [← HE2.out]; rfl, K0.out.b⟩
  · have hez : (atE M p f != 0) = true := by simpa using he
    rw [if_neg he, if_neg he]
    generalize atE M p f = E at *
    have HAT := Lib.hid hat
    clear hat he
    go_enter Tryz.func15, Tryz.ntmps15
    go_wp2_with (fail)
    have _x := frm1 w #[.int .i64 M.places, .int .i64 M.any.a0, .int .i64 M.any.a1, .int .i64 M.any.a2, .int .i64 M.any.a3, .int .i64 M.any.a4, .int .i64 M.any.a5, .bool M.any.i, .bool M.any.s, .int .i64 M.mw, .int .i64 M.ms, .int .i64 M.mc, vF, vS] 29
    have HX := Lib.hid _x.1
    have HB := Lib.hid _x.2.1
    have zW := _x.2.2
    clear _x
    generalize World.alloc w _ = W at *
    have hM2 := Lib.hid (fun r : After _ => HX.out.below r.below)
    have hA2 := Lib.hid (fun r : After _ => (HA.out.below HB.out).below r.below)
    refine wp_region_aftert 5 (by kernel_rfl) (by kernel_rfl) ?_
    simp only [List.take_succ_cons, List.take_zero, List.drop_succ_cons, List.drop_zero]
    refine wpq_row rfl 29 _ rfl _ rfl _ 14 (fun _ hw => by obtain ⟨r, rfl⟩ := hw; exact hM2.out r) Tryz.rowMet rfl ?_
    simp only [Act.put, List.setIfInBounds_toArray, List.set_cons_succ, List.set_cons_zero]
    iterate 2 (go_big_quiet_step (fail))
    go_big_quiet_step (first | (go_at_call 41; (with_reducible refine qafter (wat_c _ _ _))))
    go_big_quiet_step (first | (go_at_call 40; (with_reducible refine qafter (HAT.out _ (hA2.out _)))))
    refine wpQuiet_nil ?_
    rintro _ ⟨r, rfl⟩
    have BR := r.below
    clear hM2 hA2
    generalize r.w = wr at *
    have nHX := Lib.hid (HX.out.below BR)
    have nHB := Lib.hid (bthen HB.out BR)
    clear HX HB BR
    have HX := nHX
    have HB := nHB
    clear nHX nHB
    go_wp2_with (fail)
    go_ret3
    exact ⟨rfl, HB.out⟩
-- end
end Go.Proofs.YtonfnhonbnfdoaaGreat

namespace Go.Proofs.YtonfnhonbnfdoaaGreat
open Go Go.RowKit Go.Proofs
set_option maxRecDepth 100000
set_option maxHeartbeats 8000000

theorem real_all {M : MetD} {p f : Int} {G : Nat → Nat → Int} {H : Nat → Nat → Bool} : ∀ (k i : Nat), (realR M p f G H k i).2 = true → ∀ j : Nat, i ≤ j → j < i + k → hasB (M.may p (f + j)) (G j 0) (G j 1) (G j 2) (H j 3) (H j 4) = true
  | 0, i, _, j, h1, h2 => by omega
  | k + 1, i, h, j, h1, h2 => by
    unfold realR at h
    split at h
    · rename_i hc
      simp only [Bool.and_eq_true] at hc
      by_cases e : j = i
      · subst e; exact hc.1
      · exact real_all k (i + 1) h j (by omega) (by omega)
    · cases h
theorem hasB_iff {x : Sk} {a b c : Int} {i s : Bool} : hasB x a b c i s = true ↔ (x.a0 ≤ a ∧ a ≤ x.a1) ∧ (x.a2 ≤ b ∧ b ≤ x.a3) ∧ (x.a4 ≤ c ∧ c ≤ x.a5) ∧ (i = true → x.i = true) ∧ (s = true → x.s = true) := by
  unfold hasB
  simp only [Bool.and_eq_true, inB_iff]
  cases i <;> cases s <;> cases x.i <;> cases x.s <;> simp
theorem has_worst {x : Sk} {a b c : Int} {i s : Bool} {lw ls lc : Int} {li lt : Bool} (h : hasB x a b c i s = true) (ho : openB x lw ls lc li lt = true) : flyB a b c i s lw ls lc li lt = true := by
  rw [hasB_iff] at h
  unfold openB at ho
  rw [flyB_iff] at *
  exact ⟨by omega, by omega, by omega, fun e => ho.2.2.2.1 (h.2.2.2.1 e), fun e => ho.2.2.2.2 (h.2.2.2.2 e)⟩
theorem Tryz.weU : Tryz.prog.underlying 38 = some (.slice 57) := by kernel_rfl
theorem Tryz.weI : (Tryz.prog.info? 57).map (fun i => (i.zero.map (·.cells.size), i.size, decide (i.bytes ≤ 200))) = some (some 5, 5, true) := by kernel_rfl
theorem weV_one (G : Nat → Nat → Int) (H : Nat → Nat → Bool) (i j : Nat) : (weV G H i j).oneCell' = true := by unfold weV; split <;> rfl
theorem wpl_cpw {ty sl : TypeId} {k : Nat} {V : Nat → Nat → Value} {ops : Array Oper} {rest : List Oper} {o : Oper} {a : Act} {w : World} {Q : Exit → Act → World → Prop} (hgd : o.guard = none) (s x : Operand)
    (hu : Tryz.prog.underlying sl = some (.slice ty)) (hi : (Tryz.prog.info? ty).map (fun i => (i.zero.map (·.cells.size), i.size, decide (i.bytes ≤ 200))) = some (some k, k, true)) (hk : 0 < k) (h1 : ∀ i j, (V i j).oneCell' = true)
    (ho : o.op = .call { callee := .builtin .append, args := #[s, x], argTypes := #[sl, sl] }) (g : Nat) (hs : a.eval s = .slice (some ⟨g, 0, none⟩) 0 0) (hgb : w.heap[g]? = some (.cells #[] ty (0, 0)))
    (A : Option Addr) (n c : Nat) (hx : a.eval x = .slice A n c) (hr : RecsAt w A n k V) (hn : n ≤ 100)
    (h : ∀ v' w', Hid (∃ A' c', v' = .slice A' n c' ∧ n ≤ c' ∧ c' ≤ 9223372036854775807 ∧ RecsAt w' A' n k V ∧ ∀ b, some b = v'.ownBlock → g ≤ b) → Hid (Below w.heap.size w w') → wpList Tryz.prog ops Q rest (a.put o.dst v') w') : wpList Tryz.prog ops Q (o :: rest) a w := by
  cases hI : Tryz.prog.info? ty with
  | none => rw [hI] at hi; cases hi
  | some i =>
    rw [hI] at hi
    simp only [Option.map_some, Option.some.injEq, Prod.mk.injEq, decide_eq_true_eq] at hi
    obtain ⟨i1, i2, i3⟩ := hi
    cases hz : i.zero with
    | none => rw [hz] at i1; cases i1
    | some z =>
      rw [hz] at i1
      simp only [Option.map_some, Option.some.injEq] at i1
      have hb : n * i.bytes ≤ 100 * 200 := Nat.mul_le_mul hn i3
      refine wpl_append_newk hgd s x sl ho ty i z k i.bytes hu hI hz i2 rfl i1 hk g hs hgb g (Nat.le_refl _) A n c hx _ hr.cells (fun q _ => h1 _ _) (by unfold maxLen; omega) (by omega) (fun v' w' ho' hbl => ?_)
      obtain ⟨A', c', e, q1, q2, q3⟩ := RecsAt.of_owns (V := V) hk ho'
      exact h v' w' ⟨A', c', e, q1, q2, q3, fun b hb => owns_base ho' hb⟩ hbl
def EmptyW (v : Value) (w : World) : Prop := ∃ g, v = .slice (some ⟨g, 0, none⟩) 0 0 ∧ Blk w g 57 #[]
theorem EmptyW.below {v : Value} {w w' : World} (h : EmptyW v w) (hb : Below w.heap.size w w') : EmptyW v w' := by
  obtain ⟨g, e, h⟩ := h
  exact ⟨g, e, h.below hb⟩
def WesV (n : Nat) (G : Nat → Nat → Int) (H : Nat → Nat → Bool) (v : Value) (w : World) : Prop := ∃ A' c', v = .slice A' n c' ∧ RecsAt w A' n 5 (weV G H)
theorem WesV.below {n : Nat} {G : Nat → Nat → Int} {H : Nat → Nat → Bool} {v : Value} {w w' : World} (h : WesV n G H v w) (hb : Below w.heap.size w w') : WesV n G H v w' := by
  obtain ⟨A', c', e, h⟩ := h
  exact ⟨A', c', e, h.below hb⟩
end Go.Proofs.YtonfnhonbnfdoaaGreat

namespace Go.Proofs.YtonfnhonbnfdoaaGreat
open Go Go.RowKit Go.Proofs Go.ChangeShapes Go.WideShapes Go.ChangeAt Go.Deep
set_option maxRecDepth 100000
set_option maxHeartbeats 4000000
section
variable {H : Type} {enc : TypeId × Value → H} {W : World} {sp : Nat → Bool} {held : Bool}
end
end Go.Proofs.YtonfnhonbnfdoaaGreat
