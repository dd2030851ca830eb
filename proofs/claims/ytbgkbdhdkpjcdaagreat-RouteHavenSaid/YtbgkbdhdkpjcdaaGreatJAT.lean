/- Texts joined: JAT. -/
import Derived.Test.YtbgkbdhdkpjcdaaGreatNbH
import Derived.Test.YtbgkbdhdkpjcdaaGreatNbX
import Derived.Test.YtbgkbdhdkpjcdaaGreatRwC
import Derived.Test.YtbgkbdhdkpjcdaaGreatBas
set_option linter.all false
namespace Go.Proofs.YtbgkbdhdkpjcdaaGreat
open Go Go.RowKit Go.Proofs
set_option maxRecDepth 100000
set_option maxHeartbeats 8000000
theorem tkE_ok {NE : Int} {F : FliD} {lt : Tab} {t : Int} (h : tkE NE F lt t = 0) : NE = 0 ∧ inB t F.dep (F.arr lt) = true := by
  unfold tkE at h
  by_cases h1 : NE = 0
  · rw [if_pos h1] at h
    cases e : inB t F.dep (F.arr lt)
    · rw [e] at h; cases h
    · exact ⟨h1, rfl⟩
  · rw [if_neg h1] at h; exact absurd h h1
theorem SlH.nil (w : World) : SlH w (.slice none 0 0) [] := ⟨none, 0, rfl, Nat.le_refl _, by decide, fun h => absurd h (Nat.lt_irrefl _)⟩
/-- sameHavens of two lists that read alike. -/
theorem l5sameH_c (v1 v2 : Value) (l : List HavD) (w : World) (hn : l.length ≤ 3000) (h1 : SlH w v1 l) (h2 : SlH w v2 l) :
   Calls Tryz.prog 29 #[v1, v2] w fun e w' => e = .returned (.bool true) ∧ RowKit.Below w.heap.size w w' := by
  obtain ⟨A1, c1, rfl, -, -, hr1⟩ := h1
  obtain ⟨A2, c2, rfl, -, -, hr2⟩ := h2
  have H1 := Lib.hid hr1
  have H2 := Lib.hid hr2
  clear hr1 hr2
  obtain ⟨n, hnn⟩ : ∃ n, n = l.length := ⟨_, rfl⟩
  rw [← hnn] at hn H1 H2 ⊢
  clear hnn
  have hne : ((n : Int) != (n : Int)) = false := by simp
  go_enter Tryz.func29, Tryz.ntmps29
  go_wp2_with (fail)
  go_loopg [5] n (fun gx v wr => ∃ k : Nat, v = .int .i64 k ∧ k ≤ n ∧ n - k ≤ gx ∧ Hid (RowKit.Below w.heap.size w wr))
  case atStart => exact ⟨0, rfl, Nat.zero_le _, Nat.le_refl _, Lib.hid (RowKit.Below.refl _ _)⟩
  case round =>
    obtain ⟨k, rfl, hk, hgx, HB⟩ := hrel
    by_cases hlt : k < n
    · have hltz : (k : Int) < (n : Int) := by omega
      obtain ⟨b1, o1, rfl, hb1, hc1⟩ := H1.out (by omega)
      obtain ⟨b2, o2, rfl, hb2, hc2⟩ := H2.out (by omega)
      have p0 : wr.cell? ⟨b1, o1 + k * 3, none⟩ = some (.int .i64 (hvx l k).p) := (HB.out.cell (p := ⟨b1, o1 + k * 3, none⟩) hb1).trans (by have := hc1 k hlt 0 (by omega); rw [Nat.add_zero] at this; exact this)
      have p1 : wr.cell? ⟨b1, o1 + k * 3 + 1, none⟩ = some (.int .i64 (hvx l k).t) := (HB.out.cell (p := ⟨b1, o1 + k * 3 + 1, none⟩) hb1).trans (hc1 k hlt 1 (by omega))
      have p2 : wr.cell? ⟨b1, o1 + k * 3 + 2, none⟩ = some (.bool (hvx l k).b) := (HB.out.cell (p := ⟨b1, o1 + k * 3 + 2, none⟩) hb1).trans (hc1 k hlt 2 (by omega))
      have q0 : wr.cell? ⟨b2, o2 + k * 3, none⟩ = some (.int .i64 (hvx l k).p) := (HB.out.cell (p := ⟨b2, o2 + k * 3, none⟩) hb2).trans (by have := hc2 k hlt 0 (by omega); rw [Nat.add_zero] at this; exact this)
      have q1 : wr.cell? ⟨b2, o2 + k * 3 + 1, none⟩ = some (.int .i64 (hvx l k).t) := (HB.out.cell (p := ⟨b2, o2 + k * 3 + 1, none⟩) hb2).trans (hc2 k hlt 1 (by omega))
      have q2 : wr.cell? ⟨b2, o2 + k * 3 + 2, none⟩ = some (.bool (hvx l k).b) := (HB.out.cell (p := ⟨b2, o2 + k * 3 + 2, none⟩) hb2).trans (hc2 k hlt 2 (by omega))
      generalize hvx l k = x at *
      obtain ⟨xp, xt, xb⟩ := x
      dsimp only at p0 p1 p2 q0 q1 q2
      clear hc1 hc2
      go_wp2
      go_quiet (fail)
      have HB2 := Lib.hid (bdn HB.out nq)
      clear HB p0 p1 p2 q0 q1 q2
      generalize wr.drewN nq = wq at *
      go_wp2
      go_roundg (n - (k + 1))
      case measure => omega
      case rel => exact ⟨k + 1, by first | rfl | go_num | (congr 1; omega), by omega, Nat.le_refl _, HB2⟩
    · obtain rfl : n = k := by omega
      go_wp2
      go_ret
      exact ⟨rfl, HB.out⟩
end Go.Proofs.YtbgkbdhdkpjcdaaGreat

namespace Go.Proofs.YtbgkbdhdkpjcdaaGreat
open Go Go.RowKit Go.Proofs
set_option maxRecDepth 100000
set_option maxHeartbeats 8000000
/-- What Safe returns. -/
def sfE (NE : Int) (M : MetD) (lw ls lc : Int) (li lb : Bool) (S : Tab) (n : Nat) (F : FliD) : Int × Bool × Int :=
  if NE = 0 then ((F.prf (lgT S n) (timT S n M.places.toNat) (opM M lw ls lc li lb) M.places.toNat).2.1, (F.prf (lgT S n) (timT S n M.places.toNat) (opM M lw ls lc li lb) M.places.toNat).2.2, 0) else (0, false, NE)
/-- What Proof returns. -/
def pfE (NE : Int) (M : MetD) (lw ls lc : Int) (li lb : Bool) (S : Tab) (n : Nat) (F : FliD) : List HavD × Int :=
  if NE = 0 then (if (F.prf (lgT S n) (timT S n M.places.toNat) (opM M lw ls lc li lb) M.places.toNat).2.2 = true then ((F.prf (lgT S n) (timT S n M.places.toNat) (opM M lw ls lc li lb) M.places.toNat).1, 0) else ([], 3)) else ([], NE)
theorem rSafe_c (M : MetD) (vF vS : Value) (lw ls lc : Int) (li lb : Bool) (A : Option Addr) (n c : Nat) (S : Tab) (F : FliD) (vR : Value) (w : World) (hM : MetAt w vF vS M) (hc1 : n ≤ c) (hc2 : c ≤ 9223372036854775807) (hL : RecsAt w A n 3 (nV S)) (hR : SlI w vR F.m F.R) :
   Calls Tryz.prog 40 #[.agg #[.int .i64 M.places, .int .i64 M.any.a0, .int .i64 M.any.a1, .int .i64 M.any.a2, .int .i64 M.any.a3, .int .i64 M.any.a4, .int .i64 M.any.a5, .bool M.any.i, .bool M.any.s, .int .i64 M.mw, .int .i64 M.ms, .int .i64 M.mc, vF, vS], .agg #[.int .i64 lw, .int .i64 ls, .int .i64 lc, .bool li, .bool lb], .slice A n c, .agg #[vR, .int .i64 F.dep, .int .i64 F.fuel, .int .i64 F.burn, .int .i64 F.res]] w fun e w' => e = .returned (.tuple #[.int .i64 (sfE (nfE (netME M lw ls lc S n) M S n F) M lw ls lc li lb S n F).1, .bool (sfE (nfE (netME M lw ls lc S n) M S n F) M lw ls lc li lb S n F).2.1, .int .i64 (sfE (nfE (netME M lw ls lc S n) M S n F) M lw ls lc li lb S n F).2.2]) ∧ RowKit.Below w.heap.size w w' := by
  have HM := Lib.hid hM
  have HL := Lib.hid hL
  have HR := Lib.hid hR
  clear hM hL hR
  have HNN := Lib.hid (fun w1 gl h1 hm h2 h3 => newFlightM_c M vF vS gl lw ls lc li lb A n c S F vR w1 h1 hm hc1 hc2 h2 h3)
  have tok : True := trivial
  have tok2 : True := trivial
  have hok := fun h => nfM_ok (M := M) (lw := lw) (ls := ls) (lc := lc) (S := S) (n := n) (F := F) h
  generalize nfE (netME M lw ls lc S n) M S n F = NE at *
  unfold sfE
  by_cases h0 : NE = 0
  case neg =>
    rw [if_neg h0]
    have hz : (NE != 0) = true := by simpa using h0
    clear h0 hok
    go_enter Tryz.func40, Tryz.ntmps40
    go_wp2_with (fail)
    have _x := frm3 w #[.int .i64 M.places, .int .i64 M.any.a0, .int .i64 M.any.a1, .int .i64 M.any.a2, .int .i64 M.any.a3, .int .i64 M.any.a4, .int .i64 M.any.a5, .bool M.any.i, .bool M.any.s, .int .i64 M.mw, .int .i64 M.ms, .int .i64 M.mc, vF, vS] 29 #[.int .i64 lw, .int .i64 ls, .int .i64 lc, .bool li, .bool lb] 31 #[vR, .int .i64 F.dep, .int .i64 F.fuel, .int .i64 F.burn, .int .i64 F.res] 37
    have HX := Lib.hid _x.1
    have HI := Lib.hid _x.2.1
    have HF := Lib.hid _x.2.2.1
    have HB := Lib.hid _x.2.2.2.1
    have zW := _x.2.2.2.2
    clear _x
    generalize World.alloc (World.alloc (World.alloc w _) _) _ = W at *
    go_wp2_with (first | (have _t := tok; refine wpl_row rfl 29 (.tmp 4) rfl _ rfl #[.int .i64 M.places, .int .i64 M.any.a0, .int .i64 M.any.a1, .int .i64 M.any.a2, .int .i64 M.any.a3, .int .i64 M.any.a4, .int .i64 M.any.a5, .bool M.any.i, .bool M.any.s, .int .i64 M.mw, .int .i64 M.ms, .int .i64 M.mc, vF, vS] 14 HX.out Tryz.rowMet rfl ?_; simp only [Act.put]; clear tok) | (have _t := tok2; refine wpl_row rfl 37 (.tmp 7) rfl _ rfl #[vR, .int .i64 F.dep, .int .i64 F.fuel, .int .i64 F.burn, .int .i64 F.res] 5 HF.out Tryz.rowFli rfl ?_; simp only [Act.put]; clear tok2) | (go_at_call 86; (with_reducible refine (HNN.out _ _ (HM.out.below HB.out) HI.out (HL.out.below HB.out) (HR.out.below HB.out)).mono ?_); rintro e w1 ⟨v, rfl, hb1⟩; (obtain ⟨hb1, -⟩ := hb1); have nHX := Lib.hid (HX.out.below hb1); have nHI := Lib.hid (HI.out.below hb1); have nHF := Lib.hid (HF.out.below hb1); have nHB := Lib.hid (bthen HB.out hb1); have zz1 := hb1.size; clear HX HI HF HB hb1; have HX := nHX; have HI := nHI; have HF := nHF; have HB := nHB; clear nHX nHI nHF nHB))
    go_ret3
    exact ⟨rfl, HB.out⟩
  subst h0
  rw [if_pos rfl]
  obtain ⟨f3, f4, f5, f6, f7⟩ := hok rfl
  have hti := timT_in f6 f4.2
  have HPR := Lib.hid (fun v vN w1 h hm => fproof_c M vF vS v vN M.places.toNat (lgT S n) (timT S n M.places.toNat) F vR lw ls lc li lb w1 h hm f3 f4.2 f7 f5 hti)
  clear f3 f4 f5 f6 f7 hti hok
  generalize F.prf (lgT S n) (timT S n M.places.toNat) (opM M lw ls lc li lb) M.places.toNat = R at *
  obtain ⟨l, rt, rs⟩ := R
  dsimp only at HPR ⊢
  go_enter Tryz.func40, Tryz.ntmps40
  go_wp2_with (fail)
  have _x := frm3 w #[.int .i64 M.places, .int .i64 M.any.a0, .int .i64 M.any.a1, .int .i64 M.any.a2, .int .i64 M.any.a3, .int .i64 M.any.a4, .int .i64 M.any.a5, .bool M.any.i, .bool M.any.s, .int .i64 M.mw, .int .i64 M.ms, .int .i64 M.mc, vF, vS] 29 #[.int .i64 lw, .int .i64 ls, .int .i64 lc, .bool li, .bool lb] 31 #[vR, .int .i64 F.dep, .int .i64 F.fuel, .int .i64 F.burn, .int .i64 F.res] 37
  have HX := Lib.hid _x.1
  have HI := Lib.hid _x.2.1
  have HF := Lib.hid _x.2.2.1
  have HB := Lib.hid _x.2.2.2.1
  have zW := _x.2.2.2.2
  clear _x
  generalize World.alloc (World.alloc (World.alloc w _) _) _ = W at *
  go_wp2_with (first | (have _t := tok; refine wpl_row rfl 29 (.tmp 4) rfl _ rfl #[.int .i64 M.places, .int .i64 M.any.a0, .int .i64 M.any.a1, .int .i64 M.any.a2, .int .i64 M.any.a3, .int .i64 M.any.a4, .int .i64 M.any.a5, .bool M.any.i, .bool M.any.s, .int .i64 M.mw, .int .i64 M.ms, .int .i64 M.mc, vF, vS] 14 HX.out Tryz.rowMet rfl ?_; simp only [Act.put]; clear tok) | (have _t := tok2; refine wpl_row rfl 37 (.tmp 7) rfl _ rfl #[vR, .int .i64 F.dep, .int .i64 F.fuel, .int .i64 F.burn, .int .i64 F.res] 5 HF.out Tryz.rowFli rfl ?_; simp only [Act.put]; clear tok2))
  refine (HNN.out _ _ (HM.out.below HB.out) HI.out (HL.out.below HB.out) (HR.out.below HB.out)).mono ?_
  rintro e w2 ⟨v, rfl, hb2, hv⟩
  obtain ⟨vN, hfa⟩ := hv rfl
  have HFA := Lib.hid hfa
  obtain ⟨gx, vA, rfl, -⟩ := hfa
  have HB2 := Lib.hid (bthen HB.out hb2)
  clear HB HX HF HI hb2 hv
  go_wp2_with (fail)
  refine (HPR.out _ _ _ HFA.out (HM.out.below HB2.out)).mono ?_
  rintro e w3 ⟨vO, rfl, hb3, hO⟩
  have HO := Lib.hid hO
  have HB3 := Lib.hid (bthen HB2.out hb3)
  clear HFA HB2 hb3 HPR hO
  go_wp2_with (fail)
  go_ret3
  exact ⟨rfl, HB3.out⟩
theorem rProof_c (M : MetD) (vF vS : Value) (lw ls lc : Int) (li lb : Bool) (A : Option Addr) (n c : Nat) (S : Tab) (F : FliD) (vR : Value) (w : World) (hM : MetAt w vF vS M) (hc1 : n ≤ c) (hc2 : c ≤ 9223372036854775807) (hL : RecsAt w A n 3 (nV S)) (hR : SlI w vR F.m F.R) :
   Calls Tryz.prog 50 #[.agg #[.int .i64 M.places, .int .i64 M.any.a0, .int .i64 M.any.a1, .int .i64 M.any.a2, .int .i64 M.any.a3, .int .i64 M.any.a4, .int .i64 M.any.a5, .bool M.any.i, .bool M.any.s, .int .i64 M.mw, .int .i64 M.ms, .int .i64 M.mc, vF, vS], .agg #[.int .i64 lw, .int .i64 ls, .int .i64 lc, .bool li, .bool lb], .slice A n c, .agg #[vR, .int .i64 F.dep, .int .i64 F.fuel, .int .i64 F.burn, .int .i64 F.res]] w fun e w' => ∃ vO, e = .returned (.tuple #[vO, .int .i64 (pfE (nfE (netME M lw ls lc S n) M S n F) M lw ls lc li lb S n F).2]) ∧ RowKit.Below w.heap.size w w' ∧ SlH w' vO (pfE (nfE (netME M lw ls lc S n) M S n F) M lw ls lc li lb S n F).1 := by
  have HM := Lib.hid hM
  have HL := Lib.hid hL
  have HR := Lib.hid hR
  clear hM hL hR
  have HNN := Lib.hid (fun w1 gl h1 hm h2 h3 => newFlightM_c M vF vS gl lw ls lc li lb A n c S F vR w1 h1 hm hc1 hc2 h2 h3)
  have tok : True := trivial
  have tok2 : True := trivial
  have hok := fun h => nfM_ok (M := M) (lw := lw) (ls := ls) (lc := lc) (S := S) (n := n) (F := F) h
  generalize nfE (netME M lw ls lc S n) M S n F = NE at *
  unfold pfE
  by_cases h0 : NE = 0
  case neg =>
    rw [if_neg h0]
    have hz : (NE != 0) = true := by simpa using h0
    clear h0 hok
    go_enter Tryz.func50, Tryz.ntmps50
    go_wp2_with (fail)
    have _x := frm3 w #[.int .i64 M.places, .int .i64 M.any.a0, .int .i64 M.any.a1, .int .i64 M.any.a2, .int .i64 M.any.a3, .int .i64 M.any.a4, .int .i64 M.any.a5, .bool M.any.i, .bool M.any.s, .int .i64 M.mw, .int .i64 M.ms, .int .i64 M.mc, vF, vS] 29 #[.int .i64 lw, .int .i64 ls, .int .i64 lc, .bool li, .bool lb] 31 #[vR, .int .i64 F.dep, .int .i64 F.fuel, .int .i64 F.burn, .int .i64 F.res] 37
    have HX := Lib.hid _x.1
    have HI := Lib.hid _x.2.1
    have HF := Lib.hid _x.2.2.1
    have HB := Lib.hid _x.2.2.2.1
    have zW := _x.2.2.2.2
    clear _x
    generalize World.alloc (World.alloc (World.alloc w _) _) _ = W at *
    go_wp2_with (first | (have _t := tok; refine wpl_row rfl 29 (.tmp 4) rfl _ rfl #[.int .i64 M.places, .int .i64 M.any.a0, .int .i64 M.any.a1, .int .i64 M.any.a2, .int .i64 M.any.a3, .int .i64 M.any.a4, .int .i64 M.any.a5, .bool M.any.i, .bool M.any.s, .int .i64 M.mw, .int .i64 M.ms, .int .i64 M.mc, vF, vS] 14 HX.out Tryz.rowMet rfl ?_; simp only [Act.put]; clear tok) | (have _t := tok2; refine wpl_row rfl 37 (.tmp 7) rfl _ rfl #[vR, .int .i64 F.dep, .int .i64 F.fuel, .int .i64 F.burn, .int .i64 F.res] 5 HF.out Tryz.rowFli rfl ?_; simp only [Act.put]; clear tok2) | (go_at_call 86; (with_reducible refine (HNN.out _ _ (HM.out.below HB.out) HI.out (HL.out.below HB.out) (HR.out.below HB.out)).mono ?_); rintro e w1 ⟨v, rfl, hb1⟩; (obtain ⟨hb1, -⟩ := hb1); have nHX := Lib.hid (HX.out.below hb1); have nHI := Lib.hid (HI.out.below hb1); have nHF := Lib.hid (HF.out.below hb1); have nHB := Lib.hid (bthen HB.out hb1); have zz1 := hb1.size; clear HX HI HF HB hb1; have HX := nHX; have HI := nHI; have HF := nHF; have HB := nHB; clear nHX nHI nHF nHB))
    go_ret2
    exact ⟨_, rfl, HB.out, SlH.nil _⟩
  subst h0
  rw [if_pos rfl]
  obtain ⟨f3, f4, f5, f6, f7⟩ := hok rfl
  have hti := timT_in f6 f4.2
  have HPR := Lib.hid (fun v vN w1 h hm => fproof_c M vF vS v vN M.places.toNat (lgT S n) (timT S n M.places.toNat) F vR lw ls lc li lb w1 h hm f3 f4.2 f7 f5 hti)
  clear f3 f4 f5 f6 f7 hti hok
  generalize F.prf (lgT S n) (timT S n M.places.toNat) (opM M lw ls lc li lb) M.places.toNat = R at *
  obtain ⟨l, rt, rs⟩ := R
  dsimp only at HPR ⊢
  cases rs
  · rw [if_neg (show ¬ (false = true) by decide)]
    go_enter Tryz.func50, Tryz.ntmps50
    go_wp2_with (fail)
    have _x := frm3 w #[.int .i64 M.places, .int .i64 M.any.a0, .int .i64 M.any.a1, .int .i64 M.any.a2, .int .i64 M.any.a3, .int .i64 M.any.a4, .int .i64 M.any.a5, .bool M.any.i, .bool M.any.s, .int .i64 M.mw, .int .i64 M.ms, .int .i64 M.mc, vF, vS] 29 #[.int .i64 lw, .int .i64 ls, .int .i64 lc, .bool li, .bool lb] 31 #[vR, .int .i64 F.dep, .int .i64 F.fuel, .int .i64 F.burn, .int .i64 F.res] 37
    have HX := Lib.hid _x.1
    have HI := Lib.hid _x.2.1
    have HF := Lib.hid _x.2.2.1
    have HB := Lib.hid _x.2.2.2.1
    have zW := _x.2.2.2.2
    clear _x
    generalize World.alloc (World.alloc (World.alloc w _) _) _ = W at *
    go_wp2_with (first | (have _t := tok; refine wpl_row rfl 29 (.tmp 4) rfl _ rfl #[.int .i64 M.places, .int .i64 M.any.a0, .int .i64 M.any.a1, .int .i64 M.any.a2, .int .i64 M.any.a3, .int .i64 M.any.a4, .int .i64 M.any.a5, .bool M.any.i, .bool M.any.s, .int .i64 M.mw, .int .i64 M.ms, .int .i64 M.mc, vF, vS] 14 HX.out Tryz.rowMet rfl ?_; simp only [Act.put]; clear tok) | (have _t := tok2; refine wpl_row rfl 37 (.tmp 7) rfl _ rfl #[vR, .int .i64 F.dep, .int .i64 F.fuel, .int .i64 F.burn, .int .i64 F.res] 5 HF.out Tryz.rowFli rfl ?_; simp only [Act.put]; clear tok2))
    refine (HNN.out _ _ (HM.out.below HB.out) HI.out (HL.out.below HB.out) (HR.out.below HB.out)).mono ?_
    rintro e w2 ⟨v, rfl, hb2, hv⟩
    obtain ⟨vN, hfa⟩ := hv rfl
    have HFA := Lib.hid hfa
    obtain ⟨gx, vA, rfl, -⟩ := hfa
    have HB2 := Lib.hid (bthen HB.out hb2)
    clear HB HX HF HI hb2 hv
    go_wp2_with (fail)
    refine (HPR.out _ _ _ HFA.out (HM.out.below HB2.out)).mono ?_
    rintro e w3 ⟨vO, rfl, hb3, hO⟩
    have HO := Lib.hid hO
    have HB3 := Lib.hid (bthen HB2.out hb3)
    clear HFA HB2 hb3 HPR hO
    go_wp2_with (fail)
    go_ret2
    exact ⟨_, rfl, HB3.out, SlH.nil _⟩
  · rw [if_pos rfl]
    go_enter Tryz.func50, Tryz.ntmps50
    go_wp2_with (fail)
    have _x := frm3 w #[.int .i64 M.places, .int .i64 M.any.a0, .int .i64 M.any.a1, .int .i64 M.any.a2, .int .i64 M.any.a3, .int .i64 M.any.a4, .int .i64 M.any.a5, .bool M.any.i, .bool M.any.s, .int .i64 M.mw, .int .i64 M.ms, .int .i64 M.mc, vF, vS] 29 #[.int .i64 lw, .int .i64 ls, .int .i64 lc, .bool li, .bool lb] 31 #[vR, .int .i64 F.dep, .int .i64 F.fuel, .int .i64 F.burn, .int .i64 F.res] 37
    have HX := Lib.hid _x.1
    have HI := Lib.hid _x.2.1
    have HF := Lib.hid _x.2.2.1
    have HB := Lib.hid _x.2.2.2.1
    have zW := _x.2.2.2.2
    clear _x
    generalize World.alloc (World.alloc (World.alloc w _) _) _ = W at *
    go_wp2_with (first | (have _t := tok; refine wpl_row rfl 29 (.tmp 4) rfl _ rfl #[.int .i64 M.places, .int .i64 M.any.a0, .int .i64 M.any.a1, .int .i64 M.any.a2, .int .i64 M.any.a3, .int .i64 M.any.a4, .int .i64 M.any.a5, .bool M.any.i, .bool M.any.s, .int .i64 M.mw, .int .i64 M.ms, .int .i64 M.mc, vF, vS] 14 HX.out Tryz.rowMet rfl ?_; simp only [Act.put]; clear tok) | (have _t := tok2; refine wpl_row rfl 37 (.tmp 7) rfl _ rfl #[vR, .int .i64 F.dep, .int .i64 F.fuel, .int .i64 F.burn, .int .i64 F.res] 5 HF.out Tryz.rowFli rfl ?_; simp only [Act.put]; clear tok2))
    refine (HNN.out _ _ (HM.out.below HB.out) HI.out (HL.out.below HB.out) (HR.out.below HB.out)).mono ?_
    rintro e w2 ⟨v, rfl, hb2, hv⟩
    obtain ⟨vN, hfa⟩ := hv rfl
    have HFA := Lib.hid hfa
    obtain ⟨gx, vA, rfl, -⟩ := hfa
    have HB2 := Lib.hid (bthen HB.out hb2)
    clear HB HX HF HI hb2 hv
    go_wp2_with (fail)
    refine (HPR.out _ _ _ HFA.out (HM.out.below HB2.out)).mono ?_
    rintro e w3 ⟨vO, rfl, hb3, hO⟩
    have HO := Lib.hid hO
    have HB3 := Lib.hid (bthen HB2.out hb3)
    clear HFA HB2 hb3 HPR hO
    go_wp2_with (fail)
    go_ret2
    exact ⟨_, rfl, HB3.out, HO.out⟩
end Go.Proofs.YtbgkbdhdkpjcdaaGreat

namespace Go.Proofs.YtbgkbdhdkpjcdaaGreat
open Go Go.RowKit Go.Proofs
set_option maxRecDepth 100000
set_option maxHeartbeats 8000000
theorem rw_Meet_c (al ah bl bh : Int) (w : World) (ha : vspan al ah = true) (hb : vspan bl bh = true) :
   Calls Tryz.prog 226 #[.agg #[.int .i64 al, .int .i64 ah], .agg #[.int .i64 bl, .int .i64 bh]] w fun e w' => e = .returned (.tuple #[.agg #[.int .i64 (meL al ah bl bh), .int .i64 (meH al ah bl bh)], .int .i64 (meE al ah bl bh)]) ∧ Below w.heap.size w w' := by
  obtain ⟨v0, v1, v2⟩ := vspan_iff'.1 ha
  obtain ⟨v3, v4, v5⟩ := vspan_iff'.1 hb
  have ht := fun w1 => rf_two_c al ah bl bh w1
  rw [ha, hb] at ht
  have HT := Lib.hid (show ∀ w1, Calls Tryz.prog 228 #[.agg #[.int .i64 al, .int .i64 ah], .agg #[.int .i64 bl, .int .i64 bh]] w1 fun e w' => e = .returned (.int .i64 0) ∧ Below w1.heap.size w1 w' from fun w1 => by
    have := ht w1
    rw [show (!true || !true) = false from rfl, spanE_f] at this
    exact this)
  clear ha hb ht
  unfold meE meL meH
  by_cases h : max al bl ≤ min ah bh
  · rw [if_pos h, if_pos h, if_pos h]
    have h2 : ¬ min ah bh < max al bl := by omega
    go_enter Tryz.func226, Tryz.ntmps226
    go_wp2_with (fail)
    have _x := frm3 w #[.int .i64 al, .int .i64 ah] 23 #[.int .i64 bl, .int .i64 bh] 23 #[.int .i64 0, .int .i64 0] 23
    have HX := Lib.hid _x.1
    have HY := Lib.hid _x.2.1
    have HR := Lib.hid _x.2.2.1
    have HB := Lib.hid _x.2.2.2.1
    have zW := _x.2.2.2.2
    clear _x
    generalize World.alloc (World.alloc (World.alloc w _) _) _ = W at *
    have zHX := HX.out.lt
    have cHX0 := HX.out.cell 0
    have cHX1 := HX.out.cell 1
    have zHY := HY.out.lt
    have cHY0 := HY.out.cell 0
    have cHY1 := HY.out.cell 1
    go_wp2_with (first | (go_at_call 228; (with_reducible refine (HT.out _).mono ?_); rintro e w1 ⟨rfl, hb1⟩; have nHX := Lib.hid (HX.out.below hb1); have nHY := Lib.hid (HY.out.below hb1); have nHR := Lib.hid (HR.out.below hb1); have nHB := Lib.hid (bthen HB.out hb1); have zz1 := hb1.size; clear HX HY HR HB hb1; have HX := nHX; have HY := nHY; have HR := nHR; have HB := nHB; clear nHX nHY nHR nHB; (try clear zHX); have zHX := HX.out.lt; (try clear cHX0); have cHX0 := HX.out.cell 0; (try clear cHX1); have cHX1 := HX.out.cell 1; (try clear zHY); have zHY := HY.out.lt; (try clear cHY0); have cHY0 := HY.out.cell 0; (try clear cHY1); have cHY1 := HY.out.cell 1; (try clear zHR); have zHR := HR.out.lt; (try clear cHR0); have cHR0 := HR.out.cell 0; (try clear cHR1); have cHR1 := HR.out.cell 1; (try clear fHR); have fHR := fun i => HR.out.frozen i))
    exact bodyPost_ret (res_ct rfl _ _ #[.int .i64 (max al bl), .int .i64 (min ah bh)] 2 rfl (((HR.out.set_ 0 _).set_ 1 _).alloc _) Tryz.rowSpan rfl) rfl ⟨rfl, bal (bset (bset HB.out (g := w.heap.size + 1 + 1) (by omega) (i := 0) _) (g := w.heap.size + 1 + 1) (by omega) (i := 1) _) _⟩
  · rw [if_neg h, if_neg h, if_neg h]
    have h2 : min ah bh < max al bl := by omega
    go_enter Tryz.func226, Tryz.ntmps226
    go_wp2_with (fail)
    have _x := frm3 w #[.int .i64 al, .int .i64 ah] 23 #[.int .i64 bl, .int .i64 bh] 23 #[.int .i64 0, .int .i64 0] 23
    have HX := Lib.hid _x.1
    have HY := Lib.hid _x.2.1
    have HR := Lib.hid _x.2.2.1
    have HB := Lib.hid _x.2.2.2.1
    have zW := _x.2.2.2.2
    clear _x
    generalize World.alloc (World.alloc (World.alloc w _) _) _ = W at *
    have zHX := HX.out.lt
    have cHX0 := HX.out.cell 0
    have cHX1 := HX.out.cell 1
    have zHY := HY.out.lt
    have cHY0 := HY.out.cell 0
    have cHY1 := HY.out.cell 1
    go_wp2_with (first | (go_at_call 228; (with_reducible refine (HT.out _).mono ?_); rintro e w1 ⟨rfl, hb1⟩; have nHX := Lib.hid (HX.out.below hb1); have nHY := Lib.hid (HY.out.below hb1); have nHR := Lib.hid (HR.out.below hb1); have nHB := Lib.hid (bthen HB.out hb1); have zz1 := hb1.size; clear HX HY HR HB hb1; have HX := nHX; have HY := nHY; have HR := nHR; have HB := nHB; clear nHX nHY nHR nHB; (try clear zHX); have zHX := HX.out.lt; (try clear cHX0); have cHX0 := HX.out.cell 0; (try clear cHX1); have cHX1 := HX.out.cell 1; (try clear zHY); have zHY := HY.out.lt; (try clear cHY0); have cHY0 := HY.out.cell 0; (try clear cHY1); have cHY1 := HY.out.cell 1; (try clear zHR); have zHR := HR.out.lt; (try clear cHR0); have cHR0 := HR.out.cell 0; (try clear cHR1); have cHR1 := HR.out.cell 1; (try clear fHR); have fHR := fun i => HR.out.frozen i))
    exact bodyPost_ret (res_ct rfl _ _ #[.int .i64 0, .int .i64 0] 2 rfl (((HR.out.set_ 0 _).set_ 1 _).alloc _) Tryz.rowSpan rfl) rfl ⟨rfl, bal (bset (bset HB.out (g := w.heap.size + 1 + 1) (by omega) (i := 0) _) (g := w.heap.size + 1 + 1) (by omega) (i := 1) _) _⟩
theorem rw_around_c (n d m : Int) (w : World) (h0 : -1000000000 ≤ n) (h1 : n ≤ 1000000000) (h2 : -1000000000 ≤ d) (h3 : d ≤ 1000000000) (hn0 : 0 ≤ n) (hn1 : n ≤ m) (hd : 0 ≤ d) (hm : m ≤ 1000000) :
   Calls Tryz.prog 220 #[.int .i64 n, .int .i64 d, .int .i64 m] w fun e w' => e = .returned (.agg #[.int .i64 (neL n d m), .int .i64 (neH n d m)]) ∧ Below w.heap.size w w' := by
  go_enter Tryz.func220, Tryz.ntmps220
  go_wp2
  all_goals exact bodyPost_ret (res_c rfl _ _ _ 2 rfl (Blk.new _ _ _) Tryz.rowSpan rfl) rfl ⟨ret2 (by unfold neL; omega) (by unfold neH; omega), bal (Below.refl _ _) _⟩
theorem rw_cut_c (al ah bl bh : Int) (w : World) (ha : vspan al ah = true) (hb : vspan bl bh = true) :
   Calls Tryz.prog 219 #[.agg #[.int .i64 al, .int .i64 ah], .agg #[.int .i64 bl, .int .i64 bh]] w fun e w' => e = .returned (.tuple #[.agg #[.int .i64 (cuL al ah bl bh), .int .i64 (cuH al ah bl bh)], .bool (cuF al ah bl bh)]) ∧ Below w.heap.size w w' := by
  have hm := fun w1 => rw_Meet_c al ah bl bh w1 ha hb
  unfold cuL cuH cuF
  clear ha hb
  unfold meL meH meE at hm
  by_cases h : max al bl ≤ min ah bh
  · rw [if_pos h, if_pos h, if_pos h] at hm
    rw [if_pos h, if_pos h, show (!decide (max al bl ≤ min ah bh)) = false by simp [h]]
    have HM := Lib.hid hm
    clear hm
    go_enter Tryz.func219, Tryz.ntmps219
    go_wp2_with (fail)
    have _x := frm3 w #[.int .i64 al, .int .i64 ah] 23 #[.int .i64 bl, .int .i64 bh] 23 #[.int .i64 0, .int .i64 0] 23
    have HX := Lib.hid _x.1
    have HY := Lib.hid _x.2.1
    have HR := Lib.hid _x.2.2.1
    have HB := Lib.hid _x.2.2.2.1
    have zW := _x.2.2.2.2
    clear _x
    generalize World.alloc (World.alloc (World.alloc w _) _) _ = W at *
    have zHX := HX.out.lt
    have cHX0 := HX.out.cell 0
    have cHX1 := HX.out.cell 1
    have zHY := HY.out.lt
    have cHY0 := HY.out.cell 0
    have cHY1 := HY.out.cell 1
    go_wp2_with (first | (go_at_call 226; (with_reducible refine (HM.out _).mono ?_); rintro e w1 ⟨rfl, hb1⟩; have nHX := Lib.hid (HX.out.below hb1); have nHY := Lib.hid (HY.out.below hb1); have nHR := Lib.hid (HR.out.below hb1); have nHB := Lib.hid (bthen HB.out hb1); have zz1 := hb1.size; clear HX HY HR HB hb1; have HX := nHX; have HY := nHY; have HR := nHR; have HB := nHB; clear nHX nHY nHR nHB; (try clear zHY); have zHY := HY.out.lt; (try clear cHY0); have cHY0 := HY.out.cell 0; (try clear cHY1); have cHY1 := HY.out.cell 1; (try clear zHR); have zHR := HR.out.lt; (try clear cHR0); have cHR0 := HR.out.cell 0; (try clear cHR1); have cHR1 := HR.out.cell 1; (try clear fHR); have fHR := fun i => HR.out.frozen i))
    exact bodyPost_ret (res_ct rfl _ _ #[.int .i64 (max al bl), .int .i64 (min ah bh)] 2 rfl (((HR.out.set_ 0 _).set_ 1 _).alloc _) Tryz.rowSpan rfl) rfl ⟨rfl, bal (bset (bset HB.out (g := w.heap.size + 1 + 1) (by omega) (i := 0) _) (g := w.heap.size + 1 + 1) (by omega) (i := 1) _) _⟩
  · rw [if_neg h, if_neg h, if_neg h] at hm
    rw [if_neg h, if_neg h, show (!decide (max al bl ≤ min ah bh)) = true by simp [h]]
    have HM := Lib.hid hm
    clear hm
    go_enter Tryz.func219, Tryz.ntmps219
    go_wp2_with (fail)
    have _x := frm3 w #[.int .i64 al, .int .i64 ah] 23 #[.int .i64 bl, .int .i64 bh] 23 #[.int .i64 0, .int .i64 0] 23
    have HX := Lib.hid _x.1
    have HY := Lib.hid _x.2.1
    have HR := Lib.hid _x.2.2.1
    have HB := Lib.hid _x.2.2.2.1
    have zW := _x.2.2.2.2
    clear _x
    generalize World.alloc (World.alloc (World.alloc w _) _) _ = W at *
    have zHX := HX.out.lt
    have cHX0 := HX.out.cell 0
    have cHX1 := HX.out.cell 1
    have zHY := HY.out.lt
    have cHY0 := HY.out.cell 0
    have cHY1 := HY.out.cell 1
    go_wp2_with (first | (go_at_call 226; (with_reducible refine (HM.out _).mono ?_); rintro e w1 ⟨rfl, hb1⟩; have nHX := Lib.hid (HX.out.below hb1); have nHY := Lib.hid (HY.out.below hb1); have nHR := Lib.hid (HR.out.below hb1); have nHB := Lib.hid (bthen HB.out hb1); have zz1 := hb1.size; clear HX HY HR HB hb1; have HX := nHX; have HY := nHY; have HR := nHR; have HB := nHB; clear nHX nHY nHR nHB; (try clear zHY); have zHY := HY.out.lt; (try clear cHY0); have cHY0 := HY.out.cell 0; (try clear cHY1); have cHY1 := HY.out.cell 1; (try clear zHR); have zHR := HR.out.lt; (try clear cHR0); have cHR0 := HR.out.cell 0; (try clear cHR1); have cHR1 := HR.out.cell 1; (try clear fHR); have fHR := fun i => HR.out.frozen i))
    exact bodyPost_ret (res_ct rfl _ _ #[.int .i64 bl, .int .i64 bh] 2 rfl (((HR.out.set_ 0 _).set_ 1 _).alloc _) Tryz.rowSpan rfl) rfl ⟨rfl, bal (bset (bset HB.out (g := w.heap.size + 1 + 1) (by omega) (i := 0) _) (g := w.heap.size + 1 + 1) (by omega) (i := 1) _) _⟩
end Go.Proofs.YtbgkbdhdkpjcdaaGreat

namespace Go.Proofs.YtbgkbdhdkpjcdaaGreat
open Go Go.RowKit Go.Proofs

section
variable {P : Program} {ops : Array Oper} {rest : List Oper} {o : Oper} {a : Act} {w : World}
theorem wpl_row_g {Q : Exit → Act → World → Prop} (hgd : Region.wanted o (yielded ops a.tmps) = true) (ty : TypeId) (x : Operand) (ho : o.op = .load ty x)
    (g : Nat) (hx : a.eval x = .pointer (some ⟨g, 0, none⟩)) (cs : Array Value) (n : Nat) (hB : w.heap[g]? = some (.cells cs ty (0, 0)))
    (hr : RowTy P ty n) (hn : cs.size = n)
    (h : wpList P ops Q rest (a.put o.dst (.agg cs)) w) : wpList P ops Q (o :: rest) a w := by
  obtain ⟨hu, hi⟩ := hr
  cases hd : P.underlying ty with
  | none => rw [hd] at hu; cases hu
  | some d =>
    rw [hd] at hu
    refine wpList_step fun K hK => ?_
    simp only [hgd, if_true]
    unfold Oper.wp execOp
    simp only [ho, hx, Instr.loadAt, Instr.sureAddr, Sem.run_bind, Sem.run_pure, Result.andThen_ok, run_loadVar_row w g ty ty cs (0, 0) d hB hd (by cases d <;> first | rfl | (simp at hu)) (by rw [hi, hn]), Oper.upon]
    exact hK _ _ h
end
end Go.Proofs.YtbgkbdhdkpjcdaaGreat
