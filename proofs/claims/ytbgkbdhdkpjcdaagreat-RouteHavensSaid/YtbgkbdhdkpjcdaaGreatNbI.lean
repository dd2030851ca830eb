/- Contracts: Havens of package route; sameHavens and Long of the laws. -/
import Derived.Test.YtbgkbdhdkpjcdaaGreatNbH
set_option linter.all false
namespace Go.Proofs.YtbgkbdhdkpjcdaaGreat
open Go Go.RowKit Go.Proofs
set_option maxRecDepth 100000
set_option maxHeartbeats 8000000
theorem tkE_ok {NE : Int} {F : FliD} {lt : Tab} {t : Int} (h : tkE NE F lt t = 0) : NE = 0 ∧ inB t F.dep (F.arr lt) = true := by
  unfold tkE at h
  by_cases h1 : NE = 0
  · rw [if_pos h1] at h
    cases e : inB t F.dep (F.arr lt)
    · rw [e] at h; cases h
    · exact ⟨h1, rfl⟩
  · rw [if_neg h1] at h; exact absurd h h1
/-- What Havens returns. -/
def hvT (TE : Int) (M : MetD) (lw ls lc : Int) (li lb : Bool) (S : Tab) (n : Nat) (F : FliD) (t : Int) : List HavD :=
  if TE = 0 then F.havK (lgT S n) (timT S n M.places.toNat) (opM M lw ls lc li lb) t false M.places.toNat else []
theorem SlH.nil (w : World) : SlH w (.slice none 0 0) [] := ⟨none, 0, rfl, Nat.le_refl _, by decide, fun h => absurd h (Nat.lt_irrefl _)⟩
theorem rHavens_c (M : MetD) (vF vS : Value) (lw ls lc : Int) (li lb : Bool) (A : Option Addr) (n c : Nat) (S : Tab) (F : FliD) (vR : Value) (t : Int) (w : World) (hM : MetAt w vF vS M) (hc1 : n ≤ c) (hc2 : c ≤ 9223372036854775807) (hL : RecsAt w A n 3 (nV S)) (hR : SlI w vR F.m F.R) :
   Calls Tryz.prog 27 #[.agg #[.int .i64 M.places, .int .i64 M.any.a0, .int .i64 M.any.a1, .int .i64 M.any.a2, .int .i64 M.any.a3, .int .i64 M.any.a4, .int .i64 M.any.a5, .bool M.any.i, .bool M.any.s, .int .i64 M.mw, .int .i64 M.ms, .int .i64 M.mc, vF, vS], .agg #[.int .i64 lw, .int .i64 ls, .int .i64 lc, .bool li, .bool lb], .slice A n c, .agg #[vR, .int .i64 F.dep, .int .i64 F.fuel, .int .i64 F.burn, .int .i64 F.res], .int .i64 t] w fun e w' => ∃ vO, e = .returned (.tuple #[vO, .int .i64 (tkE (nfE (netME M lw ls lc S n) M S n F) F (lgT S n) t)]) ∧ RowKit.Below w.heap.size w w' ∧ SlH w' vO (hvT (tkE (nfE (netME M lw ls lc S n) M S n F) F (lgT S n) t) M lw ls lc li lb S n F t) := by
  have HM := Lib.hid hM
  have HL := Lib.hid hL
  have HR := Lib.hid hR
  clear hM hL hR
  have HNT := Lib.hid (fun w1 h1 h2 h3 => newTick_c M vF vS lw ls lc li lb A n c S F vR t w1 h1 hc1 hc2 h2 h3)
  have tok : True := trivial
  have tok2 : True := trivial
  have tok3 : True := trivial
  have hto := fun h => tkE_ok (NE := nfE (netME M lw ls lc S n) M S n F) (F := F) (lt := lgT S n) (t := t) h
  have hok := fun h => nfM_ok (M := M) (lw := lw) (ls := ls) (lc := lc) (S := S) (n := n) (F := F) (hto h).1
  have hir := fun h => inB_iff.1 (hto h).2
  clear hto
  generalize tkE (nfE (netME M lw ls lc S n) M S n F) F (lgT S n) t = TE at *
  unfold hvT
  by_cases h0 : TE = 0
  case neg =>
    rw [if_neg h0]
    have hz : (TE != 0) = true := by simpa using h0
    clear h0 hok hir
    go_enter Tryz.func27, Tryz.ntmps27
    go_wp2_with (fail)
    have bHX : Blk (((w.alloc (.cells #[.int .i64 M.places, .int .i64 M.any.a0, .int .i64 M.any.a1, .int .i64 M.any.a2, .int .i64 M.any.a3, .int .i64 M.any.a4, .int .i64 M.any.a5, .bool M.any.i, .bool M.any.s, .int .i64 M.mw, .int .i64 M.ms, .int .i64 M.mc, vF, vS] 29)).alloc (.cells #[.int .i64 lw, .int .i64 ls, .int .i64 lc, .bool li, .bool lb] 31)).alloc (.cells #[vR, .int .i64 F.dep, .int .i64 F.fuel, .int .i64 F.burn, .int .i64 F.res] 37)) (w.heap.size) 29 #[.int .i64 M.places, .int .i64 M.any.a0, .int .i64 M.any.a1, .int .i64 M.any.a2, .int .i64 M.any.a3, .int .i64 M.any.a4, .int .i64 M.any.a5, .bool M.any.i, .bool M.any.s, .int .i64 M.mw, .int .i64 M.ms, .int .i64 M.mc, vF, vS] := (by repeat (first | (refine Blk.newAt _ _ _ ?_; first | rfl | (simp; done)) | refine Blk.alloc ?_ _))
    have bHI : Blk (((w.alloc (.cells #[.int .i64 M.places, .int .i64 M.any.a0, .int .i64 M.any.a1, .int .i64 M.any.a2, .int .i64 M.any.a3, .int .i64 M.any.a4, .int .i64 M.any.a5, .bool M.any.i, .bool M.any.s, .int .i64 M.mw, .int .i64 M.ms, .int .i64 M.mc, vF, vS] 29)).alloc (.cells #[.int .i64 lw, .int .i64 ls, .int .i64 lc, .bool li, .bool lb] 31)).alloc (.cells #[vR, .int .i64 F.dep, .int .i64 F.fuel, .int .i64 F.burn, .int .i64 F.res] 37)) (w.heap.size + 1) 31 #[.int .i64 lw, .int .i64 ls, .int .i64 lc, .bool li, .bool lb] := (by repeat (first | (refine Blk.newAt _ _ _ ?_; first | rfl | (simp; done)) | refine Blk.alloc ?_ _))
    have bHF : Blk (((w.alloc (.cells #[.int .i64 M.places, .int .i64 M.any.a0, .int .i64 M.any.a1, .int .i64 M.any.a2, .int .i64 M.any.a3, .int .i64 M.any.a4, .int .i64 M.any.a5, .bool M.any.i, .bool M.any.s, .int .i64 M.mw, .int .i64 M.ms, .int .i64 M.mc, vF, vS] 29)).alloc (.cells #[.int .i64 lw, .int .i64 ls, .int .i64 lc, .bool li, .bool lb] 31)).alloc (.cells #[vR, .int .i64 F.dep, .int .i64 F.fuel, .int .i64 F.burn, .int .i64 F.res] 37)) (w.heap.size + 1 + 1) 37 #[vR, .int .i64 F.dep, .int .i64 F.fuel, .int .i64 F.burn, .int .i64 F.res] := (by repeat (first | (refine Blk.newAt _ _ _ ?_; first | rfl | (simp; done)) | refine Blk.alloc ?_ _))
    have bHB : Below w.heap.size w (((w.alloc (.cells #[.int .i64 M.places, .int .i64 M.any.a0, .int .i64 M.any.a1, .int .i64 M.any.a2, .int .i64 M.any.a3, .int .i64 M.any.a4, .int .i64 M.any.a5, .bool M.any.i, .bool M.any.s, .int .i64 M.mw, .int .i64 M.ms, .int .i64 M.mc, vF, vS] 29)).alloc (.cells #[.int .i64 lw, .int .i64 ls, .int .i64 lc, .bool li, .bool lb] 31)).alloc (.cells #[vR, .int .i64 F.dep, .int .i64 F.fuel, .int .i64 F.burn, .int .i64 F.res] 37)) := (by repeat' (first | exact Below.refl _ _ | assumption | refine Below.drew ?_ | refine bdn ?_ _ | refine bal ?_ _ | refine Below.setCell ?_ (by first | (simp; done) | omega | (simp; omega)) _))
    generalize (((w.alloc (.cells #[.int .i64 M.places, .int .i64 M.any.a0, .int .i64 M.any.a1, .int .i64 M.any.a2, .int .i64 M.any.a3, .int .i64 M.any.a4, .int .i64 M.any.a5, .bool M.any.i, .bool M.any.s, .int .i64 M.mw, .int .i64 M.ms, .int .i64 M.mc, vF, vS] 29)).alloc (.cells #[.int .i64 lw, .int .i64 ls, .int .i64 lc, .bool li, .bool lb] 31)).alloc (.cells #[vR, .int .i64 F.dep, .int .i64 F.fuel, .int .i64 F.burn, .int .i64 F.res] 37)) = W at *
    have zW := bHF.lt
    have HX := Lib.hid bHX
    have HI := Lib.hid bHI
    have HF := Lib.hid bHF
    have HB := Lib.hid bHB
    clear bHX bHI bHF bHB
    go_wp2_with (first | (have _t := tok; refine wpl_row rfl 29 (.tmp 5) rfl _ rfl #[.int .i64 M.places, .int .i64 M.any.a0, .int .i64 M.any.a1, .int .i64 M.any.a2, .int .i64 M.any.a3, .int .i64 M.any.a4, .int .i64 M.any.a5, .bool M.any.i, .bool M.any.s, .int .i64 M.mw, .int .i64 M.ms, .int .i64 M.mc, vF, vS] 14 HX.out Tryz.rowMet rfl ?_; simp only [Act.put]; clear tok) | (have _t := tok2; refine wpl_row rfl 31 (.tmp 6) rfl _ rfl #[.int .i64 lw, .int .i64 ls, .int .i64 lc, .bool li, .bool lb] 5 HI.out Tryz.rowMin rfl ?_; simp only [Act.put]; clear tok2) | (have _t := tok3; refine wpl_row rfl 37 (.tmp 8) rfl _ rfl #[vR, .int .i64 F.dep, .int .i64 F.fuel, .int .i64 F.burn, .int .i64 F.res] 5 HF.out Tryz.rowFli rfl ?_; simp only [Act.put]; clear tok3) | (go_at_call 67; (with_reducible refine (HNT.out _ (HM.out.below HB.out) (HL.out.below HB.out) (HR.out.below HB.out)).mono ?_); rintro e w1 ⟨v, rfl, hb1⟩; (obtain ⟨hb1, -⟩ := hb1); have nHX := Lib.hid (HX.out.below hb1); have nHI := Lib.hid (HI.out.below hb1); have nHF := Lib.hid (HF.out.below hb1); have nHB := Lib.hid (bthen HB.out hb1); have zz1 := hb1.size; clear HX HI HF HB hb1; have HX := nHX; have HI := nHI; have HF := nHF; have HB := nHB; clear nHX nHI nHF nHB))
    go_ret2
    exact ⟨_, rfl, HB.out, SlH.nil _⟩
  subst h0
  rw [if_pos rfl]
  obtain ⟨f3, f4, f5, f6, f7⟩ := hok rfl
  have hi := hir rfl
  have hti := timT_in f6 f4.2
  have HHV := Lib.hid (fun v vN w1 h hm => fhavens_c M vF vS v vN M.places.toNat (lgT S n) (timT S n M.places.toNat) F vR lw ls lc li lb t false w1 h hm f3 f4.2 f7 f5 hti hi.1 hi.2)
  clear f3 f4 f5 f6 f7 hti hi hok hir
  generalize F.havK (lgT S n) (timT S n M.places.toNat) (opM M lw ls lc li lb) t false M.places.toNat = l at *
  go_enter Tryz.func27, Tryz.ntmps27
  go_wp2_with (fail)
  have bHX : Blk (((w.alloc (.cells #[.int .i64 M.places, .int .i64 M.any.a0, .int .i64 M.any.a1, .int .i64 M.any.a2, .int .i64 M.any.a3, .int .i64 M.any.a4, .int .i64 M.any.a5, .bool M.any.i, .bool M.any.s, .int .i64 M.mw, .int .i64 M.ms, .int .i64 M.mc, vF, vS] 29)).alloc (.cells #[.int .i64 lw, .int .i64 ls, .int .i64 lc, .bool li, .bool lb] 31)).alloc (.cells #[vR, .int .i64 F.dep, .int .i64 F.fuel, .int .i64 F.burn, .int .i64 F.res] 37)) (w.heap.size) 29 #[.int .i64 M.places, .int .i64 M.any.a0, .int .i64 M.any.a1, .int .i64 M.any.a2, .int .i64 M.any.a3, .int .i64 M.any.a4, .int .i64 M.any.a5, .bool M.any.i, .bool M.any.s, .int .i64 M.mw, .int .i64 M.ms, .int .i64 M.mc, vF, vS] := (by repeat (first | (refine Blk.newAt _ _ _ ?_; first | rfl | (simp; done)) | refine Blk.alloc ?_ _))
  have bHI : Blk (((w.alloc (.cells #[.int .i64 M.places, .int .i64 M.any.a0, .int .i64 M.any.a1, .int .i64 M.any.a2, .int .i64 M.any.a3, .int .i64 M.any.a4, .int .i64 M.any.a5, .bool M.any.i, .bool M.any.s, .int .i64 M.mw, .int .i64 M.ms, .int .i64 M.mc, vF, vS] 29)).alloc (.cells #[.int .i64 lw, .int .i64 ls, .int .i64 lc, .bool li, .bool lb] 31)).alloc (.cells #[vR, .int .i64 F.dep, .int .i64 F.fuel, .int .i64 F.burn, .int .i64 F.res] 37)) (w.heap.size + 1) 31 #[.int .i64 lw, .int .i64 ls, .int .i64 lc, .bool li, .bool lb] := (by repeat (first | (refine Blk.newAt _ _ _ ?_; first | rfl | (simp; done)) | refine Blk.alloc ?_ _))
  have bHF : Blk (((w.alloc (.cells #[.int .i64 M.places, .int .i64 M.any.a0, .int .i64 M.any.a1, .int .i64 M.any.a2, .int .i64 M.any.a3, .int .i64 M.any.a4, .int .i64 M.any.a5, .bool M.any.i, .bool M.any.s, .int .i64 M.mw, .int .i64 M.ms, .int .i64 M.mc, vF, vS] 29)).alloc (.cells #[.int .i64 lw, .int .i64 ls, .int .i64 lc, .bool li, .bool lb] 31)).alloc (.cells #[vR, .int .i64 F.dep, .int .i64 F.fuel, .int .i64 F.burn, .int .i64 F.res] 37)) (w.heap.size + 1 + 1) 37 #[vR, .int .i64 F.dep, .int .i64 F.fuel, .int .i64 F.burn, .int .i64 F.res] := (by repeat (first | (refine Blk.newAt _ _ _ ?_; first | rfl | (simp; done)) | refine Blk.alloc ?_ _))
  have bHB : Below w.heap.size w (((w.alloc (.cells #[.int .i64 M.places, .int .i64 M.any.a0, .int .i64 M.any.a1, .int .i64 M.any.a2, .int .i64 M.any.a3, .int .i64 M.any.a4, .int .i64 M.any.a5, .bool M.any.i, .bool M.any.s, .int .i64 M.mw, .int .i64 M.ms, .int .i64 M.mc, vF, vS] 29)).alloc (.cells #[.int .i64 lw, .int .i64 ls, .int .i64 lc, .bool li, .bool lb] 31)).alloc (.cells #[vR, .int .i64 F.dep, .int .i64 F.fuel, .int .i64 F.burn, .int .i64 F.res] 37)) := (by repeat' (first | exact Below.refl _ _ | assumption | refine Below.drew ?_ | refine bdn ?_ _ | refine bal ?_ _ | refine Below.setCell ?_ (by first | (simp; done) | omega | (simp; omega)) _))
  generalize (((w.alloc (.cells #[.int .i64 M.places, .int .i64 M.any.a0, .int .i64 M.any.a1, .int .i64 M.any.a2, .int .i64 M.any.a3, .int .i64 M.any.a4, .int .i64 M.any.a5, .bool M.any.i, .bool M.any.s, .int .i64 M.mw, .int .i64 M.ms, .int .i64 M.mc, vF, vS] 29)).alloc (.cells #[.int .i64 lw, .int .i64 ls, .int .i64 lc, .bool li, .bool lb] 31)).alloc (.cells #[vR, .int .i64 F.dep, .int .i64 F.fuel, .int .i64 F.burn, .int .i64 F.res] 37)) = W at *
  have zW := bHF.lt
  have HX := Lib.hid bHX
  have HI := Lib.hid bHI
  have HF := Lib.hid bHF
  have HB := Lib.hid bHB
  clear bHX bHI bHF bHB
  go_wp2_with (first | (have _t := tok; refine wpl_row rfl 29 (.tmp 5) rfl _ rfl #[.int .i64 M.places, .int .i64 M.any.a0, .int .i64 M.any.a1, .int .i64 M.any.a2, .int .i64 M.any.a3, .int .i64 M.any.a4, .int .i64 M.any.a5, .bool M.any.i, .bool M.any.s, .int .i64 M.mw, .int .i64 M.ms, .int .i64 M.mc, vF, vS] 14 HX.out Tryz.rowMet rfl ?_; simp only [Act.put]; clear tok) | (have _t := tok2; refine wpl_row rfl 31 (.tmp 6) rfl _ rfl #[.int .i64 lw, .int .i64 ls, .int .i64 lc, .bool li, .bool lb] 5 HI.out Tryz.rowMin rfl ?_; simp only [Act.put]; clear tok2) | (have _t := tok3; refine wpl_row rfl 37 (.tmp 8) rfl _ rfl #[vR, .int .i64 F.dep, .int .i64 F.fuel, .int .i64 F.burn, .int .i64 F.res] 5 HF.out Tryz.rowFli rfl ?_; simp only [Act.put]; clear tok3))
  refine (HNT.out _ (HM.out.below HB.out) (HL.out.below HB.out) (HR.out.below HB.out)).mono ?_
  rintro e w2 ⟨v, rfl, hb2, hv⟩
  obtain ⟨vN, hfa⟩ := hv rfl
  have HFA := Lib.hid hfa
  obtain ⟨gx, vA, rfl, -⟩ := hfa
  have HB2 := Lib.hid (bthen HB.out hb2)
  clear hv HX HI HF hb2 HB
  go_wp2_with (fail)
  refine (HHV.out _ _ _ HFA.out (HM.out.below HB2.out)).mono ?_
  rintro e w3 ⟨vO, rfl, hb3, hO⟩
  have HO := Lib.hid hO
  have HB3 := Lib.hid (bthen HB2.out hb3)
  clear hO hb3 HB2 HFA
  go_wp2_with (fail)
  go_ret2
  exact ⟨_, rfl, HB3.out, HO.out⟩
/-- sameHavens of two lists that read alike. -/
theorem l5sameH_c (v1 v2 : Value) (l : List HavD) (w : World) (hn : l.length ≤ 3000) (h1 : SlH w v1 l) (h2 : SlH w v2 l) :
   Calls Tryz.prog 29 #[v1, v2] w fun e w' => e = .returned (.bool true) ∧ RowKit.Below w.heap.size w w' := by
  obtain ⟨A1, c1, rfl, -, -, hr1⟩ := h1
  obtain ⟨A2, c2, rfl, -, -, hr2⟩ := h2
  have H1 := Lib.hid hr1
  have H2 := Lib.hid hr2
  clear hr1 hr2
  obtain ⟨n, hnn⟩ : ∃ n, n = l.length := ⟨_, rfl⟩
  rw [← hnn] at hn H1 H2 ⊢
  clear hnn
  have hne : ((n : Int) != (n : Int)) = false := by simp
  go_enter Tryz.func29, Tryz.ntmps29
  go_wp2_with (fail)
  go_loopg [5] n (fun gx v wr => ∃ k : Nat, v = .int .i64 k ∧ k ≤ n ∧ n - k ≤ gx ∧ Hid (RowKit.Below w.heap.size w wr))
  case atStart => exact ⟨0, rfl, Nat.zero_le _, Nat.le_refl _, Lib.hid (RowKit.Below.refl _ _)⟩
  case round =>
    obtain ⟨k, rfl, hk, hgx, HB⟩ := hrel
    by_cases hlt : k < n
    · have hltz : (k : Int) < (n : Int) := by omega
      obtain ⟨b1, o1, rfl, hb1, hc1⟩ := H1.out (by omega)
      obtain ⟨b2, o2, rfl, hb2, hc2⟩ := H2.out (by omega)
      have p0 : wr.cell? ⟨b1, o1 + k * 3, none⟩ = some (.int .i64 (hvx l k).p) := (HB.out.cell (p := ⟨b1, o1 + k * 3, none⟩) hb1).trans (by have := hc1 k hlt 0 (by omega); rw [Nat.add_zero] at this; exact this)
      have p1 : wr.cell? ⟨b1, o1 + k * 3 + 1, none⟩ = some (.int .i64 (hvx l k).t) := (HB.out.cell (p := ⟨b1, o1 + k * 3 + 1, none⟩) hb1).trans (hc1 k hlt 1 (by omega))
      have p2 : wr.cell? ⟨b1, o1 + k * 3 + 2, none⟩ = some (.bool (hvx l k).b) := (HB.out.cell (p := ⟨b1, o1 + k * 3 + 2, none⟩) hb1).trans (hc1 k hlt 2 (by omega))
      have q0 : wr.cell? ⟨b2, o2 + k * 3, none⟩ = some (.int .i64 (hvx l k).p) := (HB.out.cell (p := ⟨b2, o2 + k * 3, none⟩) hb2).trans (by have := hc2 k hlt 0 (by omega); rw [Nat.add_zero] at this; exact this)
      have q1 : wr.cell? ⟨b2, o2 + k * 3 + 1, none⟩ = some (.int .i64 (hvx l k).t) := (HB.out.cell (p := ⟨b2, o2 + k * 3 + 1, none⟩) hb2).trans (hc2 k hlt 1 (by omega))
      have q2 : wr.cell? ⟨b2, o2 + k * 3 + 2, none⟩ = some (.bool (hvx l k).b) := (HB.out.cell (p := ⟨b2, o2 + k * 3 + 2, none⟩) hb2).trans (hc2 k hlt 2 (by omega))
      generalize hvx l k = x at *
      obtain ⟨xp, xt, xb⟩ := x
      dsimp only at p0 p1 p2 q0 q1 q2
      clear hc1 hc2
      go_wp2
      go_quiet (fail)
      have HB2 := Lib.hid (bdn HB.out nq)
      clear HB p0 p1 p2 q0 q1 q2
      generalize wr.drewN nq = wq at *
      go_wp2
      go_roundg (n - (k + 1))
      case measure => omega
      case rel => exact ⟨k + 1, by first | rfl | go_num | (congr 1; omega), by omega, Nat.le_refl _, HB2⟩
    · obtain rfl : n = k := by omega
      go_wp2
      go_ret
      exact ⟨rfl, HB.out⟩
end Go.Proofs.YtbgkbdhdkpjcdaaGreat
