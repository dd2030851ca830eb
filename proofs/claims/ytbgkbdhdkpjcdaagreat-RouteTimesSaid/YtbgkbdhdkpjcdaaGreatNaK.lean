/- Contracts: Check, Arrive, Times of package route; Arrive of the reference. -/
import Derived.Test.YtbgkbdhdkpjcdaaGreatNaJ
set_option linter.all false
namespace Go.Proofs.YtbgkbdhdkpjcdaaGreat
open Go Go.RowKit Go.Proofs
set_option maxRecDepth 100000
set_option maxHeartbeats 8000000
theorem rCheck_c (M : MetD) (vF vS : Value) (A : Option Addr) (n c : Nat) (S : Tab) (F : FliD) (vR : Value) (w : World) (hM : MetAt w vF vS M) (hc1 : n ≤ c) (hc2 : c ≤ 9223372036854775807) (hL : RecsAt w A n 3 (nV S)) (hR : SlI w vR F.m F.R) :
   Calls Tryz.prog 34 #[.agg #[.int .i64 M.places, .int .i64 M.any.a0, .int .i64 M.any.a1, .int .i64 M.any.a2, .int .i64 M.any.a3, .int .i64 M.any.a4, .int .i64 M.any.a5, .bool M.any.i, .bool M.any.s, .int .i64 M.mw, .int .i64 M.ms, .int .i64 M.mc, vF, vS], .slice A n c, .agg #[vR, .int .i64 F.dep, .int .i64 F.fuel, .int .i64 F.burn, .int .i64 F.res]] w fun e w' => e = .returned (.int .i64 (nfE (netE M S n) M S n F)) ∧ RowKit.Below w.heap.size w w' := by
  have HM := Lib.hid hM
  have HL := Lib.hid hL
  have HR := Lib.hid hR
  clear hM hL hR
  have HNN := Lib.hid (fun w1 h1 h2 h3 => newFlightN_c M vF vS A n c S F vR w1 h1 hc1 hc2 h2 h3)
  generalize nfE (netE M S n) M S n F = NE at *
  have tok : True := trivial
  have tok2 : True := trivial
  go_enter Tryz.func34, Tryz.ntmps34
  go_wp2_with (fail)
  have bHX : Blk ((w.alloc (.cells #[.int .i64 M.places, .int .i64 M.any.a0, .int .i64 M.any.a1, .int .i64 M.any.a2, .int .i64 M.any.a3, .int .i64 M.any.a4, .int .i64 M.any.a5, .bool M.any.i, .bool M.any.s, .int .i64 M.mw, .int .i64 M.ms, .int .i64 M.mc, vF, vS] 29)).alloc (.cells #[vR, .int .i64 F.dep, .int .i64 F.fuel, .int .i64 F.burn, .int .i64 F.res] 37)) (w.heap.size) 29 #[.int .i64 M.places, .int .i64 M.any.a0, .int .i64 M.any.a1, .int .i64 M.any.a2, .int .i64 M.any.a3, .int .i64 M.any.a4, .int .i64 M.any.a5, .bool M.any.i, .bool M.any.s, .int .i64 M.mw, .int .i64 M.ms, .int .i64 M.mc, vF, vS] := (by repeat (first | (refine Blk.newAt _ _ _ ?_; first | rfl | (simp; done)) | refine Blk.alloc ?_ _))
  have bHF : Blk ((w.alloc (.cells #[.int .i64 M.places, .int .i64 M.any.a0, .int .i64 M.any.a1, .int .i64 M.any.a2, .int .i64 M.any.a3, .int .i64 M.any.a4, .int .i64 M.any.a5, .bool M.any.i, .bool M.any.s, .int .i64 M.mw, .int .i64 M.ms, .int .i64 M.mc, vF, vS] 29)).alloc (.cells #[vR, .int .i64 F.dep, .int .i64 F.fuel, .int .i64 F.burn, .int .i64 F.res] 37)) (w.heap.size + 1) 37 #[vR, .int .i64 F.dep, .int .i64 F.fuel, .int .i64 F.burn, .int .i64 F.res] := (by repeat (first | (refine Blk.newAt _ _ _ ?_; first | rfl | (simp; done)) | refine Blk.alloc ?_ _))
  have bHB : Below w.heap.size w ((w.alloc (.cells #[.int .i64 M.places, .int .i64 M.any.a0, .int .i64 M.any.a1, .int .i64 M.any.a2, .int .i64 M.any.a3, .int .i64 M.any.a4, .int .i64 M.any.a5, .bool M.any.i, .bool M.any.s, .int .i64 M.mw, .int .i64 M.ms, .int .i64 M.mc, vF, vS] 29)).alloc (.cells #[vR, .int .i64 F.dep, .int .i64 F.fuel, .int .i64 F.burn, .int .i64 F.res] 37)) := (by repeat' (first | exact Below.refl _ _ | assumption | refine Below.drew ?_ | refine bdn ?_ _ | refine bal ?_ _ | refine Below.setCell ?_ (by first | (simp; done) | omega | (simp; omega)) _))
  generalize ((w.alloc (.cells #[.int .i64 M.places, .int .i64 M.any.a0, .int .i64 M.any.a1, .int .i64 M.any.a2, .int .i64 M.any.a3, .int .i64 M.any.a4, .int .i64 M.any.a5, .bool M.any.i, .bool M.any.s, .int .i64 M.mw, .int .i64 M.ms, .int .i64 M.mc, vF, vS] 29)).alloc (.cells #[vR, .int .i64 F.dep, .int .i64 F.fuel, .int .i64 F.burn, .int .i64 F.res] 37)) = W at *
  have zW := bHF.lt
  have HX := Lib.hid bHX
  have HF := Lib.hid bHF
  have HB := Lib.hid bHB
  clear bHX bHF bHB
  go_wp2_with (first | (have _t := tok; refine wpl_row rfl 29 (.tmp 3) rfl _ rfl #[.int .i64 M.places, .int .i64 M.any.a0, .int .i64 M.any.a1, .int .i64 M.any.a2, .int .i64 M.any.a3, .int .i64 M.any.a4, .int .i64 M.any.a5, .bool M.any.i, .bool M.any.s, .int .i64 M.mw, .int .i64 M.ms, .int .i64 M.mc, vF, vS] 14 HX.out Tryz.rowMet rfl ?_; simp only [Act.put]; clear tok) | (have _t := tok2; refine wpl_row rfl 37 (.tmp 5) rfl _ rfl #[vR, .int .i64 F.dep, .int .i64 F.fuel, .int .i64 F.burn, .int .i64 F.res] 5 HF.out Tryz.rowFli rfl ?_; simp only [Act.put]; clear tok2) | (go_at_call 86; (with_reducible refine (HNN.out _ (HM.out.below HB.out) (HL.out.below HB.out) (HR.out.below HB.out)).mono ?_); rintro e w1 ⟨v, rfl, hb1⟩; (obtain ⟨hb1, -⟩ := hb1); have nHX := Lib.hid (HX.out.below hb1); have nHF := Lib.hid (HF.out.below hb1); have nHB := Lib.hid (bthen HB.out hb1); have zz1 := hb1.size; clear HX HF HB hb1; have HX := nHX; have HF := nHF; have HB := nHB; clear nHX nHF nHB))
  go_ret
  exact ⟨rfl, HB.out⟩
def ArrRes (E : Int) (w : World) (v : Value) (F : FliD) (lt : Tab) : Prop := (E = 0 → SlI w v F.m (F.at_ lt)) ∧ (E ≠ 0 → v = .slice none 0 0)
theorem rArrive_c (M : MetD) (vF vS : Value) (A : Option Addr) (n c : Nat) (S : Tab) (F : FliD) (vR : Value) (w : World) (hM : MetAt w vF vS M) (hc1 : n ≤ c) (hc2 : c ≤ 9223372036854775807) (hL : RecsAt w A n 3 (nV S)) (hR : SlI w vR F.m F.R) :
   Calls Tryz.prog 33 #[.agg #[.int .i64 M.places, .int .i64 M.any.a0, .int .i64 M.any.a1, .int .i64 M.any.a2, .int .i64 M.any.a3, .int .i64 M.any.a4, .int .i64 M.any.a5, .bool M.any.i, .bool M.any.s, .int .i64 M.mw, .int .i64 M.ms, .int .i64 M.mc, vF, vS], .slice A n c, .agg #[vR, .int .i64 F.dep, .int .i64 F.fuel, .int .i64 F.burn, .int .i64 F.res]] w fun e w' => ∃ v, e = .returned (.tuple #[v, .int .i64 (nfE (netE M S n) M S n F)]) ∧ RowKit.Below w.heap.size w w' ∧ ArrRes (nfE (netE M S n) M S n F) w' v F (lgT S n) := by
  have HM := Lib.hid hM
  have HL := Lib.hid hL
  have HR := Lib.hid hR
  clear hM hL hR
  have HNN := Lib.hid (fun w1 h1 h2 h3 => newFlightN_c M vF vS A n c S F vR w1 h1 hc1 hc2 h2 h3)
  generalize nfE (netE M S n) M S n F = NE at *
  have tok : True := trivial
  have tok2 : True := trivial
  by_cases h0 : NE = 0
  case neg =>
    have hz : (NE != 0) = true := by simpa using h0
    have H0 := Lib.hid h0
    clear h0
    go_enter Tryz.func33, Tryz.ntmps33
    go_wp2_with (fail)
    have bHX : Blk ((w.alloc (.cells #[.int .i64 M.places, .int .i64 M.any.a0, .int .i64 M.any.a1, .int .i64 M.any.a2, .int .i64 M.any.a3, .int .i64 M.any.a4, .int .i64 M.any.a5, .bool M.any.i, .bool M.any.s, .int .i64 M.mw, .int .i64 M.ms, .int .i64 M.mc, vF, vS] 29)).alloc (.cells #[vR, .int .i64 F.dep, .int .i64 F.fuel, .int .i64 F.burn, .int .i64 F.res] 37)) (w.heap.size) 29 #[.int .i64 M.places, .int .i64 M.any.a0, .int .i64 M.any.a1, .int .i64 M.any.a2, .int .i64 M.any.a3, .int .i64 M.any.a4, .int .i64 M.any.a5, .bool M.any.i, .bool M.any.s, .int .i64 M.mw, .int .i64 M.ms, .int .i64 M.mc, vF, vS] := (by repeat (first | (refine Blk.newAt _ _ _ ?_; first | rfl | (simp; done)) | refine Blk.alloc ?_ _))
    have bHF : Blk ((w.alloc (.cells #[.int .i64 M.places, .int .i64 M.any.a0, .int .i64 M.any.a1, .int .i64 M.any.a2, .int .i64 M.any.a3, .int .i64 M.any.a4, .int .i64 M.any.a5, .bool M.any.i, .bool M.any.s, .int .i64 M.mw, .int .i64 M.ms, .int .i64 M.mc, vF, vS] 29)).alloc (.cells #[vR, .int .i64 F.dep, .int .i64 F.fuel, .int .i64 F.burn, .int .i64 F.res] 37)) (w.heap.size + 1) 37 #[vR, .int .i64 F.dep, .int .i64 F.fuel, .int .i64 F.burn, .int .i64 F.res] := (by repeat (first | (refine Blk.newAt _ _ _ ?_; first | rfl | (simp; done)) | refine Blk.alloc ?_ _))
    have bHB : Below w.heap.size w ((w.alloc (.cells #[.int .i64 M.places, .int .i64 M.any.a0, .int .i64 M.any.a1, .int .i64 M.any.a2, .int .i64 M.any.a3, .int .i64 M.any.a4, .int .i64 M.any.a5, .bool M.any.i, .bool M.any.s, .int .i64 M.mw, .int .i64 M.ms, .int .i64 M.mc, vF, vS] 29)).alloc (.cells #[vR, .int .i64 F.dep, .int .i64 F.fuel, .int .i64 F.burn, .int .i64 F.res] 37)) := (by repeat' (first | exact Below.refl _ _ | assumption | refine Below.drew ?_ | refine bdn ?_ _ | refine bal ?_ _ | refine Below.setCell ?_ (by first | (simp; done) | omega | (simp; omega)) _))
    generalize ((w.alloc (.cells #[.int .i64 M.places, .int .i64 M.any.a0, .int .i64 M.any.a1, .int .i64 M.any.a2, .int .i64 M.any.a3, .int .i64 M.any.a4, .int .i64 M.any.a5, .bool M.any.i, .bool M.any.s, .int .i64 M.mw, .int .i64 M.ms, .int .i64 M.mc, vF, vS] 29)).alloc (.cells #[vR, .int .i64 F.dep, .int .i64 F.fuel, .int .i64 F.burn, .int .i64 F.res] 37)) = W at *
    have zW := bHF.lt
    have HX := Lib.hid bHX
    have HF := Lib.hid bHF
    have HB := Lib.hid bHB
    clear bHX bHF bHB
    go_wp2_with (first | (have _t := tok; refine wpl_row rfl 29 (.tmp 3) rfl _ rfl #[.int .i64 M.places, .int .i64 M.any.a0, .int .i64 M.any.a1, .int .i64 M.any.a2, .int .i64 M.any.a3, .int .i64 M.any.a4, .int .i64 M.any.a5, .bool M.any.i, .bool M.any.s, .int .i64 M.mw, .int .i64 M.ms, .int .i64 M.mc, vF, vS] 14 HX.out Tryz.rowMet rfl ?_; simp only [Act.put]; clear tok) | (have _t := tok2; refine wpl_row rfl 37 (.tmp 5) rfl _ rfl #[vR, .int .i64 F.dep, .int .i64 F.fuel, .int .i64 F.burn, .int .i64 F.res] 5 HF.out Tryz.rowFli rfl ?_; simp only [Act.put]; clear tok2) | (go_at_call 86; (with_reducible refine (HNN.out _ (HM.out.below HB.out) (HL.out.below HB.out) (HR.out.below HB.out)).mono ?_); rintro e w1 ⟨v, rfl, hb1⟩; (obtain ⟨hb1, -⟩ := hb1); have nHX := Lib.hid (HX.out.below hb1); have nHF := Lib.hid (HF.out.below hb1); have nHB := Lib.hid (bthen HB.out hb1); have zz1 := hb1.size; clear HX HF HB hb1; have HX := nHX; have HF := nHF; have HB := nHB; clear nHX nHF nHB))
    go_ret2
    exact ⟨.slice none 0 0, rfl, HB.out, fun h => absurd h H0.out, fun _ => rfl⟩
  subst h0
  go_enter Tryz.func33, Tryz.ntmps33
  go_wp2_with (fail)
  have bHX : Blk ((w.alloc (.cells #[.int .i64 M.places, .int .i64 M.any.a0, .int .i64 M.any.a1, .int .i64 M.any.a2, .int .i64 M.any.a3, .int .i64 M.any.a4, .int .i64 M.any.a5, .bool M.any.i, .bool M.any.s, .int .i64 M.mw, .int .i64 M.ms, .int .i64 M.mc, vF, vS] 29)).alloc (.cells #[vR, .int .i64 F.dep, .int .i64 F.fuel, .int .i64 F.burn, .int .i64 F.res] 37)) (w.heap.size) 29 #[.int .i64 M.places, .int .i64 M.any.a0, .int .i64 M.any.a1, .int .i64 M.any.a2, .int .i64 M.any.a3, .int .i64 M.any.a4, .int .i64 M.any.a5, .bool M.any.i, .bool M.any.s, .int .i64 M.mw, .int .i64 M.ms, .int .i64 M.mc, vF, vS] := (by repeat (first | (refine Blk.newAt _ _ _ ?_; first | rfl | (simp; done)) | refine Blk.alloc ?_ _))
  have bHF : Blk ((w.alloc (.cells #[.int .i64 M.places, .int .i64 M.any.a0, .int .i64 M.any.a1, .int .i64 M.any.a2, .int .i64 M.any.a3, .int .i64 M.any.a4, .int .i64 M.any.a5, .bool M.any.i, .bool M.any.s, .int .i64 M.mw, .int .i64 M.ms, .int .i64 M.mc, vF, vS] 29)).alloc (.cells #[vR, .int .i64 F.dep, .int .i64 F.fuel, .int .i64 F.burn, .int .i64 F.res] 37)) (w.heap.size + 1) 37 #[vR, .int .i64 F.dep, .int .i64 F.fuel, .int .i64 F.burn, .int .i64 F.res] := (by repeat (first | (refine Blk.newAt _ _ _ ?_; first | rfl | (simp; done)) | refine Blk.alloc ?_ _))
  have bHB : Below w.heap.size w ((w.alloc (.cells #[.int .i64 M.places, .int .i64 M.any.a0, .int .i64 M.any.a1, .int .i64 M.any.a2, .int .i64 M.any.a3, .int .i64 M.any.a4, .int .i64 M.any.a5, .bool M.any.i, .bool M.any.s, .int .i64 M.mw, .int .i64 M.ms, .int .i64 M.mc, vF, vS] 29)).alloc (.cells #[vR, .int .i64 F.dep, .int .i64 F.fuel, .int .i64 F.burn, .int .i64 F.res] 37)) := (by repeat' (first | exact Below.refl _ _ | assumption | refine Below.drew ?_ | refine bdn ?_ _ | refine bal ?_ _ | refine Below.setCell ?_ (by first | (simp; done) | omega | (simp; omega)) _))
  generalize ((w.alloc (.cells #[.int .i64 M.places, .int .i64 M.any.a0, .int .i64 M.any.a1, .int .i64 M.any.a2, .int .i64 M.any.a3, .int .i64 M.any.a4, .int .i64 M.any.a5, .bool M.any.i, .bool M.any.s, .int .i64 M.mw, .int .i64 M.ms, .int .i64 M.mc, vF, vS] 29)).alloc (.cells #[vR, .int .i64 F.dep, .int .i64 F.fuel, .int .i64 F.burn, .int .i64 F.res] 37)) = W at *
  have zW := bHF.lt
  have HX := Lib.hid bHX
  have HF := Lib.hid bHF
  have HB := Lib.hid bHB
  clear bHX bHF bHB
  go_wp2_with (first | (have _t := tok; refine wpl_row rfl 29 (.tmp 3) rfl _ rfl #[.int .i64 M.places, .int .i64 M.any.a0, .int .i64 M.any.a1, .int .i64 M.any.a2, .int .i64 M.any.a3, .int .i64 M.any.a4, .int .i64 M.any.a5, .bool M.any.i, .bool M.any.s, .int .i64 M.mw, .int .i64 M.ms, .int .i64 M.mc, vF, vS] 14 HX.out Tryz.rowMet rfl ?_; simp only [Act.put]; clear tok) | (have _t := tok2; refine wpl_row rfl 37 (.tmp 5) rfl _ rfl #[vR, .int .i64 F.dep, .int .i64 F.fuel, .int .i64 F.burn, .int .i64 F.res] 5 HF.out Tryz.rowFli rfl ?_; simp only [Act.put]; clear tok2))
  refine (HNN.out _ (HM.out.below HB.out) (HL.out.below HB.out) (HR.out.below HB.out)).mono ?_
  rintro e w2 ⟨v, rfl, hb2, hv⟩
  obtain ⟨vN, gx, vA, rfl, h1, -, -, ⟨A2, c2, rfl, e2, e3, e4⟩, -⟩ := hv (by trivial)
  have HSA := Lib.hid (show SlI w2 (.slice A2 F.m c2) F.m (F.at_ (lgT S n)) from ⟨A2, c2, rfl, e2, e3, e4⟩)
  have x11 := h1.cell 11
  simp only [List.getElem?_toArray, List.getElem?_cons_succ, List.getElem?_cons_zero] at x11
  have HB2 := Lib.hid (bthen HB.out hb2)
  clear HB HX HF hb2 h1 e4 hv
  go_wp2_with (fail)
  go_ret2
  exact ⟨.slice A2 F.m c2, rfl, HB2.out, fun _ => HSA.out, fun h => absurd rfl h⟩
def TabV (w : World) (v : Value) (P : Nat) (t : Tab) : Prop := ∃ g c lo hi r, v = .slice (some ⟨g, 0, none⟩) P c ∧ Sq w 3 lo hi g r P t
theorem TabV.below {w w' : World} {v : Value} {P : Nat} {t : Tab} (h : TabV w v P t) (hb : RowKit.Below w.heap.size w w') : TabV w' v P t := by
  obtain ⟨g, c, lo, hi, r, e, h⟩ := h
  exact ⟨g, c, lo, hi, r, e, h.below hb⟩
def TimRes (E : Int) (w : World) (v : Value) (P : Nat) (t : Tab) : Prop := (E = 0 → TabV w v P t) ∧ (E ≠ 0 → v = .slice none 0 0)
theorem rTimes_c (M : MetD) (vF vS : Value) (A : Option Addr) (n c : Nat) (S : Tab) (w : World) (hM : MetAt w vF vS M) (hc1 : n ≤ c) (hc2 : c ≤ 9223372036854775807) (hL : RecsAt w A n 3 (nV S)) :
   Calls Tryz.prog 32 #[.agg #[.int .i64 M.places, .int .i64 M.any.a0, .int .i64 M.any.a1, .int .i64 M.any.a2, .int .i64 M.any.a3, .int .i64 M.any.a4, .int .i64 M.any.a5, .bool M.any.i, .bool M.any.s, .int .i64 M.mw, .int .i64 M.ms, .int .i64 M.mc, vF, vS], .slice A n c] w fun e w' => ∃ v, e = .returned (.tuple #[v, .int .i64 (netE M S n)]) ∧ RowKit.Below w.heap.size w w' ∧ TimRes (netE M S n) w' v M.places.toNat (timT S n M.places.toNat) := by
  have HM := Lib.hid hM
  have HL := Lib.hid hL
  clear hM hL
  have HNN := Lib.hid (fun w1 h1 h2 => netN_c M vF vS A n c S w1 h1 hc1 hc2 h2)
  generalize netE M S n = NE at *
  have tok : True := trivial
  by_cases h0 : NE = 0
  case neg =>
    have hz : (NE != 0) = true := by simpa using h0
    have H0 := Lib.hid h0
    clear h0
    go_enter Tryz.func32, Tryz.ntmps32
    go_wp2_with (fail)
    have bHX : Blk (w.alloc (.cells #[.int .i64 M.places, .int .i64 M.any.a0, .int .i64 M.any.a1, .int .i64 M.any.a2, .int .i64 M.any.a3, .int .i64 M.any.a4, .int .i64 M.any.a5, .bool M.any.i, .bool M.any.s, .int .i64 M.mw, .int .i64 M.ms, .int .i64 M.mc, vF, vS] 29)) (w.heap.size) 29 #[.int .i64 M.places, .int .i64 M.any.a0, .int .i64 M.any.a1, .int .i64 M.any.a2, .int .i64 M.any.a3, .int .i64 M.any.a4, .int .i64 M.any.a5, .bool M.any.i, .bool M.any.s, .int .i64 M.mw, .int .i64 M.ms, .int .i64 M.mc, vF, vS] := (by repeat (first | (refine Blk.newAt _ _ _ ?_; first | rfl | (simp; done)) | refine Blk.alloc ?_ _))
    have bHB : Below w.heap.size w (w.alloc (.cells #[.int .i64 M.places, .int .i64 M.any.a0, .int .i64 M.any.a1, .int .i64 M.any.a2, .int .i64 M.any.a3, .int .i64 M.any.a4, .int .i64 M.any.a5, .bool M.any.i, .bool M.any.s, .int .i64 M.mw, .int .i64 M.ms, .int .i64 M.mc, vF, vS] 29)) := (by repeat' (first | exact Below.refl _ _ | assumption | refine Below.drew ?_ | refine bdn ?_ _ | refine bal ?_ _ | refine Below.setCell ?_ (by first | (simp; done) | omega | (simp; omega)) _))
    generalize (w.alloc (.cells #[.int .i64 M.places, .int .i64 M.any.a0, .int .i64 M.any.a1, .int .i64 M.any.a2, .int .i64 M.any.a3, .int .i64 M.any.a4, .int .i64 M.any.a5, .bool M.any.i, .bool M.any.s, .int .i64 M.mw, .int .i64 M.ms, .int .i64 M.mc, vF, vS] 29)) = W at *
    have zW := bHX.lt
    have HX := Lib.hid bHX
    have HB := Lib.hid bHB
    clear bHX bHB
    go_wp2_with (first | (have _t := tok; refine wpl_row rfl 29 (.tmp 2) rfl _ rfl #[.int .i64 M.places, .int .i64 M.any.a0, .int .i64 M.any.a1, .int .i64 M.any.a2, .int .i64 M.any.a3, .int .i64 M.any.a4, .int .i64 M.any.a5, .bool M.any.i, .bool M.any.s, .int .i64 M.mw, .int .i64 M.ms, .int .i64 M.mc, vF, vS] 14 HX.out Tryz.rowMet rfl ?_; simp only [Act.put]; clear tok) | (go_at_call 85; (with_reducible refine (HNN.out _ (HM.out.below HB.out) (HL.out.below HB.out)).mono ?_); rintro e w1 ⟨v, rfl, hb1⟩; (obtain ⟨hb1, -⟩ := hb1); have nHX := Lib.hid (HX.out.below hb1); have nHB := Lib.hid (bthen HB.out hb1); have zz1 := hb1.size; clear HX HB hb1; have HX := nHX; have HB := nHB; clear nHX nHB))
    go_ret2
    exact ⟨.slice none 0 0, rfl, HB.out, fun h => absurd h H0.out, fun _ => rfl⟩
  subst h0
  go_enter Tryz.func32, Tryz.ntmps32
  go_wp2_with (fail)
  have bHX : Blk (w.alloc (.cells #[.int .i64 M.places, .int .i64 M.any.a0, .int .i64 M.any.a1, .int .i64 M.any.a2, .int .i64 M.any.a3, .int .i64 M.any.a4, .int .i64 M.any.a5, .bool M.any.i, .bool M.any.s, .int .i64 M.mw, .int .i64 M.ms, .int .i64 M.mc, vF, vS] 29)) (w.heap.size) 29 #[.int .i64 M.places, .int .i64 M.any.a0, .int .i64 M.any.a1, .int .i64 M.any.a2, .int .i64 M.any.a3, .int .i64 M.any.a4, .int .i64 M.any.a5, .bool M.any.i, .bool M.any.s, .int .i64 M.mw, .int .i64 M.ms, .int .i64 M.mc, vF, vS] := (by repeat (first | (refine Blk.newAt _ _ _ ?_; first | rfl | (simp; done)) | refine Blk.alloc ?_ _))
  have bHB : Below w.heap.size w (w.alloc (.cells #[.int .i64 M.places, .int .i64 M.any.a0, .int .i64 M.any.a1, .int .i64 M.any.a2, .int .i64 M.any.a3, .int .i64 M.any.a4, .int .i64 M.any.a5, .bool M.any.i, .bool M.any.s, .int .i64 M.mw, .int .i64 M.ms, .int .i64 M.mc, vF, vS] 29)) := (by repeat' (first | exact Below.refl _ _ | assumption | refine Below.drew ?_ | refine bdn ?_ _ | refine bal ?_ _ | refine Below.setCell ?_ (by first | (simp; done) | omega | (simp; omega)) _))
  generalize (w.alloc (.cells #[.int .i64 M.places, .int .i64 M.any.a0, .int .i64 M.any.a1, .int .i64 M.any.a2, .int .i64 M.any.a3, .int .i64 M.any.a4, .int .i64 M.any.a5, .bool M.any.i, .bool M.any.s, .int .i64 M.mw, .int .i64 M.ms, .int .i64 M.mc, vF, vS] 29)) = W at *
  have zW := bHX.lt
  have HX := Lib.hid bHX
  have HB := Lib.hid bHB
  clear bHX bHB
  go_wp2_with (first | (have _t := tok; refine wpl_row rfl 29 (.tmp 2) rfl _ rfl #[.int .i64 M.places, .int .i64 M.any.a0, .int .i64 M.any.a1, .int .i64 M.any.a2, .int .i64 M.any.a3, .int .i64 M.any.a4, .int .i64 M.any.a5, .bool M.any.i, .bool M.any.s, .int .i64 M.mw, .int .i64 M.ms, .int .i64 M.mc, vF, vS] 14 HX.out Tryz.rowMet rfl ?_; simp only [Act.put]; clear tok))
  refine (HNN.out _ (HM.out.below HB.out) (HL.out.below HB.out)).mono ?_
  rintro e w2 ⟨v, rfl, hb2, hv⟩
  obtain ⟨gN, gL, gT, cL, cT, rL, rT, loL, hiL, loT, hiT, rfl, n1, -, n3⟩ := hv (by trivial)
  have HS := Lib.hid n3
  have n15 := n1.cell 15
  simp only [List.getElem?_toArray, List.getElem?_cons_succ, List.getElem?_cons_zero] at n15
  have HB2 := Lib.hid (bthen HB.out hb2)
  clear HB HX hb2 n1 n3 hv
  go_wp2_with (fail)
  go_ret2
  exact ⟨.slice (some ⟨gT, 0, none⟩) M.places.toNat cT, rfl, HB2.out, fun _ => ⟨gT, cT, loT, hiT, rT, rfl, HS.out⟩, fun h => absurd rfl h⟩
theorem r5Arrive_c (M : MetD) (vF vS : Value) (A : Option Addr) (n c : Nat) (S : Tab) (F : FliD) (vR : Value) (w : World) (hM : MetAt w vF vS M) (hc1 : n ≤ c) (hc2 : c ≤ 9223372036854775807) (hL : RecsAt w A n 3 (nV S)) (hR : SlI w vR F.m F.R) :
   Calls Tryz.prog 37 #[.agg #[.int .i64 M.places, .int .i64 M.any.a0, .int .i64 M.any.a1, .int .i64 M.any.a2, .int .i64 M.any.a3, .int .i64 M.any.a4, .int .i64 M.any.a5, .bool M.any.i, .bool M.any.s, .int .i64 M.mw, .int .i64 M.ms, .int .i64 M.mc, vF, vS], .slice A n c, .agg #[vR, .int .i64 F.dep, .int .i64 F.fuel, .int .i64 F.burn, .int .i64 F.res]] w fun e w' => ∃ v, e = .returned (.tuple #[v, .int .i64 (nfE (netE M S n) M S n F)]) ∧ RowKit.Below w.heap.size w w' ∧ ArrRes (nfE (netE M S n) M S n F) w' v F (lgT S n) := by
  have HM := Lib.hid hM
  have HL := Lib.hid hL
  have HR := Lib.hid hR
  clear hM hL hR
  have HNN := Lib.hid (fun w1 h1 h2 h3 => r5Check_c M vF vS A n c S F vR w1 h1 hc1 hc2 h2 h3)
  obtain ⟨NE, hNE⟩ : ∃ q, q = nfE (netE M S n) M S n F := ⟨_, rfl⟩
  rw [← hNE] at HNN ⊢
  have tok : True := trivial
  have tok2 : True := trivial
  by_cases h0 : NE = 0
  case neg =>
    have hz : (NE != 0) = true := by simpa using h0
    have H0 := Lib.hid h0
    clear h0 hNE
    go_enter Tryz.func37, Tryz.ntmps37
    go_wp2_with (fail)
    have bHX : Blk ((w.alloc (.cells #[.int .i64 M.places, .int .i64 M.any.a0, .int .i64 M.any.a1, .int .i64 M.any.a2, .int .i64 M.any.a3, .int .i64 M.any.a4, .int .i64 M.any.a5, .bool M.any.i, .bool M.any.s, .int .i64 M.mw, .int .i64 M.ms, .int .i64 M.mc, vF, vS] 29)).alloc (.cells #[vR, .int .i64 F.dep, .int .i64 F.fuel, .int .i64 F.burn, .int .i64 F.res] 37)) (w.heap.size) 29 #[.int .i64 M.places, .int .i64 M.any.a0, .int .i64 M.any.a1, .int .i64 M.any.a2, .int .i64 M.any.a3, .int .i64 M.any.a4, .int .i64 M.any.a5, .bool M.any.i, .bool M.any.s, .int .i64 M.mw, .int .i64 M.ms, .int .i64 M.mc, vF, vS] := (by repeat (first | (refine Blk.newAt _ _ _ ?_; first | rfl | (simp; done)) | refine Blk.alloc ?_ _))
    have bHF : Blk ((w.alloc (.cells #[.int .i64 M.places, .int .i64 M.any.a0, .int .i64 M.any.a1, .int .i64 M.any.a2, .int .i64 M.any.a3, .int .i64 M.any.a4, .int .i64 M.any.a5, .bool M.any.i, .bool M.any.s, .int .i64 M.mw, .int .i64 M.ms, .int .i64 M.mc, vF, vS] 29)).alloc (.cells #[vR, .int .i64 F.dep, .int .i64 F.fuel, .int .i64 F.burn, .int .i64 F.res] 37)) (w.heap.size + 1) 37 #[vR, .int .i64 F.dep, .int .i64 F.fuel, .int .i64 F.burn, .int .i64 F.res] := (by repeat (first | (refine Blk.newAt _ _ _ ?_; first | rfl | (simp; done)) | refine Blk.alloc ?_ _))
    have bHB : Below w.heap.size w ((w.alloc (.cells #[.int .i64 M.places, .int .i64 M.any.a0, .int .i64 M.any.a1, .int .i64 M.any.a2, .int .i64 M.any.a3, .int .i64 M.any.a4, .int .i64 M.any.a5, .bool M.any.i, .bool M.any.s, .int .i64 M.mw, .int .i64 M.ms, .int .i64 M.mc, vF, vS] 29)).alloc (.cells #[vR, .int .i64 F.dep, .int .i64 F.fuel, .int .i64 F.burn, .int .i64 F.res] 37)) := (by repeat' (first | exact Below.refl _ _ | assumption | refine Below.drew ?_ | refine bdn ?_ _ | refine bal ?_ _ | refine Below.setCell ?_ (by first | (simp; done) | omega | (simp; omega)) _))
    generalize ((w.alloc (.cells #[.int .i64 M.places, .int .i64 M.any.a0, .int .i64 M.any.a1, .int .i64 M.any.a2, .int .i64 M.any.a3, .int .i64 M.any.a4, .int .i64 M.any.a5, .bool M.any.i, .bool M.any.s, .int .i64 M.mw, .int .i64 M.ms, .int .i64 M.mc, vF, vS] 29)).alloc (.cells #[vR, .int .i64 F.dep, .int .i64 F.fuel, .int .i64 F.burn, .int .i64 F.res] 37)) = W at *
    have zW := bHF.lt
    have HX := Lib.hid bHX
    have HF := Lib.hid bHF
    have HB := Lib.hid bHB
    clear bHX bHF bHB
    go_wp2_with (first | (have _t := tok; refine wpl_row rfl 29 (.tmp 3) rfl _ rfl #[.int .i64 M.places, .int .i64 M.any.a0, .int .i64 M.any.a1, .int .i64 M.any.a2, .int .i64 M.any.a3, .int .i64 M.any.a4, .int .i64 M.any.a5, .bool M.any.i, .bool M.any.s, .int .i64 M.mw, .int .i64 M.ms, .int .i64 M.mc, vF, vS] 14 HX.out Tryz.rowMet rfl ?_; simp only [Act.put]; clear tok) | (have _t := tok2; refine wpl_row rfl 37 (.tmp 5) rfl _ rfl #[vR, .int .i64 F.dep, .int .i64 F.fuel, .int .i64 F.burn, .int .i64 F.res] 5 HF.out Tryz.rowFli rfl ?_; simp only [Act.put]; clear tok2) | (go_at_call 18; (with_reducible refine (HNN.out _ (HM.out.below HB.out) (HL.out.below HB.out) (HR.out.below HB.out)).mono ?_); rintro e w1 ⟨rfl, hb1⟩; have nHX := Lib.hid (HX.out.below hb1); have nHF := Lib.hid (HF.out.below hb1); have nHB := Lib.hid (bthen HB.out hb1); have zz1 := hb1.size; clear HX HF HB hb1; have HX := nHX; have HF := nHF; have HB := nHB; clear nHX nHF nHB))
    go_ret2
    exact ⟨.slice none 0 0, rfl, HB.out, fun h => absurd h H0.out, fun _ => rfl⟩
  subst h0
  have hE : netE M S n = 0 ∧ F.okB M.places.toNat (lgT S n) = true := by
    unfold nfE at hNE
    by_cases h : netE M S n = 0
    · rw [if_pos h] at hNE
      refine ⟨h, ?_⟩
      cases e : F.okB M.places.toNat (lgT S n)
      · rw [e] at hNE; cases hNE
      · rfl
    · rw [if_neg h] at hNE; exact absurd hNE.symm h
  obtain ⟨f1, f2⟩ := netE_ok hE.1
  obtain ⟨f3, f4, f5, f6⟩ := net_facts f1 f2
  have hok := FliD.okB_iff.1 hE.2
  have hnu := FliD.nums_iff.1 hok.1
  have hlb := FliD.legB_iff.2 hok.2.1.2
  have hfl := fun w1 h1 h2 => r5flown_c A n c S M.places.toNat F vR w1 hc1 hc2 h1 h2 f6 hnu.1 hnu.2.1 hok.2.1.1
  rw [hlb] at hfl
  have HFL := Lib.hid hfl
  clear hfl hlb hnu hok f1 f2 f3 f4 f5 f6 hE hNE
  have tok3 : True := trivial
  go_enter Tryz.func37, Tryz.ntmps37
  go_wp2_with (fail)
  have bHX : Blk ((w.alloc (.cells #[.int .i64 M.places, .int .i64 M.any.a0, .int .i64 M.any.a1, .int .i64 M.any.a2, .int .i64 M.any.a3, .int .i64 M.any.a4, .int .i64 M.any.a5, .bool M.any.i, .bool M.any.s, .int .i64 M.mw, .int .i64 M.ms, .int .i64 M.mc, vF, vS] 29)).alloc (.cells #[vR, .int .i64 F.dep, .int .i64 F.fuel, .int .i64 F.burn, .int .i64 F.res] 37)) (w.heap.size) 29 #[.int .i64 M.places, .int .i64 M.any.a0, .int .i64 M.any.a1, .int .i64 M.any.a2, .int .i64 M.any.a3, .int .i64 M.any.a4, .int .i64 M.any.a5, .bool M.any.i, .bool M.any.s, .int .i64 M.mw, .int .i64 M.ms, .int .i64 M.mc, vF, vS] := (by repeat (first | (refine Blk.newAt _ _ _ ?_; first | rfl | (simp; done)) | refine Blk.alloc ?_ _))
  have bHF : Blk ((w.alloc (.cells #[.int .i64 M.places, .int .i64 M.any.a0, .int .i64 M.any.a1, .int .i64 M.any.a2, .int .i64 M.any.a3, .int .i64 M.any.a4, .int .i64 M.any.a5, .bool M.any.i, .bool M.any.s, .int .i64 M.mw, .int .i64 M.ms, .int .i64 M.mc, vF, vS] 29)).alloc (.cells #[vR, .int .i64 F.dep, .int .i64 F.fuel, .int .i64 F.burn, .int .i64 F.res] 37)) (w.heap.size + 1) 37 #[vR, .int .i64 F.dep, .int .i64 F.fuel, .int .i64 F.burn, .int .i64 F.res] := (by repeat (first | (refine Blk.newAt _ _ _ ?_; first | rfl | (simp; done)) | refine Blk.alloc ?_ _))
  have bHB : Below w.heap.size w ((w.alloc (.cells #[.int .i64 M.places, .int .i64 M.any.a0, .int .i64 M.any.a1, .int .i64 M.any.a2, .int .i64 M.any.a3, .int .i64 M.any.a4, .int .i64 M.any.a5, .bool M.any.i, .bool M.any.s, .int .i64 M.mw, .int .i64 M.ms, .int .i64 M.mc, vF, vS] 29)).alloc (.cells #[vR, .int .i64 F.dep, .int .i64 F.fuel, .int .i64 F.burn, .int .i64 F.res] 37)) := (by repeat' (first | exact Below.refl _ _ | assumption | refine Below.drew ?_ | refine bdn ?_ _ | refine bal ?_ _ | refine Below.setCell ?_ (by first | (simp; done) | omega | (simp; omega)) _))
  generalize ((w.alloc (.cells #[.int .i64 M.places, .int .i64 M.any.a0, .int .i64 M.any.a1, .int .i64 M.any.a2, .int .i64 M.any.a3, .int .i64 M.any.a4, .int .i64 M.any.a5, .bool M.any.i, .bool M.any.s, .int .i64 M.mw, .int .i64 M.ms, .int .i64 M.mc, vF, vS] 29)).alloc (.cells #[vR, .int .i64 F.dep, .int .i64 F.fuel, .int .i64 F.burn, .int .i64 F.res] 37)) = W at *
  have zW := bHF.lt
  have HX := Lib.hid bHX
  have HF := Lib.hid bHF
  have HB := Lib.hid bHB
  clear bHX bHF bHB
  go_wp2_with (first | (have _t := tok; refine wpl_row rfl 29 (.tmp 3) rfl _ rfl #[.int .i64 M.places, .int .i64 M.any.a0, .int .i64 M.any.a1, .int .i64 M.any.a2, .int .i64 M.any.a3, .int .i64 M.any.a4, .int .i64 M.any.a5, .bool M.any.i, .bool M.any.s, .int .i64 M.mw, .int .i64 M.ms, .int .i64 M.mc, vF, vS] 14 HX.out Tryz.rowMet rfl ?_; simp only [Act.put]; clear tok) | (have _t := tok2; refine wpl_row rfl 37 (.tmp 5) rfl _ rfl #[vR, .int .i64 F.dep, .int .i64 F.fuel, .int .i64 F.burn, .int .i64 F.res] 5 HF.out Tryz.rowFli rfl ?_; simp only [Act.put]; clear tok2) | (have _t := tok3; refine wpl_row rfl 37 (.tmp 5) rfl _ rfl #[vR, .int .i64 F.dep, .int .i64 F.fuel, .int .i64 F.burn, .int .i64 F.res] 5 HF.out Tryz.rowFli rfl ?_; simp only [Act.put]; clear tok3) | (go_at_call 18; (with_reducible refine (HNN.out _ (HM.out.below HB.out) (HL.out.below HB.out) (HR.out.below HB.out)).mono ?_); rintro e w1 ⟨rfl, hb1⟩; have nHX := Lib.hid (HX.out.below hb1); have nHF := Lib.hid (HF.out.below hb1); have nHB := Lib.hid (bthen HB.out hb1); have zz1 := hb1.size; clear HX HF HB hb1; have HX := nHX; have HF := nHF; have HB := nHB; clear nHX nHF nHB))
  refine (HFL.out _ (HL.out.below HB.out) (HR.out.below HB.out)).mono ?_
  rintro e w2 ⟨v, rfl, hb2, hv⟩
  have hs := hv (by trivial)
  have HSA := Lib.hid hs
  obtain ⟨A2, c2, rfl, -⟩ := hs
  have HB2 := Lib.hid (bthen HB.out hb2)
  clear HB HX HF hb2 hv
  go_wp2_with (fail)
  go_ret2
  exact ⟨.slice A2 F.m c2, rfl, HB2.out, fun _ => HSA.out, fun h => absurd rfl h⟩
end Go.Proofs.YtbgkbdhdkpjcdaaGreat
