/- The law WeatherSeen: behind the last sight of a place what may be is near it. -/
import Derived.Test.YtfcjblnebaemgaaWfE
import Derived.Test.YtfcjblnebaemgaaWfD
import Derived.Test.YtfcjblnebaemgaaRwB
import Derived.Test.YtfcjblnebaemgaaRgM
set_option linter.all false
namespace Go.Proofs.Ytfcjblnebaemgaa
open Go Go.RowKit Go.Proofs
set_option maxRecDepth 100000
set_option maxHeartbeats 8000000
/-- What the loop keeps. -/
structure SnK (M : MetD) (vF vS : Value) (N g : Nat) (w wr : World) : Prop where
  b : Below w.heap.size w wr
  m : Blk wr w.heap.size 29 #[.int .i64 M.places, .int .i64 M.any.a0, .int .i64 M.any.a1, .int .i64 M.any.a2, .int .i64 M.any.a3, .int .i64 M.any.a4, .int .i64 M.any.a5, .bool M.any.i, .bool M.any.s, .int .i64 M.mw, .int .i64 M.ms, .int .i64 M.mc, vF, vS]
  s : Blk wr g 51 #[.int .i64 (M.E N 0), .int .i64 (M.E N 1), .int .i64 (M.E N 2), .int .i64 (M.E N 3), .int .i64 (M.E N 4), .bool (M.C N 5), .bool (M.C N 6)]
theorem SnK.grow {M : MetD} {vF vS : Value} {N g : Nat} {w wr w2 : World} (h : SnK M vF vS N g w wr) (hb : Below wr.heap.size wr w2) : SnK M vF vS N g w w2 := ⟨bthen h.b hb, h.m.below hb, h.s.below hb⟩
theorem prod_in {a b : Int} (h0 : 0 ≤ a) (h1 : a ≤ 2000) (h2 : 0 ≤ b) (h3 : b ≤ 20000) : 0 ≤ a * b ∧ a * b ≤ 40000000 := by
  refine ⟨Int.mul_nonneg h0 h2, ?_⟩
  have := Int.mul_le_mul h1 h3 h2 (show (0 : Int) ≤ 2000 by omega)
  omega
theorem near_t (a b n d : Int) (w : World) (h : nearB a b n d = true) (h0 : 0 ≤ n) (h1 : n ≤ 20000) (h2 : 0 ≤ d) (h3 : d ≤ 40000000) :
   Calls Try.prog 17 #[.agg #[.int .i64 a, .int .i64 b], .int .i64 n, .int .i64 d] w fun e w' => e = .returned (.bool true) ∧ Below w.heap.size w w' := by
  have := lnear_c a b n d w (by omega) (by omega) (by omega) (by omega)
  rwa [h] at this
-- done
theorem WeatherSeen_c (M : MetD) (vF vS : Value) (n ticks : Int) (w : World) (hA : MetAt w vF vS M) :
   Calls Try.prog 5 #[.agg #[.int .i64 M.places, .int .i64 M.any.a0, .int .i64 M.any.a1, .int .i64 M.any.a2, .int .i64 M.any.a3, .int .i64 M.any.a4, .int .i64 M.any.a5, .bool M.any.i, .bool M.any.s, .int .i64 M.mw, .int .i64 M.ms, .int .i64 M.mc, vF, vS], .int .i64 n, .int .i64 ticks] w fun e w' => e = .returned (.bool true) ∧ Below w.heap.size w w' := by
  have HA := Lib.hid hA
  obtain ⟨⟨A, cF, rfl, hF1, hF2, -⟩, ⟨A2, cS, rfl, hS1, hS2, hS3⟩⟩ := hA
  have HFR := Lib.hid (fun w1 h => wFar_c M (.slice A M.n cF) (.slice A2 M.m cS) w1 h)
  have HCK := Lib.hid (fun w1 h => rw_Check_c M (.slice A M.n cF) (.slice A2 M.m cS) w1 h)
  have HOW := Lib.hid (fun w1 h hn => wown2_c M (.slice A M.n cF) (.slice A2 M.m cS) w1 h hn)
  have HMY := Lib.hid (fun w1 vF vS p t h => wMay_c M vF vS p t w1 h)
  cases hf : M.far
  case true =>
    rw [hf] at HFR
    clear hf hS3
    go_enter Try.func5, Try.ntmps5
    go_wp2_with (fail)
    have bHX : Blk (w.alloc (.cells #[.int .i64 M.places, .int .i64 M.any.a0, .int .i64 M.any.a1, .int .i64 M.any.a2, .int .i64 M.any.a3, .int .i64 M.any.a4, .int .i64 M.any.a5, .bool M.any.i, .bool M.any.s, .int .i64 M.mw, .int .i64 M.ms, .int .i64 M.mc, .slice A M.n cF, .slice A2 M.m cS] 29)) (w.heap.size) 29 #[.int .i64 M.places, .int .i64 M.any.a0, .int .i64 M.any.a1, .int .i64 M.any.a2, .int .i64 M.any.a3, .int .i64 M.any.a4, .int .i64 M.any.a5, .bool M.any.i, .bool M.any.s, .int .i64 M.mw, .int .i64 M.ms, .int .i64 M.mc, .slice A M.n cF, .slice A2 M.m cS] := (by repeat (first | (refine Blk.newAt _ _ _ ?_; first | rfl | (simp; done)) | refine Blk.alloc ?_ _))
    have bHB : Below w.heap.size w (w.alloc (.cells #[.int .i64 M.places, .int .i64 M.any.a0, .int .i64 M.any.a1, .int .i64 M.any.a2, .int .i64 M.any.a3, .int .i64 M.any.a4, .int .i64 M.any.a5, .bool M.any.i, .bool M.any.s, .int .i64 M.mw, .int .i64 M.ms, .int .i64 M.mc, .slice A M.n cF, .slice A2 M.m cS] 29)) := (by repeat' (first | exact Below.refl _ _ | assumption | refine Below.drew ?_ | refine bdn ?_ _ | refine bal ?_ _ | refine Below.setCell ?_ (by first | (simp; done) | omega | (simp; omega)) _))
    generalize (w.alloc (.cells #[.int .i64 M.places, .int .i64 M.any.a0, .int .i64 M.any.a1, .int .i64 M.any.a2, .int .i64 M.any.a3, .int .i64 M.any.a4, .int .i64 M.any.a5, .bool M.any.i, .bool M.any.s, .int .i64 M.mw, .int .i64 M.ms, .int .i64 M.mc, .slice A M.n cF, .slice A2 M.m cS] 29)) = W at *
    have zW := bHX.lt
    have HX := Lib.hid bHX
    have HB := Lib.hid bHB
    clear bHX bHB
    go_wp2_with (first | (refine wpl_row rfl 29 _ rfl _ rfl #[.int .i64 M.places, .int .i64 M.any.a0, .int .i64 M.any.a1, .int .i64 M.any.a2, .int .i64 M.any.a3, .int .i64 M.any.a4, .int .i64 M.any.a5, .bool M.any.i, .bool M.any.s, .int .i64 M.mw, .int .i64 M.ms, .int .i64 M.mc, .slice A M.n cF, .slice A2 M.m cS] 14 HX.out Try.rowMet rfl ?_; simp only [Act.put]) | (refine wpl_row_g rfl 29 _ rfl _ rfl #[.int .i64 M.places, .int .i64 M.any.a0, .int .i64 M.any.a1, .int .i64 M.any.a2, .int .i64 M.any.a3, .int .i64 M.any.a4, .int .i64 M.any.a5, .bool M.any.i, .bool M.any.s, .int .i64 M.mw, .int .i64 M.ms, .int .i64 M.mc, .slice A M.n cF, .slice A2 M.m cS] 14 HX.out Try.rowMet rfl ?_; simp only [Act.put]) | (go_at_call 8; (with_reducible refine (HFR.out _ (HA.out.below HB.out)).mono ?_); rintro e w1 ⟨rfl, hb1⟩; have nHX := Lib.hid (HX.out.below hb1); have nHB := Lib.hid (bthen HB.out hb1); have zz1 := hb1.size; clear HX HB hb1; have HX := nHX; have HB := nHB; clear nHX nHB; (try clear zHX); have zHX := HX.out.lt; (try clear cHX13); have cHX13 := HX.out.cell 13) | (go_at_call 14; (with_reducible refine (HCK.out _ (HA.out.below HB.out)).mono ?_); rintro e w1 ⟨rfl, hb1⟩; have nHX := Lib.hid (HX.out.below hb1); have nHB := Lib.hid (bthen HB.out hb1); have zz1 := hb1.size; clear HX HB hb1; have HX := nHX; have HB := nHB; clear nHX nHB; (try clear zHX); have zHX := HX.out.lt; (try clear cHX13); have cHX13 := HX.out.cell 13) | (go_at_call 9; (with_reducible refine (wworks_c _).mono ?_); rintro e w1 ⟨rfl, hb1⟩; have nHX := Lib.hid (HX.out.below hb1); have nHB := Lib.hid (bthen HB.out hb1); have zz1 := hb1.size; clear HX HB hb1; have HX := nHX; have HB := nHB; clear nHX nHB))
    go_ret
    exact ⟨rfl, HB.out⟩
  rw [hf] at HFR
  have HFF := Lib.hid hf
  clear hf
  cases hb : M.bad
  case true =>
    rw [MetD.err_t hb] at HCK
    clear hb hS3
    go_enter Try.func5, Try.ntmps5
    go_wp2_with (fail)
    have bHX : Blk (w.alloc (.cells #[.int .i64 M.places, .int .i64 M.any.a0, .int .i64 M.any.a1, .int .i64 M.any.a2, .int .i64 M.any.a3, .int .i64 M.any.a4, .int .i64 M.any.a5, .bool M.any.i, .bool M.any.s, .int .i64 M.mw, .int .i64 M.ms, .int .i64 M.mc, .slice A M.n cF, .slice A2 M.m cS] 29)) (w.heap.size) 29 #[.int .i64 M.places, .int .i64 M.any.a0, .int .i64 M.any.a1, .int .i64 M.any.a2, .int .i64 M.any.a3, .int .i64 M.any.a4, .int .i64 M.any.a5, .bool M.any.i, .bool M.any.s, .int .i64 M.mw, .int .i64 M.ms, .int .i64 M.mc, .slice A M.n cF, .slice A2 M.m cS] := (by repeat (first | (refine Blk.newAt _ _ _ ?_; first | rfl | (simp; done)) | refine Blk.alloc ?_ _))
    have bHB : Below w.heap.size w (w.alloc (.cells #[.int .i64 M.places, .int .i64 M.any.a0, .int .i64 M.any.a1, .int .i64 M.any.a2, .int .i64 M.any.a3, .int .i64 M.any.a4, .int .i64 M.any.a5, .bool M.any.i, .bool M.any.s, .int .i64 M.mw, .int .i64 M.ms, .int .i64 M.mc, .slice A M.n cF, .slice A2 M.m cS] 29)) := (by repeat' (first | exact Below.refl _ _ | assumption | refine Below.drew ?_ | refine bdn ?_ _ | refine bal ?_ _ | refine Below.setCell ?_ (by first | (simp; done) | omega | (simp; omega)) _))
    generalize (w.alloc (.cells #[.int .i64 M.places, .int .i64 M.any.a0, .int .i64 M.any.a1, .int .i64 M.any.a2, .int .i64 M.any.a3, .int .i64 M.any.a4, .int .i64 M.any.a5, .bool M.any.i, .bool M.any.s, .int .i64 M.mw, .int .i64 M.ms, .int .i64 M.mc, .slice A M.n cF, .slice A2 M.m cS] 29)) = W at *
    have zW := bHX.lt
    have HX := Lib.hid bHX
    have HB := Lib.hid bHB
    clear bHX bHB
    go_wp2_with (first | (refine wpl_row rfl 29 _ rfl _ rfl #[.int .i64 M.places, .int .i64 M.any.a0, .int .i64 M.any.a1, .int .i64 M.any.a2, .int .i64 M.any.a3, .int .i64 M.any.a4, .int .i64 M.any.a5, .bool M.any.i, .bool M.any.s, .int .i64 M.mw, .int .i64 M.ms, .int .i64 M.mc, .slice A M.n cF, .slice A2 M.m cS] 14 HX.out Try.rowMet rfl ?_; simp only [Act.put]) | (refine wpl_row_g rfl 29 _ rfl _ rfl #[.int .i64 M.places, .int .i64 M.any.a0, .int .i64 M.any.a1, .int .i64 M.any.a2, .int .i64 M.any.a3, .int .i64 M.any.a4, .int .i64 M.any.a5, .bool M.any.i, .bool M.any.s, .int .i64 M.mw, .int .i64 M.ms, .int .i64 M.mc, .slice A M.n cF, .slice A2 M.m cS] 14 HX.out Try.rowMet rfl ?_; simp only [Act.put]) | (go_at_call 8; (with_reducible refine (HFR.out _ (HA.out.below HB.out)).mono ?_); rintro e w1 ⟨rfl, hb1⟩; have nHX := Lib.hid (HX.out.below hb1); have nHB := Lib.hid (bthen HB.out hb1); have zz1 := hb1.size; clear HX HB hb1; have HX := nHX; have HB := nHB; clear nHX nHB; (try clear zHX); have zHX := HX.out.lt; (try clear cHX13); have cHX13 := HX.out.cell 13) | (go_at_call 14; (with_reducible refine (HCK.out _ (HA.out.below HB.out)).mono ?_); rintro e w1 ⟨rfl, hb1⟩; have nHX := Lib.hid (HX.out.below hb1); have nHB := Lib.hid (bthen HB.out hb1); have zz1 := hb1.size; clear HX HB hb1; have HX := nHX; have HB := nHB; clear nHX nHB; (try clear zHX); have zHX := HX.out.lt; (try clear cHX13); have cHX13 := HX.out.cell 13) | (go_at_call 9; (with_reducible refine (wworks_c _).mono ?_); rintro e w1 ⟨rfl, hb1⟩; have nHX := Lib.hid (HX.out.below hb1); have nHB := Lib.hid (bthen HB.out hb1); have zz1 := hb1.size; clear HX HB hb1; have HX := nHX; have HB := nHB; clear nHX nHB))
    go_ret
    exact ⟨rfl, HB.out⟩
  rw [MetD.err_f hb] at HCK
  have HMB := Lib.hid hb
  clear hb
  by_cases h0 : n < 0
  · clear hS3
    go_enter Try.func5, Try.ntmps5
    go_wp2_with (fail)
    have bHX : Blk (w.alloc (.cells #[.int .i64 M.places, .int .i64 M.any.a0, .int .i64 M.any.a1, .int .i64 M.any.a2, .int .i64 M.any.a3, .int .i64 M.any.a4, .int .i64 M.any.a5, .bool M.any.i, .bool M.any.s, .int .i64 M.mw, .int .i64 M.ms, .int .i64 M.mc, .slice A M.n cF, .slice A2 M.m cS] 29)) (w.heap.size) 29 #[.int .i64 M.places, .int .i64 M.any.a0, .int .i64 M.any.a1, .int .i64 M.any.a2, .int .i64 M.any.a3, .int .i64 M.any.a4, .int .i64 M.any.a5, .bool M.any.i, .bool M.any.s, .int .i64 M.mw, .int .i64 M.ms, .int .i64 M.mc, .slice A M.n cF, .slice A2 M.m cS] := (by repeat (first | (refine Blk.newAt _ _ _ ?_; first | rfl | (simp; done)) | refine Blk.alloc ?_ _))
    have bHB : Below w.heap.size w (w.alloc (.cells #[.int .i64 M.places, .int .i64 M.any.a0, .int .i64 M.any.a1, .int .i64 M.any.a2, .int .i64 M.any.a3, .int .i64 M.any.a4, .int .i64 M.any.a5, .bool M.any.i, .bool M.any.s, .int .i64 M.mw, .int .i64 M.ms, .int .i64 M.mc, .slice A M.n cF, .slice A2 M.m cS] 29)) := (by repeat' (first | exact Below.refl _ _ | assumption | refine Below.drew ?_ | refine bdn ?_ _ | refine bal ?_ _ | refine Below.setCell ?_ (by first | (simp; done) | omega | (simp; omega)) _))
    generalize (w.alloc (.cells #[.int .i64 M.places, .int .i64 M.any.a0, .int .i64 M.any.a1, .int .i64 M.any.a2, .int .i64 M.any.a3, .int .i64 M.any.a4, .int .i64 M.any.a5, .bool M.any.i, .bool M.any.s, .int .i64 M.mw, .int .i64 M.ms, .int .i64 M.mc, .slice A M.n cF, .slice A2 M.m cS] 29)) = W at *
    have zW := bHX.lt
    have HX := Lib.hid bHX
    have HB := Lib.hid bHB
    clear bHX bHB
    go_wp2_with (first | (refine wpl_row rfl 29 _ rfl _ rfl #[.int .i64 M.places, .int .i64 M.any.a0, .int .i64 M.any.a1, .int .i64 M.any.a2, .int .i64 M.any.a3, .int .i64 M.any.a4, .int .i64 M.any.a5, .bool M.any.i, .bool M.any.s, .int .i64 M.mw, .int .i64 M.ms, .int .i64 M.mc, .slice A M.n cF, .slice A2 M.m cS] 14 HX.out Try.rowMet rfl ?_; simp only [Act.put]) | (refine wpl_row_g rfl 29 _ rfl _ rfl #[.int .i64 M.places, .int .i64 M.any.a0, .int .i64 M.any.a1, .int .i64 M.any.a2, .int .i64 M.any.a3, .int .i64 M.any.a4, .int .i64 M.any.a5, .bool M.any.i, .bool M.any.s, .int .i64 M.mw, .int .i64 M.ms, .int .i64 M.mc, .slice A M.n cF, .slice A2 M.m cS] 14 HX.out Try.rowMet rfl ?_; simp only [Act.put]) | (go_at_call 8; (with_reducible refine (HFR.out _ (HA.out.below HB.out)).mono ?_); rintro e w1 ⟨rfl, hb1⟩; have nHX := Lib.hid (HX.out.below hb1); have nHB := Lib.hid (bthen HB.out hb1); have zz1 := hb1.size; clear HX HB hb1; have HX := nHX; have HB := nHB; clear nHX nHB; (try clear zHX); have zHX := HX.out.lt; (try clear cHX13); have cHX13 := HX.out.cell 13) | (go_at_call 14; (with_reducible refine (HCK.out _ (HA.out.below HB.out)).mono ?_); rintro e w1 ⟨rfl, hb1⟩; have nHX := Lib.hid (HX.out.below hb1); have nHB := Lib.hid (bthen HB.out hb1); have zz1 := hb1.size; clear HX HB hb1; have HX := nHX; have HB := nHB; clear nHX nHB; (try clear zHX); have zHX := HX.out.lt; (try clear cHX13); have cHX13 := HX.out.cell 13) | (go_at_call 9; (with_reducible refine (wworks_c _).mono ?_); rintro e w1 ⟨rfl, hb1⟩; have nHX := Lib.hid (HX.out.below hb1); have nHB := Lib.hid (bthen HB.out hb1); have zz1 := hb1.size; clear HX HB hb1; have HX := nHX; have HB := nHB; clear nHX nHB))
    go_ret
    exact ⟨rfl, HB.out⟩
  obtain ⟨N, rfl⟩ : ∃ N : Nat, n = (N : Int) := ⟨n.toNat, by omega⟩
  by_cases hNm : M.m ≤ N
  · have hNz : (M.m : Int) ≤ (N : Int) := by omega
    clear hS3
    go_enter Try.func5, Try.ntmps5
    go_wp2_with (fail)
    have bHX : Blk (w.alloc (.cells #[.int .i64 M.places, .int .i64 M.any.a0, .int .i64 M.any.a1, .int .i64 M.any.a2, .int .i64 M.any.a3, .int .i64 M.any.a4, .int .i64 M.any.a5, .bool M.any.i, .bool M.any.s, .int .i64 M.mw, .int .i64 M.ms, .int .i64 M.mc, .slice A M.n cF, .slice A2 M.m cS] 29)) (w.heap.size) 29 #[.int .i64 M.places, .int .i64 M.any.a0, .int .i64 M.any.a1, .int .i64 M.any.a2, .int .i64 M.any.a3, .int .i64 M.any.a4, .int .i64 M.any.a5, .bool M.any.i, .bool M.any.s, .int .i64 M.mw, .int .i64 M.ms, .int .i64 M.mc, .slice A M.n cF, .slice A2 M.m cS] := (by repeat (first | (refine Blk.newAt _ _ _ ?_; first | rfl | (simp; done)) | refine Blk.alloc ?_ _))
    have bHB : Below w.heap.size w (w.alloc (.cells #[.int .i64 M.places, .int .i64 M.any.a0, .int .i64 M.any.a1, .int .i64 M.any.a2, .int .i64 M.any.a3, .int .i64 M.any.a4, .int .i64 M.any.a5, .bool M.any.i, .bool M.any.s, .int .i64 M.mw, .int .i64 M.ms, .int .i64 M.mc, .slice A M.n cF, .slice A2 M.m cS] 29)) := (by repeat' (first | exact Below.refl _ _ | assumption | refine Below.drew ?_ | refine bdn ?_ _ | refine bal ?_ _ | refine Below.setCell ?_ (by first | (simp; done) | omega | (simp; omega)) _))
    generalize (w.alloc (.cells #[.int .i64 M.places, .int .i64 M.any.a0, .int .i64 M.any.a1, .int .i64 M.any.a2, .int .i64 M.any.a3, .int .i64 M.any.a4, .int .i64 M.any.a5, .bool M.any.i, .bool M.any.s, .int .i64 M.mw, .int .i64 M.ms, .int .i64 M.mc, .slice A M.n cF, .slice A2 M.m cS] 29)) = W at *
    have zW := bHX.lt
    have HX := Lib.hid bHX
    have HB := Lib.hid bHB
    clear bHX bHB
    go_wp2_with (first | (refine wpl_row rfl 29 _ rfl _ rfl #[.int .i64 M.places, .int .i64 M.any.a0, .int .i64 M.any.a1, .int .i64 M.any.a2, .int .i64 M.any.a3, .int .i64 M.any.a4, .int .i64 M.any.a5, .bool M.any.i, .bool M.any.s, .int .i64 M.mw, .int .i64 M.ms, .int .i64 M.mc, .slice A M.n cF, .slice A2 M.m cS] 14 HX.out Try.rowMet rfl ?_; simp only [Act.put]) | (refine wpl_row_g rfl 29 _ rfl _ rfl #[.int .i64 M.places, .int .i64 M.any.a0, .int .i64 M.any.a1, .int .i64 M.any.a2, .int .i64 M.any.a3, .int .i64 M.any.a4, .int .i64 M.any.a5, .bool M.any.i, .bool M.any.s, .int .i64 M.mw, .int .i64 M.ms, .int .i64 M.mc, .slice A M.n cF, .slice A2 M.m cS] 14 HX.out Try.rowMet rfl ?_; simp only [Act.put]) | (go_at_call 8; (with_reducible refine (HFR.out _ (HA.out.below HB.out)).mono ?_); rintro e w1 ⟨rfl, hb1⟩; have nHX := Lib.hid (HX.out.below hb1); have nHB := Lib.hid (bthen HB.out hb1); have zz1 := hb1.size; clear HX HB hb1; have HX := nHX; have HB := nHB; clear nHX nHB; (try clear zHX); have zHX := HX.out.lt; (try clear cHX13); have cHX13 := HX.out.cell 13) | (go_at_call 14; (with_reducible refine (HCK.out _ (HA.out.below HB.out)).mono ?_); rintro e w1 ⟨rfl, hb1⟩; have nHX := Lib.hid (HX.out.below hb1); have nHB := Lib.hid (bthen HB.out hb1); have zz1 := hb1.size; clear HX HB hb1; have HX := nHX; have HB := nHB; clear nHX nHB; (try clear zHX); have zHX := HX.out.lt; (try clear cHX13); have cHX13 := HX.out.cell 13) | (go_at_call 9; (with_reducible refine (wworks_c _).mono ?_); rintro e w1 ⟨rfl, hb1⟩; have nHX := Lib.hid (HX.out.below hb1); have nHB := Lib.hid (bthen HB.out hb1); have zz1 := hb1.size; clear HX HB hb1; have HX := nHX; have HB := nHB; clear nHX nHB))
    go_ret
    exact ⟨rfl, HB.out⟩
  have hN : N < M.m := by omega
  have hm20 : M.m ≤ 20 := (MetD.ok_of HMB.out).m
  have hNz : (N : Int) < (M.m : Int) := by omega
  obtain ⟨bs, off, rfl, hbs, hcell⟩ := hS3 (by omega)
  go_enter Try.func5, Try.ntmps5
  go_wp2_with (fail)
  have bHX : Blk (w.alloc (.cells #[.int .i64 M.places, .int .i64 M.any.a0, .int .i64 M.any.a1, .int .i64 M.any.a2, .int .i64 M.any.a3, .int .i64 M.any.a4, .int .i64 M.any.a5, .bool M.any.i, .bool M.any.s, .int .i64 M.mw, .int .i64 M.ms, .int .i64 M.mc, .slice A M.n cF, .slice (some ⟨bs, off, none⟩) M.m cS] 29)) (w.heap.size) 29 #[.int .i64 M.places, .int .i64 M.any.a0, .int .i64 M.any.a1, .int .i64 M.any.a2, .int .i64 M.any.a3, .int .i64 M.any.a4, .int .i64 M.any.a5, .bool M.any.i, .bool M.any.s, .int .i64 M.mw, .int .i64 M.ms, .int .i64 M.mc, .slice A M.n cF, .slice (some ⟨bs, off, none⟩) M.m cS] := (by repeat (first | (refine Blk.newAt _ _ _ ?_; first | rfl | (simp; done)) | refine Blk.alloc ?_ _))
  have bHB : Below w.heap.size w (w.alloc (.cells #[.int .i64 M.places, .int .i64 M.any.a0, .int .i64 M.any.a1, .int .i64 M.any.a2, .int .i64 M.any.a3, .int .i64 M.any.a4, .int .i64 M.any.a5, .bool M.any.i, .bool M.any.s, .int .i64 M.mw, .int .i64 M.ms, .int .i64 M.mc, .slice A M.n cF, .slice (some ⟨bs, off, none⟩) M.m cS] 29)) := (by repeat' (first | exact Below.refl _ _ | assumption | refine Below.drew ?_ | refine bdn ?_ _ | refine bal ?_ _ | refine Below.setCell ?_ (by first | (simp; done) | omega | (simp; omega)) _))
  generalize (w.alloc (.cells #[.int .i64 M.places, .int .i64 M.any.a0, .int .i64 M.any.a1, .int .i64 M.any.a2, .int .i64 M.any.a3, .int .i64 M.any.a4, .int .i64 M.any.a5, .bool M.any.i, .bool M.any.s, .int .i64 M.mw, .int .i64 M.ms, .int .i64 M.mc, .slice A M.n cF, .slice (some ⟨bs, off, none⟩) M.m cS] 29)) = W at *
  have zW := bHX.lt
  have HX := Lib.hid bHX
  have HB := Lib.hid bHB
  clear bHX bHB
  go_wp2_with (first | (refine wpl_row rfl 29 _ rfl _ rfl #[.int .i64 M.places, .int .i64 M.any.a0, .int .i64 M.any.a1, .int .i64 M.any.a2, .int .i64 M.any.a3, .int .i64 M.any.a4, .int .i64 M.any.a5, .bool M.any.i, .bool M.any.s, .int .i64 M.mw, .int .i64 M.ms, .int .i64 M.mc, .slice A M.n cF, .slice (some ⟨bs, off, none⟩) M.m cS] 14 HX.out Try.rowMet rfl ?_; simp only [Act.put]) | (refine wpl_row_g rfl 29 _ rfl _ rfl #[.int .i64 M.places, .int .i64 M.any.a0, .int .i64 M.any.a1, .int .i64 M.any.a2, .int .i64 M.any.a3, .int .i64 M.any.a4, .int .i64 M.any.a5, .bool M.any.i, .bool M.any.s, .int .i64 M.mw, .int .i64 M.ms, .int .i64 M.mc, .slice A M.n cF, .slice (some ⟨bs, off, none⟩) M.m cS] 14 HX.out Try.rowMet rfl ?_; simp only [Act.put]) | (go_at_call 8; (with_reducible refine (HFR.out _ (HA.out.below HB.out)).mono ?_); rintro e w1 ⟨rfl, hb1⟩; have nHX := Lib.hid (HX.out.below hb1); have nHB := Lib.hid (bthen HB.out hb1); have zz1 := hb1.size; clear HX HB hb1; have HX := nHX; have HB := nHB; clear nHX nHB) | (go_at_call 14; refine (HCK.out _ (HA.out.below HB.out)).mono ?_; rintro _ w1 ⟨rfl, hb1⟩; have nHX := Lib.hid (HX.out.below hb1); have nHB := Lib.hid (bthen HB.out hb1); clear HX HB hb1; have HX := nHX; have HB := nHB; clear nHX nHB; have m13 := HX.out.cell 13; simp only [List.getElem?_toArray, List.getElem?_cons_succ, List.getElem?_cons_zero] at m13; have s0 : w1.cell? ⟨bs, off + N * 7, none⟩ = some (.int .i64 (M.E N 0)) := (HB.out.cell (p := ⟨bs, off + N * 7 + 0, none⟩) hbs).trans (hcell N hN 0 (by omega)); have s1 : w1.cell? ⟨bs, off + N * 7 + 1, none⟩ = some (.int .i64 (M.E N 1)) := (HB.out.cell (p := ⟨bs, off + N * 7 + 1, none⟩) hbs).trans (hcell N hN 1 (by omega)); have s2 : w1.cell? ⟨bs, off + N * 7 + 2, none⟩ = some (.int .i64 (M.E N 2)) := (HB.out.cell (p := ⟨bs, off + N * 7 + 2, none⟩) hbs).trans (hcell N hN 2 (by omega)); have s3 : w1.cell? ⟨bs, off + N * 7 + 3, none⟩ = some (.int .i64 (M.E N 3)) := (HB.out.cell (p := ⟨bs, off + N * 7 + 3, none⟩) hbs).trans (hcell N hN 3 (by omega)); have s4 : w1.cell? ⟨bs, off + N * 7 + 4, none⟩ = some (.int .i64 (M.E N 4)) := (HB.out.cell (p := ⟨bs, off + N * 7 + 4, none⟩) hbs).trans (hcell N hN 4 (by omega)); have s5 : w1.cell? ⟨bs, off + N * 7 + 5, none⟩ = some (.bool (M.C N 5)) := (HB.out.cell (p := ⟨bs, off + N * 7 + 5, none⟩) hbs).trans (hcell N hN 5 (by omega)); have s6 : w1.cell? ⟨bs, off + N * 7 + 6, none⟩ = some (.bool (M.C N 6)) := (HB.out.cell (p := ⟨bs, off + N * 7 + 6, none⟩) hbs).trans (hcell N hN 6 (by omega))))
  clear s0 s1 s2 s3 s4 s5 s6
  have bHS := Blk.new w1 51 #[.int .i64 (M.E N 0), .int .i64 (M.E N 1), .int .i64 (M.E N 2), .int .i64 (M.E N 3), .int .i64 (M.E N 4), .bool (M.C N 5), .bool (M.C N 6)]
  have nHX := Lib.hid (HX.out.alloc (.cells #[.int .i64 (M.E N 0), .int .i64 (M.E N 1), .int .i64 (M.E N 2), .int .i64 (M.E N 3), .int .i64 (M.E N 4), .bool (M.C N 5), .bool (M.C N 6)] 51))
  have nHB := Lib.hid (bal HB.out (.cells #[.int .i64 (M.E N 0), .int .i64 (M.E N 1), .int .i64 (M.E N 2), .int .i64 (M.E N 3), .int .i64 (M.E N 4), .bool (M.C N 5), .bool (M.C N 6)] 51))
  clear HX HB
  have HX := nHX
  have HB := nHB
  clear nHX nHB
  generalize w1.alloc (.cells #[.int .i64 (M.E N 0), .int .i64 (M.E N 1), .int .i64 (M.E N 2), .int .i64 (M.E N 3), .int .i64 (M.E N 4), .bool (M.C N 5), .bool (M.C N 6)] 51) = W2 at *
  generalize w1.heap.size = gHS at *
  have HS := Lib.hid bHS
  clear bHS
  go_wp2_with (fail)
  have K0 := Lib.hid (show SnK M (.slice A M.n cF) (.slice (some ⟨bs, off, none⟩) M.m cS) N gHS w _ from ⟨HB.out, HX.out, HS.out⟩)
  clear HX HB HS
  go_loopg [8] M.m (fun gx i wr => ∃ k : Nat, i = .int .i64 k ∧ k ≤ M.m ∧ M.m - k ≤ gx ∧ Hid (SnK M (.slice A M.n cF) (.slice (some ⟨bs, off, none⟩) M.m cS) N gHS w wr) ∧ Hid (∀ j, j < k → M.E j 0 = M.E N 0 → M.E j 1 < M.E N 1 ∨ (M.E j 1 = M.E N 1 ∧ j ≤ N)))
  case atStart => exact ⟨0, rfl, Nat.zero_le _, Nat.le_refl _, K0, Lib.hid (fun j hj => absurd hj (Nat.not_lt_zero _))⟩
  case round =>
    clear K0
    obtain ⟨k, rfl, hk, hgx, K0, HL⟩ := hrel
    have m13 := K0.out.m.cell 13
    simp only [List.getElem?_toArray, List.getElem?_cons_succ, List.getElem?_cons_zero] at m13
    by_cases hlt : k < M.m
    · have hltz : (k : Int) < (M.m : Int) := by omega
      have s0 : wr.cell? ⟨bs, off + k * 7, none⟩ = some (.int .i64 (M.E k 0)) := (K0.out.b.cell (p := ⟨bs, off + k * 7 + 0, none⟩) hbs).trans (hcell k hlt 0 (by omega))
      have s1 : wr.cell? ⟨bs, off + k * 7 + 1, none⟩ = some (.int .i64 (M.E k 1)) := (K0.out.b.cell (p := ⟨bs, off + k * 7 + 1, none⟩) hbs).trans (hcell k hlt 1 (by omega))
      have s2 : wr.cell? ⟨bs, off + k * 7 + 2, none⟩ = some (.int .i64 (M.E k 2)) := (K0.out.b.cell (p := ⟨bs, off + k * 7 + 2, none⟩) hbs).trans (hcell k hlt 2 (by omega))
      have s3 : wr.cell? ⟨bs, off + k * 7 + 3, none⟩ = some (.int .i64 (M.E k 3)) := (K0.out.b.cell (p := ⟨bs, off + k * 7 + 3, none⟩) hbs).trans (hcell k hlt 3 (by omega))
      have s4 : wr.cell? ⟨bs, off + k * 7 + 4, none⟩ = some (.int .i64 (M.E k 4)) := (K0.out.b.cell (p := ⟨bs, off + k * 7 + 4, none⟩) hbs).trans (hcell k hlt 4 (by omega))
      have s5 : wr.cell? ⟨bs, off + k * 7 + 5, none⟩ = some (.bool (M.C k 5)) := (K0.out.b.cell (p := ⟨bs, off + k * 7 + 5, none⟩) hbs).trans (hcell k hlt 5 (by omega))
      have s6 : wr.cell? ⟨bs, off + k * 7 + 6, none⟩ = some (.bool (M.C k 6)) := (K0.out.b.cell (p := ⟨bs, off + k * 7 + 6, none⟩) hbs).trans (hcell k hlt 6 (by omega))
      have x0 := K0.out.s.cell 0
      have x1 := K0.out.s.cell 1
      simp only [List.getElem?_toArray, List.getElem?_cons_succ, List.getElem?_cons_zero] at x0 x1
      have zs := K0.out.s.lt
      have hk20 : k ≤ 20 := by omega
      clear hcell hS1 hS2 hF1 hF2
      by_cases e0 : M.E k 0 = M.E N 0
      · have e0z : (M.E k 0 == M.E N 0) = true := by simp [e0]
        have E0 := Lib.hid e0
        clear e0
        by_cases g1 : M.E N 1 < M.E k 1
        · skip
          go_wp2_with (first | (go_at_call 9; refine (wworks_c _).mono ?_; rintro _ w2 ⟨rfl, hb2⟩))
          go_ret
          exact ⟨rfl, bthen K0.out.b (bthen (bal (Below.refl _ _) _) hb2)⟩
        · by_cases g2 : M.E k 1 = M.E N 1
          · have g2z : (M.E k 1 == M.E N 1) = true := by simp [g2]
            have G2 := Lib.hid g2
            clear g2
            by_cases g3 : N < k
            · have g3z : (N : Int) < (k : Int) := by omega
              go_wp2_with (first | (go_at_call 9; refine (wworks_c _).mono ?_; rintro _ w2 ⟨rfl, hb2⟩))
              go_ret
              exact ⟨rfl, bthen K0.out.b (bthen (bal (Below.refl _ _) _) hb2)⟩
            · have g3z : ¬ (N : Int) < (k : Int) := by omega
              have HQ := Lib.hid (show M.E k 0 = M.E N 0 → M.E k 1 < M.E N 1 ∨ (M.E k 1 = M.E N 1 ∧ k ≤ N) from fun _ => Or.inr ⟨G2.out, by omega⟩)
              go_wp2_with (fail)
              go_roundg (M.m - (k + 1))
              case measure => omega
              case rel => exact ⟨k + 1, by first | rfl | go_num | (congr 1; omega), by omega, Nat.le_refl _, Lib.hid (K0.out.grow (bal (Below.refl _ _) _)), Lib.hid (fun j hj => by
                by_cases e : j = k
                · subst e; exact HQ.out
                · exact HL.out j (by omega))⟩
          · have g2z : (M.E k 1 == M.E N 1) = false := by simp [g2]
            have HQ := Lib.hid (show M.E k 0 = M.E N 0 → M.E k 1 < M.E N 1 ∨ (M.E k 1 = M.E N 1 ∧ k ≤ N) from fun _ => Or.inl (by omega))
            go_wp2_with (fail)
            go_roundg (M.m - (k + 1))
            case measure => omega
            case rel => exact ⟨k + 1, by first | rfl | go_num | (congr 1; omega), by omega, Nat.le_refl _, Lib.hid (K0.out.grow (bal (Below.refl _ _) _)), Lib.hid (fun j hj => by
              by_cases e : j = k
              · subst e; exact HQ.out
              · exact HL.out j (by omega))⟩
      · have e0z : (M.E k 0 == M.E N 0) = false := by simp [e0]
        have HQ := Lib.hid (show M.E k 0 = M.E N 0 → M.E k 1 < M.E N 1 ∨ (M.E k 1 = M.E N 1 ∧ k ≤ N) from fun h => absurd h e0)
        clear e0
        go_wp2_with (fail)
        go_roundg (M.m - (k + 1))
        case measure => omega
        case rel => exact ⟨k + 1, by first | rfl | go_num | (congr 1; omega), by omega, Nat.le_refl _, Lib.hid (K0.out.grow (bal (Below.refl _ _) _)), Lib.hid (fun j hj => by
          by_cases e : j = k
          · subst e; exact HQ.out
          · exact HL.out j (by omega))⟩
    · obtain rfl : k = M.m := by omega
      have x1 := K0.out.s.cell 1
      simp only [List.getElem?_toArray, List.getElem?_cons_succ, List.getElem?_cons_zero] at x1
      have q1 := (MetD.ok_of HMB.out).sa N hN
      have q2 := q1.1
      have q3 := q1.2
      clear q1
      have HL2 := Lib.hid (show ∀ i, i < M.m → M.E i 0 = M.E N 0 → M.E i 1 < M.E N 1 ∨ (M.E i 1 = M.E N 1 ∧ i ≤ N) from HL.out)
      clear HL
      by_cases t0 : ticks < 0
      · go_wp2_with (first | (go_at_call 9; refine (wworks_c _).mono ?_; rintro _ w2 ⟨rfl, hb2⟩))
        go_ret
        exact ⟨rfl, bthen K0.out.b hb2⟩
      by_cases t1 : 2000 - M.E N 1 < ticks
      · go_wp2_with (first | (go_at_call 9; refine (wworks_c _).mono ?_; rintro _ w2 ⟨rfl, hb2⟩))
        go_ret
        exact ⟨rfl, bthen K0.out.b hb2⟩
      go_wp2_with (first | (refine wpl_row rfl 29 (.tmp 3) rfl _ rfl #[.int .i64 M.places, .int .i64 M.any.a0, .int .i64 M.any.a1, .int .i64 M.any.a2, .int .i64 M.any.a3, .int .i64 M.any.a4, .int .i64 M.any.a5, .bool M.any.i, .bool M.any.s, .int .i64 M.mw, .int .i64 M.ms, .int .i64 M.mc, .slice A M.n cF, .slice (some ⟨bs, off, none⟩) M.m cS] 14 K0.out.m Try.rowMet rfl ?_; simp only [Act.put]))
      refine (HOW.out _ (HA.out.below K0.out.b) HFF.out).mono ?_
      rintro e w1 ⟨B, cB, B2, cB2, rfl, hb1, hA1⟩
      have HA1 := Lib.hid hA1
      have HX := Lib.hid (K0.out.m.below hb1)
      have HS := Lib.hid (K0.out.s.below hb1)
      have HB := Lib.hid (bthen K0.out.b hb1)
      clear K0 hA1 hb1
      have tok : True := trivial
      have zHS := HS.out.lt
      have cHS0 := HS.out.cell 0
      have cHS1 := HS.out.cell 1
      go_wp2_with (first | (have _t := tok; refine wpl_store_newW rfl 29 (.tmp 10) (.tmp 87) rfl #[.int .i64 M.places, .int .i64 M.any.a0, .int .i64 M.any.a1, .int .i64 M.any.a2, .int .i64 M.any.a3, .int .i64 M.any.a4, .int .i64 M.any.a5, .bool M.any.i, .bool M.any.s, .int .i64 M.mw, .int .i64 M.ms, .int .i64 M.mc, .slice B M.n cB, .slice B2 M.m cB2] _ _ rfl ?_ rfl Try.sizeMet rfl (oneM M B B2 _ _ _ _) ?_; (focus (simp; done)); simp only [Act.put]; clear tok) | (refine wpl_row rfl 29 (.tmp 10) rfl _ rfl #[.int .i64 M.places, .int .i64 M.any.a0, .int .i64 M.any.a1, .int .i64 M.any.a2, .int .i64 M.any.a3, .int .i64 M.any.a4, .int .i64 M.any.a5, .bool M.any.i, .bool M.any.s, .int .i64 M.mw, .int .i64 M.ms, .int .i64 M.mc, .slice B M.n cB, .slice B2 M.m cB2] 14 (Blk.new _ _ _) Try.rowMet rfl ?_; simp only [Act.put]))
      have bHQ := Blk.new w1 29 #[.int .i64 M.places, .int .i64 M.any.a0, .int .i64 M.any.a1, .int .i64 M.any.a2, .int .i64 M.any.a3, .int .i64 M.any.a4, .int .i64 M.any.a5, .bool M.any.i, .bool M.any.s, .int .i64 M.mw, .int .i64 M.ms, .int .i64 M.mc, .slice B M.n cB, .slice B2 M.m cB2]
      have nHX := Lib.hid (HX.out.alloc (.cells #[.int .i64 M.places, .int .i64 M.any.a0, .int .i64 M.any.a1, .int .i64 M.any.a2, .int .i64 M.any.a3, .int .i64 M.any.a4, .int .i64 M.any.a5, .bool M.any.i, .bool M.any.s, .int .i64 M.mw, .int .i64 M.ms, .int .i64 M.mc, .slice B M.n cB, .slice B2 M.m cB2] 29))
      have nHS := Lib.hid (HS.out.alloc (.cells #[.int .i64 M.places, .int .i64 M.any.a0, .int .i64 M.any.a1, .int .i64 M.any.a2, .int .i64 M.any.a3, .int .i64 M.any.a4, .int .i64 M.any.a5, .bool M.any.i, .bool M.any.s, .int .i64 M.mw, .int .i64 M.ms, .int .i64 M.mc, .slice B M.n cB, .slice B2 M.m cB2] 29))
      have nHA1 := Lib.hid (HA1.out.alloc (.cells #[.int .i64 M.places, .int .i64 M.any.a0, .int .i64 M.any.a1, .int .i64 M.any.a2, .int .i64 M.any.a3, .int .i64 M.any.a4, .int .i64 M.any.a5, .bool M.any.i, .bool M.any.s, .int .i64 M.mw, .int .i64 M.ms, .int .i64 M.mc, .slice B M.n cB, .slice B2 M.m cB2] 29))
      have nHB := Lib.hid (bal HB.out (.cells #[.int .i64 M.places, .int .i64 M.any.a0, .int .i64 M.any.a1, .int .i64 M.any.a2, .int .i64 M.any.a3, .int .i64 M.any.a4, .int .i64 M.any.a5, .bool M.any.i, .bool M.any.s, .int .i64 M.mw, .int .i64 M.ms, .int .i64 M.mc, .slice B M.n cB, .slice B2 M.m cB2] 29))
      clear HX HS HA1 HB
      have HX := nHX
      have HS := nHS
      have HA1 := nHA1
      have HB := nHB
      clear nHX nHS nHA1 nHB
      generalize w1.alloc (.cells #[.int .i64 M.places, .int .i64 M.any.a0, .int .i64 M.any.a1, .int .i64 M.any.a2, .int .i64 M.any.a3, .int .i64 M.any.a4, .int .i64 M.any.a5, .bool M.any.i, .bool M.any.s, .int .i64 M.mw, .int .i64 M.ms, .int .i64 M.mc, .slice B M.n cB, .slice B2 M.m cB2] 29) = W2 at *
      generalize w1.heap.size = gHQ at *
      have HQ := Lib.hid bHQ
      clear bHQ
      have hm1 := HMY.out _ _ _ (M.E N 0) (M.E N 1) HA1.out
      rw [seen_now HMB.out hN HL2.out, show atE M (M.E N 0) (M.E N 1) = 0 by have := seen_at HMB.out hN (k := 0) (by omega) (by omega); rwa [Int.add_zero] at this] at hm1
      dsimp only [Sk.cells] at hm1
      refine hm1.mono ?_
      clear hm1
      rintro e w1 ⟨rfl, hb1⟩
      have nHX := Lib.hid (HX.out.below hb1)
      have nHS := Lib.hid (HS.out.below hb1)
      have nHA1 := Lib.hid (HA1.out.below hb1)
      have nHQ := Lib.hid (HQ.out.below hb1)
      have nHB := Lib.hid (bthen HB.out hb1)
      clear HX HS HA1 HQ HB hb1
      have HX := nHX
      have HS := nHS
      have HA1 := nHA1
      have HQ := nHQ
      have HB := nHB
      clear nHX nHS nHA1 nHQ nHB
      have zHS := HS.out.lt
      have cHS0 := HS.out.cell 0
      have cHS1 := HS.out.cell 1
      go_wp2_with (first | (refine wpl_row rfl 29 (.tmp 10) rfl _ rfl #[.int .i64 M.places, .int .i64 M.any.a0, .int .i64 M.any.a1, .int .i64 M.any.a2, .int .i64 M.any.a3, .int .i64 M.any.a4, .int .i64 M.any.a5, .bool M.any.i, .bool M.any.s, .int .i64 M.mw, .int .i64 M.ms, .int .i64 M.mc, .slice B M.n cB, .slice B2 M.m cB2] 14 (HQ.out.alloc _) Try.rowMet rfl ?_; simp only [Act.put]))
      have bHN := Blk.new w1 25 #[.int .i64 (M.E N 2), .int .i64 (M.E N 2), .int .i64 (M.E N 3), .int .i64 (M.E N 3), .int .i64 (M.E N 4), .int .i64 (M.E N 4), .bool (M.C N 5), .bool (M.C N 6)]
      have nHX := Lib.hid (HX.out.alloc (.cells #[.int .i64 (M.E N 2), .int .i64 (M.E N 2), .int .i64 (M.E N 3), .int .i64 (M.E N 3), .int .i64 (M.E N 4), .int .i64 (M.E N 4), .bool (M.C N 5), .bool (M.C N 6)] 25))
      have nHS := Lib.hid (HS.out.alloc (.cells #[.int .i64 (M.E N 2), .int .i64 (M.E N 2), .int .i64 (M.E N 3), .int .i64 (M.E N 3), .int .i64 (M.E N 4), .int .i64 (M.E N 4), .bool (M.C N 5), .bool (M.C N 6)] 25))
      have nHA1 := Lib.hid (HA1.out.alloc (.cells #[.int .i64 (M.E N 2), .int .i64 (M.E N 2), .int .i64 (M.E N 3), .int .i64 (M.E N 3), .int .i64 (M.E N 4), .int .i64 (M.E N 4), .bool (M.C N 5), .bool (M.C N 6)] 25))
      have nHQ := Lib.hid (HQ.out.alloc (.cells #[.int .i64 (M.E N 2), .int .i64 (M.E N 2), .int .i64 (M.E N 3), .int .i64 (M.E N 3), .int .i64 (M.E N 4), .int .i64 (M.E N 4), .bool (M.C N 5), .bool (M.C N 6)] 25))
      have nHB := Lib.hid (bal HB.out (.cells #[.int .i64 (M.E N 2), .int .i64 (M.E N 2), .int .i64 (M.E N 3), .int .i64 (M.E N 3), .int .i64 (M.E N 4), .int .i64 (M.E N 4), .bool (M.C N 5), .bool (M.C N 6)] 25))
      clear HX HS HA1 HQ HB
      have HX := nHX
      have HS := nHS
      have HA1 := nHA1
      have HQ := nHQ
      have HB := nHB
      clear nHX nHS nHA1 nHQ nHB
      generalize w1.alloc (.cells #[.int .i64 (M.E N 2), .int .i64 (M.E N 2), .int .i64 (M.E N 3), .int .i64 (M.E N 3), .int .i64 (M.E N 4), .int .i64 (M.E N 4), .bool (M.C N 5), .bool (M.C N 6)] 25) = W2 at *
      generalize w1.heap.size = gHN at *
      have HN := Lib.hid bHN
      clear bHN
      obtain ⟨a0, a1, a2, a3, a4, a5, si, ss, e3, r1, r2, r3⟩ := seen_then HMB.out hN HL2.out (k := ticks) (by omega) (by omega)
      have hm2 := HMY.out _ _ _ (M.E N 0) (M.E N 1 + ticks) HA1.out
      rw [e3, seen_at HMB.out hN (k := ticks) (by omega) (by omega)] at hm2
      dsimp only [Sk.cells] at hm2
      refine hm2.mono ?_
      clear hm2 e3
      rintro e w1 ⟨rfl, hb1⟩
      have nHX := Lib.hid (HX.out.below hb1)
      have nHS := Lib.hid (HS.out.below hb1)
      have nHA1 := Lib.hid (HA1.out.below hb1)
      have nHQ := Lib.hid (HQ.out.below hb1)
      have nHN := Lib.hid (HN.out.below hb1)
      have nHB := Lib.hid (bthen HB.out hb1)
      clear HX HS HA1 HQ HN HB hb1
      have HX := nHX
      have HS := nHS
      have HA1 := nHA1
      have HQ := nHQ
      have HN := nHN
      have HB := nHB
      clear nHX nHS nHA1 nHQ nHN nHB
      go_wp2_with (fail)
      have bHT := Blk.new w1 25 #[.int .i64 a0, .int .i64 a1, .int .i64 a2, .int .i64 a3, .int .i64 a4, .int .i64 a5, .bool si, .bool ss]
      have nHX := Lib.hid (HX.out.alloc (.cells #[.int .i64 a0, .int .i64 a1, .int .i64 a2, .int .i64 a3, .int .i64 a4, .int .i64 a5, .bool si, .bool ss] 25))
      have nHS := Lib.hid (HS.out.alloc (.cells #[.int .i64 a0, .int .i64 a1, .int .i64 a2, .int .i64 a3, .int .i64 a4, .int .i64 a5, .bool si, .bool ss] 25))
      have nHA1 := Lib.hid (HA1.out.alloc (.cells #[.int .i64 a0, .int .i64 a1, .int .i64 a2, .int .i64 a3, .int .i64 a4, .int .i64 a5, .bool si, .bool ss] 25))
      have nHQ := Lib.hid (HQ.out.alloc (.cells #[.int .i64 a0, .int .i64 a1, .int .i64 a2, .int .i64 a3, .int .i64 a4, .int .i64 a5, .bool si, .bool ss] 25))
      have nHN := Lib.hid (HN.out.alloc (.cells #[.int .i64 a0, .int .i64 a1, .int .i64 a2, .int .i64 a3, .int .i64 a4, .int .i64 a5, .bool si, .bool ss] 25))
      have nHB := Lib.hid (bal HB.out (.cells #[.int .i64 a0, .int .i64 a1, .int .i64 a2, .int .i64 a3, .int .i64 a4, .int .i64 a5, .bool si, .bool ss] 25))
      clear HX HS HA1 HQ HN HB
      have HX := nHX
      have HS := nHS
      have HA1 := nHA1
      have HQ := nHQ
      have HN := nHN
      have HB := nHB
      clear nHX nHS nHA1 nHQ nHN nHB
      generalize w1.alloc (.cells #[.int .i64 a0, .int .i64 a1, .int .i64 a2, .int .i64 a3, .int .i64 a4, .int .i64 a5, .bool si, .bool ss] 25) = W2 at *
      generalize w1.heap.size = gHT at *
      have HT := Lib.hid bHT
      clear bHT
      have hM := MetD.ok_of HMB.out
      have w1b := hM.sw N hN
      have w2b := hM.ss N hN
      have w3b := hM.sc N hN
      have b1 := prod_in (show 0 ≤ ticks by omega) (show ticks ≤ 2000 by omega) hM.mw.1 hM.mw.2
      have b2 := prod_in (show 0 ≤ ticks by omega) (show ticks ≤ 2000 by omega) hM.ms.1 hM.ms.2
      have b3 := prod_in (show 0 ≤ ticks by omega) (show ticks ≤ 2000 by omega) hM.mc.1 hM.mc.2
      have HN1 := Lib.hid (fun w1 => near_t a0 a1 (M.E N 2) (ticks * M.mw) w1 r1 (by omega) (by omega) b1.1 b1.2)
      have HN2 := Lib.hid (fun w1 => near_t a2 a3 (M.E N 3) (ticks * M.ms) w1 r2 (by omega) (by omega) b2.1 b2.2)
      have HN3 := Lib.hid (fun w1 => near_t a4 a5 (M.E N 4) (ticks * M.mc) w1 r3 (by omega) (by omega) b3.1 b3.2)
      clear hM w1b w2b w3b r1 r2 r3 q2 q3 t0 t1 HL2
      have aHN0 := fun (r : After W2) => (HN.out.below r.below).cell 0
      simp only [List.getElem?_toArray, List.getElem?_cons_succ, List.getElem?_cons_zero] at aHN0
      have aHN1 := fun (r : After W2) => (HN.out.below r.below).cell 1
      simp only [List.getElem?_toArray, List.getElem?_cons_succ, List.getElem?_cons_zero] at aHN1
      have aHN2 := fun (r : After W2) => (HN.out.below r.below).cell 2
      simp only [List.getElem?_toArray, List.getElem?_cons_succ, List.getElem?_cons_zero] at aHN2
      have aHN3 := fun (r : After W2) => (HN.out.below r.below).cell 3
      simp only [List.getElem?_toArray, List.getElem?_cons_succ, List.getElem?_cons_zero] at aHN3
      have aHN4 := fun (r : After W2) => (HN.out.below r.below).cell 4
      simp only [List.getElem?_toArray, List.getElem?_cons_succ, List.getElem?_cons_zero] at aHN4
      have aHN5 := fun (r : After W2) => (HN.out.below r.below).cell 5
      simp only [List.getElem?_toArray, List.getElem?_cons_succ, List.getElem?_cons_zero] at aHN5
      have aHN6 := fun (r : After W2) => (HN.out.below r.below).cell 6
      simp only [List.getElem?_toArray, List.getElem?_cons_succ, List.getElem?_cons_zero] at aHN6
      have aHN7 := fun (r : After W2) => (HN.out.below r.below).cell 7
      simp only [List.getElem?_toArray, List.getElem?_cons_succ, List.getElem?_cons_zero] at aHN7
      have aHS2 := fun (r : After W2) => (HS.out.below r.below).cell 2
      simp only [List.getElem?_toArray, List.getElem?_cons_succ, List.getElem?_cons_zero] at aHS2
      have aHS3 := fun (r : After W2) => (HS.out.below r.below).cell 3
      simp only [List.getElem?_toArray, List.getElem?_cons_succ, List.getElem?_cons_zero] at aHS3
      have aHS4 := fun (r : After W2) => (HS.out.below r.below).cell 4
      simp only [List.getElem?_toArray, List.getElem?_cons_succ, List.getElem?_cons_zero] at aHS4
      have aHS5 := fun (r : After W2) => (HS.out.below r.below).cell 5
      simp only [List.getElem?_toArray, List.getElem?_cons_succ, List.getElem?_cons_zero] at aHS5
      have aHS6 := fun (r : After W2) => (HS.out.below r.below).cell 6
      simp only [List.getElem?_toArray, List.getElem?_cons_succ, List.getElem?_cons_zero] at aHS6
      refine wp_region_after (by kernel_rfl) (by kernel_rfl) ?_
      iterate 49 (go_big_quiet_step (first | (go_at_call 16; (with_reducible refine qafter (lone_c _ _)))))
      refine wpQuiet_nil ?_
      rintro _ ⟨⟨w1, hb1⟩, rfl⟩
      clear aHN0 aHN1 aHN2 aHN3 aHN4 aHN5 aHN6 aHN7 aHS2 aHS3 aHS4 aHS5 aHS6
      have nHX := Lib.hid (HX.out.below hb1)
      have nHS := Lib.hid (HS.out.below hb1)
      have nHT := Lib.hid (HT.out.below hb1)
      have nHB := Lib.hid (bthen HB.out hb1)
      clear HX HS HT HB hb1
      have HX := nHX
      have HS := nHS
      have HT := nHT
      have HB := nHB
      clear nHX nHS nHT nHB
      have zHX := HX.out.lt
      have cHX9 := HX.out.cell 9
      have zHS := HS.out.lt
      have cHS2 := HS.out.cell 2
      have zHT := HT.out.lt
      have cHT0 := HT.out.cell 0
      have cHT1 := HT.out.cell 1
      go_wp2_with (first | ((with_reducible refine (HN1.out _).mono ?_); rintro e w1 ⟨rfl, hb1⟩; have nHX := Lib.hid (HX.out.below hb1); have nHS := Lib.hid (HS.out.below hb1); have nHT := Lib.hid (HT.out.below hb1); have nHB := Lib.hid (bthen HB.out hb1); have zz1 := hb1.size; clear HX HS HT HB hb1; have HX := nHX; have HS := nHS; have HT := nHT; have HB := nHB; clear nHX nHS nHT nHB; (try clear zHX); have zHX := HX.out.lt; (try clear cHX10); have cHX10 := HX.out.cell 10; (try clear zHS); have zHS := HS.out.lt; (try clear cHS3); have cHS3 := HS.out.cell 3; (try clear zHT); have zHT := HT.out.lt; (try clear cHT2); have cHT2 := HT.out.cell 2; (try clear cHT3); have cHT3 := HT.out.cell 3) | ((with_reducible refine (HN2.out _).mono ?_); rintro e w1 ⟨rfl, hb1⟩; have nHX := Lib.hid (HX.out.below hb1); have nHS := Lib.hid (HS.out.below hb1); have nHT := Lib.hid (HT.out.below hb1); have nHB := Lib.hid (bthen HB.out hb1); have zz1 := hb1.size; clear HX HS HT HB hb1; have HX := nHX; have HS := nHS; have HT := nHT; have HB := nHB; clear nHX nHS nHT nHB; (try clear zHX); have zHX := HX.out.lt; (try clear cHX11); have cHX11 := HX.out.cell 11; (try clear zHS); have zHS := HS.out.lt; (try clear cHS4); have cHS4 := HS.out.cell 4; (try clear zHT); have zHT := HT.out.lt; (try clear cHT4); have cHT4 := HT.out.cell 4; (try clear cHT5); have cHT5 := HT.out.cell 5) | ((with_reducible refine (HN3.out _).mono ?_); rintro e w1 ⟨rfl, hb1⟩; have nHX := Lib.hid (HX.out.below hb1); have nHS := Lib.hid (HS.out.below hb1); have nHT := Lib.hid (HT.out.below hb1); have nHB := Lib.hid (bthen HB.out hb1); have zz1 := hb1.size; clear HX HS HT HB hb1; have HX := nHX; have HS := nHS; have HT := nHT; have HB := nHB; clear nHX nHS nHT nHB) | (go_at_call 9; (with_reducible refine (wworks_c _).mono ?_); rintro e w1 ⟨rfl, hb1⟩; have nHX := Lib.hid (HX.out.below hb1); have nHB := Lib.hid (bthen HB.out hb1); have zz1 := hb1.size; clear HX HB hb1; have HX := nHX; have HB := nHB; clear nHX nHB))
      go_ret
      exact ⟨rfl, HB.out⟩
-- end
end Go.Proofs.Ytfcjblnebaemgaa
