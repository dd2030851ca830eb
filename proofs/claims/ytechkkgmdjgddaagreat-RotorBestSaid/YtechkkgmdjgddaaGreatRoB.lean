/- Contracts: valid, floor, lies, bound of package rotor. -/
import Derived.Test.YtechkkgmdjgddaaGreatRoA
set_option linter.all false
namespace Go.Proofs.YtechkkgmdjgddaaGreat
open Go Go.RowKit Go.Proofs

theorem ro_valid_c (lo hi : Int) (w : World) : Calls Tryz.prog 57 #[.agg #[.int .i64 lo, .int .i64 hi]] w fun e w' => e = .returned (.bool (vspan lo hi)) ∧ Below w.heap.size w w' := by
  have e1 := spanE_t
  have e2 := spanE_f
  have hcheck : ∀ (b c : Nat) (w : World), w.cell? ⟨b, 0, none⟩ = some (.int .i64 lo) → w.cell? ⟨b, 1, none⟩ = some (.int .i64 hi) →
      Calls Tryz.prog 81 #[.slice (some ⟨b, 0, none⟩) 1 c] w fun e w' => e = .returned (.int .i64 (spanE (!vspan lo hi))) ∧ Below w.heap.size w w' := by
    intro b c w h0 h1
    have h := spCheck_c (some ⟨b, 0, none⟩) 1 c (fun _ => lo) (fun _ => hi) w (by omega)
      (fun _ => ⟨b, 0, rfl, blk_lt h0, fun k hk => by
        obtain rfl : k = 0 := by omega
        simpa using ⟨h0, h1⟩⟩)
    rw [anyBad1, show (!inB ((1 : Nat) : Int) 1 3) = false by rfl, Bool.false_or] at h
    exact h
  have HC := Lib.hid hcheck
  clear hcheck
  cases h : vspan lo hi
  all_goals
    rw [h] at HC
    have HH := Lib.hid h
    clear h
    go_enter Tryz.func57, Tryz.ntmps57
    go_wp2_with (first | (go_at_call 81; (with_reducible refine (HC.out _ _ _ (by first | (simp; done) | (rw [cell_new_at _ _ _ _ _ (by simp)]; first | rfl | (simp; done))) (by first | (simp; done) | (rw [cell_new_at _ _ _ _ _ (by simp)]; first | rfl | (simp; done)))).mono ?_); rintro e w1 ⟨rfl, hb1⟩; have hB1 := bthen (show Below w.heap.size w _ from (by repeat' (first | exact Below.refl _ _ | assumption | refine Below.drew ?_ | refine bdn ?_ _ | refine bal ?_ _ | refine Below.setCell ?_ (by first | (simp; done) | omega | (simp; omega)) _))) hb1; have hz1 := hb1.size; (try simp at hz1); obtain ⟨hc1, hf1⟩ := bcell hb1; first | (have hE1 := bthen2 hE (by repeat' (first | exact Below.refl _ _ | refine Below.drew ?_ | refine bdn ?_ _ | refine bal ?_ _ | refine Below.setCell ?_ (by first | (simp; done) | omega | (simp; omega)) _)) hb1; clear hE; have hE := hE1; clear hE1; obtain ⟨hd1, hg1⟩ := bcell hE) | (have hE := hb1)))
    go_ret
    exact ⟨rfl, (by repeat' (first | exact Below.refl _ _ | assumption | refine Below.drew ?_ | refine bdn ?_ _ | refine bal ?_ _ | refine Below.setCell ?_ (by first | (simp; done) | omega | (simp; omega)) _))⟩

theorem ro_floor_c (num den : Int) (w : World) (h0 : -4000000000000000000 ≤ num) (h1 : num ≤ 4000000000000000000) (h2 : 1 ≤ den) (h3 : den ≤ 4000000000000000000) :
   Calls Tryz.prog 47 #[.int .i64 num, .int .i64 den] w fun e w' => e = .returned (.int .i64 (num / den)) ∧ w = w' := by
  have hb := ediv_bound h2 (show (0:Int) ≤ 4000000000000000000 by omega) h0 h1
  have HB := Lib.hid hb
  clear hb
  go_enter Tryz.func47, Tryz.ntmps47
  go_wp2
  · have hm : num.tmod den < 0 := by assumption
    have e := fdiv_neg h2 hm
    have hb := HB.out
    rw [wrap64_in (by omega) (by omega), e]
    go_ret
    exact ⟨rfl, rfl⟩
  · have hm : 0 ≤ num.tmod den := by assumption
    have e := fdiv_pos h2 hm
    rw [e]
    go_ret
    exact ⟨rfl, rfl⟩

set_option maxRecDepth 100000
set_option maxHeartbeats 4000000

theorem ro_bound_c (x y v : Value) (T : Tbl) (xl xh yl yh : Int) (w : World) (hT : TblAt w x y v T) (hF : Fits T xl xh yl yh) :
   Calls Tryz.prog 28 #[.agg #[x, y, v, .int .i64 xl, .int .i64 xh, .int .i64 yl, .int .i64 yh]] w fun e w' => e = .returned (.agg #[.int .i64 (bndLo T xl xh yl yh), .int .i64 (bndHi T xl xh yl yh)]) ∧ Below w.heap.size w w' := by
  have HF := Lib.hid hF
  clear hF
  go_enter Tryz.func28, Tryz.ntmps28
  go_wp2_with (first | (go_at_call 13; (with_reducible refine (Bound_c x y v T xl xh yl yh _ (hT.below (by repeat' (first | exact Below.refl _ _ | assumption | refine Below.drew ?_ | refine bdn ?_ _ | refine bal ?_ _ | refine Below.setCell ?_ (by first | (simp; done) | omega | (simp; omega)) _))) HF.out).mono ?_); rintro e w1 ⟨rfl, hb1⟩; have hB1 := bthen (show Below w.heap.size w _ from (by repeat' (first | exact Below.refl _ _ | assumption | refine Below.drew ?_ | refine bdn ?_ _ | refine bal ?_ _ | refine Below.setCell ?_ (by first | (simp; done) | omega | (simp; omega)) _))) hb1; have hz1 := hb1.size; (try simp at hz1); obtain ⟨hc1, hf1⟩ := bcell hb1; have RB : Blk w1 (w.heap.size + 1) 29 #[.int .i64 0, .int .i64 0] := Blk.below (by repeat (first | (refine Blk.newAt _ _ _ ?_; first | rfl | (simp; done)) | refine Blk.alloc ?_ _)) hb1; have RA := Lib.hid (RB.alloc (.cells #[.int .i64 (bndLo T xl xh yl yh), .int .i64 (bndHi T xl xh yl yh)] 29)); clear RB; have rf := fun i => RA.out.frozen i; have r0 : World.cell? _ ⟨w.heap.size + 1, 0, none⟩ = some (.int .i64 0) := RA.out.cell 0; have r1 : World.cell? _ ⟨w.heap.size + 1, 1, none⟩ = some (.int .i64 0) := RA.out.cell 1))
  exact bodyPost_ret (v := .agg #[.int .i64 (bndLo T xl xh yl yh), .int .i64 (bndHi T xl xh yl yh)]) (by simp (maxDischargeDepth := 9) [results, Tryz.results28, go_sem, r0, r1]) rfl ⟨rfl, bset (bset (bal hB1 _) (by omega) _) (by omega) _⟩

theorem ro_lies_c (x y v : Value) (xs ys : List Int) (xl xh yl yh : Int) (w : World) (hx : Ints w x xs) (hy : Ints w y ys) (h0 : 0 < xs.length) (h1 : 0 < ys.length) :
   Calls Tryz.prog 62 #[.agg #[x, y, v, .int .i64 xl, .int .i64 xh, .int .i64 yl, .int .i64 yh]] w fun e w' => e = .returned (.bool (liesB xs xl xh && liesB ys yl yh)) ∧ Below w.heap.size w w' := by
  obtain ⟨A, c, rfl, hc1, hc2, _, hA⟩ := hx
  obtain ⟨b, off, rfl, hb, hc⟩ := hA h0
  obtain ⟨A', c', rfl, hc1', hc2', _, hA'⟩ := hy
  obtain ⟨b', off', rfl, hb', hc'⟩ := hA' h1
  have c0 := hc 0 h0
  have d0 := hc' 0 h1
  simp only [Nat.add_zero] at c0 d0
  have c1 := hc (xs.length - 1) (by omega)
  have d1 := hc' (ys.length - 1) (by omega)
  clear hc hA hc' hA'
  have hi0 : (0 : Int) < (xs.length : Int) := by omega
  have hi1 : (xs.length : Int) ≤ 9223372036854775807 := by omega
  have ht : ((xs.length : Int) - 1).toNat = xs.length - 1 := by omega
  have hj0 : (0 : Int) < (ys.length : Int) := by omega
  have hj1 : (ys.length : Int) ≤ 9223372036854775807 := by omega
  have hu : ((ys.length : Int) - 1).toNat = ys.length - 1 := by omega
  cases p1 : decide (nth xs 0 ≤ xl)
  · go_enter Tryz.func62, Tryz.ntmps62
    go_wp2
    go_quiet (fail)
    go_wp2
    go_ret
    exact ⟨ret_bool (by simp [liesB, p1]), (by repeat' (first | exact Below.refl _ _ | assumption | refine Below.drew ?_ | refine bdn ?_ _ | refine bal ?_ _ | refine Below.setCell ?_ (by first | (simp; done) | omega | (simp; omega)) _))⟩
  · cases p2 : decide (xh ≤ nth xs (xs.length - 1))
    · go_enter Tryz.func62, Tryz.ntmps62
      go_wp2
      go_quiet (fail)
      go_wp2
      go_ret
      exact ⟨ret_bool (by simp [liesB, p1, p2]), (by repeat' (first | exact Below.refl _ _ | assumption | refine Below.drew ?_ | refine bdn ?_ _ | refine bal ?_ _ | refine Below.setCell ?_ (by first | (simp; done) | omega | (simp; omega)) _))⟩
    · cases p3 : decide (nth ys 0 ≤ yl)
      · go_enter Tryz.func62, Tryz.ntmps62
        go_wp2
        go_quiet (fail)
        go_wp2
        go_ret
        exact ⟨ret_bool (by simp [liesB, p1, p2, p3]), (by repeat' (first | exact Below.refl _ _ | assumption | refine Below.drew ?_ | refine bdn ?_ _ | refine bal ?_ _ | refine Below.setCell ?_ (by first | (simp; done) | omega | (simp; omega)) _))⟩
      · go_enter Tryz.func62, Tryz.ntmps62
        go_wp2
        go_quiet (fail)
        go_wp2
        go_ret
        exact ⟨ret_bool (by simp [liesB, p1, p2, p3]), (by repeat' (first | exact Below.refl _ _ | assumption | refine Below.drew ?_ | refine bdn ?_ _ | refine bal ?_ _ | refine Below.setCell ?_ (by first | (simp; done) | omega | (simp; omega)) _))⟩

def lkE (T : Tbl) (xl xh yl yh : Int) : Bool := liesB T.X xl xh && liesB T.Y yl yh
end Go.Proofs.YtechkkgmdjgddaaGreat
