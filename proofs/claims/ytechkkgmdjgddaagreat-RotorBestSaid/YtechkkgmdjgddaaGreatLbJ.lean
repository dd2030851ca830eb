/- The law RotorBest: plain laws, Wide. -/
import Derived.Test.YtechkkgmdjgddaaGreatLaC
import Derived.Test.YtechkkgmdjgddaaGreatLaQ
import Derived.Test.YtechkkgmdjgddaaGreatLbO
import Derived.Test.YtechkkgmdjgddaaGreatRfV
import Derived.Test.YtechkkgmdjgddaaGreatRgM
set_option linter.all false
namespace Go.Proofs.YtechkkgmdjgddaaGreat
open Go Go.RowKit Go.Proofs
set_option maxRecDepth 100000
set_option maxHeartbeats 8000000

theorem Bound_e (x y v : Value) (T : Tbl) (xl xh yl yh : Int) (w : World) (hT : TblAt w x y v T) (hF : Fits T xl xh yl yh) :
   Calls Tryz.prog 13 #[.agg #[x, y, v], .agg #[.int .i64 xl, .int .i64 xh], .agg #[.int .i64 yl, .int .i64 yh]] w fun e w' => e = .returned (.tuple #[.agg #[.int .i64 (bLo T xl xh yl yh), .int .i64 (bHi T xl xh yl yh)], .int .i64 0]) ∧ Below w.heap.size w w' := by
  have := Bound_c x y v T xl xh yl yh w hT hF
  rwa [(bnd_eq hF).1, (bnd_eq hF).2] at this

/-- No speed has a greater rate than Best. -/
theorem best_law {S : Tabs} {cl bu wl wh tl th el eh nl nh n : Int} (h1 : besE S cl bu wl wh tl th el eh nl nh = 0) (h2 : ratE S cl bu wl wh tl th el eh nl nh n = 0) :
    ratR S cl bu wl wh tl th el eh nl nh n ≤ (besP S cl bu wl wh tl th el eh nl nh).2 ∧ (ratR S cl bu wl wh tl th el eh nl nh n = (besP S cl bu wl wh tl th el eh nl nh).2 → (besP S cl bu wl wh tl th el eh nl nh).1 ≤ n) := by
  obtain ⟨hr, hP, hL⟩ := ratE_ok h2
  have sb := speed_bd hr
  have hl := hL.lx
  unfold liesB at hl
  simp only [Bool.and_eq_true, decide_eq_true_eq] at hl
  unfold besP ratR
  rw [if_pos h1, h2, okN_ok]
  have := bst_max (f := ratV S wl wh tl th el eh cl) (x0 := nth S.l.X 0) (spN S) (n - nth S.l.X 0).toNat (by unfold spN; omega)
  rw [show nth S.l.X 0 + (((n - nth S.l.X 0).toNat : Nat) : Int) = n by omega] at this
  exact this
/-- Fast can be flown, and no greater speed that Never allows. -/
theorem fast_law {S : Tabs} {cl bu wl wh tl th el eh nl nh n : Int} (h1 : (fasP S cl bu wl wh tl th el eh nl nh).2 = 0) (h2 : ratE S cl bu wl wh tl th el eh nl nh n = 0) :
    Fits S.n wl wh tl th ∧ (fasP S cl bu wl wh tl th el eh nl nh).1 ≤ bLo S.n wl wh tl th ∧ (n ≤ (fasP S cl bu wl wh tl th el eh nl nh).1 ∨ bLo S.n wl wh tl th < n ∨ ratR S cl bu wl wh tl th el eh nl nh n < 0) := by
  by_cases hE : fasE S cl bu wl wh tl th el eh nl nh = 0
  · obtain ⟨hr, hN, -, -⟩ := fasE_ok hE
    obtain ⟨-, hP, hL⟩ := ratE_ok h2
    have sb := speed_bd hr
    have hl := hL.lx
    unfold liesB at hl
    simp only [Bool.and_eq_true, decide_eq_true_eq] at hl
    unfold fasP at h1 ⊢
    rw [if_pos hE] at h1 ⊢
    obtain ⟨i1, i2, i3⟩ := fstS_ok _ h1
    unfold ratR
    rw [h2, okN_ok]
    generalize (fstS (ratV S wl wh tl th el eh cl) (nth S.l.X 0) (faN S wl wh tl th)).1 = u at *
    have hk : u + 1 ≤ nth S.l.X 0 + (faN S wl wh tl th : Nat) := by omega
    have hm : 0 < faN S wl wh tl th := by
      refine Nat.pos_of_ne_zero fun h0 => ?_
      rw [h0] at h1
      cases h1
    refine ⟨hN, ?_, ?_⟩
    · unfold faN at *; omega
    · by_cases a : n ≤ u
      · exact .inl a
      · by_cases b : bLo S.n wl wh tl th < n
        · exact .inr (.inl b)
        · have := i3 (n - nth S.l.X 0).toNat (by unfold faN; omega) (by omega)
          rw [show nth S.l.X 0 + (((n - nth S.l.X 0).toNat : Nat) : Int) = n by omega] at this
          exact .inr (.inr this)
  · unfold fasP at h1
    rw [if_neg hE] at h1
    exact absurd h1 hE

def wideB (S : Tabs) (cl bu : Int) : Bool := rotB S cl bu && decide (3000 < nth S.l.X (S.l.X.length - 1) - nth S.l.X 0)
theorem Wide_c (hx hy hv gx gy gv lx ly lv px py pv nx ny nv ax ay av cx cy cv dx dy dv : Value) (cl bu : Int) (S : Tabs) (w : World) (hR : RotAt w hx hy hv gx gy gv lx ly lv px py pv nx ny nv ax ay av cx cy cv dx dy dv cl bu S) :
   Calls Tryz.prog 5 #[.agg #[hx, hy, hv, gx, gy, gv, lx, ly, lv, px, py, pv, nx, ny, nv, ax, ay, av, cx, cy, cv, dx, dy, dv, .int .i64 cl, .int .i64 bu]] w fun e w' => e = .returned (.bool (wideB S cl bu)) ∧ Below w.heap.size w w' := by
  unfold wideB
  have hk := fun w1 hR => rf_Check_c hx hy hv gx gy gv lx ly lv px py pv nx ny nv ax ay av cx cy cv dx dy dv cl bu S w1 hR
  cases hr : rotB S cl bu
  · rw [hr, rotE_f] at hk
    have HK := Lib.hid hk
    have HR := Lib.hid hR
    clear hk hr
    go_enter Tryz.func5, Tryz.ntmps5
    go_wp2
    have bHM : Blk (w.alloc (.cells #[hx, hy, hv, gx, gy, gv, lx, ly, lv, px, py, pv, nx, ny, nv, ax, ay, av, cx, cy, cv, dx, dy, dv, .int .i64 cl, .int .i64 bu] 27)) (w.heap.size) 27 #[hx, hy, hv, gx, gy, gv, lx, ly, lv, px, py, pv, nx, ny, nv, ax, ay, av, cx, cy, cv, dx, dy, dv, .int .i64 cl, .int .i64 bu] := (by repeat (first | (refine Blk.newAt _ _ _ ?_; first | rfl | (simp; done)) | refine Blk.alloc ?_ _))
    have bHB : Below w.heap.size w (w.alloc (.cells #[hx, hy, hv, gx, gy, gv, lx, ly, lv, px, py, pv, nx, ny, nv, ax, ay, av, cx, cy, cv, dx, dy, dv, .int .i64 cl, .int .i64 bu] 27)) := (by repeat' (first | exact Below.refl _ _ | assumption | refine Below.drew ?_ | refine bdn ?_ _ | refine bal ?_ _ | refine Below.setCell ?_ (by first | (simp; done) | omega | (simp; omega)) _))
    generalize (w.alloc (.cells #[hx, hy, hv, gx, gy, gv, lx, ly, lv, px, py, pv, nx, ny, nv, ax, ay, av, cx, cy, cv, dx, dy, dv, .int .i64 cl, .int .i64 bu] 27)) = W at *
    have zW := bHM.lt
    have HM := Lib.hid bHM
    have HB := Lib.hid bHB
    clear bHM bHB
    have hM2 := Lib.hid (fun r : After W => HM.out.below r.below)
    have hR2 := Lib.hid (fun r : After W => (HR.out.below HB.out).below r.below)
    refine wp_region_aftert 22 (by kernel_rfl) (by kernel_rfl) ?_
    simp only [List.take_succ_cons, List.take_zero, List.drop_succ_cons, List.drop_zero]
    (refine wpq_row rfl 27 (.tmp 1) rfl _ rfl _ 26 (fun _ hw => by obtain ⟨r, rfl⟩ := hw; exact hM2.out r) Tryz.rowRot rfl ?_; simp only [Act.put, List.setIfInBounds_toArray, List.set_cons_succ, List.set_cons_zero])
    go_big_quiet_step (first | (go_at_call 15; (with_reducible refine qafter (HK.out _ (hR2.out _)))))
    iterate 20 (go_big_quiet_step (fail))
    refine wpQuiet_nil ?_
    rintro _ ⟨r, rfl⟩
    have BR := r.below
    go_wp2_with (fail)
    go_ret
    exact ⟨rfl, bthen HB.out BR⟩
  · rw [hr, rotE_t] at hk
    have sb := speed_bd hr
    obtain ⟨lA, lc0, rfl, hc1, hc2, -, hA⟩ := hR.l.x
    obtain ⟨lb0, lo0, rfl, hbl, hcells⟩ := hA sb.2.2.2
    have hlen := sb.2.2.2
    have HX0 := Lib.hid (fun w1 (h : Below w.heap.size w w1) => show w1.cell? ⟨lb0, lo0, none⟩ = some (.int .i64 (nth S.l.X 0)) from (h.cell (p := ⟨lb0, lo0, none⟩) hbl).trans (by simpa using hcells 0 hlen))
    have HX1 := Lib.hid (fun w1 (h : Below w.heap.size w w1) => show w1.cell? ⟨lb0, lo0 + (S.l.X.length - 1), none⟩ = some (.int .i64 (nth S.l.X (S.l.X.length - 1))) from (h.cell (p := ⟨lb0, lo0 + (S.l.X.length - 1), none⟩) hbl).trans (hcells (S.l.X.length - 1) (by omega)))
    have hi0 : (0 : Int) < (S.l.X.length : Int) := by omega
    have hi1 : (S.l.X.length : Int) ≤ 9223372036854775807 := by omega
    have ht : ((S.l.X.length : Int) - 1).toNat = S.l.X.length - 1 := by omega
    have HK := Lib.hid hk
    have HR := Lib.hid hR
    clear hk hr hR hA hcells
    generalize nth S.l.X (S.l.X.length - 1) = x1 at *
    generalize nth S.l.X 0 = x0 at *
    obtain ⟨s0, s1, s2, -⟩ := sb
    go_enter Tryz.func5, Tryz.ntmps5
    go_wp2
    have bHM : Blk (w.alloc (.cells #[hx, hy, hv, gx, gy, gv, (.slice (some ⟨lb0, lo0, none⟩) S.l.X.length lc0), ly, lv, px, py, pv, nx, ny, nv, ax, ay, av, cx, cy, cv, dx, dy, dv, .int .i64 cl, .int .i64 bu] 27)) (w.heap.size) 27 #[hx, hy, hv, gx, gy, gv, (.slice (some ⟨lb0, lo0, none⟩) S.l.X.length lc0), ly, lv, px, py, pv, nx, ny, nv, ax, ay, av, cx, cy, cv, dx, dy, dv, .int .i64 cl, .int .i64 bu] := (by repeat (first | (refine Blk.newAt _ _ _ ?_; first | rfl | (simp; done)) | refine Blk.alloc ?_ _))
    have bHB : Below w.heap.size w (w.alloc (.cells #[hx, hy, hv, gx, gy, gv, (.slice (some ⟨lb0, lo0, none⟩) S.l.X.length lc0), ly, lv, px, py, pv, nx, ny, nv, ax, ay, av, cx, cy, cv, dx, dy, dv, .int .i64 cl, .int .i64 bu] 27)) := (by repeat' (first | exact Below.refl _ _ | assumption | refine Below.drew ?_ | refine bdn ?_ _ | refine bal ?_ _ | refine Below.setCell ?_ (by first | (simp; done) | omega | (simp; omega)) _))
    generalize (w.alloc (.cells #[hx, hy, hv, gx, gy, gv, (.slice (some ⟨lb0, lo0, none⟩) S.l.X.length lc0), ly, lv, px, py, pv, nx, ny, nv, ax, ay, av, cx, cy, cv, dx, dy, dv, .int .i64 cl, .int .i64 bu] 27)) = W at *
    have zW := bHM.lt
    have HM := Lib.hid bHM
    have HB := Lib.hid bHB
    clear bHM bHB
    have hM2 := Lib.hid (fun r : After W => HM.out.below r.below)
    have hR2 := Lib.hid (fun r : After W => (HR.out.below HB.out).below r.below)
    have aHM6 := fun (r : After W) => (HM.out.below r.below).cell 6
    simp only [List.getElem?_toArray, List.getElem?_cons_succ, List.getElem?_cons_zero] at aHM6
    have ax0 := fun (r : After W) => HX0.out r.w (bthen HB.out r.below)
    have ax1 := fun (r : After W) => HX1.out r.w (bthen HB.out r.below)
    refine wp_region_aftert 22 (by kernel_rfl) (by kernel_rfl) ?_
    simp only [List.take_succ_cons, List.take_zero, List.drop_succ_cons, List.drop_zero]
    (refine wpq_row rfl 27 (.tmp 1) rfl _ rfl _ 26 (fun _ hw => by obtain ⟨r, rfl⟩ := hw; exact hM2.out r) Tryz.rowRot rfl ?_; simp only [Act.put, List.setIfInBounds_toArray, List.set_cons_succ, List.set_cons_zero])
    go_big_quiet_step (first | (go_at_call 15; (with_reducible refine qafter (HK.out _ (hR2.out _)))))
    iterate 20 (go_big_quiet_step (fail))
    refine wpQuiet_nil ?_
    rintro _ ⟨r, rfl⟩
    have BR := r.below
    go_wp2_with (fail)
    go_ret
    exact ⟨ret_bool (by simp), bthen HB.out BR⟩

end Go.Proofs.YtechkkgmdjgddaaGreat
