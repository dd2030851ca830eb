/- Contracts: Needs, Margin of package rotor. -/
import Derived.Test.YtechkkgmdjgddaaGreatRoL
set_option linter.all false
namespace Go.Proofs.YtechkkgmdjgddaaGreat
open Go Go.RowKit Go.Proofs
set_option maxRecDepth 100000
set_option maxHeartbeats 4000000

def neeE (S : Tabs) (cl bu : Int) (wl wh tl th el eh nl nh : Int) (sl sh : Int) : Int := chkE (rotB S cl bu) (airB wl wh tl th el eh nl nh) (!vspan sl sh) (!lkE S.h wl wh tl th || !lkE S.g sl sh nl nh)
def neeLo (S : Tabs) (cl bu : Int) (wl wh tl th el eh nl nh : Int) (sl sh : Int) : Int := okN (neeE S cl bu wl wh tl th el eh nl nh sl sh) (needLo S wl wh tl th nl nh sl sh)
def neeHi (S : Tabs) (cl bu : Int) (wl wh tl th el eh nl nh : Int) (sl sh : Int) : Int := okN (neeE S cl bu wl wh tl th el eh nl nh sl sh) (needHi S wl wh tl th nl nh sl sh)
theorem neeE_ok {S : Tabs} {cl bu wl wh tl th el eh nl nh sl sh : Int} (h : neeE S cl bu wl wh tl th el eh nl nh sl sh = 0) : rotB S cl bu = true ∧ Fits S.h wl wh tl th ∧ Fits S.g sl sh nl nh := by
  obtain ⟨h1, h2, h3, h4⟩ := chkE_zero h
  unfold airB at h2; simp only [Bool.and_eq_true] at h2
  simp only [Bool.or_eq_false_iff, Bool.not_eq_false'] at h3 h4
  exact ⟨h1, Fits.mk' (rotB_h h1) h2.1.1.1 h2.1.1.2 h4.1, Fits.mk' (rotB_g h1) h3 h2.2 h4.2⟩

def marV (S : Tabs) (cl bu : Int) (wl wh tl th el eh nl nh : Int) (sl sh : Int) : Int := okN (margE S cl bu wl wh tl th el eh nl nh sl sh) (margV S wl wh tl th el eh nl nh sl sh)
theorem Margin_c (hx hy hv gx gy gv lx ly lv px py pv nx ny nv ax ay av cx cy cv dx dy dv : Value) (cl bu : Int) (wl wh tl th el eh nl nh : Int) (S : Tabs) (sl sh : Int) (w : World) (hR : RotAt w hx hy hv gx gy gv lx ly lv px py pv nx ny nv ax ay av cx cy cv dx dy dv cl bu S) :
   Calls Tryz.prog 17 #[.agg #[hx, hy, hv, gx, gy, gv, lx, ly, lv, px, py, pv, nx, ny, nv, ax, ay, av, cx, cy, cv, dx, dy, dv, .int .i64 cl, .int .i64 bu], .agg #[.int .i64 wl, .int .i64 wh, .int .i64 tl, .int .i64 th, .int .i64 el, .int .i64 eh, .int .i64 nl, .int .i64 nh], .agg #[.int .i64 sl, .int .i64 sh]] w fun e w' => e = .returned (.tuple #[.int .i64 (marV S cl bu wl wh tl th el eh nl nh sl sh), .int .i64 (margE S cl bu wl wh tl th el eh nl nh sl sh)]) ∧ Below w.heap.size w w' := by
  have HR := Lib.hid hR
  have HC := Lib.hid (fun w1 hR => checkMargin_c hx hy hv gx gy gv lx ly lv px py pv nx ny nv ax ay av cx cy cv dx dy dv cl bu wl wh tl th el eh nl nh S sl sh w1 hR)
  clear hR
  unfold marV
  by_cases h : margE S cl bu wl wh tl th el eh nl nh sl sh = 0
  · obtain ⟨hr, hH, hG, hP⟩ := margE_ok h
    have F := Lib.hid (fun w1 hR => margin_c hx hy hv gx gy gv lx ly lv px py pv nx ny nv ax ay av cx cy cv dx dy dv cl bu wl wh tl th el eh nl nh sl sh S w1 hR (rotB_h hr) (rotB_g hr) (rotB_p hr) hH hG hP)
    rw [h] at HC ⊢
    rw [okN_ok]
    clear h hH hG hP hr
    generalize margV S wl wh tl th el eh nl nh sl sh = p0 at *
    go_enter Tryz.func17, Tryz.ntmps17
    go_wp2_with (first | (refine wpl_row rfl 27 _ rfl _ rfl #[hx, hy, hv, gx, gy, gv, lx, ly, lv, px, py, pv, nx, ny, nv, ax, ay, av, cx, cy, cv, dx, dy, dv, .int .i64 cl, .int .i64 bu] 26 ?_ Tryz.rowRot rfl ?_; (focus exact (by repeat (first | (refine Blk.newAt _ _ _ ?_; first | rfl | (simp; done)) | refine Blk.alloc ?_ _))); simp only [Act.put]) | (refine wpl_row rfl 31 _ rfl _ rfl #[.int .i64 wl, .int .i64 wh, .int .i64 tl, .int .i64 th, .int .i64 el, .int .i64 eh, .int .i64 nl, .int .i64 nh] 8 ?_ Tryz.rowAir rfl ?_; (focus exact (by repeat (first | (refine Blk.newAt _ _ _ ?_; first | rfl | (simp; done)) | refine Blk.alloc ?_ _))); simp only [Act.put]) | (refine wpl_store_new rfl 51 _ _ rfl #[hx, hy, hv, gx, gy, gv, lx, ly, lv, px, py, pv, nx, ny, nv, ax, ay, av, cx, cy, cv, dx, dy, dv, .int .i64 cl, .int .i64 bu, .int .i64 wl, .int .i64 wh, .int .i64 tl, .int .i64 th, .int .i64 el, .int .i64 eh, .int .i64 nl, .int .i64 nh] _ _ rfl ?_ rfl Tryz.sizeMach rfl (RotAt.one HR.out wl wh tl th el eh nl nh) ?_; (focus (simp; done)); simp only [Act.put]) | (refine wpl_row rfl 51 (.tmp 8) rfl _ rfl _ 34 M1.out Tryz.rowMach rfl ?_; simp only [Act.put]) | (refine wpl_row rfl 51 _ rfl _ rfl #[hx, hy, hv, gx, gy, gv, lx, ly, lv, px, py, pv, nx, ny, nv, ax, ay, av, cx, cy, cv, dx, dy, dv, .int .i64 cl, .int .i64 bu, .int .i64 wl, .int .i64 wh, .int .i64 tl, .int .i64 th, .int .i64 el, .int .i64 eh, .int .i64 nl, .int .i64 nh] 34 ?_ Tryz.rowMach rfl ?_; (focus exact (by repeat (first | (refine Blk.newAt _ _ _ ?_; first | rfl | (simp; done)) | refine Blk.alloc ?_ _))); simp only [Act.put]) | (go_at_call 43; refine (HC.out _ (HR.out.below (by repeat' (first | exact Below.refl _ _ | assumption | refine Below.drew ?_ | refine bdn ?_ _ | refine bal ?_ _ | refine Below.setCell ?_ (by first | (simp; done) | omega | (simp; omega)) _)))).mono ?_; rintro e w1 ⟨rfl, hb1⟩; have hB1 := bthen (show Below w.heap.size w _ from (by repeat' (first | exact Below.refl _ _ | assumption | refine Below.drew ?_ | refine bdn ?_ _ | refine bal ?_ _ | refine Below.setCell ?_ (by first | (simp; done) | omega | (simp; omega)) _))) hb1; have M1 := Lib.hid (show Blk w1 (w.heap.size + 1 + 1 + 1) 51 #[hx, hy, hv, gx, gy, gv, lx, ly, lv, px, py, pv, nx, ny, nv, ax, ay, av, cx, cy, cv, dx, dy, dv, .int .i64 cl, .int .i64 bu, .int .i64 wl, .int .i64 wh, .int .i64 tl, .int .i64 th, .int .i64 el, .int .i64 eh, .int .i64 nl, .int .i64 nh] from Blk.below (by repeat (first | (refine Blk.newAt _ _ _ ?_; first | rfl | (simp; done)) | refine Blk.alloc ?_ _)) hb1); have D1 := (show Blk w1 (w.heap.size + 1 + 1) 29 #[.int .i64 sl, .int .i64 sh] from Blk.below (by repeat (first | (refine Blk.newAt _ _ _ ?_; first | rfl | (simp; done)) | refine Blk.alloc ?_ _)) hb1); have s0 := D1.cell 0; have s1 := D1.cell 1; clear D1; have hz1 := hb1.size; (try simp at hz1); clear hb1) | (refine wpl_row rfl 51 (.tmp 8) rfl _ rfl _ 34 M1.out Tryz.rowMach rfl ?_; simp only [Act.put]) | (go_at_call 44; refine (F.out _ (HR.out.below hB1)).mono ?_; rintro e w3 ⟨rfl, hb3⟩; have hB := (bthen hB1 hb3)))
    go_ret2
    exact ⟨rfl, hB⟩
  · have hne : (margE S cl bu wl wh tl th el eh nl nh sl sh != 0) = true := by simpa using h
    rw [okN_no h]
    generalize margE S cl bu wl wh tl th el eh nl nh sl sh = E at *
    clear h
    go_enter Tryz.func17, Tryz.ntmps17
    go_wp2_with (first | (refine wpl_row rfl 27 _ rfl _ rfl #[hx, hy, hv, gx, gy, gv, lx, ly, lv, px, py, pv, nx, ny, nv, ax, ay, av, cx, cy, cv, dx, dy, dv, .int .i64 cl, .int .i64 bu] 26 ?_ Tryz.rowRot rfl ?_; (focus exact (by repeat (first | (refine Blk.newAt _ _ _ ?_; first | rfl | (simp; done)) | refine Blk.alloc ?_ _))); simp only [Act.put]) | (refine wpl_row rfl 31 _ rfl _ rfl #[.int .i64 wl, .int .i64 wh, .int .i64 tl, .int .i64 th, .int .i64 el, .int .i64 eh, .int .i64 nl, .int .i64 nh] 8 ?_ Tryz.rowAir rfl ?_; (focus exact (by repeat (first | (refine Blk.newAt _ _ _ ?_; first | rfl | (simp; done)) | refine Blk.alloc ?_ _))); simp only [Act.put]) | (refine wpl_store_new rfl 51 _ _ rfl #[hx, hy, hv, gx, gy, gv, lx, ly, lv, px, py, pv, nx, ny, nv, ax, ay, av, cx, cy, cv, dx, dy, dv, .int .i64 cl, .int .i64 bu, .int .i64 wl, .int .i64 wh, .int .i64 tl, .int .i64 th, .int .i64 el, .int .i64 eh, .int .i64 nl, .int .i64 nh] _ _ rfl ?_ rfl Tryz.sizeMach rfl (RotAt.one HR.out wl wh tl th el eh nl nh) ?_; (focus (simp; done)); simp only [Act.put]) | (refine wpl_row rfl 51 _ rfl _ rfl #[hx, hy, hv, gx, gy, gv, lx, ly, lv, px, py, pv, nx, ny, nv, ax, ay, av, cx, cy, cv, dx, dy, dv, .int .i64 cl, .int .i64 bu, .int .i64 wl, .int .i64 wh, .int .i64 tl, .int .i64 th, .int .i64 el, .int .i64 eh, .int .i64 nl, .int .i64 nh] 34 ?_ Tryz.rowMach rfl ?_; (focus exact (by repeat (first | (refine Blk.newAt _ _ _ ?_; first | rfl | (simp; done)) | refine Blk.alloc ?_ _))); simp only [Act.put]) | (go_at_call 43; refine (HC.out _ (HR.out.below (by repeat' (first | exact Below.refl _ _ | assumption | refine Below.drew ?_ | refine bdn ?_ _ | refine bal ?_ _ | refine Below.setCell ?_ (by first | (simp; done) | omega | (simp; omega)) _)))).mono ?_; rintro e w1 ⟨rfl, hb1⟩; have hB1 := bthen (show Below w.heap.size w _ from (by repeat' (first | exact Below.refl _ _ | assumption | refine Below.drew ?_ | refine bdn ?_ _ | refine bal ?_ _ | refine Below.setCell ?_ (by first | (simp; done) | omega | (simp; omega)) _))) hb1))
    go_ret2
    exact ⟨rfl, hB1⟩
end Go.Proofs.YtechkkgmdjgddaaGreat
