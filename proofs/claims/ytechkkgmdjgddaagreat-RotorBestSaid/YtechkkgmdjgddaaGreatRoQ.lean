/- Contracts: Rate, Wake of package rotor. -/
import Derived.Test.YtechkkgmdjgddaaGreatRoL
import Derived.Test.YtechkkgmdjgddaaGreatRoC
set_option linter.all false
namespace Go.Proofs.YtechkkgmdjgddaaGreat
open Go Go.RowKit Go.Proofs
set_option maxRecDepth 100000
set_option maxHeartbeats 4000000

def ratE (S : Tabs) (cl bu : Int) (wl wh tl th el eh nl nh : Int) (n : Int) : Int := chkE (rotB S cl bu) (airB wl wh tl th el eh nl nh) false (!lkE S.p tl th el eh || !lkE S.l n n wl wh)
theorem lkE_span {T : Tbl} {lo hi n a b : Int} (h : rightB T lo hi = true) (hl : lkE T n n a b = true) : vspan n n = true := by
  have hX := tblB_X (right_t h)
  have lX := axisB_len hX
  have r0 := axisB_range hX (k := 0) (by omega)
  have r1 := axisB_range hX (k := T.X.length - 1) (by omega)
  unfold lkE liesB at hl
  simp only [Bool.and_eq_true, decide_eq_true_eq] at hl
  unfold vspan inB
  simp only [Bool.and_eq_true, decide_eq_true_eq]; omega
theorem ratE_ok {S : Tabs} {cl bu wl wh tl th el eh nl nh n : Int} (h : ratE S cl bu wl wh tl th el eh nl nh n = 0) : rotB S cl bu = true ∧ Fits S.p tl th el eh ∧ Fits S.l n n wl wh := by
  obtain ⟨h1, h2, h3, h4⟩ := chkE_zero h
  unfold airB at h2; simp only [Bool.and_eq_true] at h2
  simp only [Bool.or_eq_false_iff, Bool.not_eq_false'] at h4
  exact ⟨h1, Fits.mk' (rotB_p h1) h2.1.1.2 h2.1.2 h4.1, Fits.mk' (rotB_l h1) (lkE_span (rotB_l h1) h4.2) h2.1.1.1 h4.2⟩
def ratR (S : Tabs) (cl bu : Int) (wl wh tl th el eh nl nh : Int) (n : Int) : Int := okN (ratE S cl bu wl wh tl th el eh nl nh n) (ratV S wl wh tl th el eh cl n)

theorem rate_d (hx hy hv gx gy gv lx ly lv px py pv nx ny nv ax ay av cx cy cv dx dy dv : Value) (cl bu wl wh tl th el eh nl nh : Int) (n : Int) (S : Tabs) (w : World) (hR : RotAt w hx hy hv gx gy gv lx ly lv px py pv nx ny nv ax ay av cx cy cv dx dy dv cl bu S) (hr : rotB S cl bu = true) (hP : Fits S.p tl th el eh) (hL : Fits S.l n n wl wh) :
   Calls Tryz.prog 23 #[.agg #[hx, hy, hv, gx, gy, gv, lx, ly, lv, px, py, pv, nx, ny, nv, ax, ay, av, cx, cy, cv, dx, dy, dv, .int .i64 cl, .int .i64 bu, .int .i64 wl, .int .i64 wh, .int .i64 tl, .int .i64 th, .int .i64 el, .int .i64 eh, .int .i64 nl, .int .i64 nh], .int .i64 n] w fun e w' => e = .returned (.int .i64 (ratV S wl wh tl th el eh cl n)) ∧ Below w.heap.size w w' := by
  have l1 := bnd_lim (rotB_p hr) hP
  have l2 := bnd_lim (rotB_l hr) hL
  have e1 := bnd_eq hP
  have e2 := bnd_eq hL
  have := rate_c hx hy hv gx gy gv lx ly lv px py pv nx ny nv ax ay av cx cy cv dx dy dv cl bu wl wh tl th el eh nl nh n S w hR hP hL (inB_iff.2 (rotB_cl hr)) (by omega) (by omega)
  unfold rateV at this
  rw [e1.1, e2.2] at this
  exact this

theorem Rate_c (hx hy hv gx gy gv lx ly lv px py pv nx ny nv ax ay av cx cy cv dx dy dv : Value) (cl bu : Int) (wl wh tl th el eh nl nh : Int) (S : Tabs) (n : Int) (w : World) (hR : RotAt w hx hy hv gx gy gv lx ly lv px py pv nx ny nv ax ay av cx cy cv dx dy dv cl bu S) :
   Calls Tryz.prog 12 #[.agg #[hx, hy, hv, gx, gy, gv, lx, ly, lv, px, py, pv, nx, ny, nv, ax, ay, av, cx, cy, cv, dx, dy, dv, .int .i64 cl, .int .i64 bu], .agg #[.int .i64 wl, .int .i64 wh, .int .i64 tl, .int .i64 th, .int .i64 el, .int .i64 eh, .int .i64 nl, .int .i64 nh], .int .i64 n] w fun e w' => e = .returned (.tuple #[.int .i64 (ratR S cl bu wl wh tl th el eh nl nh n), .int .i64 (ratE S cl bu wl wh tl th el eh nl nh n)]) ∧ Below w.heap.size w w' := by
  have HR := Lib.hid hR
  have hc := fun w1 hR hT => check_c hx hy hv gx gy gv lx ly lv px py pv nx ny nv ax ay av cx cy cv dx dy dv cl bu wl wh tl th el eh nl nh S none 0 0 (fun _ => 0) (fun _ => 0) 32 #[.pointer (some ⟨w.heap.size + 1 + 1 + 1, 0, none⟩), .pointer (some ⟨w.heap.size + 1 + 1, 0, none⟩)] 2 (look2 ⟨S.p, tl, th, el, eh⟩ ⟨S.l, n, n, wl, wh⟩) w1 hR (by omega) (fun h => absurd h (by omega)) (enters_of Tryz.func32 (by kernel_rfl) rfl) hT
  rw [show chkE (rotB S cl bu) (airB wl wh tl th el eh nl nh) (anyBad 0 (fun _ => 0) (fun _ => 0)) (offL 2 (look2 ⟨S.p, tl, th, el, eh⟩ ⟨S.l, n, n, wl, wh⟩)) = ratE S cl bu wl wh tl th el eh nl nh n by rw [offL2]; rfl] at hc
  have HC := Lib.hid hc
  clear hc hR
  unfold ratR
  by_cases h : ratE S cl bu wl wh tl th el eh nl nh n = 0
  · obtain ⟨hr, hP, hL⟩ := ratE_ok h
    have F := Lib.hid (fun w1 hR => rate_d hx hy hv gx gy gv lx ly lv px py pv nx ny nv ax ay av cx cy cv dx dy dv cl bu wl wh tl th el eh nl nh n S w1 hR hr hP hL)
    rw [h] at HC ⊢
    rw [okN_ok]
    clear h hP hL hr
    generalize ratV S wl wh tl th el eh cl n = p0 at *
    go_enter Tryz.func12, Tryz.ntmps12
    go_wp2_with (first | (refine wpl_row rfl 27 _ rfl _ rfl #[hx, hy, hv, gx, gy, gv, lx, ly, lv, px, py, pv, nx, ny, nv, ax, ay, av, cx, cy, cv, dx, dy, dv, .int .i64 cl, .int .i64 bu] 26 ?_ Tryz.rowRot rfl ?_; (focus exact (by repeat (first | (refine Blk.newAt _ _ _ ?_; first | rfl | (simp; done)) | refine Blk.alloc ?_ _))); simp only [Act.put]) | (refine wpl_row rfl 31 _ rfl _ rfl #[.int .i64 wl, .int .i64 wh, .int .i64 tl, .int .i64 th, .int .i64 el, .int .i64 eh, .int .i64 nl, .int .i64 nh] 8 ?_ Tryz.rowAir rfl ?_; (focus exact (by repeat (first | (refine Blk.newAt _ _ _ ?_; first | rfl | (simp; done)) | refine Blk.alloc ?_ _))); simp only [Act.put]) | (refine wpl_store_new rfl 51 _ _ rfl #[hx, hy, hv, gx, gy, gv, lx, ly, lv, px, py, pv, nx, ny, nv, ax, ay, av, cx, cy, cv, dx, dy, dv, .int .i64 cl, .int .i64 bu, .int .i64 wl, .int .i64 wh, .int .i64 tl, .int .i64 th, .int .i64 el, .int .i64 eh, .int .i64 nl, .int .i64 nh] _ _ rfl ?_ rfl Tryz.sizeMach rfl (RotAt.one HR.out wl wh tl th el eh nl nh) ?_; (focus (simp; done)); simp only [Act.put]) | (refine wpl_row rfl 51 (.tmp 8) rfl _ rfl _ 34 M1.out Tryz.rowMach rfl ?_; simp only [Act.put]) | (go_at_call 31; refine (HC.out _ (HR.out.below (by repeat' (first | exact Below.refl _ _ | assumption | refine Below.drew ?_ | refine bdn ?_ _ | refine bal ?_ _ | refine Below.setCell ?_ (by first | (simp; done) | omega | (simp; omega)) _))) (fun hr W hW => rateT_c _ _ _ _ _ _ _ _ _ _ _ _ _ _ _ _ _ _ _ _ _ _ _ _ _ _ _ _ _ _ _ _ _ _ S _ _ _ w W HR.out (bthen (by repeat' (first | exact Below.refl _ _ | assumption | refine Below.drew ?_ | refine bdn ?_ _ | refine bal ?_ _ | refine Below.setCell ?_ (by first | (simp; done) | omega | (simp; omega)) _)) hW) (Blk.below (by repeat (first | (refine Blk.newAt _ _ _ ?_; first | rfl | (simp; done)) | refine Blk.alloc ?_ _)) hW) ((Blk.below (show Blk _ (w.heap.size + 1 + 1) 3 #[.int .i64 n] from (by repeat (first | (refine Blk.newAt _ _ _ ?_; first | rfl | (simp; done)) | refine Blk.alloc ?_ _))) hW).cell 0) (rotB_p hr) (rotB_l hr))).mono ?_; rintro e w1 ⟨rfl, hb1⟩; have hB1 := bthen (show Below w.heap.size w _ from (by repeat' (first | exact Below.refl _ _ | assumption | refine Below.drew ?_ | refine bdn ?_ _ | refine bal ?_ _ | refine Below.setCell ?_ (by first | (simp; done) | omega | (simp; omega)) _))) hb1; have M1 := Lib.hid (show Blk w1 (w.heap.size + 1 + 1 + 1) 51 #[hx, hy, hv, gx, gy, gv, lx, ly, lv, px, py, pv, nx, ny, nv, ax, ay, av, cx, cy, cv, dx, dy, dv, .int .i64 cl, .int .i64 bu, .int .i64 wl, .int .i64 wh, .int .i64 tl, .int .i64 th, .int .i64 el, .int .i64 eh, .int .i64 nl, .int .i64 nh] from Blk.below (by repeat (first | (refine Blk.newAt _ _ _ ?_; first | rfl | (simp; done)) | refine Blk.alloc ?_ _)) hb1); have D1 := (show Blk w1 (w.heap.size + 1 + 1) 3 #[.int .i64 n] from Blk.below (by repeat (first | (refine Blk.newAt _ _ _ ?_; first | rfl | (simp; done)) | refine Blk.alloc ?_ _)) hb1); have s0 := D1.cell 0; clear D1; have hz1 := hb1.size; (try simp at hz1); clear hb1) | (go_at_call 23; refine (F.out _ (HR.out.below hB1)).mono ?_; rintro e w3 ⟨rfl, hb3⟩; have hB := (bthen hB1 hb3)))
    go_ret2
    exact ⟨rfl, hB⟩
  · have hne : (ratE S cl bu wl wh tl th el eh nl nh n != 0) = true := by simpa using h
    rw [okN_no h]
    generalize ratE S cl bu wl wh tl th el eh nl nh n = E at *
    clear h
    go_enter Tryz.func12, Tryz.ntmps12
    go_wp2_with (first | (refine wpl_row rfl 27 _ rfl _ rfl #[hx, hy, hv, gx, gy, gv, lx, ly, lv, px, py, pv, nx, ny, nv, ax, ay, av, cx, cy, cv, dx, dy, dv, .int .i64 cl, .int .i64 bu] 26 ?_ Tryz.rowRot rfl ?_; (focus exact (by repeat (first | (refine Blk.newAt _ _ _ ?_; first | rfl | (simp; done)) | refine Blk.alloc ?_ _))); simp only [Act.put]) | (refine wpl_row rfl 31 _ rfl _ rfl #[.int .i64 wl, .int .i64 wh, .int .i64 tl, .int .i64 th, .int .i64 el, .int .i64 eh, .int .i64 nl, .int .i64 nh] 8 ?_ Tryz.rowAir rfl ?_; (focus exact (by repeat (first | (refine Blk.newAt _ _ _ ?_; first | rfl | (simp; done)) | refine Blk.alloc ?_ _))); simp only [Act.put]) | (refine wpl_store_new rfl 51 _ _ rfl #[hx, hy, hv, gx, gy, gv, lx, ly, lv, px, py, pv, nx, ny, nv, ax, ay, av, cx, cy, cv, dx, dy, dv, .int .i64 cl, .int .i64 bu, .int .i64 wl, .int .i64 wh, .int .i64 tl, .int .i64 th, .int .i64 el, .int .i64 eh, .int .i64 nl, .int .i64 nh] _ _ rfl ?_ rfl Tryz.sizeMach rfl (RotAt.one HR.out wl wh tl th el eh nl nh) ?_; (focus (simp; done)); simp only [Act.put]) | (go_at_call 31; refine (HC.out _ (HR.out.below (by repeat' (first | exact Below.refl _ _ | assumption | refine Below.drew ?_ | refine bdn ?_ _ | refine bal ?_ _ | refine Below.setCell ?_ (by first | (simp; done) | omega | (simp; omega)) _))) (fun hr W hW => rateT_c _ _ _ _ _ _ _ _ _ _ _ _ _ _ _ _ _ _ _ _ _ _ _ _ _ _ _ _ _ _ _ _ _ _ S _ _ _ w W HR.out (bthen (by repeat' (first | exact Below.refl _ _ | assumption | refine Below.drew ?_ | refine bdn ?_ _ | refine bal ?_ _ | refine Below.setCell ?_ (by first | (simp; done) | omega | (simp; omega)) _)) hW) (Blk.below (by repeat (first | (refine Blk.newAt _ _ _ ?_; first | rfl | (simp; done)) | refine Blk.alloc ?_ _)) hW) ((Blk.below (show Blk _ (w.heap.size + 1 + 1) 3 #[.int .i64 n] from (by repeat (first | (refine Blk.newAt _ _ _ ?_; first | rfl | (simp; done)) | refine Blk.alloc ?_ _))) hW).cell 0) (rotB_p hr) (rotB_l hr))).mono ?_; rintro e w1 ⟨rfl, hb1⟩; have hB1 := bthen (show Below w.heap.size w _ from (by repeat' (first | exact Below.refl _ _ | assumption | refine Below.drew ?_ | refine bdn ?_ _ | refine bal ?_ _ | refine Below.setCell ?_ (by first | (simp; done) | omega | (simp; omega)) _))) hb1))
    go_ret2
    exact ⟨rfl, hB1⟩
end Go.Proofs.YtechkkgmdjgddaaGreat
