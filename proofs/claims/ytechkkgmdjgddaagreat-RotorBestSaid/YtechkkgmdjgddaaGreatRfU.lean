/- Contracts: checkSpeeds, Best, Fast of the reference of rotors. -/
import Derived.Test.YtechkkgmdjgddaaGreatRfP
import Derived.Test.YtechkkgmdjgddaaGreatRoX
set_option linter.all false
namespace Go.Proofs.YtechkkgmdjgddaaGreat
open Go Go.RowKit Go.Proofs
set_option maxRecDepth 100000
set_option maxHeartbeats 4000000

theorem besE_pass {S : Tabs} {cl bu wl wh tl th el eh nl nh : Int} (h : airE S cl bu wl wh tl th el eh nl nh ≠ 0) : besE S cl bu wl wh tl th el eh nl nh = airE S cl bu wl wh tl th el eh nl nh := airE_pass _ _ h
theorem besE_then {S : Tabs} {cl bu wl wh tl th el eh nl nh : Int} (h : airE S cl bu wl wh tl th el eh nl nh = 0) : besE S cl bu wl wh tl th el eh nl nh = if (!lkE S.p tl th el eh || !liesB S.l.Y wl wh) = true then 1 else 0 := by
  unfold besE ratE
  rw [airE_then _ _ h]
  obtain ⟨hr, -⟩ := airE_zero h
  have sb := speed_bd hr
  have hx : liesB S.l.X (nth S.l.X 0) (nth S.l.X 0) = true := by
    unfold liesB
    simp only [Bool.and_eq_true, decide_eq_true_eq]
    exact ⟨Int.le_refl _, sb.2.1⟩
  rw [show lkE S.l (nth S.l.X 0) (nth S.l.X 0) wl wh = liesB S.l.Y wl wh by unfold lkE; rw [hx]; rfl, Bool.false_or]
theorem fasE_pass {S : Tabs} {cl bu wl wh tl th el eh nl nh : Int} (h : besE S cl bu wl wh tl th el eh nl nh ≠ 0) : fasE S cl bu wl wh tl th el eh nl nh = besE S cl bu wl wh tl th el eh nl nh := by
  unfold fasE besE ratE at *
  unfold chkE at *
  generalize rotB S cl bu = r at *
  generalize airB wl wh tl th el eh nl nh = a at *
  generalize lkE S.n wl wh tl th = n at *
  generalize lkE S.p tl th el eh = p at *
  generalize lkE S.l (nth S.l.X 0) (nth S.l.X 0) wl wh = l at *
  cases r <;> cases a <;> cases n <;> cases p <;> cases l <;> simp_all
theorem fasE_then {S : Tabs} {cl bu wl wh tl th el eh nl nh : Int} (h : besE S cl bu wl wh tl th el eh nl nh = 0) : fasE S cl bu wl wh tl th el eh nl nh = if lkE S.n wl wh tl th = true then 0 else 1 := by
  obtain ⟨h1, h2, h3, h4⟩ := chkE_zero h
  unfold fasE
  rw [h1, h2, h4]
  cases lkE S.n wl wh tl th <;> rfl

theorem Fits.lk' {T : Tbl} {xl xh yl yh : Int} (h : Fits T xl xh yl yh) : lkE T xl xh yl yh = true := by unfold lkE; rw [h.lx, h.ly]; rfl

theorem rf2_checkSpeeds_c (hx hy hv gx gy gv lx ly lv px py pv nx ny nv ax ay av cx cy cv dx dy dv : Value) (cl bu : Int) (wl wh tl th el eh nl nh : Int) (S : Tabs) (w : World) (hR : RotAt w hx hy hv gx gy gv lx ly lv px py pv nx ny nv ax ay av cx cy cv dx dy dv cl bu S) :
   Calls Tryz.prog 24 #[.agg #[hx, hy, hv, gx, gy, gv, lx, ly, lv, px, py, pv, nx, ny, nv, ax, ay, av, cx, cy, cv, dx, dy, dv, .int .i64 cl, .int .i64 bu], .agg #[.int .i64 wl, .int .i64 wh, .int .i64 tl, .int .i64 th, .int .i64 el, .int .i64 eh, .int .i64 nl, .int .i64 nh]] w fun e w' => e = .returned (.int .i64 (besE S cl bu wl wh tl th el eh nl nh)) ∧ Below w.heap.size w w' := by
  have HR := Lib.hid hR
  have hc := fun w1 hR => rf2_CheckAir_c hx hy hv gx gy gv lx ly lv px py pv nx ny nv ax ay av cx cy cv dx dy dv cl bu wl wh tl th el eh nl nh S w1 hR
  clear hR
  by_cases hE : airE S cl bu wl wh tl th el eh nl nh = 0
  case neg =>
    have hne : (airE S cl bu wl wh tl th el eh nl nh != 0) = true := by simpa using hE
    rw [besE_pass hE]
    have HC := Lib.hid hc
    have H1 := trivial
    have H2 := trivial
    generalize airE S cl bu wl wh tl th el eh nl nh = E at *
    clear hE hc
    go_enter Tryz.func24, Tryz.ntmps24
    go_wp2_with (first | (refine wpl_row rfl 27 _ rfl _ rfl #[hx, hy, hv, gx, gy, gv, lx, ly, lv, px, py, pv, nx, ny, nv, ax, ay, av, cx, cy, cv, dx, dy, dv, .int .i64 cl, .int .i64 bu] 26 ?_ Tryz.rowRot rfl ?_; (focus exact (by repeat (first | (refine Blk.newAt _ _ _ ?_; first | rfl | (simp; done)) | refine Blk.alloc ?_ _))); simp only [Act.put]) | (refine wpl_row rfl 31 _ rfl _ rfl #[.int .i64 wl, .int .i64 wh, .int .i64 tl, .int .i64 th, .int .i64 el, .int .i64 eh, .int .i64 nl, .int .i64 nh] 8 ?_ Tryz.rowAir rfl ?_; (focus exact (by repeat (first | (refine Blk.newAt _ _ _ ?_; first | rfl | (simp; done)) | refine Blk.alloc ?_ _))); simp only [Act.put]))
    have bHM : Blk ((w.alloc (.cells #[hx, hy, hv, gx, gy, gv, lx, ly, lv, px, py, pv, nx, ny, nv, ax, ay, av, cx, cy, cv, dx, dy, dv, .int .i64 cl, .int .i64 bu] 27)).alloc (.cells #[.int .i64 wl, .int .i64 wh, .int .i64 tl, .int .i64 th, .int .i64 el, .int .i64 eh, .int .i64 nl, .int .i64 nh] 31)) (w.heap.size) 27 #[hx, hy, hv, gx, gy, gv, lx, ly, lv, px, py, pv, nx, ny, nv, ax, ay, av, cx, cy, cv, dx, dy, dv, .int .i64 cl, .int .i64 bu] := (by repeat (first | (refine Blk.newAt _ _ _ ?_; first | rfl | (simp; done)) | refine Blk.alloc ?_ _))
    have bHA : Blk ((w.alloc (.cells #[hx, hy, hv, gx, gy, gv, lx, ly, lv, px, py, pv, nx, ny, nv, ax, ay, av, cx, cy, cv, dx, dy, dv, .int .i64 cl, .int .i64 bu] 27)).alloc (.cells #[.int .i64 wl, .int .i64 wh, .int .i64 tl, .int .i64 th, .int .i64 el, .int .i64 eh, .int .i64 nl, .int .i64 nh] 31)) (w.heap.size + 1) 31 #[.int .i64 wl, .int .i64 wh, .int .i64 tl, .int .i64 th, .int .i64 el, .int .i64 eh, .int .i64 nl, .int .i64 nh] := (by repeat (first | (refine Blk.newAt _ _ _ ?_; first | rfl | (simp; done)) | refine Blk.alloc ?_ _))
    have bHB : Below w.heap.size w ((w.alloc (.cells #[hx, hy, hv, gx, gy, gv, lx, ly, lv, px, py, pv, nx, ny, nv, ax, ay, av, cx, cy, cv, dx, dy, dv, .int .i64 cl, .int .i64 bu] 27)).alloc (.cells #[.int .i64 wl, .int .i64 wh, .int .i64 tl, .int .i64 th, .int .i64 el, .int .i64 eh, .int .i64 nl, .int .i64 nh] 31)) := (by repeat' (first | exact Below.refl _ _ | assumption | refine Below.drew ?_ | refine bdn ?_ _ | refine bal ?_ _ | refine Below.setCell ?_ (by first | (simp; done) | omega | (simp; omega)) _))
    generalize ((w.alloc (.cells #[hx, hy, hv, gx, gy, gv, lx, ly, lv, px, py, pv, nx, ny, nv, ax, ay, av, cx, cy, cv, dx, dy, dv, .int .i64 cl, .int .i64 bu] 27)).alloc (.cells #[.int .i64 wl, .int .i64 wh, .int .i64 tl, .int .i64 th, .int .i64 el, .int .i64 eh, .int .i64 nl, .int .i64 nh] 31)) = W at *
    have zW := bHA.lt
    have HM := Lib.hid bHM
    have HA := Lib.hid bHA
    have HB := Lib.hid bHB
    clear bHM bHA bHB
    go_wp2_with (first | (go_at_call 48; (with_reducible refine (HC.out _ (HR.out.below HB.out)).mono ?_); rintro e w1 ⟨rfl, hb1⟩; have nHM := Lib.hid (HM.out.below hb1); have nHA := Lib.hid (HA.out.below hb1); have nHB := Lib.hid (bthen HB.out hb1); have zz1 := hb1.size; clear HM HA HB hb1; have HM := nHM; have HA := nHA; have HB := nHB; clear nHM nHA nHB; (try clear zHM); have zHM := HM.out.lt; (try clear cHM7); have cHM7 := HM.out.cell 7; (try clear cHM9); have cHM9 := HM.out.cell 9; (try clear cHM10); have cHM10 := HM.out.cell 10; (try clear cHM11); have cHM11 := HM.out.cell 11; (try clear zHA); have zHA := HA.out.lt; (try clear cHA0); have cHA0 := HA.out.cell 0; (try clear cHA1); have cHA1 := HA.out.cell 1; (try clear cHA2); have cHA2 := HA.out.cell 2; (try clear cHA3); have cHA3 := HA.out.cell 3; (try clear cHA4); have cHA4 := HA.out.cell 4; (try clear cHA5); have cHA5 := HA.out.cell 5) | (go_at_call 29; (with_reducible refine (H1.out _ (HR.out.p.below HB.out)).mono ?_); rintro e w1 ⟨rfl, hb1⟩; have nHM := Lib.hid (HM.out.below hb1); have nHA := Lib.hid (HA.out.below hb1); have nHB := Lib.hid (bthen HB.out hb1); have zz1 := hb1.size; clear HM HA HB hb1; have HM := nHM; have HA := nHA; have HB := nHB; clear nHM nHA nHB; (try clear zHM); have zHM := HM.out.lt; (try clear cHM7); have cHM7 := HM.out.cell 7; (try clear zHA); have zHA := HA.out.lt; (try clear cHA0); have cHA0 := HA.out.cell 0; (try clear cHA1); have cHA1 := HA.out.cell 1) | ((with_reducible refine (H2.out _ (HR.out.l.y.below HB.out)).mono ?_); rintro e w1 ⟨rfl, hb1⟩; have nHM := Lib.hid (HM.out.below hb1); have nHA := Lib.hid (HA.out.below hb1); have nHB := Lib.hid (bthen HB.out hb1); have zz1 := hb1.size; clear HM HA HB hb1; have HM := nHM; have HA := nHA; have HB := nHB; clear nHM nHA nHB))
    go_ret
    exact ⟨rfl, HB.out⟩
  rw [besE_then hE]
  rw [hE] at hc
  have HC := Lib.hid hc
  obtain ⟨hr, v1, v2, v3, v4⟩ := airE_zero hE
  have hp := lkE_pos (rotB_p hr)
  have hl := lkE_pos (rotB_l hr)
  have h1 := fun w1 hT => rf2_lies_c px py pv S.p tl th el eh w1 hT hp.1 hp.2
  have h2 := fun w1 hv => rf_Between_c ly S.l.Y wl wh w1 hv hl.2
  rw [lieB_right v3, v2, Bool.true_and] at h1
  clear hE hc hr v1 v2 v3 v4 hp hl
  cases b1 : lkE S.p tl th el eh
  · rw [b1] at h1
    have H1 := Lib.hid h1
    have H2 := trivial
    clear h1 h2
    rw [if_pos (by rfl)]
    go_enter Tryz.func24, Tryz.ntmps24
    go_wp2_with (first | (refine wpl_row rfl 27 _ rfl _ rfl #[hx, hy, hv, gx, gy, gv, lx, ly, lv, px, py, pv, nx, ny, nv, ax, ay, av, cx, cy, cv, dx, dy, dv, .int .i64 cl, .int .i64 bu] 26 ?_ Tryz.rowRot rfl ?_; (focus exact (by repeat (first | (refine Blk.newAt _ _ _ ?_; first | rfl | (simp; done)) | refine Blk.alloc ?_ _))); simp only [Act.put]) | (refine wpl_row rfl 31 _ rfl _ rfl #[.int .i64 wl, .int .i64 wh, .int .i64 tl, .int .i64 th, .int .i64 el, .int .i64 eh, .int .i64 nl, .int .i64 nh] 8 ?_ Tryz.rowAir rfl ?_; (focus exact (by repeat (first | (refine Blk.newAt _ _ _ ?_; first | rfl | (simp; done)) | refine Blk.alloc ?_ _))); simp only [Act.put]))
    have bHM : Blk ((w.alloc (.cells #[hx, hy, hv, gx, gy, gv, lx, ly, lv, px, py, pv, nx, ny, nv, ax, ay, av, cx, cy, cv, dx, dy, dv, .int .i64 cl, .int .i64 bu] 27)).alloc (.cells #[.int .i64 wl, .int .i64 wh, .int .i64 tl, .int .i64 th, .int .i64 el, .int .i64 eh, .int .i64 nl, .int .i64 nh] 31)) (w.heap.size) 27 #[hx, hy, hv, gx, gy, gv, lx, ly, lv, px, py, pv, nx, ny, nv, ax, ay, av, cx, cy, cv, dx, dy, dv, .int .i64 cl, .int .i64 bu] := (by repeat (first | (refine Blk.newAt _ _ _ ?_; first | rfl | (simp; done)) | refine Blk.alloc ?_ _))
    have bHA : Blk ((w.alloc (.cells #[hx, hy, hv, gx, gy, gv, lx, ly, lv, px, py, pv, nx, ny, nv, ax, ay, av, cx, cy, cv, dx, dy, dv, .int .i64 cl, .int .i64 bu] 27)).alloc (.cells #[.int .i64 wl, .int .i64 wh, .int .i64 tl, .int .i64 th, .int .i64 el, .int .i64 eh, .int .i64 nl, .int .i64 nh] 31)) (w.heap.size + 1) 31 #[.int .i64 wl, .int .i64 wh, .int .i64 tl, .int .i64 th, .int .i64 el, .int .i64 eh, .int .i64 nl, .int .i64 nh] := (by repeat (first | (refine Blk.newAt _ _ _ ?_; first | rfl | (simp; done)) | refine Blk.alloc ?_ _))
    have bHB : Below w.heap.size w ((w.alloc (.cells #[hx, hy, hv, gx, gy, gv, lx, ly, lv, px, py, pv, nx, ny, nv, ax, ay, av, cx, cy, cv, dx, dy, dv, .int .i64 cl, .int .i64 bu] 27)).alloc (.cells #[.int .i64 wl, .int .i64 wh, .int .i64 tl, .int .i64 th, .int .i64 el, .int .i64 eh, .int .i64 nl, .int .i64 nh] 31)) := (by repeat' (first | exact Below.refl _ _ | assumption | refine Below.drew ?_ | refine bdn ?_ _ | refine bal ?_ _ | refine Below.setCell ?_ (by first | (simp; done) | omega | (simp; omega)) _))
    generalize ((w.alloc (.cells #[hx, hy, hv, gx, gy, gv, lx, ly, lv, px, py, pv, nx, ny, nv, ax, ay, av, cx, cy, cv, dx, dy, dv, .int .i64 cl, .int .i64 bu] 27)).alloc (.cells #[.int .i64 wl, .int .i64 wh, .int .i64 tl, .int .i64 th, .int .i64 el, .int .i64 eh, .int .i64 nl, .int .i64 nh] 31)) = W at *
    have zW := bHA.lt
    have HM := Lib.hid bHM
    have HA := Lib.hid bHA
    have HB := Lib.hid bHB
    clear bHM bHA bHB
    go_wp2_with (first | (go_at_call 48; (with_reducible refine (HC.out _ (HR.out.below HB.out)).mono ?_); rintro e w1 ⟨rfl, hb1⟩; have nHM := Lib.hid (HM.out.below hb1); have nHA := Lib.hid (HA.out.below hb1); have nHB := Lib.hid (bthen HB.out hb1); have zz1 := hb1.size; clear HM HA HB hb1; have HM := nHM; have HA := nHA; have HB := nHB; clear nHM nHA nHB; (try clear zHM); have zHM := HM.out.lt; (try clear cHM7); have cHM7 := HM.out.cell 7; (try clear cHM9); have cHM9 := HM.out.cell 9; (try clear cHM10); have cHM10 := HM.out.cell 10; (try clear cHM11); have cHM11 := HM.out.cell 11; (try clear zHA); have zHA := HA.out.lt; (try clear cHA0); have cHA0 := HA.out.cell 0; (try clear cHA1); have cHA1 := HA.out.cell 1; (try clear cHA2); have cHA2 := HA.out.cell 2; (try clear cHA3); have cHA3 := HA.out.cell 3; (try clear cHA4); have cHA4 := HA.out.cell 4; (try clear cHA5); have cHA5 := HA.out.cell 5) | (go_at_call 29; (with_reducible refine (H1.out _ (HR.out.p.below HB.out)).mono ?_); rintro e w1 ⟨rfl, hb1⟩; have nHM := Lib.hid (HM.out.below hb1); have nHA := Lib.hid (HA.out.below hb1); have nHB := Lib.hid (bthen HB.out hb1); have zz1 := hb1.size; clear HM HA HB hb1; have HM := nHM; have HA := nHA; have HB := nHB; clear nHM nHA nHB; (try clear zHM); have zHM := HM.out.lt; (try clear cHM7); have cHM7 := HM.out.cell 7; (try clear zHA); have zHA := HA.out.lt; (try clear cHA0); have cHA0 := HA.out.cell 0; (try clear cHA1); have cHA1 := HA.out.cell 1) | ((with_reducible refine (H2.out _ (HR.out.l.y.below HB.out)).mono ?_); rintro e w1 ⟨rfl, hb1⟩; have nHM := Lib.hid (HM.out.below hb1); have nHA := Lib.hid (HA.out.below hb1); have nHB := Lib.hid (bthen HB.out hb1); have zz1 := hb1.size; clear HM HA HB hb1; have HM := nHM; have HA := nHA; have HB := nHB; clear nHM nHA nHB))
    go_ret
    exact ⟨rfl, HB.out⟩
  · rw [b1] at h1
    have H1 := Lib.hid h1
    cases b2 : liesB S.l.Y wl wh
    · rw [b2] at h2
      have H2 := Lib.hid h2
      clear h1 h2
      rw [if_pos (by rfl)]
      go_enter Tryz.func24, Tryz.ntmps24
      go_wp2_with (first | (refine wpl_row rfl 27 _ rfl _ rfl #[hx, hy, hv, gx, gy, gv, lx, ly, lv, px, py, pv, nx, ny, nv, ax, ay, av, cx, cy, cv, dx, dy, dv, .int .i64 cl, .int .i64 bu] 26 ?_ Tryz.rowRot rfl ?_; (focus exact (by repeat (first | (refine Blk.newAt _ _ _ ?_; first | rfl | (simp; done)) | refine Blk.alloc ?_ _))); simp only [Act.put]) | (refine wpl_row rfl 31 _ rfl _ rfl #[.int .i64 wl, .int .i64 wh, .int .i64 tl, .int .i64 th, .int .i64 el, .int .i64 eh, .int .i64 nl, .int .i64 nh] 8 ?_ Tryz.rowAir rfl ?_; (focus exact (by repeat (first | (refine Blk.newAt _ _ _ ?_; first | rfl | (simp; done)) | refine Blk.alloc ?_ _))); simp only [Act.put]))
      have bHM : Blk ((w.alloc (.cells #[hx, hy, hv, gx, gy, gv, lx, ly, lv, px, py, pv, nx, ny, nv, ax, ay, av, cx, cy, cv, dx, dy, dv, .int .i64 cl, .int .i64 bu] 27)).alloc (.cells #[.int .i64 wl, .int .i64 wh, .int .i64 tl, .int .i64 th, .int .i64 el, .int .i64 eh, .int .i64 nl, .int .i64 nh] 31)) (w.heap.size) 27 #[hx, hy, hv, gx, gy, gv, lx, ly, lv, px, py, pv, nx, ny, nv, ax, ay, av, cx, cy, cv, dx, dy, dv, .int .i64 cl, .int .i64 bu] := (by repeat (first | (refine Blk.newAt _ _ _ ?_; first | rfl | (simp; done)) | refine Blk.alloc ?_ _))
      have bHA : Blk ((w.alloc (.cells #[hx, hy, hv, gx, gy, gv, lx, ly, lv, px, py, pv, nx, ny, nv, ax, ay, av, cx, cy, cv, dx, dy, dv, .int .i64 cl, .int .i64 bu] 27)).alloc (.cells #[.int .i64 wl, .int .i64 wh, .int .i64 tl, .int .i64 th, .int .i64 el, .int .i64 eh, .int .i64 nl, .int .i64 nh] 31)) (w.heap.size + 1) 31 #[.int .i64 wl, .int .i64 wh, .int .i64 tl, .int .i64 th, .int .i64 el, .int .i64 eh, .int .i64 nl, .int .i64 nh] := (by repeat (first | (refine Blk.newAt _ _ _ ?_; first | rfl | (simp; done)) | refine Blk.alloc ?_ _))
      have bHB : Below w.heap.size w ((w.alloc (.cells #[hx, hy, hv, gx, gy, gv, lx, ly, lv, px, py, pv, nx, ny, nv, ax, ay, av, cx, cy, cv, dx, dy, dv, .int .i64 cl, .int .i64 bu] 27)).alloc (.cells #[.int .i64 wl, .int .i64 wh, .int .i64 tl, .int .i64 th, .int .i64 el, .int .i64 eh, .int .i64 nl, .int .i64 nh] 31)) := (by repeat' (first | exact Below.refl _ _ | assumption | refine Below.drew ?_ | refine bdn ?_ _ | refine bal ?_ _ | refine Below.setCell ?_ (by first | (simp; done) | omega | (simp; omega)) _))
      generalize ((w.alloc (.cells #[hx, hy, hv, gx, gy, gv, lx, ly, lv, px, py, pv, nx, ny, nv, ax, ay, av, cx, cy, cv, dx, dy, dv, .int .i64 cl, .int .i64 bu] 27)).alloc (.cells #[.int .i64 wl, .int .i64 wh, .int .i64 tl, .int .i64 th, .int .i64 el, .int .i64 eh, .int .i64 nl, .int .i64 nh] 31)) = W at *
      have zW := bHA.lt
      have HM := Lib.hid bHM
      have HA := Lib.hid bHA
      have HB := Lib.hid bHB
      clear bHM bHA bHB
      go_wp2_with (first | (go_at_call 48; (with_reducible refine (HC.out _ (HR.out.below HB.out)).mono ?_); rintro e w1 ⟨rfl, hb1⟩; have nHM := Lib.hid (HM.out.below hb1); have nHA := Lib.hid (HA.out.below hb1); have nHB := Lib.hid (bthen HB.out hb1); have zz1 := hb1.size; clear HM HA HB hb1; have HM := nHM; have HA := nHA; have HB := nHB; clear nHM nHA nHB; (try clear zHM); have zHM := HM.out.lt; (try clear cHM7); have cHM7 := HM.out.cell 7; (try clear cHM9); have cHM9 := HM.out.cell 9; (try clear cHM10); have cHM10 := HM.out.cell 10; (try clear cHM11); have cHM11 := HM.out.cell 11; (try clear zHA); have zHA := HA.out.lt; (try clear cHA0); have cHA0 := HA.out.cell 0; (try clear cHA1); have cHA1 := HA.out.cell 1; (try clear cHA2); have cHA2 := HA.out.cell 2; (try clear cHA3); have cHA3 := HA.out.cell 3; (try clear cHA4); have cHA4 := HA.out.cell 4; (try clear cHA5); have cHA5 := HA.out.cell 5) | (go_at_call 29; (with_reducible refine (H1.out _ (HR.out.p.below HB.out)).mono ?_); rintro e w1 ⟨rfl, hb1⟩; have nHM := Lib.hid (HM.out.below hb1); have nHA := Lib.hid (HA.out.below hb1); have nHB := Lib.hid (bthen HB.out hb1); have zz1 := hb1.size; clear HM HA HB hb1; have HM := nHM; have HA := nHA; have HB := nHB; clear nHM nHA nHB; (try clear zHM); have zHM := HM.out.lt; (try clear cHM7); have cHM7 := HM.out.cell 7; (try clear zHA); have zHA := HA.out.lt; (try clear cHA0); have cHA0 := HA.out.cell 0; (try clear cHA1); have cHA1 := HA.out.cell 1) | ((with_reducible refine (H2.out _ (HR.out.l.y.below HB.out)).mono ?_); rintro e w1 ⟨rfl, hb1⟩; have nHM := Lib.hid (HM.out.below hb1); have nHA := Lib.hid (HA.out.below hb1); have nHB := Lib.hid (bthen HB.out hb1); have zz1 := hb1.size; clear HM HA HB hb1; have HM := nHM; have HA := nHA; have HB := nHB; clear nHM nHA nHB))
      go_ret
      exact ⟨rfl, HB.out⟩
    · rw [b2] at h2
      have H2 := Lib.hid h2
      clear h1 h2
      rw [if_neg (by decide)]
      go_enter Tryz.func24, Tryz.ntmps24
      go_wp2_with (first | (refine wpl_row rfl 27 _ rfl _ rfl #[hx, hy, hv, gx, gy, gv, lx, ly, lv, px, py, pv, nx, ny, nv, ax, ay, av, cx, cy, cv, dx, dy, dv, .int .i64 cl, .int .i64 bu] 26 ?_ Tryz.rowRot rfl ?_; (focus exact (by repeat (first | (refine Blk.newAt _ _ _ ?_; first | rfl | (simp; done)) | refine Blk.alloc ?_ _))); simp only [Act.put]) | (refine wpl_row rfl 31 _ rfl _ rfl #[.int .i64 wl, .int .i64 wh, .int .i64 tl, .int .i64 th, .int .i64 el, .int .i64 eh, .int .i64 nl, .int .i64 nh] 8 ?_ Tryz.rowAir rfl ?_; (focus exact (by repeat (first | (refine Blk.newAt _ _ _ ?_; first | rfl | (simp; done)) | refine Blk.alloc ?_ _))); simp only [Act.put]))
      have bHM : Blk ((w.alloc (.cells #[hx, hy, hv, gx, gy, gv, lx, ly, lv, px, py, pv, nx, ny, nv, ax, ay, av, cx, cy, cv, dx, dy, dv, .int .i64 cl, .int .i64 bu] 27)).alloc (.cells #[.int .i64 wl, .int .i64 wh, .int .i64 tl, .int .i64 th, .int .i64 el, .int .i64 eh, .int .i64 nl, .int .i64 nh] 31)) (w.heap.size) 27 #[hx, hy, hv, gx, gy, gv, lx, ly, lv, px, py, pv, nx, ny, nv, ax, ay, av, cx, cy, cv, dx, dy, dv, .int .i64 cl, .int .i64 bu] := (by repeat (first | (refine Blk.newAt _ _ _ ?_; first | rfl | (simp; done)) | refine Blk.alloc ?_ _))
      have bHA : Blk ((w.alloc (.cells #[hx, hy, hv, gx, gy, gv, lx, ly, lv, px, py, pv, nx, ny, nv, ax, ay, av, cx, cy, cv, dx, dy, dv, .int .i64 cl, .int .i64 bu] 27)).alloc (.cells #[.int .i64 wl, .int .i64 wh, .int .i64 tl, .int .i64 th, .int .i64 el, .int .i64 eh, .int .i64 nl, .int .i64 nh] 31)) (w.heap.size + 1) 31 #[.int .i64 wl, .int .i64 wh, .int .i64 tl, .int .i64 th, .int .i64 el, .int .i64 eh, .int .i64 nl, .int .i64 nh] := (by repeat (first | (refine Blk.newAt _ _ _ ?_; first | rfl | (simp; done)) | refine Blk.alloc ?_ _))
      have bHB : Below w.heap.size w ((w.alloc (.cells #[hx, hy, hv, gx, gy, gv, lx, ly, lv, px, py, pv, nx, ny, nv, ax, ay, av, cx, cy, cv, dx, dy, dv, .int .i64 cl, .int .i64 bu] 27)).alloc (.cells #[.int .i64 wl, .int .i64 wh, .int .i64 tl, .int .i64 th, .int .i64 el, .int .i64 eh, .int .i64 nl, .int .i64 nh] 31)) := (by repeat' (first | exact Below.refl _ _ | assumption | refine Below.drew ?_ | refine bdn ?_ _ | refine bal ?_ _ | refine Below.setCell ?_ (by first | (simp; done) | omega | (simp; omega)) _))
      generalize ((w.alloc (.cells #[hx, hy, hv, gx, gy, gv, lx, ly, lv, px, py, pv, nx, ny, nv, ax, ay, av, cx, cy, cv, dx, dy, dv, .int .i64 cl, .int .i64 bu] 27)).alloc (.cells #[.int .i64 wl, .int .i64 wh, .int .i64 tl, .int .i64 th, .int .i64 el, .int .i64 eh, .int .i64 nl, .int .i64 nh] 31)) = W at *
      have zW := bHA.lt
      have HM := Lib.hid bHM
      have HA := Lib.hid bHA
      have HB := Lib.hid bHB
      clear bHM bHA bHB
      go_wp2_with (first | (go_at_call 48; (with_reducible refine (HC.out _ (HR.out.below HB.out)).mono ?_); rintro e w1 ⟨rfl, hb1⟩; have nHM := Lib.hid (HM.out.below hb1); have nHA := Lib.hid (HA.out.below hb1); have nHB := Lib.hid (bthen HB.out hb1); have zz1 := hb1.size; clear HM HA HB hb1; have HM := nHM; have HA := nHA; have HB := nHB; clear nHM nHA nHB; (try clear zHM); have zHM := HM.out.lt; (try clear cHM7); have cHM7 := HM.out.cell 7; (try clear cHM9); have cHM9 := HM.out.cell 9; (try clear cHM10); have cHM10 := HM.out.cell 10; (try clear cHM11); have cHM11 := HM.out.cell 11; (try clear zHA); have zHA := HA.out.lt; (try clear cHA0); have cHA0 := HA.out.cell 0; (try clear cHA1); have cHA1 := HA.out.cell 1; (try clear cHA2); have cHA2 := HA.out.cell 2; (try clear cHA3); have cHA3 := HA.out.cell 3; (try clear cHA4); have cHA4 := HA.out.cell 4; (try clear cHA5); have cHA5 := HA.out.cell 5) | (go_at_call 29; (with_reducible refine (H1.out _ (HR.out.p.below HB.out)).mono ?_); rintro e w1 ⟨rfl, hb1⟩; have nHM := Lib.hid (HM.out.below hb1); have nHA := Lib.hid (HA.out.below hb1); have nHB := Lib.hid (bthen HB.out hb1); have zz1 := hb1.size; clear HM HA HB hb1; have HM := nHM; have HA := nHA; have HB := nHB; clear nHM nHA nHB; (try clear zHM); have zHM := HM.out.lt; (try clear cHM7); have cHM7 := HM.out.cell 7; (try clear zHA); have zHA := HA.out.lt; (try clear cHA0); have cHA0 := HA.out.cell 0; (try clear cHA1); have cHA1 := HA.out.cell 1) | ((with_reducible refine (H2.out _ (HR.out.l.y.below HB.out)).mono ?_); rintro e w1 ⟨rfl, hb1⟩; have nHM := Lib.hid (HM.out.below hb1); have nHA := Lib.hid (HA.out.below hb1); have nHB := Lib.hid (bthen HB.out hb1); have zz1 := hb1.size; clear HM HA HB hb1; have HM := nHM; have HA := nHA; have HB := nHB; clear nHM nHA nHB))
      go_ret
      exact ⟨rfl, HB.out⟩

theorem rf2_Best_c (hx hy hv gx gy gv lx ly lv px py pv nx ny nv ax ay av cx cy cv dx dy dv : Value) (cl bu : Int) (wl wh tl th el eh nl nh : Int) (S : Tabs) (w : World) (hR : RotAt w hx hy hv gx gy gv lx ly lv px py pv nx ny nv ax ay av cx cy cv dx dy dv cl bu S) :
   Calls Tryz.prog 9 #[.agg #[hx, hy, hv, gx, gy, gv, lx, ly, lv, px, py, pv, nx, ny, nv, ax, ay, av, cx, cy, cv, dx, dy, dv, .int .i64 cl, .int .i64 bu], .agg #[.int .i64 wl, .int .i64 wh, .int .i64 tl, .int .i64 th, .int .i64 el, .int .i64 eh, .int .i64 nl, .int .i64 nh]] w fun e w' => e = .returned (.tuple #[.int .i64 (besP S cl bu wl wh tl th el eh nl nh).1, .int .i64 (besP S cl bu wl wh tl th el eh nl nh).2, .int .i64 (besE S cl bu wl wh tl th el eh nl nh)]) ∧ Below w.heap.size w w' := by
  have hc := fun w1 hR => rf2_checkSpeeds_c hx hy hv gx gy gv lx ly lv px py pv nx ny nv ax ay av cx cy cv dx dy dv cl bu wl wh tl th el eh nl nh S w1 hR
  unfold besP
  by_cases hE : besE S cl bu wl wh tl th el eh nl nh = 0
  case neg =>
    have HR := Lib.hid hR
    have hne : (besE S cl bu wl wh tl th el eh nl nh != 0) = true := by simpa using hE
    rw [if_neg hE]
    have HC := Lib.hid hc
    generalize besE S cl bu wl wh tl th el eh nl nh = E at *
    clear hE hc hR
    dsimp only
    go_enter Tryz.func9, Tryz.ntmps9
    go_wp2_with (first | (refine wpl_row rfl 27 _ rfl _ rfl #[hx, hy, hv, gx, gy, gv, lx, ly, lv, px, py, pv, nx, ny, nv, ax, ay, av, cx, cy, cv, dx, dy, dv, .int .i64 cl, .int .i64 bu] 26 ?_ Tryz.rowRot rfl ?_; (focus exact (by repeat (first | (refine Blk.newAt _ _ _ ?_; first | rfl | (simp; done)) | refine Blk.alloc ?_ _))); simp only [Act.put]) | (refine wpl_row rfl 31 _ rfl _ rfl #[.int .i64 wl, .int .i64 wh, .int .i64 tl, .int .i64 th, .int .i64 el, .int .i64 eh, .int .i64 nl, .int .i64 nh] 8 ?_ Tryz.rowAir rfl ?_; (focus exact (by repeat (first | (refine Blk.newAt _ _ _ ?_; first | rfl | (simp; done)) | refine Blk.alloc ?_ _))); simp only [Act.put]))
    have bHM : Blk ((w.alloc (.cells #[hx, hy, hv, gx, gy, gv, lx, ly, lv, px, py, pv, nx, ny, nv, ax, ay, av, cx, cy, cv, dx, dy, dv, .int .i64 cl, .int .i64 bu] 27)).alloc (.cells #[.int .i64 wl, .int .i64 wh, .int .i64 tl, .int .i64 th, .int .i64 el, .int .i64 eh, .int .i64 nl, .int .i64 nh] 31)) (w.heap.size) 27 #[hx, hy, hv, gx, gy, gv, lx, ly, lv, px, py, pv, nx, ny, nv, ax, ay, av, cx, cy, cv, dx, dy, dv, .int .i64 cl, .int .i64 bu] := (by repeat (first | (refine Blk.newAt _ _ _ ?_; first | rfl | (simp; done)) | refine Blk.alloc ?_ _))
    have bHA : Blk ((w.alloc (.cells #[hx, hy, hv, gx, gy, gv, lx, ly, lv, px, py, pv, nx, ny, nv, ax, ay, av, cx, cy, cv, dx, dy, dv, .int .i64 cl, .int .i64 bu] 27)).alloc (.cells #[.int .i64 wl, .int .i64 wh, .int .i64 tl, .int .i64 th, .int .i64 el, .int .i64 eh, .int .i64 nl, .int .i64 nh] 31)) (w.heap.size + 1) 31 #[.int .i64 wl, .int .i64 wh, .int .i64 tl, .int .i64 th, .int .i64 el, .int .i64 eh, .int .i64 nl, .int .i64 nh] := (by repeat (first | (refine Blk.newAt _ _ _ ?_; first | rfl | (simp; done)) | refine Blk.alloc ?_ _))
    have bHB : Below w.heap.size w ((w.alloc (.cells #[hx, hy, hv, gx, gy, gv, lx, ly, lv, px, py, pv, nx, ny, nv, ax, ay, av, cx, cy, cv, dx, dy, dv, .int .i64 cl, .int .i64 bu] 27)).alloc (.cells #[.int .i64 wl, .int .i64 wh, .int .i64 tl, .int .i64 th, .int .i64 el, .int .i64 eh, .int .i64 nl, .int .i64 nh] 31)) := (by repeat' (first | exact Below.refl _ _ | assumption | refine Below.drew ?_ | refine bdn ?_ _ | refine bal ?_ _ | refine Below.setCell ?_ (by first | (simp; done) | omega | (simp; omega)) _))
    generalize ((w.alloc (.cells #[hx, hy, hv, gx, gy, gv, lx, ly, lv, px, py, pv, nx, ny, nv, ax, ay, av, cx, cy, cv, dx, dy, dv, .int .i64 cl, .int .i64 bu] 27)).alloc (.cells #[.int .i64 wl, .int .i64 wh, .int .i64 tl, .int .i64 th, .int .i64 el, .int .i64 eh, .int .i64 nl, .int .i64 nh] 31)) = W at *
    have zW := bHA.lt
    have HM := Lib.hid bHM
    have HA := Lib.hid bHA
    have HB := Lib.hid bHB
    clear bHM bHA bHB
    go_wp2_with (first | (go_at_call 24; (with_reducible refine (HC.out _ (HR.out.below HB.out)).mono ?_); rintro e w1 ⟨rfl, hb1⟩; have nHM := Lib.hid (HM.out.below hb1); have nHA := Lib.hid (HA.out.below hb1); have nHB := Lib.hid (bthen HB.out hb1); have zz1 := hb1.size; clear HM HA HB hb1; have HM := nHM; have HA := nHA; have HB := nHB; clear nHM nHA nHB))
    go_ret3
    exact ⟨rfl, HB.out⟩
  rw [if_pos hE]
  obtain ⟨hr, hP, hL⟩ := ratE_ok hE
  have sb := speed_bd hr
  obtain ⟨lA, lc0, rfl, hc1, hc2, -, hA⟩ := hR.l.x
  obtain ⟨lb0, lo0, rfl, hbl, hcells⟩ := hA sb.2.2.2
  have hlen := sb.2.2.2
  have HX0 := Lib.hid (fun w1 (h : Below w.heap.size w w1) => show w1.cell? ⟨lb0, lo0, none⟩ = some (.int .i64 (nth S.l.X 0)) from (h.cell (p := ⟨lb0, lo0, none⟩) hbl).trans (by simpa using hcells 0 hlen))
  have HX1 := Lib.hid (fun w1 (h : Below w.heap.size w w1) => show w1.cell? ⟨lb0, lo0 + (S.l.X.length - 1), none⟩ = some (.int .i64 (nth S.l.X (S.l.X.length - 1))) from (h.cell (p := ⟨lb0, lo0 + (S.l.X.length - 1), none⟩) hbl).trans (hcells (S.l.X.length - 1) (by omega)))
  have hi0 : (0 : Int) < (S.l.X.length : Int) := by omega
  have hi1 : (S.l.X.length : Int) ≤ 9223372036854775807 := by omega
  have ht : ((S.l.X.length : Int) - 1).toNat = S.l.X.length - 1 := by omega
  have HR := Lib.hid hR
  have hrt := fun w1 s (h0 : nth S.l.X 0 ≤ s) (h1 : s ≤ nth S.l.X (S.l.X.length - 1)) hR => rf2_Rate_c hx hy hv gx gy gv (.slice (some ⟨lb0, lo0, none⟩) S.l.X.length lc0) ly lv px py pv nx ny nv ax ay av cx cy cv dx dy dv cl bu wl wh tl th el eh nl nh S s w1 hR
  have hz : ∀ s, nth S.l.X 0 ≤ s → s ≤ nth S.l.X (S.l.X.length - 1) → ratE S cl bu wl wh tl th el eh nl nh s = 0 := fun s h0 h1 => by
    obtain ⟨c1, c2, c3, c4⟩ := chkE_zero hE
    have fl := fits_speed hr hL h0 h1
    simp only [Bool.or_eq_false_iff] at c4
    unfold ratE; rw [c1, c2, c4.1, fl.lk']; rfl
  have HRT := Lib.hid (fun w1 s (h0 : nth S.l.X 0 ≤ s) (h1 : s ≤ nth S.l.X (S.l.X.length - 1)) hR => show Calls Tryz.prog 25 #[.agg #[hx, hy, hv, gx, gy, gv, (.slice (some ⟨lb0, lo0, none⟩) S.l.X.length lc0), ly, lv, px, py, pv, nx, ny, nv, ax, ay, av, cx, cy, cv, dx, dy, dv, .int .i64 cl, .int .i64 bu], .agg #[.int .i64 wl, .int .i64 wh, .int .i64 tl, .int .i64 th, .int .i64 el, .int .i64 eh, .int .i64 nl, .int .i64 nh], .int .i64 s] w1 fun e w' => e = .returned (.tuple #[.int .i64 (ratV S wl wh tl th el eh cl s), .int .i64 0]) ∧ Below w1.heap.size w1 w' by have := hrt w1 s h0 h1 hR; unfold ratR at this; rw [hz s h0 h1, okN_ok] at this; exact this)
  rw [hE] at hc ⊢
  have HC := Lib.hid hc
  have KN : spN S = (nth S.l.X (S.l.X.length - 1) - nth S.l.X 0 + 1).toNat := rfl
  clear hE hc hP hL hr hR hA hcells hrt hz
  generalize ratV S wl wh tl th el eh cl = f at *
  generalize spN S = K at *
  generalize nth S.l.X (S.l.X.length - 1) = x1 at *
  generalize nth S.l.X 0 = x0 at *
  obtain ⟨s0, s1, s2, -⟩ := sb
  have HK := Lib.hid KN
  clear KN
  go_enter Tryz.func9, Tryz.ntmps9
  go_wp2_with (first | (refine wpl_row rfl 27 _ rfl _ rfl #[hx, hy, hv, gx, gy, gv, (.slice (some ⟨lb0, lo0, none⟩) S.l.X.length lc0), ly, lv, px, py, pv, nx, ny, nv, ax, ay, av, cx, cy, cv, dx, dy, dv, .int .i64 cl, .int .i64 bu] 26 ?_ Tryz.rowRot rfl ?_; (focus exact (by repeat (first | (refine Blk.newAt _ _ _ ?_; first | rfl | (simp; done)) | refine Blk.alloc ?_ _))); simp only [Act.put]) | (refine wpl_row rfl 31 _ rfl _ rfl #[.int .i64 wl, .int .i64 wh, .int .i64 tl, .int .i64 th, .int .i64 el, .int .i64 eh, .int .i64 nl, .int .i64 nh] 8 ?_ Tryz.rowAir rfl ?_; (focus exact (by repeat (first | (refine Blk.newAt _ _ _ ?_; first | rfl | (simp; done)) | refine Blk.alloc ?_ _))); simp only [Act.put]))
  have bHM : Blk ((w.alloc (.cells #[hx, hy, hv, gx, gy, gv, (.slice (some ⟨lb0, lo0, none⟩) S.l.X.length lc0), ly, lv, px, py, pv, nx, ny, nv, ax, ay, av, cx, cy, cv, dx, dy, dv, .int .i64 cl, .int .i64 bu] 27)).alloc (.cells #[.int .i64 wl, .int .i64 wh, .int .i64 tl, .int .i64 th, .int .i64 el, .int .i64 eh, .int .i64 nl, .int .i64 nh] 31)) (w.heap.size) 27 #[hx, hy, hv, gx, gy, gv, (.slice (some ⟨lb0, lo0, none⟩) S.l.X.length lc0), ly, lv, px, py, pv, nx, ny, nv, ax, ay, av, cx, cy, cv, dx, dy, dv, .int .i64 cl, .int .i64 bu] := (by repeat (first | (refine Blk.newAt _ _ _ ?_; first | rfl | (simp; done)) | refine Blk.alloc ?_ _))
  have bHA : Blk ((w.alloc (.cells #[hx, hy, hv, gx, gy, gv, (.slice (some ⟨lb0, lo0, none⟩) S.l.X.length lc0), ly, lv, px, py, pv, nx, ny, nv, ax, ay, av, cx, cy, cv, dx, dy, dv, .int .i64 cl, .int .i64 bu] 27)).alloc (.cells #[.int .i64 wl, .int .i64 wh, .int .i64 tl, .int .i64 th, .int .i64 el, .int .i64 eh, .int .i64 nl, .int .i64 nh] 31)) (w.heap.size + 1) 31 #[.int .i64 wl, .int .i64 wh, .int .i64 tl, .int .i64 th, .int .i64 el, .int .i64 eh, .int .i64 nl, .int .i64 nh] := (by repeat (first | (refine Blk.newAt _ _ _ ?_; first | rfl | (simp; done)) | refine Blk.alloc ?_ _))
  have bHB : Below w.heap.size w ((w.alloc (.cells #[hx, hy, hv, gx, gy, gv, (.slice (some ⟨lb0, lo0, none⟩) S.l.X.length lc0), ly, lv, px, py, pv, nx, ny, nv, ax, ay, av, cx, cy, cv, dx, dy, dv, .int .i64 cl, .int .i64 bu] 27)).alloc (.cells #[.int .i64 wl, .int .i64 wh, .int .i64 tl, .int .i64 th, .int .i64 el, .int .i64 eh, .int .i64 nl, .int .i64 nh] 31)) := (by repeat' (first | exact Below.refl _ _ | assumption | refine Below.drew ?_ | refine bdn ?_ _ | refine bal ?_ _ | refine Below.setCell ?_ (by first | (simp; done) | omega | (simp; omega)) _))
  generalize ((w.alloc (.cells #[hx, hy, hv, gx, gy, gv, (.slice (some ⟨lb0, lo0, none⟩) S.l.X.length lc0), ly, lv, px, py, pv, nx, ny, nv, ax, ay, av, cx, cy, cv, dx, dy, dv, .int .i64 cl, .int .i64 bu] 27)).alloc (.cells #[.int .i64 wl, .int .i64 wh, .int .i64 tl, .int .i64 th, .int .i64 el, .int .i64 eh, .int .i64 nl, .int .i64 nh] 31)) = W at *
  have zW := bHA.lt
  have HM := Lib.hid bHM
  have HA := Lib.hid bHA
  have HB := Lib.hid bHB
  clear bHM bHA bHB
  go_wp2_with (first | (go_at_call 24; (with_reducible refine (HC.out _ (HR.out.below HB.out)).mono ?_); rintro e w1 ⟨rfl, hb1⟩; have e0 := HX0.out _ (bthen HB.out hb1); have nHM := Lib.hid (HM.out.below hb1); have nHA := Lib.hid (HA.out.below hb1); have nHB := Lib.hid (bthen HB.out hb1); have zz1 := hb1.size; clear HM HA HB hb1; have HM := nHM; have HA := nHA; have HB := nHB; clear nHM nHA nHB; (try clear zHM); have zHM := HM.out.lt; (try clear cHM6); have cHM6 := HM.out.cell 6))
  go_loopw [9, 10, 11] (fun a b s wr => ∃ (k : Nat) (p q t : Int), k ≤ K ∧ a = .int .i64 p ∧ b = .int .i64 q ∧ s = .int .i64 t ∧ x0 ≤ t ∧ t ≤ x1 + 1 ∧ RowKit.Hid (t = x0 + (k : Int)) ∧ RowKit.Hid (k = 0 ∨ (p, q) = bst f x0 k) ∧ RowKit.Hid (Below w.heap.size w wr) ∧ RowKit.Hid (Blk wr w.heap.size 27 #[hx, hy, hv, gx, gy, gv, (.slice (some ⟨lb0, lo0, none⟩) S.l.X.length lc0), ly, lv, px, py, pv, nx, ny, nv, ax, ay, av, cx, cy, cv, dx, dy, dv, .int .i64 cl, .int .i64 bu]) ∧ RowKit.Hid (Blk wr (w.heap.size + 1) 31 #[.int .i64 wl, .int .i64 wh, .int .i64 tl, .int .i64 th, .int .i64 el, .int .i64 eh, .int .i64 nl, .int .i64 nh])) (fun _ _ s _ => (x1 + 1 - intOf s).toNat)
  case atStart => exact ⟨0, x0, 0, x0, by omega, rfl, rfl, rfl, by omega, by omega, by show x0 = x0 + ((0 : Nat) : Int); omega, .inl rfl, HB.out, HM.out, HA.out⟩
  case round =>
    clear HB HM HA
    obtain ⟨k, p, q, t, hk, rfl, rfl, rfl, ht0, ht1, HT, HP, HB, HM, HA⟩ := hrel
    have e0 := HX0.out _ HB.out
    have e1 := HX1.out _ HB.out
    have zz := HB.out.size
    by_cases hlt : t ≤ x1
    · have hK : k < K := by have := HK.out; have := HT.out; omega
      have b0 : -1000000 ≤ t := by omega
      by_cases h0 : k = 0
      · subst h0
        obtain rfl : t = x0 := by have := HT.out; omega
        go_wp2_with (first | (refine wpl_row rfl 27 _ rfl _ rfl #[hx, hy, hv, gx, gy, gv, (.slice (some ⟨lb0, lo0, none⟩) S.l.X.length lc0), ly, lv, px, py, pv, nx, ny, nv, ax, ay, av, cx, cy, cv, dx, dy, dv, .int .i64 cl, .int .i64 bu] 26 HM.out Tryz.rowRot rfl ?_; simp only [Act.put]) | (refine wpl_row rfl 31 _ rfl _ rfl #[.int .i64 wl, .int .i64 wh, .int .i64 tl, .int .i64 th, .int .i64 el, .int .i64 eh, .int .i64 nl, .int .i64 nh] 8 HA.out Tryz.rowAir rfl ?_; simp only [Act.put]) | (go_at_call 25; (with_reducible refine (HRT.out _ _ ht0 hlt (HR.out.below HB.out)).mono ?_); rintro e w1 ⟨rfl, hb1⟩; have e0 := HX0.out _ (bthen HB.out hb1); have nHM := Lib.hid (HM.out.below hb1); have nHA := Lib.hid (HA.out.below hb1); have nHB := Lib.hid (bthen HB.out hb1); have zz1 := hb1.size; clear HM HA HB hb1; have HM := nHM; have HA := nHA; have HB := nHB; clear nHM nHA nHB; (try clear zHA); have zHA := HA.out.lt; (try clear cHA0); have cHA0 := HA.out.cell 0))
        exact ⟨⟨1, t, f t, t + 1, by omega, rfl, rfl, rfl, by omega, by omega, (show t + 1 = t + ((1 : Nat) : Int) by omega), (show 1 = 0 ∨ (t, f t) = bst f t 1 from .inr (by simp [bst])), HB.out, HM.out, HA.out⟩, by simp [intOf]; omega⟩
      · have htx : ¬ t = x0 := by have := HT.out; omega
        have hne : (t == x0) = false := by simpa using htx
        have hpq := HP.out.resolve_left h0
        by_cases h2 : q < f t
        · have hbs := Lib.hid (show (t, f t) = bst f x0 (k + 1) by rw [bst_succ, ← HT.out, ← hpq, if_pos (.inr h2)])
          clear hpq
          go_wp2_with (first | (refine wpl_row rfl 27 _ rfl _ rfl #[hx, hy, hv, gx, gy, gv, (.slice (some ⟨lb0, lo0, none⟩) S.l.X.length lc0), ly, lv, px, py, pv, nx, ny, nv, ax, ay, av, cx, cy, cv, dx, dy, dv, .int .i64 cl, .int .i64 bu] 26 HM.out Tryz.rowRot rfl ?_; simp only [Act.put]) | (refine wpl_row rfl 31 _ rfl _ rfl #[.int .i64 wl, .int .i64 wh, .int .i64 tl, .int .i64 th, .int .i64 el, .int .i64 eh, .int .i64 nl, .int .i64 nh] 8 HA.out Tryz.rowAir rfl ?_; simp only [Act.put]) | (go_at_call 25; (with_reducible refine (HRT.out _ _ ht0 hlt (HR.out.below HB.out)).mono ?_); rintro e w1 ⟨rfl, hb1⟩; have e0 := HX0.out _ (bthen HB.out hb1); have nHM := Lib.hid (HM.out.below hb1); have nHA := Lib.hid (HA.out.below hb1); have nHB := Lib.hid (bthen HB.out hb1); have zz1 := hb1.size; clear HM HA HB hb1; have HM := nHM; have HA := nHA; have HB := nHB; clear nHM nHA nHB; (try clear zHA); have zHA := HA.out.lt; (try clear cHA0); have cHA0 := HA.out.cell 0))
          exact ⟨⟨k + 1, t, f t, t + 1, by omega, rfl, rfl, rfl, by omega, by omega, (show t + 1 = x0 + ((k + 1 : Nat) : Int) by have := HT.out; omega), .inr hbs.out, HB.out, HM.out, HA.out⟩, by simp [intOf]; omega⟩
        · have hbs := Lib.hid (show (p, q) = bst f x0 (k + 1) by rw [bst_succ, ← HT.out, ← hpq, if_neg (by simp only [not_or]; exact ⟨h0, h2⟩)])
          have h3 : f t ≤ q := by omega
          clear h2 hpq
          go_wp2_with (first | (refine wpl_row rfl 27 _ rfl _ rfl #[hx, hy, hv, gx, gy, gv, (.slice (some ⟨lb0, lo0, none⟩) S.l.X.length lc0), ly, lv, px, py, pv, nx, ny, nv, ax, ay, av, cx, cy, cv, dx, dy, dv, .int .i64 cl, .int .i64 bu] 26 HM.out Tryz.rowRot rfl ?_; simp only [Act.put]) | (refine wpl_row rfl 31 _ rfl _ rfl #[.int .i64 wl, .int .i64 wh, .int .i64 tl, .int .i64 th, .int .i64 el, .int .i64 eh, .int .i64 nl, .int .i64 nh] 8 HA.out Tryz.rowAir rfl ?_; simp only [Act.put]) | (go_at_call 25; (with_reducible refine (HRT.out _ _ ht0 hlt (HR.out.below HB.out)).mono ?_); rintro e w1 ⟨rfl, hb1⟩; have e0 := HX0.out _ (bthen HB.out hb1); have nHM := Lib.hid (HM.out.below hb1); have nHA := Lib.hid (HA.out.below hb1); have nHB := Lib.hid (bthen HB.out hb1); have zz1 := hb1.size; clear HM HA HB hb1; have HM := nHM; have HA := nHA; have HB := nHB; clear nHM nHA nHB; (try clear zHA); have zHA := HA.out.lt; (try clear cHA0); have cHA0 := HA.out.cell 0))
          all_goals first | (exfalso; omega) | exact ⟨⟨k + 1, p, q, t + 1, by omega, rfl, rfl, rfl, by omega, by omega, (show t + 1 = x0 + ((k + 1 : Nat) : Int) by have := HT.out; omega), .inr hbs.out, HB.out, HM.out, HA.out⟩, by simp [intOf]; omega⟩
    · obtain rfl : k = K := by have := HK.out; have := HT.out; omega
      have hk0 : k ≠ 0 := by have := HK.out; omega
      have hpq := HP.out.resolve_left hk0
      have H1 := Lib.hid (show p = (bst f x0 k).1 by rw [← hpq])
      have H2 := Lib.hid (show q = (bst f x0 k).2 by rw [← hpq])
      clear hpq
      go_wp2_with fail
      go_ret3
      exact ⟨by rw [H1.out, H2.out]; rfl, HB.out⟩
end Go.Proofs.YtechkkgmdjgddaaGreat
