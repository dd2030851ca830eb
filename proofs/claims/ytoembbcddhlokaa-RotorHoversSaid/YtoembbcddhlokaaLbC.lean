/- The law RotorHovers. -/
import Derived.Test.YtoembbcddhlokaaLbB
set_option linter.all false
namespace Go.Proofs.Ytoembbcddhlokaa
open Go Go.RowKit Go.Proofs
set_option maxRecDepth 100000
set_option maxHeartbeats 8000000

theorem RotorHovers_c (hx hy hv gx gy gv lx ly lv px py pv nx ny nv ax ay av cx cy cv dx dy dv : Value) (cl bu : Int) (wl wh tl th el eh nl nh : Int) (S : Tabs) (sl sh : Int) (w : World) (hR : RotAt w hx hy hv gx gy gv lx ly lv px py pv nx ny nv ax ay av cx cy cv dx dy dv cl bu S) :
   Calls Try.prog 7 #[.agg #[hx, hy, hv, gx, gy, gv, lx, ly, lv, px, py, pv, nx, ny, nv, ax, ay, av, cx, cy, cv, dx, dy, dv, .int .i64 cl, .int .i64 bu], .agg #[.int .i64 wl, .int .i64 wh, .int .i64 tl, .int .i64 th, .int .i64 el, .int .i64 eh, .int .i64 nl, .int .i64 nh], .agg #[.int .i64 sl, .int .i64 sh]] w fun e w' => e = .returned (.bool true) ∧ Below w.heap.size w w' := by
  have HR := Lib.hid hR
  clear hR
  cases hf : farS S
  · have HN := Lib.hid (farS_near hf)
    have h1 := fun w1 hx hy hv gx gy gv lx ly lv px py pv nx ny nv ax ay av cx cy cv dx dy dv hR => Needs_c hx hy hv gx gy gv lx ly lv px py pv nx ny nv ax ay av cx cy cv dx dy dv cl bu wl wh tl th el eh nl nh S sl sh w1 hR
    have h2 := fun w1 hR => rf2_Needs_c hx hy hv gx gy gv lx ly lv px py pv nx ny nv ax ay av cx cy cv dx dy dv cl bu wl wh tl th el eh nl nh S sl sh w1 hR
    have h3 := fun w1 hx hy hv gx gy gv lx ly lv px py pv nx ny nv ax ay av cx cy cv dx dy dv hR => Has_c hx hy hv gx gy gv lx ly lv px py pv nx ny nv ax ay av cx cy cv dx dy dv cl bu wl wh tl th el eh nl nh S w1 hR
    have h4 := fun w1 hR => rf2_Has_c hx hy hv gx gy gv lx ly lv px py pv nx ny nv ax ay av cx cy cv dx dy dv cl bu wl wh tl th el eh nl nh S w1 hR
    have h5 := fun w1 hx hy hv gx gy gv lx ly lv px py pv nx ny nv ax ay av cx cy cv dx dy dv hR => Margin_c hx hy hv gx gy gv lx ly lv px py pv nx ny nv ax ay av cx cy cv dx dy dv cl bu wl wh tl th el eh nl nh S sl sh w1 hR
    have h6 := fun w1 hR => rf2_Margin_c hx hy hv gx gy gv lx ly lv px py pv nx ny nv ax ay av cx cy cv dx dy dv cl bu wl wh tl th el eh nl nh S sl sh w1 hR
    by_cases he : margE S cl bu wl wh tl th el eh nl nh sl sh = 0
    · obtain ⟨hr, fh, fg, fp⟩ := margE_ok he
      have b1 := bnd_lim (rotB_p hr) fp
      have b2 := need_lim (rotB_h hr) (rotB_g hr) fh fg
      have en : neeE S cl bu wl wh tl th el eh nl nh sl sh = 0 := by
        by_cases e : neeE S cl bu wl wh tl th el eh nl nh sl sh = 0
        · exact e
        · rw [marg_no e] at he; exact absurd he e
      have eh' : hasE S cl bu wl wh tl th el eh nl nh = 0 := by rw [← marg_has en]; exact he
      have e1 : neeHi S cl bu wl wh tl th el eh nl nh sl sh = needHi S wl wh tl th nl nh sl sh := by unfold neeHi; rw [en, okN_ok]
      have e2 : hasLo S cl bu wl wh tl th el eh nl nh = bLo S.p tl th el eh := by unfold hasLo; rw [eh', okN_ok]
      have e3 : hasHi S cl bu wl wh tl th el eh nl nh = bHi S.p tl th el eh := by unfold hasHi; rw [eh', okN_ok]
      have e4 : marV S cl bu wl wh tl th el eh nl nh sl sh = bLo S.p tl th el eh - needHi S wl wh tl th nl nh sl sh := by unfold marV margV; rw [he, okN_ok]
      rw [en, e1] at h1 h2
      rw [eh', e2, e3] at h3 h4
      rw [he, e4] at h5 h6
      have HBD := Lib.hid (fun w1 x y v hT => Bound_d x y v S.p tl th el eh w1 hT fp)
      generalize neeLo S cl bu wl wh tl th el eh nl nh sl sh = p0 at *
      generalize needHi S wl wh tl th nl nh sl sh = p1 at *
      generalize bLo S.p tl th el eh = q0 at *
      generalize bHi S.p tl th el eh = q1 at *
      have H1 := Lib.hid h1
      have H2 := Lib.hid h2
      have H3 := Lib.hid h3
      have H4 := Lib.hid h4
      have H5 := Lib.hid h5
      have H6 := Lib.hid h6
      clear h1 h2 h3 h4 h5 h6 he hr fh fg fp en eh' e1 e2 e3 e4
      have HW := Lib.hid (fun w1 hR => far2_c hx hy hv gx gy gv lx ly lv px py pv nx ny nv ax ay av cx cy cv dx dy dv cl bu S w1 hR)
      rw [hf] at HW
      go_enter Try.func7, Try.ntmps7
      go_wp2_with (first | (refine wpl_row rfl 27 _ rfl _ rfl #[hx, hy, hv, gx, gy, gv, lx, ly, lv, px, py, pv, nx, ny, nv, ax, ay, av, cx, cy, cv, dx, dy, dv, .int .i64 cl, .int .i64 bu] 26 ?_ Try.rowRot rfl ?_; (focus exact (by repeat (first | (refine Blk.newAt _ _ _ ?_; first | rfl | (simp; done)) | refine Blk.alloc ?_ _))); simp only [Act.put]))
      have bHM : Blk (((w.alloc (.cells #[hx, hy, hv, gx, gy, gv, lx, ly, lv, px, py, pv, nx, ny, nv, ax, ay, av, cx, cy, cv, dx, dy, dv, .int .i64 cl, .int .i64 bu] 27)).alloc (.cells #[.int .i64 wl, .int .i64 wh, .int .i64 tl, .int .i64 th, .int .i64 el, .int .i64 eh, .int .i64 nl, .int .i64 nh] 36)).alloc (.cells #[.int .i64 sl, .int .i64 sh] 34)) (w.heap.size) 27 #[hx, hy, hv, gx, gy, gv, lx, ly, lv, px, py, pv, nx, ny, nv, ax, ay, av, cx, cy, cv, dx, dy, dv, .int .i64 cl, .int .i64 bu] := (by repeat (first | (refine Blk.newAt _ _ _ ?_; first | rfl | (simp; done)) | refine Blk.alloc ?_ _))
      have bHA : Blk (((w.alloc (.cells #[hx, hy, hv, gx, gy, gv, lx, ly, lv, px, py, pv, nx, ny, nv, ax, ay, av, cx, cy, cv, dx, dy, dv, .int .i64 cl, .int .i64 bu] 27)).alloc (.cells #[.int .i64 wl, .int .i64 wh, .int .i64 tl, .int .i64 th, .int .i64 el, .int .i64 eh, .int .i64 nl, .int .i64 nh] 36)).alloc (.cells #[.int .i64 sl, .int .i64 sh] 34)) (w.heap.size + 1) 36 #[.int .i64 wl, .int .i64 wh, .int .i64 tl, .int .i64 th, .int .i64 el, .int .i64 eh, .int .i64 nl, .int .i64 nh] := (by repeat (first | (refine Blk.newAt _ _ _ ?_; first | rfl | (simp; done)) | refine Blk.alloc ?_ _))
      have bHS : Blk (((w.alloc (.cells #[hx, hy, hv, gx, gy, gv, lx, ly, lv, px, py, pv, nx, ny, nv, ax, ay, av, cx, cy, cv, dx, dy, dv, .int .i64 cl, .int .i64 bu] 27)).alloc (.cells #[.int .i64 wl, .int .i64 wh, .int .i64 tl, .int .i64 th, .int .i64 el, .int .i64 eh, .int .i64 nl, .int .i64 nh] 36)).alloc (.cells #[.int .i64 sl, .int .i64 sh] 34)) (w.heap.size + 1 + 1) 34 #[.int .i64 sl, .int .i64 sh] := (by repeat (first | (refine Blk.newAt _ _ _ ?_; first | rfl | (simp; done)) | refine Blk.alloc ?_ _))
      have bHB : Below w.heap.size w (((w.alloc (.cells #[hx, hy, hv, gx, gy, gv, lx, ly, lv, px, py, pv, nx, ny, nv, ax, ay, av, cx, cy, cv, dx, dy, dv, .int .i64 cl, .int .i64 bu] 27)).alloc (.cells #[.int .i64 wl, .int .i64 wh, .int .i64 tl, .int .i64 th, .int .i64 el, .int .i64 eh, .int .i64 nl, .int .i64 nh] 36)).alloc (.cells #[.int .i64 sl, .int .i64 sh] 34)) := (by repeat' (first | exact Below.refl _ _ | assumption | refine Below.drew ?_ | refine bdn ?_ _ | refine bal ?_ _ | refine Below.setCell ?_ (by first | (simp; done) | omega | (simp; omega)) _))
      generalize (((w.alloc (.cells #[hx, hy, hv, gx, gy, gv, lx, ly, lv, px, py, pv, nx, ny, nv, ax, ay, av, cx, cy, cv, dx, dy, dv, .int .i64 cl, .int .i64 bu] 27)).alloc (.cells #[.int .i64 wl, .int .i64 wh, .int .i64 tl, .int .i64 th, .int .i64 el, .int .i64 eh, .int .i64 nl, .int .i64 nh] 36)).alloc (.cells #[.int .i64 sl, .int .i64 sh] 34)) = W at *
      have zW := bHS.lt
      have HM := Lib.hid bHM
      have HA := Lib.hid bHA
      have HS := Lib.hid bHS
      have HB := Lib.hid bHB
      clear bHM bHA bHS bHB
      go_wp2_with (first | (refine wpl_row rfl 27 _ rfl _ rfl #[hx, hy, hv, gx, gy, gv, lx, ly, lv, px, py, pv, nx, ny, nv, ax, ay, av, cx, cy, cv, dx, dy, dv, .int .i64 cl, .int .i64 bu] 26 HM.out Try.rowRot rfl ?_; simp only [Act.put]) | (go_at_call 14; (with_reducible refine (HW.out _ (HR.out.below HB.out)).mono ?_); rintro e w1 ⟨rfl, hb1⟩; have nHM := Lib.hid (HM.out.below hb1); have nHA := Lib.hid (HA.out.below hb1); have nHS := Lib.hid (HS.out.below hb1); have nHB := Lib.hid (bthen HB.out hb1); have zz1 := hb1.size; clear HM HA HS HB hb1; have HM := nHM; have HA := nHA; have HS := nHS; have HB := nHB; clear nHM nHA nHS nHB) | (go_at_call 15; (with_reducible refine (works_c _).mono ?_); rintro e w1 ⟨rfl, hb1⟩; have nHM := Lib.hid (HM.out.below hb1); have nHA := Lib.hid (HA.out.below hb1); have nHS := Lib.hid (HS.out.below hb1); have nHB := Lib.hid (bthen HB.out hb1); have zz1 := hb1.size; clear HM HA HS HB hb1; have HM := nHM; have HA := nHA; have HS := nHS; have HB := nHB; clear nHM nHA nHS nHB) | (go_at_call 17; (with_reducible refine (own_c hx hy hv gx gy gv lx ly lv px py pv nx ny nv ax ay av cx cy cv dx dy dv cl bu S _ (HR.out.below HB.out) HN.out).mono ?_); rintro e w1 ⟨v, rfl, ho, hb1⟩; obtain ⟨hx', hy', hv', gx', gy', gv', lx', ly', lv', px', py', pv', nx', ny', nv', ax', ay', av', cx', cy', cv', dx', dy', dv', rfl, r1⟩ := ho; have HO := Lib.hid r1; clear r1; have nHM := Lib.hid (HM.out.below hb1); have nHA := Lib.hid (HA.out.below hb1); have nHS := Lib.hid (HS.out.below hb1); have nHB := Lib.hid (bthen HB.out hb1); have zz1 := hb1.size; clear HM HA HS HB hb1; have HM := nHM; have HA := nHA; have HS := nHS; have HB := nHB; clear nHM nHA nHS nHB; (try clear zHS); have zHS := HS.out.lt; (try clear cHS0); have cHS0 := HS.out.cell 0; (try clear cHS1); have cHS1 := HS.out.cell 1) | (refine wpl_store_new rfl 27 _ _ rfl #[hx', hy', hv', gx', gy', gv', lx', ly', lv', px', py', pv', nx', ny', nv', ax', ay', av', cx', cy', cv', dx', dy', dv', .int .i64 cl, .int .i64 bu] _ _ rfl ?_ rfl Try.sizeRot' rfl (RotAt.one26' HO.out) ?_; (focus (simp; done)); simp only [Act.put]) | (refine wpl_row rfl 27 _ rfl _ rfl #[hx', hy', hv', gx', gy', gv', lx', ly', lv', px', py', pv', nx', ny', nv', ax', ay', av', cx', cy', cv', dx', dy', dv', .int .i64 cl, .int .i64 bu] 26 (Blk.new _ _ _) Try.rowRot rfl ?_; simp only [Act.put]) | (refine wpl_row rfl 36 _ rfl _ rfl #[.int .i64 wl, .int .i64 wh, .int .i64 tl, .int .i64 th, .int .i64 el, .int .i64 eh, .int .i64 nl, .int .i64 nh] 8 (HA.out.alloc _) Try.rowAir rfl ?_; simp only [Act.put]))
      have bHQ := Blk.new w1 27 #[hx', hy', hv', gx', gy', gv', lx', ly', lv', px', py', pv', nx', ny', nv', ax', ay', av', cx', cy', cv', dx', dy', dv', .int .i64 cl, .int .i64 bu]
      have nHM := Lib.hid (HM.out.alloc (.cells #[hx', hy', hv', gx', gy', gv', lx', ly', lv', px', py', pv', nx', ny', nv', ax', ay', av', cx', cy', cv', dx', dy', dv', .int .i64 cl, .int .i64 bu] 27))
      have nHA := Lib.hid (HA.out.alloc (.cells #[hx', hy', hv', gx', gy', gv', lx', ly', lv', px', py', pv', nx', ny', nv', ax', ay', av', cx', cy', cv', dx', dy', dv', .int .i64 cl, .int .i64 bu] 27))
      have nHS := Lib.hid (HS.out.alloc (.cells #[hx', hy', hv', gx', gy', gv', lx', ly', lv', px', py', pv', nx', ny', nv', ax', ay', av', cx', cy', cv', dx', dy', dv', .int .i64 cl, .int .i64 bu] 27))
      have nHO := Lib.hid (HO.out.alloc (.cells #[hx', hy', hv', gx', gy', gv', lx', ly', lv', px', py', pv', nx', ny', nv', ax', ay', av', cx', cy', cv', dx', dy', dv', .int .i64 cl, .int .i64 bu] 27))
      have nHB := Lib.hid (bal HB.out (.cells #[hx', hy', hv', gx', gy', gv', lx', ly', lv', px', py', pv', nx', ny', nv', ax', ay', av', cx', cy', cv', dx', dy', dv', .int .i64 cl, .int .i64 bu] 27))
      clear HM HA HS HO HB
      have HM := nHM
      have HA := nHA
      have HS := nHS
      have HO := nHO
      have HB := nHB
      clear nHM nHA nHS nHO nHB
      generalize w1.alloc (.cells #[hx', hy', hv', gx', gy', gv', lx', ly', lv', px', py', pv', nx', ny', nv', ax', ay', av', cx', cy', cv', dx', dy', dv', .int .i64 cl, .int .i64 bu] 27) = W2 at *
      generalize w1.heap.size = gHQ at *
      have HQ := Lib.hid bHQ
      clear bHQ
      have zHS := HS.out.lt
      have cHS0 := HS.out.cell 0
      have cHS1 := HS.out.cell 1
      go_wp2_with (first | (go_at_call 29; (with_reducible refine (H1.out _ _ _ _ _ _ _ _ _ _ _ _ _ _ _ _ _ _ _ _ _ _ _ _ _ HO.out).mono ?_); rintro e w1 ⟨rfl, hb1⟩; have nHM := Lib.hid (HM.out.below hb1); have nHA := Lib.hid (HA.out.below hb1); have nHS := Lib.hid (HS.out.below hb1); have nHQ := Lib.hid (HQ.out.below hb1); have nHO := Lib.hid (HO.out.below hb1); have nHB := Lib.hid (bthen HB.out hb1); have zz1 := hb1.size; clear HM HA HS HQ HO HB hb1; have HM := nHM; have HA := nHA; have HS := nHS; have HQ := nHQ; have HO := nHO; have HB := nHB; clear nHM nHA nHS nHQ nHO nHB; (try clear zHS); have zHS := HS.out.lt; (try clear cHS0); have cHS0 := HS.out.cell 0; (try clear cHS1); have cHS1 := HS.out.cell 1) | (refine wpl_row rfl 27 _ rfl _ rfl #[hx, hy, hv, gx, gy, gv, lx, ly, lv, px, py, pv, nx, ny, nv, ax, ay, av, cx, cy, cv, dx, dy, dv, .int .i64 cl, .int .i64 bu] 26 (HM.out.alloc _) Try.rowRot rfl ?_; simp only [Act.put]) | (refine wpl_row rfl 36 _ rfl _ rfl #[.int .i64 wl, .int .i64 wh, .int .i64 tl, .int .i64 th, .int .i64 el, .int .i64 eh, .int .i64 nl, .int .i64 nh] 8 (HA.out.alloc _) Try.rowAir rfl ?_; simp only [Act.put]))
      have bN1 := Blk.new w1 34 #[.int .i64 p0, .int .i64 p1]
      have nHM := Lib.hid (HM.out.alloc (.cells #[.int .i64 p0, .int .i64 p1] 34))
      have nHA := Lib.hid (HA.out.alloc (.cells #[.int .i64 p0, .int .i64 p1] 34))
      have nHS := Lib.hid (HS.out.alloc (.cells #[.int .i64 p0, .int .i64 p1] 34))
      have nHQ := Lib.hid (HQ.out.alloc (.cells #[.int .i64 p0, .int .i64 p1] 34))
      have nHO := Lib.hid (HO.out.alloc (.cells #[.int .i64 p0, .int .i64 p1] 34))
      have nHB := Lib.hid (bal HB.out (.cells #[.int .i64 p0, .int .i64 p1] 34))
      clear HM HA HS HQ HO HB
      have HM := nHM
      have HA := nHA
      have HS := nHS
      have HQ := nHQ
      have HO := nHO
      have HB := nHB
      clear nHM nHA nHS nHQ nHO nHB
      generalize w1.alloc (.cells #[.int .i64 p0, .int .i64 p1] 34) = W2 at *
      generalize w1.heap.size = gN1 at *
      have N1 := Lib.hid bN1
      clear bN1
      have zHS := HS.out.lt
      have cHS0 := HS.out.cell 0
      have cHS1 := HS.out.cell 1
      go_wp2_with (first | (go_at_call 30; (with_reducible refine (H2.out _ (HR.out.below HB.out)).mono ?_); rintro e w1 ⟨rfl, hb1⟩; have nHM := Lib.hid (HM.out.below hb1); have nHA := Lib.hid (HA.out.below hb1); have nHS := Lib.hid (HS.out.below hb1); have nHQ := Lib.hid (HQ.out.below hb1); have nHO := Lib.hid (HO.out.below hb1); have nN1 := Lib.hid (N1.out.below hb1); have nHB := Lib.hid (bthen HB.out hb1); have zz1 := hb1.size; clear HM HA HS HQ HO N1 HB hb1; have HM := nHM; have HA := nHA; have HS := nHS; have HQ := nHQ; have HO := nHO; have N1 := nN1; have HB := nHB; clear nHM nHA nHS nHQ nHO nN1 nHB; (try clear zHS); have zHS := HS.out.lt; (try clear cHS0); have cHS0 := HS.out.cell 0; (try clear cHS1); have cHS1 := HS.out.cell 1) | (refine wpl_row rfl 27 _ rfl _ rfl #[hx', hy', hv', gx', gy', gv', lx', ly', lv', px', py', pv', nx', ny', nv', ax', ay', av', cx', cy', cv', dx', dy', dv', .int .i64 cl, .int .i64 bu] 26 (HQ.out.alloc _) Try.rowRot rfl ?_; simp only [Act.put]) | (refine wpl_row rfl 36 _ rfl _ rfl #[.int .i64 wl, .int .i64 wh, .int .i64 tl, .int .i64 th, .int .i64 el, .int .i64 eh, .int .i64 nl, .int .i64 nh] 8 (HA.out.alloc _) Try.rowAir rfl ?_; simp only [Act.put]))
      have bN2 := Blk.new w1 34 #[.int .i64 p0, .int .i64 p1]
      have nHM := Lib.hid (HM.out.alloc (.cells #[.int .i64 p0, .int .i64 p1] 34))
      have nHA := Lib.hid (HA.out.alloc (.cells #[.int .i64 p0, .int .i64 p1] 34))
      have nHS := Lib.hid (HS.out.alloc (.cells #[.int .i64 p0, .int .i64 p1] 34))
      have nHQ := Lib.hid (HQ.out.alloc (.cells #[.int .i64 p0, .int .i64 p1] 34))
      have nHO := Lib.hid (HO.out.alloc (.cells #[.int .i64 p0, .int .i64 p1] 34))
      have nN1 := Lib.hid (N1.out.alloc (.cells #[.int .i64 p0, .int .i64 p1] 34))
      have nHB := Lib.hid (bal HB.out (.cells #[.int .i64 p0, .int .i64 p1] 34))
      clear HM HA HS HQ HO N1 HB
      have HM := nHM
      have HA := nHA
      have HS := nHS
      have HQ := nHQ
      have HO := nHO
      have N1 := nN1
      have HB := nHB
      clear nHM nHA nHS nHQ nHO nN1 nHB
      generalize w1.alloc (.cells #[.int .i64 p0, .int .i64 p1] 34) = W2 at *
      generalize w1.heap.size = gN2 at *
      have N2 := Lib.hid bN2
      clear bN2
      go_wp2_with (first | (go_at_call 31; (with_reducible refine (H3.out _ _ _ _ _ _ _ _ _ _ _ _ _ _ _ _ _ _ _ _ _ _ _ _ _ HO.out).mono ?_); rintro e w1 ⟨rfl, hb1⟩; have nHM := Lib.hid (HM.out.below hb1); have nHA := Lib.hid (HA.out.below hb1); have nHS := Lib.hid (HS.out.below hb1); have nHQ := Lib.hid (HQ.out.below hb1); have nHO := Lib.hid (HO.out.below hb1); have nN1 := Lib.hid (N1.out.below hb1); have nN2 := Lib.hid (N2.out.below hb1); have nHB := Lib.hid (bthen HB.out hb1); have zz1 := hb1.size; clear HM HA HS HQ HO N1 N2 HB hb1; have HM := nHM; have HA := nHA; have HS := nHS; have HQ := nHQ; have HO := nHO; have N1 := nN1; have N2 := nN2; have HB := nHB; clear nHM nHA nHS nHQ nHO nN1 nN2 nHB) | (refine wpl_row rfl 27 _ rfl _ rfl #[hx, hy, hv, gx, gy, gv, lx, ly, lv, px, py, pv, nx, ny, nv, ax, ay, av, cx, cy, cv, dx, dy, dv, .int .i64 cl, .int .i64 bu] 26 (HM.out.alloc _) Try.rowRot rfl ?_; simp only [Act.put]) | (refine wpl_row rfl 36 _ rfl _ rfl #[.int .i64 wl, .int .i64 wh, .int .i64 tl, .int .i64 th, .int .i64 el, .int .i64 eh, .int .i64 nl, .int .i64 nh] 8 (HA.out.alloc _) Try.rowAir rfl ?_; simp only [Act.put]))
      have bN3 := Blk.new w1 34 #[.int .i64 q0, .int .i64 q1]
      have nHM := Lib.hid (HM.out.alloc (.cells #[.int .i64 q0, .int .i64 q1] 34))
      have nHA := Lib.hid (HA.out.alloc (.cells #[.int .i64 q0, .int .i64 q1] 34))
      have nHS := Lib.hid (HS.out.alloc (.cells #[.int .i64 q0, .int .i64 q1] 34))
      have nHQ := Lib.hid (HQ.out.alloc (.cells #[.int .i64 q0, .int .i64 q1] 34))
      have nHO := Lib.hid (HO.out.alloc (.cells #[.int .i64 q0, .int .i64 q1] 34))
      have nN1 := Lib.hid (N1.out.alloc (.cells #[.int .i64 q0, .int .i64 q1] 34))
      have nN2 := Lib.hid (N2.out.alloc (.cells #[.int .i64 q0, .int .i64 q1] 34))
      have nHB := Lib.hid (bal HB.out (.cells #[.int .i64 q0, .int .i64 q1] 34))
      clear HM HA HS HQ HO N1 N2 HB
      have HM := nHM
      have HA := nHA
      have HS := nHS
      have HQ := nHQ
      have HO := nHO
      have N1 := nN1
      have N2 := nN2
      have HB := nHB
      clear nHM nHA nHS nHQ nHO nN1 nN2 nHB
      generalize w1.alloc (.cells #[.int .i64 q0, .int .i64 q1] 34) = W2 at *
      generalize w1.heap.size = gN3 at *
      have N3 := Lib.hid bN3
      clear bN3
      go_wp2_with (first | (go_at_call 32; (with_reducible refine (H4.out _ (HR.out.below HB.out)).mono ?_); rintro e w1 ⟨rfl, hb1⟩; have nHM := Lib.hid (HM.out.below hb1); have nHA := Lib.hid (HA.out.below hb1); have nHS := Lib.hid (HS.out.below hb1); have nHQ := Lib.hid (HQ.out.below hb1); have nHO := Lib.hid (HO.out.below hb1); have nN1 := Lib.hid (N1.out.below hb1); have nN2 := Lib.hid (N2.out.below hb1); have nN3 := Lib.hid (N3.out.below hb1); have nHB := Lib.hid (bthen HB.out hb1); have zz1 := hb1.size; clear HM HA HS HQ HO N1 N2 N3 HB hb1; have HM := nHM; have HA := nHA; have HS := nHS; have HQ := nHQ; have HO := nHO; have N1 := nN1; have N2 := nN2; have N3 := nN3; have HB := nHB; clear nHM nHA nHS nHQ nHO nN1 nN2 nN3 nHB; (try clear zHS); have zHS := HS.out.lt; (try clear cHS0); have cHS0 := HS.out.cell 0; (try clear cHS1); have cHS1 := HS.out.cell 1) | (refine wpl_row rfl 27 _ rfl _ rfl #[hx', hy', hv', gx', gy', gv', lx', ly', lv', px', py', pv', nx', ny', nv', ax', ay', av', cx', cy', cv', dx', dy', dv', .int .i64 cl, .int .i64 bu] 26 (HQ.out.alloc _) Try.rowRot rfl ?_; simp only [Act.put]) | (refine wpl_row rfl 36 _ rfl _ rfl #[.int .i64 wl, .int .i64 wh, .int .i64 tl, .int .i64 th, .int .i64 el, .int .i64 eh, .int .i64 nl, .int .i64 nh] 8 (HA.out.alloc _) Try.rowAir rfl ?_; simp only [Act.put]))
      have bN4 := Blk.new w1 34 #[.int .i64 q0, .int .i64 q1]
      have nHM := Lib.hid (HM.out.alloc (.cells #[.int .i64 q0, .int .i64 q1] 34))
      have nHA := Lib.hid (HA.out.alloc (.cells #[.int .i64 q0, .int .i64 q1] 34))
      have nHS := Lib.hid (HS.out.alloc (.cells #[.int .i64 q0, .int .i64 q1] 34))
      have nHQ := Lib.hid (HQ.out.alloc (.cells #[.int .i64 q0, .int .i64 q1] 34))
      have nHO := Lib.hid (HO.out.alloc (.cells #[.int .i64 q0, .int .i64 q1] 34))
      have nN1 := Lib.hid (N1.out.alloc (.cells #[.int .i64 q0, .int .i64 q1] 34))
      have nN2 := Lib.hid (N2.out.alloc (.cells #[.int .i64 q0, .int .i64 q1] 34))
      have nN3 := Lib.hid (N3.out.alloc (.cells #[.int .i64 q0, .int .i64 q1] 34))
      have nHB := Lib.hid (bal HB.out (.cells #[.int .i64 q0, .int .i64 q1] 34))
      clear HM HA HS HQ HO N1 N2 N3 HB
      have HM := nHM
      have HA := nHA
      have HS := nHS
      have HQ := nHQ
      have HO := nHO
      have N1 := nN1
      have N2 := nN2
      have N3 := nN3
      have HB := nHB
      clear nHM nHA nHS nHQ nHO nN1 nN2 nN3 nHB
      generalize w1.alloc (.cells #[.int .i64 q0, .int .i64 q1] 34) = W2 at *
      generalize w1.heap.size = gN4 at *
      have N4 := Lib.hid bN4
      clear bN4
      have zHS := HS.out.lt
      have cHS0 := HS.out.cell 0
      have cHS1 := HS.out.cell 1
      go_wp2_with (first | (go_at_call 21; (with_reducible refine (H5.out _ _ _ _ _ _ _ _ _ _ _ _ _ _ _ _ _ _ _ _ _ _ _ _ _ HO.out).mono ?_); rintro e w1 ⟨rfl, hb1⟩; have nHM := Lib.hid (HM.out.below hb1); have nHA := Lib.hid (HA.out.below hb1); have nHS := Lib.hid (HS.out.below hb1); have nHQ := Lib.hid (HQ.out.below hb1); have nHO := Lib.hid (HO.out.below hb1); have nN1 := Lib.hid (N1.out.below hb1); have nN2 := Lib.hid (N2.out.below hb1); have nN3 := Lib.hid (N3.out.below hb1); have nN4 := Lib.hid (N4.out.below hb1); have nHB := Lib.hid (bthen HB.out hb1); have zz1 := hb1.size; clear HM HA HS HQ HO N1 N2 N3 N4 HB hb1; have HM := nHM; have HA := nHA; have HS := nHS; have HQ := nHQ; have HO := nHO; have N1 := nN1; have N2 := nN2; have N3 := nN3; have N4 := nN4; have HB := nHB; clear nHM nHA nHS nHQ nHO nN1 nN2 nN3 nN4 nHB; (try clear zHS); have zHS := HS.out.lt; (try clear cHS0); have cHS0 := HS.out.cell 0; (try clear cHS1); have cHS1 := HS.out.cell 1) | (refine wpl_row rfl 27 _ rfl _ rfl #[hx, hy, hv, gx, gy, gv, lx, ly, lv, px, py, pv, nx, ny, nv, ax, ay, av, cx, cy, cv, dx, dy, dv, .int .i64 cl, .int .i64 bu] 26 HM.out Try.rowRot rfl ?_; simp only [Act.put]) | (refine wpl_row rfl 36 _ rfl _ rfl #[.int .i64 wl, .int .i64 wh, .int .i64 tl, .int .i64 th, .int .i64 el, .int .i64 eh, .int .i64 nl, .int .i64 nh] 8 HA.out Try.rowAir rfl ?_; simp only [Act.put]) | (go_at_call 33; (with_reducible refine (H6.out _ (HR.out.below HB.out)).mono ?_); rintro e w1 ⟨rfl, hb1⟩; have nHM := Lib.hid (HM.out.below hb1); have nHA := Lib.hid (HA.out.below hb1); have nHS := Lib.hid (HS.out.below hb1); have nHQ := Lib.hid (HQ.out.below hb1); have nHO := Lib.hid (HO.out.below hb1); have nN1 := Lib.hid (N1.out.below hb1); have nN2 := Lib.hid (N2.out.below hb1); have nN3 := Lib.hid (N3.out.below hb1); have nN4 := Lib.hid (N4.out.below hb1); have nHB := Lib.hid (bthen HB.out hb1); have zz1 := hb1.size; clear HM HA HS HQ HO N1 N2 N3 N4 HB hb1; have HM := nHM; have HA := nHA; have HS := nHS; have HQ := nHQ; have HO := nHO; have N1 := nN1; have N2 := nN2; have N3 := nN3; have N4 := nN4; have HB := nHB; clear nHM nHA nHS nHQ nHO nN1 nN2 nN3 nN4 nHB; (try clear zHQ); have zHQ := HQ.out.lt; (try clear cHQ9); have cHQ9 := HQ.out.cell 9; (try clear cHQ10); have cHQ10 := HQ.out.cell 10; (try clear cHQ11); have cHQ11 := HQ.out.cell 11; (try clear zHA); have zHA := HA.out.lt; (try clear cHA2); have cHA2 := HA.out.cell 2; (try clear cHA3); have cHA3 := HA.out.cell 3; (try clear cHA4); have cHA4 := HA.out.cell 4; (try clear cHA5); have cHA5 := HA.out.cell 5; (try clear zN1); have zN1 := N1.out.lt; (try clear cN10); have cN10 := N1.out.cell 0; (try clear cN11); have cN11 := N1.out.cell 1; (try clear zN2); have zN2 := N2.out.lt; (try clear cN20); have cN20 := N2.out.cell 0; (try clear cN21); have cN21 := N2.out.cell 1; (try clear zN3); have zN3 := N3.out.lt; (try clear cN30); have cN30 := N3.out.cell 0; (try clear cN31); have cN31 := N3.out.cell 1; (try clear zN4); have zN4 := N4.out.lt; (try clear cN40); have cN40 := N4.out.cell 0; (try clear cN41); have cN41 := N4.out.cell 1) | (go_at_call 15; (with_reducible refine (works_c _).mono ?_); rintro e w1 ⟨rfl, hb1⟩; have nHM := Lib.hid (HM.out.below hb1); have nHB := Lib.hid (bthen HB.out hb1); have zz1 := hb1.size; clear HM HB hb1; have HM := nHM; have HB := nHB; clear nHM nHB))
      go_wp2_with (first | (go_at_call 34; (with_reducible refine (HBD.out _ _ _ _ HO.out.p).mono ?_); rintro e w1 ⟨rfl, hb1⟩; have nHM := Lib.hid (HM.out.below hb1); have nN1 := Lib.hid (N1.out.below hb1); have nN3 := Lib.hid (N3.out.below hb1); have nHB := Lib.hid (bthen HB.out hb1); have zz1 := hb1.size; clear HM N1 N3 HB hb1; have HM := nHM; have N1 := nN1; have N3 := nN3; have HB := nHB; clear nHM nN1 nN3 nHB; (try clear zN1); have zN1 := N1.out.lt; (try clear cN10); have cN10 := N1.out.cell 0; (try clear cN11); have cN11 := N1.out.cell 1; (try clear zN3); have zN3 := N3.out.lt; (try clear cN30); have cN30 := N3.out.cell 0; (try clear cN31); have cN31 := N3.out.cell 1))
      have bN5 := Blk.new w1 34 #[.int .i64 q0, .int .i64 q1]
      have nN1 := Lib.hid (N1.out.alloc (.cells #[.int .i64 q0, .int .i64 q1] 34))
      have nN3 := Lib.hid (N3.out.alloc (.cells #[.int .i64 q0, .int .i64 q1] 34))
      have nHB := Lib.hid (bal HB.out (.cells #[.int .i64 q0, .int .i64 q1] 34))
      clear N1 N3 HB
      have N1 := nN1
      have N3 := nN3
      have HB := nHB
      clear nN1 nN3 nHB
      generalize w1.alloc (.cells #[.int .i64 q0, .int .i64 q1] 34) = W2 at *
      generalize w1.heap.size = gN5 at *
      have N5 := Lib.hid bN5
      clear bN5
      go_wp2_with (first | (go_at_call 15; (with_reducible refine (works_c _).mono ?_); rintro e w1 ⟨rfl, hb1⟩; have nN1 := Lib.hid (N1.out.below hb1); have nHB := Lib.hid (bthen HB.out hb1); have zz1 := hb1.size; clear N1 HB hb1; have N1 := nN1; have HB := nHB; clear nN1 nHB))
      go_ret
      exact ⟨rfl, HB.out⟩
    · have hne : (margE S cl bu wl wh tl th el eh nl nh sl sh != 0) = true := by simpa using he
      generalize neeLo S cl bu wl wh tl th el eh nl nh sl sh = p0 at *
      generalize neeHi S cl bu wl wh tl th el eh nl nh sl sh = p1 at *
      generalize hasLo S cl bu wl wh tl th el eh nl nh = q0 at *
      generalize hasHi S cl bu wl wh tl th el eh nl nh = q1 at *
      generalize marV S cl bu wl wh tl th el eh nl nh sl sh = V at *
      generalize margE S cl bu wl wh tl th el eh nl nh sl sh = E at *
      generalize neeE S cl bu wl wh tl th el eh nl nh sl sh = E1 at *
      generalize hasE S cl bu wl wh tl th el eh nl nh = E2 at *
      have H1 := Lib.hid h1
      have H2 := Lib.hid h2
      have H3 := Lib.hid h3
      have H4 := Lib.hid h4
      have H5 := Lib.hid h5
      have H6 := Lib.hid h6
      clear h1 h2 h3 h4 h5 h6 he
      have HW := Lib.hid (fun w1 hR => far2_c hx hy hv gx gy gv lx ly lv px py pv nx ny nv ax ay av cx cy cv dx dy dv cl bu S w1 hR)
      rw [hf] at HW
      go_enter Try.func7, Try.ntmps7
      go_wp2_with (first | (refine wpl_row rfl 27 _ rfl _ rfl #[hx, hy, hv, gx, gy, gv, lx, ly, lv, px, py, pv, nx, ny, nv, ax, ay, av, cx, cy, cv, dx, dy, dv, .int .i64 cl, .int .i64 bu] 26 ?_ Try.rowRot rfl ?_; (focus exact (by repeat (first | (refine Blk.newAt _ _ _ ?_; first | rfl | (simp; done)) | refine Blk.alloc ?_ _))); simp only [Act.put]))
      have bHM : Blk (((w.alloc (.cells #[hx, hy, hv, gx, gy, gv, lx, ly, lv, px, py, pv, nx, ny, nv, ax, ay, av, cx, cy, cv, dx, dy, dv, .int .i64 cl, .int .i64 bu] 27)).alloc (.cells #[.int .i64 wl, .int .i64 wh, .int .i64 tl, .int .i64 th, .int .i64 el, .int .i64 eh, .int .i64 nl, .int .i64 nh] 36)).alloc (.cells #[.int .i64 sl, .int .i64 sh] 34)) (w.heap.size) 27 #[hx, hy, hv, gx, gy, gv, lx, ly, lv, px, py, pv, nx, ny, nv, ax, ay, av, cx, cy, cv, dx, dy, dv, .int .i64 cl, .int .i64 bu] := (by repeat (first | (refine Blk.newAt _ _ _ ?_; first | rfl | (simp; done)) | refine Blk.alloc ?_ _))
      have bHA : Blk (((w.alloc (.cells #[hx, hy, hv, gx, gy, gv, lx, ly, lv, px, py, pv, nx, ny, nv, ax, ay, av, cx, cy, cv, dx, dy, dv, .int .i64 cl, .int .i64 bu] 27)).alloc (.cells #[.int .i64 wl, .int .i64 wh, .int .i64 tl, .int .i64 th, .int .i64 el, .int .i64 eh, .int .i64 nl, .int .i64 nh] 36)).alloc (.cells #[.int .i64 sl, .int .i64 sh] 34)) (w.heap.size + 1) 36 #[.int .i64 wl, .int .i64 wh, .int .i64 tl, .int .i64 th, .int .i64 el, .int .i64 eh, .int .i64 nl, .int .i64 nh] := (by repeat (first | (refine Blk.newAt _ _ _ ?_; first | rfl | (simp; done)) | refine Blk.alloc ?_ _))
      have bHS : Blk (((w.alloc (.cells #[hx, hy, hv, gx, gy, gv, lx, ly, lv, px, py, pv, nx, ny, nv, ax, ay, av, cx, cy, cv, dx, dy, dv, .int .i64 cl, .int .i64 bu] 27)).alloc (.cells #[.int .i64 wl, .int .i64 wh, .int .i64 tl, .int .i64 th, .int .i64 el, .int .i64 eh, .int .i64 nl, .int .i64 nh] 36)).alloc (.cells #[.int .i64 sl, .int .i64 sh] 34)) (w.heap.size + 1 + 1) 34 #[.int .i64 sl, .int .i64 sh] := (by repeat (first | (refine Blk.newAt _ _ _ ?_; first | rfl | (simp; done)) | refine Blk.alloc ?_ _))
      have bHB : Below w.heap.size w (((w.alloc (.cells #[hx, hy, hv, gx, gy, gv, lx, ly, lv, px, py, pv, nx, ny, nv, ax, ay, av, cx, cy, cv, dx, dy, dv, .int .i64 cl, .int .i64 bu] 27)).alloc (.cells #[.int .i64 wl, .int .i64 wh, .int .i64 tl, .int .i64 th, .int .i64 el, .int .i64 eh, .int .i64 nl, .int .i64 nh] 36)).alloc (.cells #[.int .i64 sl, .int .i64 sh] 34)) := (by repeat' (first | exact Below.refl _ _ | assumption | refine Below.drew ?_ | refine bdn ?_ _ | refine bal ?_ _ | refine Below.setCell ?_ (by first | (simp; done) | omega | (simp; omega)) _))
      generalize (((w.alloc (.cells #[hx, hy, hv, gx, gy, gv, lx, ly, lv, px, py, pv, nx, ny, nv, ax, ay, av, cx, cy, cv, dx, dy, dv, .int .i64 cl, .int .i64 bu] 27)).alloc (.cells #[.int .i64 wl, .int .i64 wh, .int .i64 tl, .int .i64 th, .int .i64 el, .int .i64 eh, .int .i64 nl, .int .i64 nh] 36)).alloc (.cells #[.int .i64 sl, .int .i64 sh] 34)) = W at *
      have zW := bHS.lt
      have HM := Lib.hid bHM
      have HA := Lib.hid bHA
      have HS := Lib.hid bHS
      have HB := Lib.hid bHB
      clear bHM bHA bHS bHB
      go_wp2_with (first | (refine wpl_row rfl 27 _ rfl _ rfl #[hx, hy, hv, gx, gy, gv, lx, ly, lv, px, py, pv, nx, ny, nv, ax, ay, av, cx, cy, cv, dx, dy, dv, .int .i64 cl, .int .i64 bu] 26 HM.out Try.rowRot rfl ?_; simp only [Act.put]) | (go_at_call 14; (with_reducible refine (HW.out _ (HR.out.below HB.out)).mono ?_); rintro e w1 ⟨rfl, hb1⟩; have nHM := Lib.hid (HM.out.below hb1); have nHA := Lib.hid (HA.out.below hb1); have nHS := Lib.hid (HS.out.below hb1); have nHB := Lib.hid (bthen HB.out hb1); have zz1 := hb1.size; clear HM HA HS HB hb1; have HM := nHM; have HA := nHA; have HS := nHS; have HB := nHB; clear nHM nHA nHS nHB) | (go_at_call 15; (with_reducible refine (works_c _).mono ?_); rintro e w1 ⟨rfl, hb1⟩; have nHM := Lib.hid (HM.out.below hb1); have nHA := Lib.hid (HA.out.below hb1); have nHS := Lib.hid (HS.out.below hb1); have nHB := Lib.hid (bthen HB.out hb1); have zz1 := hb1.size; clear HM HA HS HB hb1; have HM := nHM; have HA := nHA; have HS := nHS; have HB := nHB; clear nHM nHA nHS nHB) | (go_at_call 17; (with_reducible refine (own_c hx hy hv gx gy gv lx ly lv px py pv nx ny nv ax ay av cx cy cv dx dy dv cl bu S _ (HR.out.below HB.out) HN.out).mono ?_); rintro e w1 ⟨v, rfl, ho, hb1⟩; obtain ⟨hx', hy', hv', gx', gy', gv', lx', ly', lv', px', py', pv', nx', ny', nv', ax', ay', av', cx', cy', cv', dx', dy', dv', rfl, r1⟩ := ho; have HO := Lib.hid r1; clear r1; have nHM := Lib.hid (HM.out.below hb1); have nHA := Lib.hid (HA.out.below hb1); have nHS := Lib.hid (HS.out.below hb1); have nHB := Lib.hid (bthen HB.out hb1); have zz1 := hb1.size; clear HM HA HS HB hb1; have HM := nHM; have HA := nHA; have HS := nHS; have HB := nHB; clear nHM nHA nHS nHB; (try clear zHS); have zHS := HS.out.lt; (try clear cHS0); have cHS0 := HS.out.cell 0; (try clear cHS1); have cHS1 := HS.out.cell 1) | (refine wpl_store_new rfl 27 _ _ rfl #[hx', hy', hv', gx', gy', gv', lx', ly', lv', px', py', pv', nx', ny', nv', ax', ay', av', cx', cy', cv', dx', dy', dv', .int .i64 cl, .int .i64 bu] _ _ rfl ?_ rfl Try.sizeRot' rfl (RotAt.one26' HO.out) ?_; (focus (simp; done)); simp only [Act.put]) | (refine wpl_row rfl 27 _ rfl _ rfl #[hx', hy', hv', gx', gy', gv', lx', ly', lv', px', py', pv', nx', ny', nv', ax', ay', av', cx', cy', cv', dx', dy', dv', .int .i64 cl, .int .i64 bu] 26 (Blk.new _ _ _) Try.rowRot rfl ?_; simp only [Act.put]) | (refine wpl_row rfl 36 _ rfl _ rfl #[.int .i64 wl, .int .i64 wh, .int .i64 tl, .int .i64 th, .int .i64 el, .int .i64 eh, .int .i64 nl, .int .i64 nh] 8 (HA.out.alloc _) Try.rowAir rfl ?_; simp only [Act.put]))
      have bHQ := Blk.new w1 27 #[hx', hy', hv', gx', gy', gv', lx', ly', lv', px', py', pv', nx', ny', nv', ax', ay', av', cx', cy', cv', dx', dy', dv', .int .i64 cl, .int .i64 bu]
      have nHM := Lib.hid (HM.out.alloc (.cells #[hx', hy', hv', gx', gy', gv', lx', ly', lv', px', py', pv', nx', ny', nv', ax', ay', av', cx', cy', cv', dx', dy', dv', .int .i64 cl, .int .i64 bu] 27))
      have nHA := Lib.hid (HA.out.alloc (.cells #[hx', hy', hv', gx', gy', gv', lx', ly', lv', px', py', pv', nx', ny', nv', ax', ay', av', cx', cy', cv', dx', dy', dv', .int .i64 cl, .int .i64 bu] 27))
      have nHS := Lib.hid (HS.out.alloc (.cells #[hx', hy', hv', gx', gy', gv', lx', ly', lv', px', py', pv', nx', ny', nv', ax', ay', av', cx', cy', cv', dx', dy', dv', .int .i64 cl, .int .i64 bu] 27))
      have nHO := Lib.hid (HO.out.alloc (.cells #[hx', hy', hv', gx', gy', gv', lx', ly', lv', px', py', pv', nx', ny', nv', ax', ay', av', cx', cy', cv', dx', dy', dv', .int .i64 cl, .int .i64 bu] 27))
      have nHB := Lib.hid (bal HB.out (.cells #[hx', hy', hv', gx', gy', gv', lx', ly', lv', px', py', pv', nx', ny', nv', ax', ay', av', cx', cy', cv', dx', dy', dv', .int .i64 cl, .int .i64 bu] 27))
      clear HM HA HS HO HB
      have HM := nHM
      have HA := nHA
      have HS := nHS
      have HO := nHO
      have HB := nHB
      clear nHM nHA nHS nHO nHB
      generalize w1.alloc (.cells #[hx', hy', hv', gx', gy', gv', lx', ly', lv', px', py', pv', nx', ny', nv', ax', ay', av', cx', cy', cv', dx', dy', dv', .int .i64 cl, .int .i64 bu] 27) = W2 at *
      generalize w1.heap.size = gHQ at *
      have HQ := Lib.hid bHQ
      clear bHQ
      have zHS := HS.out.lt
      have cHS0 := HS.out.cell 0
      have cHS1 := HS.out.cell 1
      go_wp2_with (first | (go_at_call 29; (with_reducible refine (H1.out _ _ _ _ _ _ _ _ _ _ _ _ _ _ _ _ _ _ _ _ _ _ _ _ _ HO.out).mono ?_); rintro e w1 ⟨rfl, hb1⟩; have nHM := Lib.hid (HM.out.below hb1); have nHA := Lib.hid (HA.out.below hb1); have nHS := Lib.hid (HS.out.below hb1); have nHQ := Lib.hid (HQ.out.below hb1); have nHO := Lib.hid (HO.out.below hb1); have nHB := Lib.hid (bthen HB.out hb1); have zz1 := hb1.size; clear HM HA HS HQ HO HB hb1; have HM := nHM; have HA := nHA; have HS := nHS; have HQ := nHQ; have HO := nHO; have HB := nHB; clear nHM nHA nHS nHQ nHO nHB; (try clear zHS); have zHS := HS.out.lt; (try clear cHS0); have cHS0 := HS.out.cell 0; (try clear cHS1); have cHS1 := HS.out.cell 1) | (refine wpl_row rfl 27 _ rfl _ rfl #[hx, hy, hv, gx, gy, gv, lx, ly, lv, px, py, pv, nx, ny, nv, ax, ay, av, cx, cy, cv, dx, dy, dv, .int .i64 cl, .int .i64 bu] 26 (HM.out.alloc _) Try.rowRot rfl ?_; simp only [Act.put]) | (refine wpl_row rfl 36 _ rfl _ rfl #[.int .i64 wl, .int .i64 wh, .int .i64 tl, .int .i64 th, .int .i64 el, .int .i64 eh, .int .i64 nl, .int .i64 nh] 8 (HA.out.alloc _) Try.rowAir rfl ?_; simp only [Act.put]))
      have bN1 := Blk.new w1 34 #[.int .i64 p0, .int .i64 p1]
      have nHM := Lib.hid (HM.out.alloc (.cells #[.int .i64 p0, .int .i64 p1] 34))
      have nHA := Lib.hid (HA.out.alloc (.cells #[.int .i64 p0, .int .i64 p1] 34))
      have nHS := Lib.hid (HS.out.alloc (.cells #[.int .i64 p0, .int .i64 p1] 34))
      have nHQ := Lib.hid (HQ.out.alloc (.cells #[.int .i64 p0, .int .i64 p1] 34))
      have nHO := Lib.hid (HO.out.alloc (.cells #[.int .i64 p0, .int .i64 p1] 34))
      have nHB := Lib.hid (bal HB.out (.cells #[.int .i64 p0, .int .i64 p1] 34))
      clear HM HA HS HQ HO HB
      have HM := nHM
      have HA := nHA
      have HS := nHS
      have HQ := nHQ
      have HO := nHO
      have HB := nHB
      clear nHM nHA nHS nHQ nHO nHB
      generalize w1.alloc (.cells #[.int .i64 p0, .int .i64 p1] 34) = W2 at *
      generalize w1.heap.size = gN1 at *
      have N1 := Lib.hid bN1
      clear bN1
      have zHS := HS.out.lt
      have cHS0 := HS.out.cell 0
      have cHS1 := HS.out.cell 1
      go_wp2_with (first | (go_at_call 30; (with_reducible refine (H2.out _ (HR.out.below HB.out)).mono ?_); rintro e w1 ⟨rfl, hb1⟩; have nHM := Lib.hid (HM.out.below hb1); have nHA := Lib.hid (HA.out.below hb1); have nHS := Lib.hid (HS.out.below hb1); have nHQ := Lib.hid (HQ.out.below hb1); have nHO := Lib.hid (HO.out.below hb1); have nN1 := Lib.hid (N1.out.below hb1); have nHB := Lib.hid (bthen HB.out hb1); have zz1 := hb1.size; clear HM HA HS HQ HO N1 HB hb1; have HM := nHM; have HA := nHA; have HS := nHS; have HQ := nHQ; have HO := nHO; have N1 := nN1; have HB := nHB; clear nHM nHA nHS nHQ nHO nN1 nHB; (try clear zHS); have zHS := HS.out.lt; (try clear cHS0); have cHS0 := HS.out.cell 0; (try clear cHS1); have cHS1 := HS.out.cell 1) | (refine wpl_row rfl 27 _ rfl _ rfl #[hx', hy', hv', gx', gy', gv', lx', ly', lv', px', py', pv', nx', ny', nv', ax', ay', av', cx', cy', cv', dx', dy', dv', .int .i64 cl, .int .i64 bu] 26 (HQ.out.alloc _) Try.rowRot rfl ?_; simp only [Act.put]) | (refine wpl_row rfl 36 _ rfl _ rfl #[.int .i64 wl, .int .i64 wh, .int .i64 tl, .int .i64 th, .int .i64 el, .int .i64 eh, .int .i64 nl, .int .i64 nh] 8 (HA.out.alloc _) Try.rowAir rfl ?_; simp only [Act.put]))
      have bN2 := Blk.new w1 34 #[.int .i64 p0, .int .i64 p1]
      have nHM := Lib.hid (HM.out.alloc (.cells #[.int .i64 p0, .int .i64 p1] 34))
      have nHA := Lib.hid (HA.out.alloc (.cells #[.int .i64 p0, .int .i64 p1] 34))
      have nHS := Lib.hid (HS.out.alloc (.cells #[.int .i64 p0, .int .i64 p1] 34))
      have nHQ := Lib.hid (HQ.out.alloc (.cells #[.int .i64 p0, .int .i64 p1] 34))
      have nHO := Lib.hid (HO.out.alloc (.cells #[.int .i64 p0, .int .i64 p1] 34))
      have nN1 := Lib.hid (N1.out.alloc (.cells #[.int .i64 p0, .int .i64 p1] 34))
      have nHB := Lib.hid (bal HB.out (.cells #[.int .i64 p0, .int .i64 p1] 34))
      clear HM HA HS HQ HO N1 HB
      have HM := nHM
      have HA := nHA
      have HS := nHS
      have HQ := nHQ
      have HO := nHO
      have N1 := nN1
      have HB := nHB
      clear nHM nHA nHS nHQ nHO nN1 nHB
      generalize w1.alloc (.cells #[.int .i64 p0, .int .i64 p1] 34) = W2 at *
      generalize w1.heap.size = gN2 at *
      have N2 := Lib.hid bN2
      clear bN2
      go_wp2_with (first | (go_at_call 31; (with_reducible refine (H3.out _ _ _ _ _ _ _ _ _ _ _ _ _ _ _ _ _ _ _ _ _ _ _ _ _ HO.out).mono ?_); rintro e w1 ⟨rfl, hb1⟩; have nHM := Lib.hid (HM.out.below hb1); have nHA := Lib.hid (HA.out.below hb1); have nHS := Lib.hid (HS.out.below hb1); have nHQ := Lib.hid (HQ.out.below hb1); have nHO := Lib.hid (HO.out.below hb1); have nN1 := Lib.hid (N1.out.below hb1); have nN2 := Lib.hid (N2.out.below hb1); have nHB := Lib.hid (bthen HB.out hb1); have zz1 := hb1.size; clear HM HA HS HQ HO N1 N2 HB hb1; have HM := nHM; have HA := nHA; have HS := nHS; have HQ := nHQ; have HO := nHO; have N1 := nN1; have N2 := nN2; have HB := nHB; clear nHM nHA nHS nHQ nHO nN1 nN2 nHB) | (refine wpl_row rfl 27 _ rfl _ rfl #[hx, hy, hv, gx, gy, gv, lx, ly, lv, px, py, pv, nx, ny, nv, ax, ay, av, cx, cy, cv, dx, dy, dv, .int .i64 cl, .int .i64 bu] 26 (HM.out.alloc _) Try.rowRot rfl ?_; simp only [Act.put]) | (refine wpl_row rfl 36 _ rfl _ rfl #[.int .i64 wl, .int .i64 wh, .int .i64 tl, .int .i64 th, .int .i64 el, .int .i64 eh, .int .i64 nl, .int .i64 nh] 8 (HA.out.alloc _) Try.rowAir rfl ?_; simp only [Act.put]))
      have bN3 := Blk.new w1 34 #[.int .i64 q0, .int .i64 q1]
      have nHM := Lib.hid (HM.out.alloc (.cells #[.int .i64 q0, .int .i64 q1] 34))
      have nHA := Lib.hid (HA.out.alloc (.cells #[.int .i64 q0, .int .i64 q1] 34))
      have nHS := Lib.hid (HS.out.alloc (.cells #[.int .i64 q0, .int .i64 q1] 34))
      have nHQ := Lib.hid (HQ.out.alloc (.cells #[.int .i64 q0, .int .i64 q1] 34))
      have nHO := Lib.hid (HO.out.alloc (.cells #[.int .i64 q0, .int .i64 q1] 34))
      have nN1 := Lib.hid (N1.out.alloc (.cells #[.int .i64 q0, .int .i64 q1] 34))
      have nN2 := Lib.hid (N2.out.alloc (.cells #[.int .i64 q0, .int .i64 q1] 34))
      have nHB := Lib.hid (bal HB.out (.cells #[.int .i64 q0, .int .i64 q1] 34))
      clear HM HA HS HQ HO N1 N2 HB
      have HM := nHM
      have HA := nHA
      have HS := nHS
      have HQ := nHQ
      have HO := nHO
      have N1 := nN1
      have N2 := nN2
      have HB := nHB
      clear nHM nHA nHS nHQ nHO nN1 nN2 nHB
      generalize w1.alloc (.cells #[.int .i64 q0, .int .i64 q1] 34) = W2 at *
      generalize w1.heap.size = gN3 at *
      have N3 := Lib.hid bN3
      clear bN3
      go_wp2_with (first | (go_at_call 32; (with_reducible refine (H4.out _ (HR.out.below HB.out)).mono ?_); rintro e w1 ⟨rfl, hb1⟩; have nHM := Lib.hid (HM.out.below hb1); have nHA := Lib.hid (HA.out.below hb1); have nHS := Lib.hid (HS.out.below hb1); have nHQ := Lib.hid (HQ.out.below hb1); have nHO := Lib.hid (HO.out.below hb1); have nN1 := Lib.hid (N1.out.below hb1); have nN2 := Lib.hid (N2.out.below hb1); have nN3 := Lib.hid (N3.out.below hb1); have nHB := Lib.hid (bthen HB.out hb1); have zz1 := hb1.size; clear HM HA HS HQ HO N1 N2 N3 HB hb1; have HM := nHM; have HA := nHA; have HS := nHS; have HQ := nHQ; have HO := nHO; have N1 := nN1; have N2 := nN2; have N3 := nN3; have HB := nHB; clear nHM nHA nHS nHQ nHO nN1 nN2 nN3 nHB; (try clear zHS); have zHS := HS.out.lt; (try clear cHS0); have cHS0 := HS.out.cell 0; (try clear cHS1); have cHS1 := HS.out.cell 1) | (refine wpl_row rfl 27 _ rfl _ rfl #[hx', hy', hv', gx', gy', gv', lx', ly', lv', px', py', pv', nx', ny', nv', ax', ay', av', cx', cy', cv', dx', dy', dv', .int .i64 cl, .int .i64 bu] 26 (HQ.out.alloc _) Try.rowRot rfl ?_; simp only [Act.put]) | (refine wpl_row rfl 36 _ rfl _ rfl #[.int .i64 wl, .int .i64 wh, .int .i64 tl, .int .i64 th, .int .i64 el, .int .i64 eh, .int .i64 nl, .int .i64 nh] 8 (HA.out.alloc _) Try.rowAir rfl ?_; simp only [Act.put]))
      have bN4 := Blk.new w1 34 #[.int .i64 q0, .int .i64 q1]
      have nHM := Lib.hid (HM.out.alloc (.cells #[.int .i64 q0, .int .i64 q1] 34))
      have nHA := Lib.hid (HA.out.alloc (.cells #[.int .i64 q0, .int .i64 q1] 34))
      have nHS := Lib.hid (HS.out.alloc (.cells #[.int .i64 q0, .int .i64 q1] 34))
      have nHQ := Lib.hid (HQ.out.alloc (.cells #[.int .i64 q0, .int .i64 q1] 34))
      have nHO := Lib.hid (HO.out.alloc (.cells #[.int .i64 q0, .int .i64 q1] 34))
      have nN1 := Lib.hid (N1.out.alloc (.cells #[.int .i64 q0, .int .i64 q1] 34))
      have nN2 := Lib.hid (N2.out.alloc (.cells #[.int .i64 q0, .int .i64 q1] 34))
      have nN3 := Lib.hid (N3.out.alloc (.cells #[.int .i64 q0, .int .i64 q1] 34))
      have nHB := Lib.hid (bal HB.out (.cells #[.int .i64 q0, .int .i64 q1] 34))
      clear HM HA HS HQ HO N1 N2 N3 HB
      have HM := nHM
      have HA := nHA
      have HS := nHS
      have HQ := nHQ
      have HO := nHO
      have N1 := nN1
      have N2 := nN2
      have N3 := nN3
      have HB := nHB
      clear nHM nHA nHS nHQ nHO nN1 nN2 nN3 nHB
      generalize w1.alloc (.cells #[.int .i64 q0, .int .i64 q1] 34) = W2 at *
      generalize w1.heap.size = gN4 at *
      have N4 := Lib.hid bN4
      clear bN4
      have zHS := HS.out.lt
      have cHS0 := HS.out.cell 0
      have cHS1 := HS.out.cell 1
      go_wp2_with (first | (go_at_call 21; (with_reducible refine (H5.out _ _ _ _ _ _ _ _ _ _ _ _ _ _ _ _ _ _ _ _ _ _ _ _ _ HO.out).mono ?_); rintro e w1 ⟨rfl, hb1⟩; have nHM := Lib.hid (HM.out.below hb1); have nHA := Lib.hid (HA.out.below hb1); have nHS := Lib.hid (HS.out.below hb1); have nHQ := Lib.hid (HQ.out.below hb1); have nHO := Lib.hid (HO.out.below hb1); have nN1 := Lib.hid (N1.out.below hb1); have nN2 := Lib.hid (N2.out.below hb1); have nN3 := Lib.hid (N3.out.below hb1); have nN4 := Lib.hid (N4.out.below hb1); have nHB := Lib.hid (bthen HB.out hb1); have zz1 := hb1.size; clear HM HA HS HQ HO N1 N2 N3 N4 HB hb1; have HM := nHM; have HA := nHA; have HS := nHS; have HQ := nHQ; have HO := nHO; have N1 := nN1; have N2 := nN2; have N3 := nN3; have N4 := nN4; have HB := nHB; clear nHM nHA nHS nHQ nHO nN1 nN2 nN3 nN4 nHB; (try clear zHS); have zHS := HS.out.lt; (try clear cHS0); have cHS0 := HS.out.cell 0; (try clear cHS1); have cHS1 := HS.out.cell 1) | (refine wpl_row rfl 27 _ rfl _ rfl #[hx, hy, hv, gx, gy, gv, lx, ly, lv, px, py, pv, nx, ny, nv, ax, ay, av, cx, cy, cv, dx, dy, dv, .int .i64 cl, .int .i64 bu] 26 HM.out Try.rowRot rfl ?_; simp only [Act.put]) | (refine wpl_row rfl 36 _ rfl _ rfl #[.int .i64 wl, .int .i64 wh, .int .i64 tl, .int .i64 th, .int .i64 el, .int .i64 eh, .int .i64 nl, .int .i64 nh] 8 HA.out Try.rowAir rfl ?_; simp only [Act.put]) | (go_at_call 33; (with_reducible refine (H6.out _ (HR.out.below HB.out)).mono ?_); rintro e w1 ⟨rfl, hb1⟩; have nHM := Lib.hid (HM.out.below hb1); have nHA := Lib.hid (HA.out.below hb1); have nHS := Lib.hid (HS.out.below hb1); have nHQ := Lib.hid (HQ.out.below hb1); have nHO := Lib.hid (HO.out.below hb1); have nN1 := Lib.hid (N1.out.below hb1); have nN2 := Lib.hid (N2.out.below hb1); have nN3 := Lib.hid (N3.out.below hb1); have nN4 := Lib.hid (N4.out.below hb1); have nHB := Lib.hid (bthen HB.out hb1); have zz1 := hb1.size; clear HM HA HS HQ HO N1 N2 N3 N4 HB hb1; have HM := nHM; have HA := nHA; have HS := nHS; have HQ := nHQ; have HO := nHO; have N1 := nN1; have N2 := nN2; have N3 := nN3; have N4 := nN4; have HB := nHB; clear nHM nHA nHS nHQ nHO nN1 nN2 nN3 nN4 nHB; (try clear zHQ); have zHQ := HQ.out.lt; (try clear cHQ9); have cHQ9 := HQ.out.cell 9; (try clear cHQ10); have cHQ10 := HQ.out.cell 10; (try clear cHQ11); have cHQ11 := HQ.out.cell 11; (try clear zHA); have zHA := HA.out.lt; (try clear cHA2); have cHA2 := HA.out.cell 2; (try clear cHA3); have cHA3 := HA.out.cell 3; (try clear cHA4); have cHA4 := HA.out.cell 4; (try clear cHA5); have cHA5 := HA.out.cell 5; (try clear zN1); have zN1 := N1.out.lt; (try clear cN10); have cN10 := N1.out.cell 0; (try clear cN11); have cN11 := N1.out.cell 1; (try clear zN2); have zN2 := N2.out.lt; (try clear cN20); have cN20 := N2.out.cell 0; (try clear cN21); have cN21 := N2.out.cell 1; (try clear zN3); have zN3 := N3.out.lt; (try clear cN30); have cN30 := N3.out.cell 0; (try clear cN31); have cN31 := N3.out.cell 1; (try clear zN4); have zN4 := N4.out.lt; (try clear cN40); have cN40 := N4.out.cell 0; (try clear cN41); have cN41 := N4.out.cell 1) | (go_at_call 15; (with_reducible refine (works_c _).mono ?_); rintro e w1 ⟨rfl, hb1⟩; have nHM := Lib.hid (HM.out.below hb1); have nHB := Lib.hid (bthen HB.out hb1); have zz1 := hb1.size; clear HM HB hb1; have HM := nHM; have HB := nHB; clear nHM nHB))
      go_ret
      exact ⟨rfl, HB.out⟩
  ·
    have HW := Lib.hid (fun w1 hR => far2_c hx hy hv gx gy gv lx ly lv px py pv nx ny nv ax ay av cx cy cv dx dy dv cl bu S w1 hR)
    rw [hf] at HW
    go_enter Try.func7, Try.ntmps7
    go_wp2_with (first | (refine wpl_row rfl 27 _ rfl _ rfl #[hx, hy, hv, gx, gy, gv, lx, ly, lv, px, py, pv, nx, ny, nv, ax, ay, av, cx, cy, cv, dx, dy, dv, .int .i64 cl, .int .i64 bu] 26 ?_ Try.rowRot rfl ?_; (focus exact (by repeat (first | (refine Blk.newAt _ _ _ ?_; first | rfl | (simp; done)) | refine Blk.alloc ?_ _))); simp only [Act.put]))
    have bHM : Blk (((w.alloc (.cells #[hx, hy, hv, gx, gy, gv, lx, ly, lv, px, py, pv, nx, ny, nv, ax, ay, av, cx, cy, cv, dx, dy, dv, .int .i64 cl, .int .i64 bu] 27)).alloc (.cells #[.int .i64 wl, .int .i64 wh, .int .i64 tl, .int .i64 th, .int .i64 el, .int .i64 eh, .int .i64 nl, .int .i64 nh] 36)).alloc (.cells #[.int .i64 sl, .int .i64 sh] 34)) (w.heap.size) 27 #[hx, hy, hv, gx, gy, gv, lx, ly, lv, px, py, pv, nx, ny, nv, ax, ay, av, cx, cy, cv, dx, dy, dv, .int .i64 cl, .int .i64 bu] := (by repeat (first | (refine Blk.newAt _ _ _ ?_; first | rfl | (simp; done)) | refine Blk.alloc ?_ _))
    have bHA : Blk (((w.alloc (.cells #[hx, hy, hv, gx, gy, gv, lx, ly, lv, px, py, pv, nx, ny, nv, ax, ay, av, cx, cy, cv, dx, dy, dv, .int .i64 cl, .int .i64 bu] 27)).alloc (.cells #[.int .i64 wl, .int .i64 wh, .int .i64 tl, .int .i64 th, .int .i64 el, .int .i64 eh, .int .i64 nl, .int .i64 nh] 36)).alloc (.cells #[.int .i64 sl, .int .i64 sh] 34)) (w.heap.size + 1) 36 #[.int .i64 wl, .int .i64 wh, .int .i64 tl, .int .i64 th, .int .i64 el, .int .i64 eh, .int .i64 nl, .int .i64 nh] := (by repeat (first | (refine Blk.newAt _ _ _ ?_; first | rfl | (simp; done)) | refine Blk.alloc ?_ _))
    have bHS : Blk (((w.alloc (.cells #[hx, hy, hv, gx, gy, gv, lx, ly, lv, px, py, pv, nx, ny, nv, ax, ay, av, cx, cy, cv, dx, dy, dv, .int .i64 cl, .int .i64 bu] 27)).alloc (.cells #[.int .i64 wl, .int .i64 wh, .int .i64 tl, .int .i64 th, .int .i64 el, .int .i64 eh, .int .i64 nl, .int .i64 nh] 36)).alloc (.cells #[.int .i64 sl, .int .i64 sh] 34)) (w.heap.size + 1 + 1) 34 #[.int .i64 sl, .int .i64 sh] := (by repeat (first | (refine Blk.newAt _ _ _ ?_; first | rfl | (simp; done)) | refine Blk.alloc ?_ _))
    have bHB : Below w.heap.size w (((w.alloc (.cells #[hx, hy, hv, gx, gy, gv, lx, ly, lv, px, py, pv, nx, ny, nv, ax, ay, av, cx, cy, cv, dx, dy, dv, .int .i64 cl, .int .i64 bu] 27)).alloc (.cells #[.int .i64 wl, .int .i64 wh, .int .i64 tl, .int .i64 th, .int .i64 el, .int .i64 eh, .int .i64 nl, .int .i64 nh] 36)).alloc (.cells #[.int .i64 sl, .int .i64 sh] 34)) := (by repeat' (first | exact Below.refl _ _ | assumption | refine Below.drew ?_ | refine bdn ?_ _ | refine bal ?_ _ | refine Below.setCell ?_ (by first | (simp; done) | omega | (simp; omega)) _))
    generalize (((w.alloc (.cells #[hx, hy, hv, gx, gy, gv, lx, ly, lv, px, py, pv, nx, ny, nv, ax, ay, av, cx, cy, cv, dx, dy, dv, .int .i64 cl, .int .i64 bu] 27)).alloc (.cells #[.int .i64 wl, .int .i64 wh, .int .i64 tl, .int .i64 th, .int .i64 el, .int .i64 eh, .int .i64 nl, .int .i64 nh] 36)).alloc (.cells #[.int .i64 sl, .int .i64 sh] 34)) = W at *
    have zW := bHS.lt
    have HM := Lib.hid bHM
    have HA := Lib.hid bHA
    have HS := Lib.hid bHS
    have HB := Lib.hid bHB
    clear bHM bHA bHS bHB
    go_wp2_with (first | (refine wpl_row rfl 27 _ rfl _ rfl #[hx, hy, hv, gx, gy, gv, lx, ly, lv, px, py, pv, nx, ny, nv, ax, ay, av, cx, cy, cv, dx, dy, dv, .int .i64 cl, .int .i64 bu] 26 HM.out Try.rowRot rfl ?_; simp only [Act.put]) | (go_at_call 14; (with_reducible refine (HW.out _ (HR.out.below HB.out)).mono ?_); rintro e w1 ⟨rfl, hb1⟩; have nHM := Lib.hid (HM.out.below hb1); have nHA := Lib.hid (HA.out.below hb1); have nHS := Lib.hid (HS.out.below hb1); have nHB := Lib.hid (bthen HB.out hb1); have zz1 := hb1.size; clear HM HA HS HB hb1; have HM := nHM; have HA := nHA; have HS := nHS; have HB := nHB; clear nHM nHA nHS nHB) | (go_at_call 15; (with_reducible refine (works_c _).mono ?_); rintro e w1 ⟨rfl, hb1⟩; have nHM := Lib.hid (HM.out.below hb1); have nHA := Lib.hid (HA.out.below hb1); have nHS := Lib.hid (HS.out.below hb1); have nHB := Lib.hid (bthen HB.out hb1); have zz1 := hb1.size; clear HM HA HS HB hb1; have HM := nHM; have HA := nHA; have HS := nHS; have HB := nHB; clear nHM nHA nHS nHB) | (go_at_call 17; (with_reducible refine (own_c hx hy hv gx gy gv lx ly lv px py pv nx ny nv ax ay av cx cy cv dx dy dv cl bu S _ (HR.out.below HB.out) HN.out).mono ?_); rintro e w1 ⟨v, rfl, ho, hb1⟩; obtain ⟨hx', hy', hv', gx', gy', gv', lx', ly', lv', px', py', pv', nx', ny', nv', ax', ay', av', cx', cy', cv', dx', dy', dv', rfl, r1⟩ := ho; have HO := Lib.hid r1; clear r1; have nHM := Lib.hid (HM.out.below hb1); have nHA := Lib.hid (HA.out.below hb1); have nHS := Lib.hid (HS.out.below hb1); have nHB := Lib.hid (bthen HB.out hb1); have zz1 := hb1.size; clear HM HA HS HB hb1; have HM := nHM; have HA := nHA; have HS := nHS; have HB := nHB; clear nHM nHA nHS nHB; (try clear zHS); have zHS := HS.out.lt; (try clear cHS0); have cHS0 := HS.out.cell 0; (try clear cHS1); have cHS1 := HS.out.cell 1) | (refine wpl_store_new rfl 27 _ _ rfl #[hx', hy', hv', gx', gy', gv', lx', ly', lv', px', py', pv', nx', ny', nv', ax', ay', av', cx', cy', cv', dx', dy', dv', .int .i64 cl, .int .i64 bu] _ _ rfl ?_ rfl Try.sizeRot' rfl (RotAt.one26' HO.out) ?_; (focus (simp; done)); simp only [Act.put]) | (refine wpl_row rfl 27 _ rfl _ rfl #[hx', hy', hv', gx', gy', gv', lx', ly', lv', px', py', pv', nx', ny', nv', ax', ay', av', cx', cy', cv', dx', dy', dv', .int .i64 cl, .int .i64 bu] 26 (Blk.new _ _ _) Try.rowRot rfl ?_; simp only [Act.put]) | (refine wpl_row rfl 36 _ rfl _ rfl #[.int .i64 wl, .int .i64 wh, .int .i64 tl, .int .i64 th, .int .i64 el, .int .i64 eh, .int .i64 nl, .int .i64 nh] 8 (HA.out.alloc _) Try.rowAir rfl ?_; simp only [Act.put]))
    go_ret
    exact ⟨rfl, HB.out⟩
end Go.Proofs.Ytoembbcddhlokaa
