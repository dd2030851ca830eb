/- Contracts: Margin, Flow, Rate of the reference of rotors. -/
import Derived.Test.YtoembbcddhlokaaRfN
import Derived.Test.YtoembbcddhlokaaRoQ
import Derived.Test.YtoembbcddhlokaaRoR
set_option linter.all false
namespace Go.Proofs.Ytoembbcddhlokaa
open Go Go.RowKit Go.Proofs
set_option maxRecDepth 100000
set_option maxHeartbeats 4000000

theorem marg_no {S : Tabs} {cl bu wl wh tl th el eh nl nh sl sh : Int} (h : neeE S cl bu wl wh tl th el eh nl nh sl sh ≠ 0) : margE S cl bu wl wh tl th el eh nl nh sl sh = neeE S cl bu wl wh tl th el eh nl nh sl sh := by
  unfold neeE margE at *
  generalize rotB S cl bu = a1 at *
  generalize airB wl wh tl th el eh nl nh = a2 at *
  generalize vspan sl sh = a3 at *
  generalize lkE S.h wl wh tl th = a4 at *
  generalize lkE S.g sl sh nl nh = a5 at *
  generalize lkE S.p tl th el eh = a6 at *
  cases a1 <;> cases a2 <;> cases a3 <;> cases a4 <;> cases a5 <;> cases a6 <;> simp [chkE] at h ⊢
theorem marg_has {S : Tabs} {cl bu wl wh tl th el eh nl nh sl sh : Int} (h : neeE S cl bu wl wh tl th el eh nl nh sl sh = 0) : margE S cl bu wl wh tl th el eh nl nh sl sh = hasE S cl bu wl wh tl th el eh nl nh := by
  unfold neeE margE hasE at *
  generalize rotB S cl bu = a1 at *
  generalize airB wl wh tl th el eh nl nh = a2 at *
  generalize vspan sl sh = a3 at *
  generalize lkE S.h wl wh tl th = a4 at *
  generalize lkE S.g sl sh nl nh = a5 at *
  generalize lkE S.p tl th el eh = a6 at *
  cases a1 <;> cases a2 <;> cases a3 <;> cases a4 <;> cases a5 <;> cases a6 <;> simp [chkE] at h ⊢
theorem need_lim {S : Tabs} {wl wh tl th nl nh sl sh : Int} (h1 : rightB S.h 0 100000 = true) (h2 : rightB S.g 0 100 = true) (hH : Fits S.h wl wh tl th) (hG : Fits S.g sl sh nl nh) : 0 ≤ needLo S wl wh tl th nl nh sl sh ∧ needLo S wl wh tl th nl nh sl sh ≤ needHi S wl wh tl th nl nh sl sh ∧ needHi S wl wh tl th nl nh sl sh ≤ 100000 := by
  have l1 := bnd_lim h1 hH
  have l2 := bnd_lim h2 hG
  unfold needHi needLo
  have m1 := Int.mul_le_mul (show bLo S.h wl wh tl th ≤ bHi S.h wl wh tl th by omega) (show bLo S.g sl sh nl nh ≤ bHi S.g sl sh nl nh by omega) (by omega) (by omega)
  have m2 := Int.mul_nonneg (show 0 ≤ bLo S.h wl wh tl th by omega) (show 0 ≤ bLo S.g sl sh nl nh by omega)
  have m3 := Int.mul_le_mul (show bHi S.h wl wh tl th ≤ 100000 by omega) (show bHi S.g sl sh nl nh ≤ 100 by omega) (by omega) (by omega)
  generalize bLo S.h wl wh tl th * bLo S.g sl sh nl nh = a at *
  generalize bHi S.h wl wh tl th * bHi S.g sl sh nl nh = b at *
  omega

theorem rf2_Margin_c (hx hy hv gx gy gv lx ly lv px py pv nx ny nv ax ay av cx cy cv dx dy dv : Value) (cl bu : Int) (wl wh tl th el eh nl nh : Int) (S : Tabs) (sl sh : Int) (w : World) (hR : RotAt w hx hy hv gx gy gv lx ly lv px py pv nx ny nv ax ay av cx cy cv dx dy dv cl bu S) :
   Calls Try.prog 33 #[.agg #[hx, hy, hv, gx, gy, gv, lx, ly, lv, px, py, pv, nx, ny, nv, ax, ay, av, cx, cy, cv, dx, dy, dv, .int .i64 cl, .int .i64 bu], .agg #[.int .i64 wl, .int .i64 wh, .int .i64 tl, .int .i64 th, .int .i64 el, .int .i64 eh, .int .i64 nl, .int .i64 nh], .agg #[.int .i64 sl, .int .i64 sh]] w fun e w' => e = .returned (.tuple #[.int .i64 (marV S cl bu wl wh tl th el eh nl nh sl sh), .int .i64 (margE S cl bu wl wh tl th el eh nl nh sl sh)]) ∧ Below w.heap.size w w' := by
  have HR := Lib.hid hR
  have hc := fun w1 hR => rf2_Needs_c hx hy hv gx gy gv lx ly lv px py pv nx ny nv ax ay av cx cy cv dx dy dv cl bu wl wh tl th el eh nl nh S sl sh w1 hR
  have hd := fun w1 hR => rf2_Has_c hx hy hv gx gy gv lx ly lv px py pv nx ny nv ax ay av cx cy cv dx dy dv cl bu wl wh tl th el eh nl nh S w1 hR
  clear hR
  unfold marV
  by_cases h : neeE S cl bu wl wh tl th el eh nl nh sl sh = 0
  · rw [marg_has h]
    obtain ⟨hr, fh, fg⟩ := neeE_ok h
    rw [h] at hc
    by_cases h2 : hasE S cl bu wl wh tl th el eh nl nh = 0
    · obtain ⟨-, fp⟩ := hasE_ok h2
      rw [h2, okN_ok]
      rw [h2] at hd
      have b1 := bnd_lim (rotB_p hr) fp
      have b2 := need_lim (rotB_h hr) (rotB_g hr) fh fg
      have e1 : neeHi S cl bu wl wh tl th el eh nl nh sl sh = needHi S wl wh tl th nl nh sl sh := by unfold neeHi; rw [h, okN_ok]
      have e2 : hasLo S cl bu wl wh tl th el eh nl nh = bLo S.p tl th el eh := by unfold hasLo; rw [h2, okN_ok]
      rw [e1] at hc
      rw [e2] at hd
      unfold margV
      have HC := Lib.hid hc
      have HD := Lib.hid hd
      generalize needHi S wl wh tl th nl nh sl sh = q1 at *
      generalize neeLo S cl bu wl wh tl th el eh nl nh sl sh = q0 at *
      generalize bLo S.p tl th el eh = p0 at *
      clear hc hd h h2 e1 e2 hr fh fg fp
      go_enter Try.func33, Try.ntmps33
      go_wp2_with (first | (refine wpl_row rfl 27 _ rfl _ rfl #[hx, hy, hv, gx, gy, gv, lx, ly, lv, px, py, pv, nx, ny, nv, ax, ay, av, cx, cy, cv, dx, dy, dv, .int .i64 cl, .int .i64 bu] 26 ?_ Try.rowRot rfl ?_; (focus exact (by repeat (first | (refine Blk.newAt _ _ _ ?_; first | rfl | (simp; done)) | refine Blk.alloc ?_ _))); simp only [Act.put]) | (refine wpl_row rfl 36 _ rfl _ rfl #[.int .i64 wl, .int .i64 wh, .int .i64 tl, .int .i64 th, .int .i64 el, .int .i64 eh, .int .i64 nl, .int .i64 nh] 8 ?_ Try.rowAir rfl ?_; (focus exact (by repeat (first | (refine Blk.newAt _ _ _ ?_; first | rfl | (simp; done)) | refine Blk.alloc ?_ _))); simp only [Act.put]))
      have bHM : Blk (((w.alloc (.cells #[hx, hy, hv, gx, gy, gv, lx, ly, lv, px, py, pv, nx, ny, nv, ax, ay, av, cx, cy, cv, dx, dy, dv, .int .i64 cl, .int .i64 bu] 27)).alloc (.cells #[.int .i64 wl, .int .i64 wh, .int .i64 tl, .int .i64 th, .int .i64 el, .int .i64 eh, .int .i64 nl, .int .i64 nh] 36)).alloc (.cells #[.int .i64 sl, .int .i64 sh] 34)) (w.heap.size) 27 #[hx, hy, hv, gx, gy, gv, lx, ly, lv, px, py, pv, nx, ny, nv, ax, ay, av, cx, cy, cv, dx, dy, dv, .int .i64 cl, .int .i64 bu] := (by repeat (first | (refine Blk.newAt _ _ _ ?_; first | rfl | (simp; done)) | refine Blk.alloc ?_ _))
      have bHA : Blk (((w.alloc (.cells #[hx, hy, hv, gx, gy, gv, lx, ly, lv, px, py, pv, nx, ny, nv, ax, ay, av, cx, cy, cv, dx, dy, dv, .int .i64 cl, .int .i64 bu] 27)).alloc (.cells #[.int .i64 wl, .int .i64 wh, .int .i64 tl, .int .i64 th, .int .i64 el, .int .i64 eh, .int .i64 nl, .int .i64 nh] 36)).alloc (.cells #[.int .i64 sl, .int .i64 sh] 34)) (w.heap.size + 1) 36 #[.int .i64 wl, .int .i64 wh, .int .i64 tl, .int .i64 th, .int .i64 el, .int .i64 eh, .int .i64 nl, .int .i64 nh] := (by repeat (first | (refine Blk.newAt _ _ _ ?_; first | rfl | (simp; done)) | refine Blk.alloc ?_ _))
      have bHS : Blk (((w.alloc (.cells #[hx, hy, hv, gx, gy, gv, lx, ly, lv, px, py, pv, nx, ny, nv, ax, ay, av, cx, cy, cv, dx, dy, dv, .int .i64 cl, .int .i64 bu] 27)).alloc (.cells #[.int .i64 wl, .int .i64 wh, .int .i64 tl, .int .i64 th, .int .i64 el, .int .i64 eh, .int .i64 nl, .int .i64 nh] 36)).alloc (.cells #[.int .i64 sl, .int .i64 sh] 34)) (w.heap.size + 1 + 1) 34 #[.int .i64 sl, .int .i64 sh] := (by repeat (first | (refine Blk.newAt _ _ _ ?_; first | rfl | (simp; done)) | refine Blk.alloc ?_ _))
      have bHB : Below w.heap.size w (((w.alloc (.cells #[hx, hy, hv, gx, gy, gv, lx, ly, lv, px, py, pv, nx, ny, nv, ax, ay, av, cx, cy, cv, dx, dy, dv, .int .i64 cl, .int .i64 bu] 27)).alloc (.cells #[.int .i64 wl, .int .i64 wh, .int .i64 tl, .int .i64 th, .int .i64 el, .int .i64 eh, .int .i64 nl, .int .i64 nh] 36)).alloc (.cells #[.int .i64 sl, .int .i64 sh] 34)) := (by repeat' (first | exact Below.refl _ _ | assumption | refine Below.drew ?_ | refine bdn ?_ _ | refine bal ?_ _ | refine Below.setCell ?_ (by first | (simp; done) | omega | (simp; omega)) _))
      generalize (((w.alloc (.cells #[hx, hy, hv, gx, gy, gv, lx, ly, lv, px, py, pv, nx, ny, nv, ax, ay, av, cx, cy, cv, dx, dy, dv, .int .i64 cl, .int .i64 bu] 27)).alloc (.cells #[.int .i64 wl, .int .i64 wh, .int .i64 tl, .int .i64 th, .int .i64 el, .int .i64 eh, .int .i64 nl, .int .i64 nh] 36)).alloc (.cells #[.int .i64 sl, .int .i64 sh] 34)) = W at *
      have zW := bHS.lt
      have HM := Lib.hid bHM
      have HA := Lib.hid bHA
      have HS := Lib.hid bHS
      have HB := Lib.hid bHB
      clear bHM bHA bHS bHB
      go_wp2_with (first | (go_at_call 30; (with_reducible refine (HC.out _ (HR.out.below HB.out)).mono ?_); rintro e w1 ⟨rfl, hb1⟩; have nHM := Lib.hid (HM.out.below hb1); have nHA := Lib.hid (HA.out.below hb1); have nHS := Lib.hid (HS.out.below hb1); have nHB := Lib.hid (bthen HB.out hb1); have zz1 := hb1.size; clear HM HA HS HB hb1; have HM := nHM; have HA := nHA; have HS := nHS; have HB := nHB; clear nHM nHA nHS nHB; (try clear zHS); have zHS := HS.out.lt; (try clear cHS0); have cHS0 := HS.out.cell 0) | (refine wpl_row rfl 27 _ rfl _ rfl #[hx, hy, hv, gx, gy, gv, lx, ly, lv, px, py, pv, nx, ny, nv, ax, ay, av, cx, cy, cv, dx, dy, dv, .int .i64 cl, .int .i64 bu] 26 (HM.out.alloc _) Try.rowRot rfl ?_; simp only [Act.put]) | (refine wpl_row rfl 36 _ rfl _ rfl #[.int .i64 wl, .int .i64 wh, .int .i64 tl, .int .i64 th, .int .i64 el, .int .i64 eh, .int .i64 nl, .int .i64 nh] 8 (HA.out.alloc _) Try.rowAir rfl ?_; simp only [Act.put]))
      have bHN := Blk.new w1 34 #[.int .i64 q0, .int .i64 q1]
      have nHM := Lib.hid (HM.out.alloc (.cells #[.int .i64 q0, .int .i64 q1] 34))
      have nHA := Lib.hid (HA.out.alloc (.cells #[.int .i64 q0, .int .i64 q1] 34))
      have nHB := Lib.hid (bal HB.out (.cells #[.int .i64 q0, .int .i64 q1] 34))
      clear HM HA HB
      have HM := nHM
      have HA := nHA
      have HB := nHB
      clear nHM nHA nHB
      generalize w1.alloc (.cells #[.int .i64 q0, .int .i64 q1] 34) = W2 at *
      generalize w1.heap.size = gHN at *
      have HN := Lib.hid bHN
      clear bHN
      go_wp2_with (first | (go_at_call 32; (with_reducible refine (HD.out _ (HR.out.below HB.out)).mono ?_); rintro e w1 ⟨rfl, hb1⟩; have nHN := Lib.hid (HN.out.below hb1); have nHB := Lib.hid (bthen HB.out hb1); have zz1 := hb1.size; clear HN HB hb1; have HN := nHN; have HB := nHB; clear nHN nHB; (try clear zHN); have zHN := HN.out.lt; (try clear cHN1); have cHN1 := HN.out.cell 1))
      go_ret2
      exact ⟨rfl, bal HB.out _⟩
    · have hne : (hasE S cl bu wl wh tl th el eh nl nh != 0) = true := by simpa using h2
      rw [okN_no h2]
      have HC := Lib.hid hc
      have HD := Lib.hid hd
      generalize neeHi S cl bu wl wh tl th el eh nl nh sl sh = q1 at *
      generalize neeLo S cl bu wl wh tl th el eh nl nh sl sh = q0 at *
      generalize hasE S cl bu wl wh tl th el eh nl nh = E at *
      clear hc hd h h2 hr fh fg
      go_enter Try.func33, Try.ntmps33
      go_wp2_with (first | (refine wpl_row rfl 27 _ rfl _ rfl #[hx, hy, hv, gx, gy, gv, lx, ly, lv, px, py, pv, nx, ny, nv, ax, ay, av, cx, cy, cv, dx, dy, dv, .int .i64 cl, .int .i64 bu] 26 ?_ Try.rowRot rfl ?_; (focus exact (by repeat (first | (refine Blk.newAt _ _ _ ?_; first | rfl | (simp; done)) | refine Blk.alloc ?_ _))); simp only [Act.put]) | (refine wpl_row rfl 36 _ rfl _ rfl #[.int .i64 wl, .int .i64 wh, .int .i64 tl, .int .i64 th, .int .i64 el, .int .i64 eh, .int .i64 nl, .int .i64 nh] 8 ?_ Try.rowAir rfl ?_; (focus exact (by repeat (first | (refine Blk.newAt _ _ _ ?_; first | rfl | (simp; done)) | refine Blk.alloc ?_ _))); simp only [Act.put]))
      have bHM : Blk (((w.alloc (.cells #[hx, hy, hv, gx, gy, gv, lx, ly, lv, px, py, pv, nx, ny, nv, ax, ay, av, cx, cy, cv, dx, dy, dv, .int .i64 cl, .int .i64 bu] 27)).alloc (.cells #[.int .i64 wl, .int .i64 wh, .int .i64 tl, .int .i64 th, .int .i64 el, .int .i64 eh, .int .i64 nl, .int .i64 nh] 36)).alloc (.cells #[.int .i64 sl, .int .i64 sh] 34)) (w.heap.size) 27 #[hx, hy, hv, gx, gy, gv, lx, ly, lv, px, py, pv, nx, ny, nv, ax, ay, av, cx, cy, cv, dx, dy, dv, .int .i64 cl, .int .i64 bu] := (by repeat (first | (refine Blk.newAt _ _ _ ?_; first | rfl | (simp; done)) | refine Blk.alloc ?_ _))
      have bHA : Blk (((w.alloc (.cells #[hx, hy, hv, gx, gy, gv, lx, ly, lv, px, py, pv, nx, ny, nv, ax, ay, av, cx, cy, cv, dx, dy, dv, .int .i64 cl, .int .i64 bu] 27)).alloc (.cells #[.int .i64 wl, .int .i64 wh, .int .i64 tl, .int .i64 th, .int .i64 el, .int .i64 eh, .int .i64 nl, .int .i64 nh] 36)).alloc (.cells #[.int .i64 sl, .int .i64 sh] 34)) (w.heap.size + 1) 36 #[.int .i64 wl, .int .i64 wh, .int .i64 tl, .int .i64 th, .int .i64 el, .int .i64 eh, .int .i64 nl, .int .i64 nh] := (by repeat (first | (refine Blk.newAt _ _ _ ?_; first | rfl | (simp; done)) | refine Blk.alloc ?_ _))
      have bHS : Blk (((w.alloc (.cells #[hx, hy, hv, gx, gy, gv, lx, ly, lv, px, py, pv, nx, ny, nv, ax, ay, av, cx, cy, cv, dx, dy, dv, .int .i64 cl, .int .i64 bu] 27)).alloc (.cells #[.int .i64 wl, .int .i64 wh, .int .i64 tl, .int .i64 th, .int .i64 el, .int .i64 eh, .int .i64 nl, .int .i64 nh] 36)).alloc (.cells #[.int .i64 sl, .int .i64 sh] 34)) (w.heap.size + 1 + 1) 34 #[.int .i64 sl, .int .i64 sh] := (by repeat (first | (refine Blk.newAt _ _ _ ?_; first | rfl | (simp; done)) | refine Blk.alloc ?_ _))
      have bHB : Below w.heap.size w (((w.alloc (.cells #[hx, hy, hv, gx, gy, gv, lx, ly, lv, px, py, pv, nx, ny, nv, ax, ay, av, cx, cy, cv, dx, dy, dv, .int .i64 cl, .int .i64 bu] 27)).alloc (.cells #[.int .i64 wl, .int .i64 wh, .int .i64 tl, .int .i64 th, .int .i64 el, .int .i64 eh, .int .i64 nl, .int .i64 nh] 36)).alloc (.cells #[.int .i64 sl, .int .i64 sh] 34)) := (by repeat' (first | exact Below.refl _ _ | assumption | refine Below.drew ?_ | refine bdn ?_ _ | refine bal ?_ _ | refine Below.setCell ?_ (by first | (simp; done) | omega | (simp; omega)) _))
      generalize (((w.alloc (.cells #[hx, hy, hv, gx, gy, gv, lx, ly, lv, px, py, pv, nx, ny, nv, ax, ay, av, cx, cy, cv, dx, dy, dv, .int .i64 cl, .int .i64 bu] 27)).alloc (.cells #[.int .i64 wl, .int .i64 wh, .int .i64 tl, .int .i64 th, .int .i64 el, .int .i64 eh, .int .i64 nl, .int .i64 nh] 36)).alloc (.cells #[.int .i64 sl, .int .i64 sh] 34)) = W at *
      have zW := bHS.lt
      have HM := Lib.hid bHM
      have HA := Lib.hid bHA
      have HS := Lib.hid bHS
      have HB := Lib.hid bHB
      clear bHM bHA bHS bHB
      go_wp2_with (first | (go_at_call 30; (with_reducible refine (HC.out _ (HR.out.below HB.out)).mono ?_); rintro e w1 ⟨rfl, hb1⟩; have nHM := Lib.hid (HM.out.below hb1); have nHA := Lib.hid (HA.out.below hb1); have nHS := Lib.hid (HS.out.below hb1); have nHB := Lib.hid (bthen HB.out hb1); have zz1 := hb1.size; clear HM HA HS HB hb1; have HM := nHM; have HA := nHA; have HS := nHS; have HB := nHB; clear nHM nHA nHS nHB; (try clear zHS); have zHS := HS.out.lt; (try clear cHS0); have cHS0 := HS.out.cell 0) | (refine wpl_row rfl 27 _ rfl _ rfl #[hx, hy, hv, gx, gy, gv, lx, ly, lv, px, py, pv, nx, ny, nv, ax, ay, av, cx, cy, cv, dx, dy, dv, .int .i64 cl, .int .i64 bu] 26 (HM.out.alloc _) Try.rowRot rfl ?_; simp only [Act.put]) | (refine wpl_row rfl 36 _ rfl _ rfl #[.int .i64 wl, .int .i64 wh, .int .i64 tl, .int .i64 th, .int .i64 el, .int .i64 eh, .int .i64 nl, .int .i64 nh] 8 (HA.out.alloc _) Try.rowAir rfl ?_; simp only [Act.put]))
      have bHN := Blk.new w1 34 #[.int .i64 q0, .int .i64 q1]
      have nHM := Lib.hid (HM.out.alloc (.cells #[.int .i64 q0, .int .i64 q1] 34))
      have nHA := Lib.hid (HA.out.alloc (.cells #[.int .i64 q0, .int .i64 q1] 34))
      have nHB := Lib.hid (bal HB.out (.cells #[.int .i64 q0, .int .i64 q1] 34))
      clear HM HA HB
      have HM := nHM
      have HA := nHA
      have HB := nHB
      clear nHM nHA nHB
      generalize w1.alloc (.cells #[.int .i64 q0, .int .i64 q1] 34) = W2 at *
      generalize w1.heap.size = gHN at *
      have HN := Lib.hid bHN
      clear bHN
      go_wp2_with (first | (go_at_call 32; (with_reducible refine (HD.out _ (HR.out.below HB.out)).mono ?_); rintro e w1 ⟨rfl, hb1⟩; have nHN := Lib.hid (HN.out.below hb1); have nHB := Lib.hid (bthen HB.out hb1); have zz1 := hb1.size; clear HN HB hb1; have HN := nHN; have HB := nHB; clear nHN nHB; (try clear zHN); have zHN := HN.out.lt; (try clear cHN1); have cHN1 := HN.out.cell 1))
      go_ret2
      exact ⟨rfl, bal HB.out _⟩
  · have hne : (neeE S cl bu wl wh tl th el eh nl nh sl sh != 0) = true := by simpa using h
    rw [marg_no h, okN_no h]
    have HC := Lib.hid hc
    generalize neeE S cl bu wl wh tl th el eh nl nh sl sh = E at *
    clear h hc hd
    go_enter Try.func33, Try.ntmps33
    go_wp2_with (first | (refine wpl_row rfl 27 _ rfl _ rfl #[hx, hy, hv, gx, gy, gv, lx, ly, lv, px, py, pv, nx, ny, nv, ax, ay, av, cx, cy, cv, dx, dy, dv, .int .i64 cl, .int .i64 bu] 26 ?_ Try.rowRot rfl ?_; (focus exact (by repeat (first | (refine Blk.newAt _ _ _ ?_; first | rfl | (simp; done)) | refine Blk.alloc ?_ _))); simp only [Act.put]) | (refine wpl_row rfl 36 _ rfl _ rfl #[.int .i64 wl, .int .i64 wh, .int .i64 tl, .int .i64 th, .int .i64 el, .int .i64 eh, .int .i64 nl, .int .i64 nh] 8 ?_ Try.rowAir rfl ?_; (focus exact (by repeat (first | (refine Blk.newAt _ _ _ ?_; first | rfl | (simp; done)) | refine Blk.alloc ?_ _))); simp only [Act.put]))
    have bHM : Blk (((w.alloc (.cells #[hx, hy, hv, gx, gy, gv, lx, ly, lv, px, py, pv, nx, ny, nv, ax, ay, av, cx, cy, cv, dx, dy, dv, .int .i64 cl, .int .i64 bu] 27)).alloc (.cells #[.int .i64 wl, .int .i64 wh, .int .i64 tl, .int .i64 th, .int .i64 el, .int .i64 eh, .int .i64 nl, .int .i64 nh] 36)).alloc (.cells #[.int .i64 sl, .int .i64 sh] 34)) (w.heap.size) 27 #[hx, hy, hv, gx, gy, gv, lx, ly, lv, px, py, pv, nx, ny, nv, ax, ay, av, cx, cy, cv, dx, dy, dv, .int .i64 cl, .int .i64 bu] := (by repeat (first | (refine Blk.newAt _ _ _ ?_; first | rfl | (simp; done)) | refine Blk.alloc ?_ _))
    have bHA : Blk (((w.alloc (.cells #[hx, hy, hv, gx, gy, gv, lx, ly, lv, px, py, pv, nx, ny, nv, ax, ay, av, cx, cy, cv, dx, dy, dv, .int .i64 cl, .int .i64 bu] 27)).alloc (.cells #[.int .i64 wl, .int .i64 wh, .int .i64 tl, .int .i64 th, .int .i64 el, .int .i64 eh, .int .i64 nl, .int .i64 nh] 36)).alloc (.cells #[.int .i64 sl, .int .i64 sh] 34)) (w.heap.size + 1) 36 #[.int .i64 wl, .int .i64 wh, .int .i64 tl, .int .i64 th, .int .i64 el, .int .i64 eh, .int .i64 nl, .int .i64 nh] := (by repeat (first | (refine Blk.newAt _ _ _ ?_; first | rfl | (simp; done)) | refine Blk.alloc ?_ _))
    have bHS : Blk (((w.alloc (.cells #[hx, hy, hv, gx, gy, gv, lx, ly, lv, px, py, pv, nx, ny, nv, ax, ay, av, cx, cy, cv, dx, dy, dv, .int .i64 cl, .int .i64 bu] 27)).alloc (.cells #[.int .i64 wl, .int .i64 wh, .int .i64 tl, .int .i64 th, .int .i64 el, .int .i64 eh, .int .i64 nl, .int .i64 nh] 36)).alloc (.cells #[.int .i64 sl, .int .i64 sh] 34)) (w.heap.size + 1 + 1) 34 #[.int .i64 sl, .int .i64 sh] := (by repeat (first | (refine Blk.newAt _ _ _ ?_; first | rfl | (simp; done)) | refine Blk.alloc ?_ _))
    have bHB : Below w.heap.size w (((w.alloc (.cells #[hx, hy, hv, gx, gy, gv, lx, ly, lv, px, py, pv, nx, ny, nv, ax, ay, av, cx, cy, cv, dx, dy, dv, .int .i64 cl, .int .i64 bu] 27)).alloc (.cells #[.int .i64 wl, .int .i64 wh, .int .i64 tl, .int .i64 th, .int .i64 el, .int .i64 eh, .int .i64 nl, .int .i64 nh] 36)).alloc (.cells #[.int .i64 sl, .int .i64 sh] 34)) := (by repeat' (first | exact Below.refl _ _ | assumption | refine Below.drew ?_ | refine bdn ?_ _ | refine bal ?_ _ | refine Below.setCell ?_ (by first | (simp; done) | omega | (simp; omega)) _))
    generalize (((w.alloc (.cells #[hx, hy, hv, gx, gy, gv, lx, ly, lv, px, py, pv, nx, ny, nv, ax, ay, av, cx, cy, cv, dx, dy, dv, .int .i64 cl, .int .i64 bu] 27)).alloc (.cells #[.int .i64 wl, .int .i64 wh, .int .i64 tl, .int .i64 th, .int .i64 el, .int .i64 eh, .int .i64 nl, .int .i64 nh] 36)).alloc (.cells #[.int .i64 sl, .int .i64 sh] 34)) = W at *
    have zW := bHS.lt
    have HM := Lib.hid bHM
    have HA := Lib.hid bHA
    have HS := Lib.hid bHS
    have HB := Lib.hid bHB
    clear bHM bHA bHS bHB
    go_wp2_with (first | (go_at_call 30; (with_reducible refine (HC.out _ (HR.out.below HB.out)).mono ?_); rintro e w1 ⟨rfl, hb1⟩; have nHM := Lib.hid (HM.out.below hb1); have nHA := Lib.hid (HA.out.below hb1); have nHS := Lib.hid (HS.out.below hb1); have nHB := Lib.hid (bthen HB.out hb1); have zz1 := hb1.size; clear HM HA HS HB hb1; have HM := nHM; have HA := nHA; have HS := nHS; have HB := nHB; clear nHM nHA nHS nHB; (try clear zHS); have zHS := HS.out.lt; (try clear cHS0); have cHS0 := HS.out.cell 0) | (refine wpl_row rfl 27 _ rfl _ rfl #[hx, hy, hv, gx, gy, gv, lx, ly, lv, px, py, pv, nx, ny, nv, ax, ay, av, cx, cy, cv, dx, dy, dv, .int .i64 cl, .int .i64 bu] 26 (HM.out.alloc _) Try.rowRot rfl ?_; simp only [Act.put]) | (refine wpl_row rfl 36 _ rfl _ rfl #[.int .i64 wl, .int .i64 wh, .int .i64 tl, .int .i64 th, .int .i64 el, .int .i64 eh, .int .i64 nl, .int .i64 nh] 8 (HA.out.alloc _) Try.rowAir rfl ?_; simp only [Act.put]))
    go_ret2
    exact ⟨rfl, bal HB.out _⟩
end Go.Proofs.Ytoembbcddhlokaa
