/- Contracts: Heaviest of the reference of rotors. -/
import Derived.Test.YtoembbcddhlokaaRfO
import Derived.Test.YtoembbcddhlokaaRoT
set_option linter.all false
namespace Go.Proofs.Ytoembbcddhlokaa
open Go Go.RowKit Go.Proofs
set_option maxRecDepth 100000
set_option maxHeartbeats 4000000

theorem mid_bd {lo hi : Int} (h : lo < hi) : lo < (lo + hi + 1).tdiv 2 ∧ (lo + hi + 1).tdiv 2 ≤ hi := by
  have h1 := Int.mul_tdiv_add_tmod (lo + hi + 1) 2
  have h2 := Int.tmod_lt_of_pos (lo + hi + 1) (show (0 : Int) < 2 by omega)
  have h3 := Int.lt_tmod_of_pos (lo + hi + 1) (show (0 : Int) < 2 by omega)
  generalize (lo + hi + 1).tdiv 2 = q at *
  generalize (lo + hi + 1).tmod 2 = r at *
  omega
theorem margE_sub {S : Tabs} {cl bu wl wh tl th el eh nl nh sl sh n : Int} (h : margE S cl bu wl wh tl th el eh nl nh sl sh = 0) (h1 : wl ≤ n) (h2 : n ≤ wh) : margE S cl bu wl n tl th el eh nl nh sl sh = 0 := by
  obtain ⟨hr, hH, hG, hP⟩ := margE_ok h
  have hw := vspan_iff.1 hH.vx
  have f := hH.sub (a := wl) (b := n) (by omega) h1 h2
  have a1 : airB wl n tl th el eh nl nh = true := by unfold airB; rw [f.vx, f.vy, hP.vy, hG.vy]; rfl
  have l1 : lkE S.h wl n tl th = true := by unfold lkE; rw [f.lx, f.ly]; rfl
  have l2 : lkE S.g sl sh nl nh = true := by unfold lkE; rw [hG.lx, hG.ly]; rfl
  have l3 : lkE S.p tl th el eh = true := by unfold lkE; rw [hP.lx, hP.ly]; rfl
  unfold margE
  rw [hr, a1, l1, l2, l3, hG.vx]; rfl
theorem marV_sub {S : Tabs} {cl bu wl wh tl th el eh nl nh sl sh n : Int} (h : margE S cl bu wl wh tl th el eh nl nh sl sh = 0) (h1 : wl ≤ n) (h2 : n ≤ wh) : marV S cl bu wl n tl th el eh nl nh sl sh = marU S wl tl th el eh nl nh sl sh n := by
  unfold marV; rw [margE_sub h h1 h2, okN_ok]; rfl


theorem rf2_Heaviest_c (hx hy hv gx gy gv lx ly lv px py pv nx ny nv ax ay av cx cy cv dx dy dv : Value) (cl bu : Int) (wl wh tl th el eh nl nh : Int) (S : Tabs) (sl sh res : Int) (w : World) (hR : RotAt w hx hy hv gx gy gv lx ly lv px py pv nx ny nv ax ay av cx cy cv dx dy dv cl bu S) :
   Calls Try.prog 20 #[.agg #[hx, hy, hv, gx, gy, gv, lx, ly, lv, px, py, pv, nx, ny, nv, ax, ay, av, cx, cy, cv, dx, dy, dv, .int .i64 cl, .int .i64 bu], .agg #[.int .i64 wl, .int .i64 wh, .int .i64 tl, .int .i64 th, .int .i64 el, .int .i64 eh, .int .i64 nl, .int .i64 nh], .agg #[.int .i64 sl, .int .i64 sh], .int .i64 res] w fun e w' => e = .returned (.tuple #[.int .i64 (heavV S cl bu wl wh tl th el eh nl nh sl sh res), .int .i64 (heavE S cl bu wl wh tl th el eh nl nh sl sh res)]) ∧ Below w.heap.size w w' := by
  have HR := Lib.hid hR
  have hc := fun w1 hR => rf2_Margin_c hx hy hv gx gy gv lx ly lv px py pv nx ny nv ax ay av cx cy cv dx dy dv cl bu wl wh tl th el eh nl nh S sl sh w1 hR
  clear hR
  by_cases h : margE S cl bu wl wh tl th el eh nl nh sl sh = 0
  · obtain ⟨hr, hH, hG, hP⟩ := margE_ok h
    have hw := vspan_iff.1 hH.vx
    have CN := Lib.hid (fun w1 n (h1 : wl ≤ n) (h2 : n ≤ wh) hR => (show Calls Try.prog 33 #[.agg #[hx, hy, hv, gx, gy, gv, lx, ly, lv, px, py, pv, nx, ny, nv, ax, ay, av, cx, cy, cv, dx, dy, dv, .int .i64 cl, .int .i64 bu], .agg #[.int .i64 wl, .int .i64 n, .int .i64 tl, .int .i64 th, .int .i64 el, .int .i64 eh, .int .i64 nl, .int .i64 nh], .agg #[.int .i64 sl, .int .i64 sh]] w1 fun e w' => e = .returned (.tuple #[.int .i64 (marU S wl tl th el eh nl nh sl sh n), .int .i64 0]) ∧ Below w1.heap.size w1 w' by
      have := rf2_Margin_c hx hy hv gx gy gv lx ly lv px py pv nx ny nv ax ay av cx cy cv dx dy dv cl bu wl n tl th el eh nl nh S sl sh w1 hR
      rwa [marV_sub h h1 h2, margE_sub h h1 h2] at this))
    have hfin := fun low g1 g2 g3 g4 => heavN_eq (S := S) (wl := wl) (wh := wh) (el := el) (eh := eh) (res := res) (low := low) (rotB_h hr) (rotB_g hr) hH hG g1 g2 g3 g4
    have HFIN := Lib.hid hfin
    have HM0 := Lib.hid h
    rw [h] at hc
    have HC := Lib.hid hc
    clear hc h hH hG hP hr hfin
    go_enter Try.func20, Try.ntmps20
    go_wp2_with (first | (refine wpl_row rfl 27 _ rfl _ rfl #[hx, hy, hv, gx, gy, gv, lx, ly, lv, px, py, pv, nx, ny, nv, ax, ay, av, cx, cy, cv, dx, dy, dv, .int .i64 cl, .int .i64 bu] 26 ?_ Try.rowRot rfl ?_; (focus exact (by repeat (first | (refine Blk.newAt _ _ _ ?_; first | rfl | (simp; done)) | refine Blk.alloc ?_ _))); simp only [Act.put]) | (refine wpl_row rfl 36 _ rfl _ rfl #[.int .i64 wl, .int .i64 wh, .int .i64 tl, .int .i64 th, .int .i64 el, .int .i64 eh, .int .i64 nl, .int .i64 nh] 8 ?_ Try.rowAir rfl ?_; (focus exact (by repeat (first | (refine Blk.newAt _ _ _ ?_; first | rfl | (simp; done)) | refine Blk.alloc ?_ _))); simp only [Act.put]))
    have bHM : Blk (((w.alloc (.cells #[hx, hy, hv, gx, gy, gv, lx, ly, lv, px, py, pv, nx, ny, nv, ax, ay, av, cx, cy, cv, dx, dy, dv, .int .i64 cl, .int .i64 bu] 27)).alloc (.cells #[.int .i64 wl, .int .i64 wh, .int .i64 tl, .int .i64 th, .int .i64 el, .int .i64 eh, .int .i64 nl, .int .i64 nh] 36)).alloc (.cells #[.int .i64 sl, .int .i64 sh] 34)) (w.heap.size) 27 #[hx, hy, hv, gx, gy, gv, lx, ly, lv, px, py, pv, nx, ny, nv, ax, ay, av, cx, cy, cv, dx, dy, dv, .int .i64 cl, .int .i64 bu] := (by repeat (first | (refine Blk.newAt _ _ _ ?_; first | rfl | (simp; done)) | refine Blk.alloc ?_ _))
    have bHA : Blk (((w.alloc (.cells #[hx, hy, hv, gx, gy, gv, lx, ly, lv, px, py, pv, nx, ny, nv, ax, ay, av, cx, cy, cv, dx, dy, dv, .int .i64 cl, .int .i64 bu] 27)).alloc (.cells #[.int .i64 wl, .int .i64 wh, .int .i64 tl, .int .i64 th, .int .i64 el, .int .i64 eh, .int .i64 nl, .int .i64 nh] 36)).alloc (.cells #[.int .i64 sl, .int .i64 sh] 34)) (w.heap.size + 1) 36 #[.int .i64 wl, .int .i64 wh, .int .i64 tl, .int .i64 th, .int .i64 el, .int .i64 eh, .int .i64 nl, .int .i64 nh] := (by repeat (first | (refine Blk.newAt _ _ _ ?_; first | rfl | (simp; done)) | refine Blk.alloc ?_ _))
    have bHS : Blk (((w.alloc (.cells #[hx, hy, hv, gx, gy, gv, lx, ly, lv, px, py, pv, nx, ny, nv, ax, ay, av, cx, cy, cv, dx, dy, dv, .int .i64 cl, .int .i64 bu] 27)).alloc (.cells #[.int .i64 wl, .int .i64 wh, .int .i64 tl, .int .i64 th, .int .i64 el, .int .i64 eh, .int .i64 nl, .int .i64 nh] 36)).alloc (.cells #[.int .i64 sl, .int .i64 sh] 34)) (w.heap.size + 1 + 1) 34 #[.int .i64 sl, .int .i64 sh] := (by repeat (first | (refine Blk.newAt _ _ _ ?_; first | rfl | (simp; done)) | refine Blk.alloc ?_ _))
    have bHB : Below w.heap.size w (((w.alloc (.cells #[hx, hy, hv, gx, gy, gv, lx, ly, lv, px, py, pv, nx, ny, nv, ax, ay, av, cx, cy, cv, dx, dy, dv, .int .i64 cl, .int .i64 bu] 27)).alloc (.cells #[.int .i64 wl, .int .i64 wh, .int .i64 tl, .int .i64 th, .int .i64 el, .int .i64 eh, .int .i64 nl, .int .i64 nh] 36)).alloc (.cells #[.int .i64 sl, .int .i64 sh] 34)) := (by repeat' (first | exact Below.refl _ _ | assumption | refine Below.drew ?_ | refine bdn ?_ _ | refine bal ?_ _ | refine Below.setCell ?_ (by first | (simp; done) | omega | (simp; omega)) _))
    generalize (((w.alloc (.cells #[hx, hy, hv, gx, gy, gv, lx, ly, lv, px, py, pv, nx, ny, nv, ax, ay, av, cx, cy, cv, dx, dy, dv, .int .i64 cl, .int .i64 bu] 27)).alloc (.cells #[.int .i64 wl, .int .i64 wh, .int .i64 tl, .int .i64 th, .int .i64 el, .int .i64 eh, .int .i64 nl, .int .i64 nh] 36)).alloc (.cells #[.int .i64 sl, .int .i64 sh] 34)) = W at *
    have zW := bHS.lt
    have HM := Lib.hid bHM
    have HA := Lib.hid bHA
    have HS := Lib.hid bHS
    have HB := Lib.hid bHB
    clear bHM bHA bHS bHB
    go_wp2_with (first | (go_at_call 33; (with_reducible refine (HC.out _ (HR.out.below HB.out)).mono ?_); rintro e w1 ⟨rfl, hb1⟩; have nHM := Lib.hid (HM.out.below hb1); have nHA := Lib.hid (HA.out.below hb1); have nHS := Lib.hid (HS.out.below hb1); have nHB := Lib.hid (bthen HB.out hb1); have zz1 := hb1.size; clear HM HA HS HB hb1; have HM := nHM; have HA := nHA; have HS := nHS; have HB := nHB; clear nHM nHA nHS nHB; (try clear zHA); have zHA := HA.out.lt; (try clear cHA0); have cHA0 := HA.out.cell 0; (try clear cHA1); have cHA1 := HA.out.cell 1))
    go_quiet (fail)
    have HB0 := Lib.hid (bdn HB.out nq)
    have HMX := Lib.hid (Blk.below HM.out (bdn (Below.refl w1.heap.size w1) nq))
    have HSX := Lib.hid (Blk.below HS.out (bdn (Below.refl w1.heap.size w1) nq))
    have HAX := Lib.hid (Blk.below HA.out (bdn (Below.refl w1.heap.size w1) nq))
    clear cHA0 cHA1 zHA HM HS HA HB
    generalize w1.drewN nq = W2 at *
    have HBX := HB0
    go_wp2
    have CM := fun w1 hR => CN.out w1 wl (by omega) (by omega) hR
    have hMr := Lib.hid (fun r : After W2 => HMX.out.below r.below)
    have hAr := Lib.hid (fun r : After W2 => HAX.out.below r.below)
    have hRr := Lib.hid (fun r : After W2 => (HR.out.below HBX.out).below r.below)
    have aHSX0 := fun (r : After W2) => (HSX.out.below r.below).cell 0
    simp only [List.getElem?_toArray, List.getElem?_cons_succ, List.getElem?_cons_zero] at aHSX0
    have aHSX1 := fun (r : After W2) => (HSX.out.below r.below).cell 1
    simp only [List.getElem?_toArray, List.getElem?_cons_succ, List.getElem?_cons_zero] at aHSX1
    refine wp_region_after (by kernel_rfl) (by kernel_rfl) ?_
    repeat (first | (refine wpq_row rfl 27 _ rfl _ rfl _ 26 (fun _ hw => by obtain ⟨r, rfl⟩ := hw; exact hMr.out r) Try.rowRot rfl ?_; simp only [Act.put, List.setIfInBounds_toArray, List.set_cons_succ, List.set_cons_zero]) | (refine wpq_row rfl 36 _ rfl _ rfl _ 8 (fun _ hw => by obtain ⟨r, rfl⟩ := hw; exact hAr.out r) Try.rowAir rfl ?_; simp only [Act.put, List.setIfInBounds_toArray, List.set_cons_succ, List.set_cons_zero]) | go_big_quiet_step (first | (go_at_call 22; (with_reducible refine qafter (rf2_Up_c _ _ _ _ _ _ _ _ _ _))) | (go_at_call 33; (with_reducible refine qafter (CM _ (hRr.out _))))))
    refine wpQuiet_nil ?_
    rintro W3 ⟨r, hr⟩
    have hbN : Below (World.heap W2).size W2 W3 := by rw [hr]; exact r.below
    clear hr r aHSX0 aHSX1 hMr hAr hRr
    clear CM
    have HMY := Lib.hid (HMX.out.below hbN)
    have HSY := Lib.hid (HSX.out.below hbN)
    have HAY := Lib.hid (HAX.out.below hbN)
    have HBY := Lib.hid (bthen HB0.out hbN)
    clear HMX HSX HAX HB0 hbN HBX
    by_cases h0 : marU S wl tl th el eh nl nh sl sh wl < res
    · have H0 := Lib.hid h0
      go_wp2
      clear h0
      have h0 := H0.out
      have hN := HFIN.out (wl - 1) (by omega) (by omega) (fun h => absurd h (by omega)) (fun _ => by unfold okW; rw [show wl - 1 + 1 = wl by omega]; simpa using h0)
      have hE := heavE_n (res := res) HM0.out (by rw [hN]; omega)
      have HE := Lib.hid hE
      clear hE hN
      go_ret2
      exact ⟨by unfold heavV; rw [HE.out]; rfl, HBY.out⟩
    · have h1 : res ≤ marU S wl tl th el eh nl nh sl sh wl := by omega
      have H0 := Lib.hid h1
      clear h0
      go_wp2
      clear h1
      go_loopw [12, 13, 14, 16] (fun l h _ _ wr => ∃ lo hi : Int, wl ≤ lo ∧ lo ≤ hi ∧ hi ≤ wh ∧ l = .int .i64 lo ∧ h = .int .i64 hi ∧ RowKit.Hid (Below W3.heap.size W3 wr) ∧ RowKit.Hid (okW S wl tl th el eh nl nh sl sh res lo = true) ∧ RowKit.Hid (hi < wh → okW S wl tl th el eh nl nh sl sh res (hi + 1) = false)) (fun l h _ _ _ => (intOf h - intOf l).toNat)
      case atStart => exact ⟨wl, wh, by omega, by omega, by omega, rfl, rfl, Below.refl _ _, (show okW S wl tl th el eh nl nh sl sh res wl = true by unfold okW; simpa using H0.out), fun h => absurd h (by omega)⟩
      case round =>
        obtain ⟨lo, hi, g1, g2, g3, rfl, rfl, hB, hlo, hhi⟩ := hrel
        by_cases hlt : lo < hi
        · have hm := mid_bd hlt
          have HMID := Lib.hid (show RowKit.Hid (okW S wl tl th el eh nl nh sl sh res ((lo + hi + 1).tdiv 2) = decide (res ≤ marU S wl tl th el eh nl nh sl sh ((lo + hi + 1).tdiv 2))) from rfl)
          have CM := fun w1 hR => CN.out w1 ((lo + hi + 1).tdiv 2) (by omega) (by omega) hR
          have HCM := Lib.hid CM
          clear CM
          have HMX := Lib.hid (HMY.out.below hB.out)
          have HSX := Lib.hid (HSY.out.below hB.out)
          have HAX := Lib.hid (HAY.out.below hB.out)
          have HBX := Lib.hid (bthen HBY.out hB.out)
          go_wp2
          have CM := HCM.out
          have hMr := Lib.hid (fun r : After wr => HMX.out.below r.below)
          have hAr := Lib.hid (fun r : After wr => HAX.out.below r.below)
          have hRr := Lib.hid (fun r : After wr => (HR.out.below HBX.out).below r.below)
          have aHSX0 := fun (r : After wr) => (HSX.out.below r.below).cell 0
          simp only [List.getElem?_toArray, List.getElem?_cons_succ, List.getElem?_cons_zero] at aHSX0
          have aHSX1 := fun (r : After wr) => (HSX.out.below r.below).cell 1
          simp only [List.getElem?_toArray, List.getElem?_cons_succ, List.getElem?_cons_zero] at aHSX1
          refine wp_region_after (by kernel_rfl) (by kernel_rfl) ?_
          repeat (first | (refine wpq_row rfl 27 _ rfl _ rfl _ 26 (fun _ hw => by obtain ⟨r, rfl⟩ := hw; exact hMr.out r) Try.rowRot rfl ?_; simp only [Act.put, List.setIfInBounds_toArray, List.set_cons_succ, List.set_cons_zero]) | (refine wpq_row rfl 36 _ rfl _ rfl _ 8 (fun _ hw => by obtain ⟨r, rfl⟩ := hw; exact hAr.out r) Try.rowAir rfl ?_; simp only [Act.put, List.setIfInBounds_toArray, List.set_cons_succ, List.set_cons_zero]) | go_big_quiet_step (first | (go_at_call 22; (with_reducible refine qafter (rf2_Up_c _ _ _ _ _ _ _ _ _ _))) | (go_at_call 33; (with_reducible refine qafter (CM _ (hRr.out _))))))
          refine wpQuiet_nil ?_
          rintro W5 ⟨r, hr⟩
          have hbN : Below (World.heap wr).size wr W5 := by rw [hr]; exact r.below
          clear hr r aHSX0 aHSX1 hMr hAr hRr
          clear CM HCM HMX HSX HAX
          have HB5 := Lib.hid (bthen hB.out hbN)
          clear hbN HBX
          cases ht : decide (res ≤ marU S wl tl th el eh nl nh sl sh ((lo + hi + 1).tdiv 2))
          all_goals
            have Ht := Lib.hid ht
            generalize hmu : marU S wl tl th el eh nl nh sl sh ((lo + hi + 1).tdiv 2) = mm at *
            clear hmu
            generalize hmi : (lo + hi + 1).tdiv 2 = mid at *
            have HMI := Lib.hid hmi
            clear hmi
            go_wp2
            go_roundw
          case rel => exact ⟨lo, mid - 1, by omega, by omega, by omega, rfl, rfl, HB5.out, hlo.out, fun _ => by rw [Int.sub_add_cancel, HMID.out.out]; exact Ht.out⟩
          case measure => simp [intOf]; omega
          case rel => exact ⟨mid, hi, by omega, by omega, by omega, rfl, rfl, HB5.out, (show okW S wl tl th el eh nl nh sl sh res mid = true by rw [HMID.out.out]; exact Ht.out), hhi.out⟩
          case measure => simp [intOf]; omega
        · obtain rfl : lo = hi := by omega
          have hN := HFIN.out lo (by omega) g3 (fun _ => hlo.out) hhi.out
          have hE := heavE_o (res := res) HM0.out (by rw [hN]; omega)
          have HE := Lib.hid hE
          have HN := Lib.hid hN
          clear hE hN
          go_wp2
          go_ret2
          exact ⟨by unfold heavV; rw [HE.out, okN_ok, HN.out]; rfl, bthen HBY.out hB.out⟩
  · have hne : (margE S cl bu wl wh tl th el eh nl nh sl sh != 0) = true := by simpa using h
    unfold heavV
    rw [heavE_m h, okN_no h]
    have HC := Lib.hid hc
    generalize marV S cl bu wl wh tl th el eh nl nh sl sh = V at *
    generalize margE S cl bu wl wh tl th el eh nl nh sl sh = E at *
    clear h hc
    go_enter Try.func20, Try.ntmps20
    go_wp2_with (first | (refine wpl_row rfl 27 _ rfl _ rfl #[hx, hy, hv, gx, gy, gv, lx, ly, lv, px, py, pv, nx, ny, nv, ax, ay, av, cx, cy, cv, dx, dy, dv, .int .i64 cl, .int .i64 bu] 26 ?_ Try.rowRot rfl ?_; (focus exact (by repeat (first | (refine Blk.newAt _ _ _ ?_; first | rfl | (simp; done)) | refine Blk.alloc ?_ _))); simp only [Act.put]) | (refine wpl_row rfl 36 _ rfl _ rfl #[.int .i64 wl, .int .i64 wh, .int .i64 tl, .int .i64 th, .int .i64 el, .int .i64 eh, .int .i64 nl, .int .i64 nh] 8 ?_ Try.rowAir rfl ?_; (focus exact (by repeat (first | (refine Blk.newAt _ _ _ ?_; first | rfl | (simp; done)) | refine Blk.alloc ?_ _))); simp only [Act.put]))
    have bHM : Blk (((w.alloc (.cells #[hx, hy, hv, gx, gy, gv, lx, ly, lv, px, py, pv, nx, ny, nv, ax, ay, av, cx, cy, cv, dx, dy, dv, .int .i64 cl, .int .i64 bu] 27)).alloc (.cells #[.int .i64 wl, .int .i64 wh, .int .i64 tl, .int .i64 th, .int .i64 el, .int .i64 eh, .int .i64 nl, .int .i64 nh] 36)).alloc (.cells #[.int .i64 sl, .int .i64 sh] 34)) (w.heap.size) 27 #[hx, hy, hv, gx, gy, gv, lx, ly, lv, px, py, pv, nx, ny, nv, ax, ay, av, cx, cy, cv, dx, dy, dv, .int .i64 cl, .int .i64 bu] := (by repeat (first | (refine Blk.newAt _ _ _ ?_; first | rfl | (simp; done)) | refine Blk.alloc ?_ _))
    have bHA : Blk (((w.alloc (.cells #[hx, hy, hv, gx, gy, gv, lx, ly, lv, px, py, pv, nx, ny, nv, ax, ay, av, cx, cy, cv, dx, dy, dv, .int .i64 cl, .int .i64 bu] 27)).alloc (.cells #[.int .i64 wl, .int .i64 wh, .int .i64 tl, .int .i64 th, .int .i64 el, .int .i64 eh, .int .i64 nl, .int .i64 nh] 36)).alloc (.cells #[.int .i64 sl, .int .i64 sh] 34)) (w.heap.size + 1) 36 #[.int .i64 wl, .int .i64 wh, .int .i64 tl, .int .i64 th, .int .i64 el, .int .i64 eh, .int .i64 nl, .int .i64 nh] := (by repeat (first | (refine Blk.newAt _ _ _ ?_; first | rfl | (simp; done)) | refine Blk.alloc ?_ _))
    have bHS : Blk (((w.alloc (.cells #[hx, hy, hv, gx, gy, gv, lx, ly, lv, px, py, pv, nx, ny, nv, ax, ay, av, cx, cy, cv, dx, dy, dv, .int .i64 cl, .int .i64 bu] 27)).alloc (.cells #[.int .i64 wl, .int .i64 wh, .int .i64 tl, .int .i64 th, .int .i64 el, .int .i64 eh, .int .i64 nl, .int .i64 nh] 36)).alloc (.cells #[.int .i64 sl, .int .i64 sh] 34)) (w.heap.size + 1 + 1) 34 #[.int .i64 sl, .int .i64 sh] := (by repeat (first | (refine Blk.newAt _ _ _ ?_; first | rfl | (simp; done)) | refine Blk.alloc ?_ _))
    have bHB : Below w.heap.size w (((w.alloc (.cells #[hx, hy, hv, gx, gy, gv, lx, ly, lv, px, py, pv, nx, ny, nv, ax, ay, av, cx, cy, cv, dx, dy, dv, .int .i64 cl, .int .i64 bu] 27)).alloc (.cells #[.int .i64 wl, .int .i64 wh, .int .i64 tl, .int .i64 th, .int .i64 el, .int .i64 eh, .int .i64 nl, .int .i64 nh] 36)).alloc (.cells #[.int .i64 sl, .int .i64 sh] 34)) := (by repeat' (first | exact Below.refl _ _ | assumption | refine Below.drew ?_ | refine bdn ?_ _ | refine bal ?_ _ | refine Below.setCell ?_ (by first | (simp; done) | omega | (simp; omega)) _))
    generalize (((w.alloc (.cells #[hx, hy, hv, gx, gy, gv, lx, ly, lv, px, py, pv, nx, ny, nv, ax, ay, av, cx, cy, cv, dx, dy, dv, .int .i64 cl, .int .i64 bu] 27)).alloc (.cells #[.int .i64 wl, .int .i64 wh, .int .i64 tl, .int .i64 th, .int .i64 el, .int .i64 eh, .int .i64 nl, .int .i64 nh] 36)).alloc (.cells #[.int .i64 sl, .int .i64 sh] 34)) = W at *
    have zW := bHS.lt
    have HM := Lib.hid bHM
    have HA := Lib.hid bHA
    have HS := Lib.hid bHS
    have HB := Lib.hid bHB
    clear bHM bHA bHS bHB
    go_wp2_with (first | (go_at_call 33; (with_reducible refine (HC.out _ (HR.out.below HB.out)).mono ?_); rintro e w1 ⟨rfl, hb1⟩; have nHM := Lib.hid (HM.out.below hb1); have nHA := Lib.hid (HA.out.below hb1); have nHS := Lib.hid (HS.out.below hb1); have nHB := Lib.hid (bthen HB.out hb1); have zz1 := hb1.size; clear HM HA HS HB hb1; have HM := nHM; have HA := nHA; have HS := nHS; have HB := nHB; clear nHM nHA nHS nHB))
    go_ret2
    exact ⟨rfl, HB.out⟩
end Go.Proofs.Ytoembbcddhlokaa
