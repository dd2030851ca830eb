/- Contracts: Descent of the reference of rotors. -/
import Derived.Test.YtoembbcddhlokaaRfQ
import Derived.Test.YtoembbcddhlokaaRoV
set_option linter.all false
namespace Go.Proofs.Ytoembbcddhlokaa
open Go Go.RowKit Go.Proofs
set_option maxRecDepth 100000
set_option maxHeartbeats 4000000

theorem desC_pass {S : Tabs} {cl bu wl wh tl th el eh nl nh : Int} (h : airE S cl bu wl wh tl th el eh nl nh ≠ 0) : desC S cl bu wl wh tl th el eh nl nh = airE S cl bu wl wh tl th el eh nl nh := airE_pass _ _ h
theorem desC_then {S : Tabs} {cl bu wl wh tl th el eh nl nh : Int} (h : airE S cl bu wl wh tl th el eh nl nh = 0) : desC S cl bu wl wh tl th el eh nl nh = if liesB S.a.Y wl wh = true then 0 else 1 := by
  unfold desC
  rw [airE_then _ _ h]
  obtain ⟨hr, -⟩ := airE_zero h
  have ha := tblB_X (right_t (rotB_a hr))
  have h2 := axisB_len ha
  have hx : liesB S.a.X (nth S.a.X 0) (nth S.a.X 0) = true := by
    unfold liesB
    simp only [Bool.and_eq_true, decide_eq_true_eq]
    exact ⟨Int.le_refl _, axisB_le ha (by omega) (by omega)⟩
  unfold lkE
  rw [hx]
  cases liesB S.a.Y wl wh <;> rfl

theorem rf2_Descent_c (hx hy hv gx gy gv lx ly lv px py pv nx ny nv ax ay av cx cy cv dx dy dv : Value) (cl bu : Int) (wl wh tl th el eh nl nh : Int) (S : Tabs) (A : Option Addr) (n c : Nat) (D : Nat → Nat → Int) (w : World) (hR : RotAt w hx hy hv gx gy gv lx ly lv px py pv nx ny nv ax ay av cx cy cv dx dy dv cl bu S) (hn : n ≤ 1000) (hD : DropsAt w A n D) :
   Calls Try.prog 40 #[.agg #[hx, hy, hv, gx, gy, gv, lx, ly, lv, px, py, pv, nx, ny, nv, ax, ay, av, cx, cy, cv, dx, dy, dv, .int .i64 cl, .int .i64 bu], .agg #[.int .i64 wl, .int .i64 wh, .int .i64 tl, .int .i64 th, .int .i64 el, .int .i64 eh, .int .i64 nl, .int .i64 nh], .slice A n c] w fun e w' => e = .returned (.tuple #[.agg #[.int .i64 (desV S cl bu wl wh tl th el eh nl nh n D).1, .int .i64 (desV S cl bu wl wh tl th el eh nl nh n D).2.1], .int .i64 (desV S cl bu wl wh tl th el eh nl nh n D).2.2.1, .int .i64 (desV S cl bu wl wh tl th el eh nl nh n D).2.2.2]) ∧ Below w.heap.size w w' := by
  have HR := Lib.hid hR
  have HD := Lib.hid hD
  have hc := fun w1 hR => rf2_CheckAir_c hx hy hv gx gy gv lx ly lv px py pv nx ny nv ax ay av cx cy cv dx dy dv cl bu wl wh tl th el eh nl nh S w1 hR
  clear hR hD
  by_cases hE : airE S cl bu wl wh tl th el eh nl nh = 0
  case neg =>
    have hne : (airE S cl bu wl wh tl th el eh nl nh != 0) = true := by simpa using hE
    rw [show desV S cl bu wl wh tl th el eh nl nh n D = (0, 0, 0, airE S cl bu wl wh tl th el eh nl nh) by unfold desV; rw [desC_pass hE, if_pos hE]]
    dsimp only
    have HC := Lib.hid hc
    have HL := trivial
    generalize airE S cl bu wl wh tl th el eh nl nh = E at *
    clear hE hc
    go_enter Try.func40, Try.ntmps40
    go_wp2_with (first | (refine wpl_row rfl 27 _ rfl _ rfl #[hx, hy, hv, gx, gy, gv, lx, ly, lv, px, py, pv, nx, ny, nv, ax, ay, av, cx, cy, cv, dx, dy, dv, .int .i64 cl, .int .i64 bu] 26 ?_ Try.rowRot rfl ?_; (focus exact (by repeat (first | (refine Blk.newAt _ _ _ ?_; first | rfl | (simp; done)) | refine Blk.alloc ?_ _))); simp only [Act.put]) | (refine wpl_row rfl 36 _ rfl _ rfl #[.int .i64 wl, .int .i64 wh, .int .i64 tl, .int .i64 th, .int .i64 el, .int .i64 eh, .int .i64 nl, .int .i64 nh] 8 ?_ Try.rowAir rfl ?_; (focus exact (by repeat (first | (refine Blk.newAt _ _ _ ?_; first | rfl | (simp; done)) | refine Blk.alloc ?_ _))); simp only [Act.put]))
    have bHM : Blk (((w.alloc (.cells #[hx, hy, hv, gx, gy, gv, lx, ly, lv, px, py, pv, nx, ny, nv, ax, ay, av, cx, cy, cv, dx, dy, dv, .int .i64 cl, .int .i64 bu] 27)).alloc (.cells #[.int .i64 wl, .int .i64 wh, .int .i64 tl, .int .i64 th, .int .i64 el, .int .i64 eh, .int .i64 nl, .int .i64 nh] 36)).alloc (.cells #[.int .i64 0, .int .i64 0] 34)) (w.heap.size) 27 #[hx, hy, hv, gx, gy, gv, lx, ly, lv, px, py, pv, nx, ny, nv, ax, ay, av, cx, cy, cv, dx, dy, dv, .int .i64 cl, .int .i64 bu] := (by repeat (first | (refine Blk.newAt _ _ _ ?_; first | rfl | (simp; done)) | refine Blk.alloc ?_ _))
    have bHA : Blk (((w.alloc (.cells #[hx, hy, hv, gx, gy, gv, lx, ly, lv, px, py, pv, nx, ny, nv, ax, ay, av, cx, cy, cv, dx, dy, dv, .int .i64 cl, .int .i64 bu] 27)).alloc (.cells #[.int .i64 wl, .int .i64 wh, .int .i64 tl, .int .i64 th, .int .i64 el, .int .i64 eh, .int .i64 nl, .int .i64 nh] 36)).alloc (.cells #[.int .i64 0, .int .i64 0] 34)) (w.heap.size + 1) 36 #[.int .i64 wl, .int .i64 wh, .int .i64 tl, .int .i64 th, .int .i64 el, .int .i64 eh, .int .i64 nl, .int .i64 nh] := (by repeat (first | (refine Blk.newAt _ _ _ ?_; first | rfl | (simp; done)) | refine Blk.alloc ?_ _))
    have bHY : Blk (((w.alloc (.cells #[hx, hy, hv, gx, gy, gv, lx, ly, lv, px, py, pv, nx, ny, nv, ax, ay, av, cx, cy, cv, dx, dy, dv, .int .i64 cl, .int .i64 bu] 27)).alloc (.cells #[.int .i64 wl, .int .i64 wh, .int .i64 tl, .int .i64 th, .int .i64 el, .int .i64 eh, .int .i64 nl, .int .i64 nh] 36)).alloc (.cells #[.int .i64 0, .int .i64 0] 34)) (w.heap.size + 1 + 1) 34 #[.int .i64 0, .int .i64 0] := (by repeat (first | (refine Blk.newAt _ _ _ ?_; first | rfl | (simp; done)) | refine Blk.alloc ?_ _))
    have bHB : Below w.heap.size w (((w.alloc (.cells #[hx, hy, hv, gx, gy, gv, lx, ly, lv, px, py, pv, nx, ny, nv, ax, ay, av, cx, cy, cv, dx, dy, dv, .int .i64 cl, .int .i64 bu] 27)).alloc (.cells #[.int .i64 wl, .int .i64 wh, .int .i64 tl, .int .i64 th, .int .i64 el, .int .i64 eh, .int .i64 nl, .int .i64 nh] 36)).alloc (.cells #[.int .i64 0, .int .i64 0] 34)) := (by repeat' (first | exact Below.refl _ _ | assumption | refine Below.drew ?_ | refine bdn ?_ _ | refine bal ?_ _ | refine Below.setCell ?_ (by first | (simp; done) | omega | (simp; omega)) _))
    generalize (((w.alloc (.cells #[hx, hy, hv, gx, gy, gv, lx, ly, lv, px, py, pv, nx, ny, nv, ax, ay, av, cx, cy, cv, dx, dy, dv, .int .i64 cl, .int .i64 bu] 27)).alloc (.cells #[.int .i64 wl, .int .i64 wh, .int .i64 tl, .int .i64 th, .int .i64 el, .int .i64 eh, .int .i64 nl, .int .i64 nh] 36)).alloc (.cells #[.int .i64 0, .int .i64 0] 34)) = W at *
    have zW := bHY.lt
    have HM := Lib.hid bHM
    have HA := Lib.hid bHA
    have HY := Lib.hid bHY
    have HB := Lib.hid bHB
    clear bHM bHA bHY bHB
    go_wp2_with (first | (refine wpl_row rfl 27 _ rfl _ rfl #[hx, hy, hv, gx, gy, gv, lx, ly, lv, px, py, pv, nx, ny, nv, ax, ay, av, cx, cy, cv, dx, dy, dv, .int .i64 cl, .int .i64 bu] 26 HM.out Try.rowRot rfl ?_; simp only [Act.put]) | (refine wpl_row rfl 36 _ rfl _ rfl #[.int .i64 wl, .int .i64 wh, .int .i64 tl, .int .i64 th, .int .i64 el, .int .i64 eh, .int .i64 nl, .int .i64 nh] 8 HA.out Try.rowAir rfl ?_; simp only [Act.put]) | (go_at_call 23; (with_reducible refine (HC.out _ (HR.out.below HB.out)).mono ?_); rintro e w1 ⟨rfl, hb1⟩; have nHM := Lib.hid (HM.out.below hb1); have nHA := Lib.hid (HA.out.below hb1); have nHY := Lib.hid (HY.out.below hb1); have nHB := Lib.hid (bthen HB.out hb1); have zz1 := hb1.size; clear HM HA HY HB hb1; have HM := nHM; have HA := nHA; have HY := nHY; have HB := nHB; clear nHM nHA nHY nHB; (try clear zHM); have zHM := HM.out.lt; (try clear cHM16); have cHM16 := HM.out.cell 16; (try clear zHA); have zHA := HA.out.lt; (try clear cHA0); have cHA0 := HA.out.cell 0; (try clear cHA1); have cHA1 := HA.out.cell 1; (try clear zHY); have zHY := HY.out.lt; (try clear cHY0); have cHY0 := HY.out.cell 0; (try clear cHY1); have cHY1 := HY.out.cell 1; (try clear fHY); have fHY := fun i => HY.out.frozen i) | (go_at_call 97; (with_reducible refine (HL.out _ (HR.out.a.y.below HB.out)).mono ?_); rintro e w1 ⟨rfl, hb1⟩; have nHM := Lib.hid (HM.out.below hb1); have nHA := Lib.hid (HA.out.below hb1); have nHY := Lib.hid (HY.out.below hb1); have nHB := Lib.hid (bthen HB.out hb1); have zz1 := hb1.size; clear HM HA HY HB hb1; have HM := nHM; have HA := nHA; have HY := nHY; have HB := nHB; clear nHM nHA nHY nHB; (try clear zHY); have zHY := HY.out.lt; (try clear cHY0); have cHY0 := HY.out.cell 0; (try clear cHY1); have cHY1 := HY.out.cell 1; (try clear fHY); have fHY := fun i => HY.out.frozen i))
    (exact bodyPost_ret (res_ctt rfl _ _ #[.int .i64 0, .int .i64 0] 2 rfl ((HY.out.set_ 0 _).set_ 1 _) Try.rowSpan rfl) rfl ⟨rfl, bset (bset HB.out (by omega) _) (by omega) _⟩)
  rw [hE] at hc
  have HC := Lib.hid hc
  clear hc
  obtain ⟨hr, v1, v2, v3, v4⟩ := airE_zero hE
  have hp := lkE_pos (rotB_a hr)
  have hl1 := fun w1 hv => rf_Between_c ay S.a.Y wl wh w1 hv hp.2
  cases hL : liesB S.a.Y wl wh
  case false =>
    rw [hL] at hl1
    have HL := Lib.hid hl1
    rw [show desV S cl bu wl wh tl th el eh nl nh n D = (0, 0, 0, 1) by simp [desV, desC_then hE, hL]]
    dsimp only
    clear hE hr v1 v2 v3 v4 hp hl1
    go_enter Try.func40, Try.ntmps40
    go_wp2_with (first | (refine wpl_row rfl 27 _ rfl _ rfl #[hx, hy, hv, gx, gy, gv, lx, ly, lv, px, py, pv, nx, ny, nv, ax, ay, av, cx, cy, cv, dx, dy, dv, .int .i64 cl, .int .i64 bu] 26 ?_ Try.rowRot rfl ?_; (focus exact (by repeat (first | (refine Blk.newAt _ _ _ ?_; first | rfl | (simp; done)) | refine Blk.alloc ?_ _))); simp only [Act.put]) | (refine wpl_row rfl 36 _ rfl _ rfl #[.int .i64 wl, .int .i64 wh, .int .i64 tl, .int .i64 th, .int .i64 el, .int .i64 eh, .int .i64 nl, .int .i64 nh] 8 ?_ Try.rowAir rfl ?_; (focus exact (by repeat (first | (refine Blk.newAt _ _ _ ?_; first | rfl | (simp; done)) | refine Blk.alloc ?_ _))); simp only [Act.put]))
    have bHM : Blk (((w.alloc (.cells #[hx, hy, hv, gx, gy, gv, lx, ly, lv, px, py, pv, nx, ny, nv, ax, ay, av, cx, cy, cv, dx, dy, dv, .int .i64 cl, .int .i64 bu] 27)).alloc (.cells #[.int .i64 wl, .int .i64 wh, .int .i64 tl, .int .i64 th, .int .i64 el, .int .i64 eh, .int .i64 nl, .int .i64 nh] 36)).alloc (.cells #[.int .i64 0, .int .i64 0] 34)) (w.heap.size) 27 #[hx, hy, hv, gx, gy, gv, lx, ly, lv, px, py, pv, nx, ny, nv, ax, ay, av, cx, cy, cv, dx, dy, dv, .int .i64 cl, .int .i64 bu] := (by repeat (first | (refine Blk.newAt _ _ _ ?_; first | rfl | (simp; done)) | refine Blk.alloc ?_ _))
    have bHA : Blk (((w.alloc (.cells #[hx, hy, hv, gx, gy, gv, lx, ly, lv, px, py, pv, nx, ny, nv, ax, ay, av, cx, cy, cv, dx, dy, dv, .int .i64 cl, .int .i64 bu] 27)).alloc (.cells #[.int .i64 wl, .int .i64 wh, .int .i64 tl, .int .i64 th, .int .i64 el, .int .i64 eh, .int .i64 nl, .int .i64 nh] 36)).alloc (.cells #[.int .i64 0, .int .i64 0] 34)) (w.heap.size + 1) 36 #[.int .i64 wl, .int .i64 wh, .int .i64 tl, .int .i64 th, .int .i64 el, .int .i64 eh, .int .i64 nl, .int .i64 nh] := (by repeat (first | (refine Blk.newAt _ _ _ ?_; first | rfl | (simp; done)) | refine Blk.alloc ?_ _))
    have bHY : Blk (((w.alloc (.cells #[hx, hy, hv, gx, gy, gv, lx, ly, lv, px, py, pv, nx, ny, nv, ax, ay, av, cx, cy, cv, dx, dy, dv, .int .i64 cl, .int .i64 bu] 27)).alloc (.cells #[.int .i64 wl, .int .i64 wh, .int .i64 tl, .int .i64 th, .int .i64 el, .int .i64 eh, .int .i64 nl, .int .i64 nh] 36)).alloc (.cells #[.int .i64 0, .int .i64 0] 34)) (w.heap.size + 1 + 1) 34 #[.int .i64 0, .int .i64 0] := (by repeat (first | (refine Blk.newAt _ _ _ ?_; first | rfl | (simp; done)) | refine Blk.alloc ?_ _))
    have bHB : Below w.heap.size w (((w.alloc (.cells #[hx, hy, hv, gx, gy, gv, lx, ly, lv, px, py, pv, nx, ny, nv, ax, ay, av, cx, cy, cv, dx, dy, dv, .int .i64 cl, .int .i64 bu] 27)).alloc (.cells #[.int .i64 wl, .int .i64 wh, .int .i64 tl, .int .i64 th, .int .i64 el, .int .i64 eh, .int .i64 nl, .int .i64 nh] 36)).alloc (.cells #[.int .i64 0, .int .i64 0] 34)) := (by repeat' (first | exact Below.refl _ _ | assumption | refine Below.drew ?_ | refine bdn ?_ _ | refine bal ?_ _ | refine Below.setCell ?_ (by first | (simp; done) | omega | (simp; omega)) _))
    generalize (((w.alloc (.cells #[hx, hy, hv, gx, gy, gv, lx, ly, lv, px, py, pv, nx, ny, nv, ax, ay, av, cx, cy, cv, dx, dy, dv, .int .i64 cl, .int .i64 bu] 27)).alloc (.cells #[.int .i64 wl, .int .i64 wh, .int .i64 tl, .int .i64 th, .int .i64 el, .int .i64 eh, .int .i64 nl, .int .i64 nh] 36)).alloc (.cells #[.int .i64 0, .int .i64 0] 34)) = W at *
    have zW := bHY.lt
    have HM := Lib.hid bHM
    have HA := Lib.hid bHA
    have HY := Lib.hid bHY
    have HB := Lib.hid bHB
    clear bHM bHA bHY bHB
    go_wp2_with (first | (refine wpl_row rfl 27 _ rfl _ rfl #[hx, hy, hv, gx, gy, gv, lx, ly, lv, px, py, pv, nx, ny, nv, ax, ay, av, cx, cy, cv, dx, dy, dv, .int .i64 cl, .int .i64 bu] 26 HM.out Try.rowRot rfl ?_; simp only [Act.put]) | (refine wpl_row rfl 36 _ rfl _ rfl #[.int .i64 wl, .int .i64 wh, .int .i64 tl, .int .i64 th, .int .i64 el, .int .i64 eh, .int .i64 nl, .int .i64 nh] 8 HA.out Try.rowAir rfl ?_; simp only [Act.put]) | (go_at_call 23; (with_reducible refine (HC.out _ (HR.out.below HB.out)).mono ?_); rintro e w1 ⟨rfl, hb1⟩; have nHM := Lib.hid (HM.out.below hb1); have nHA := Lib.hid (HA.out.below hb1); have nHY := Lib.hid (HY.out.below hb1); have nHB := Lib.hid (bthen HB.out hb1); have zz1 := hb1.size; clear HM HA HY HB hb1; have HM := nHM; have HA := nHA; have HY := nHY; have HB := nHB; clear nHM nHA nHY nHB; (try clear zHM); have zHM := HM.out.lt; (try clear cHM16); have cHM16 := HM.out.cell 16; (try clear zHA); have zHA := HA.out.lt; (try clear cHA0); have cHA0 := HA.out.cell 0; (try clear cHA1); have cHA1 := HA.out.cell 1; (try clear zHY); have zHY := HY.out.lt; (try clear cHY0); have cHY0 := HY.out.cell 0; (try clear cHY1); have cHY1 := HY.out.cell 1; (try clear fHY); have fHY := fun i => HY.out.frozen i) | (go_at_call 97; (with_reducible refine (HL.out _ (HR.out.a.y.below HB.out)).mono ?_); rintro e w1 ⟨rfl, hb1⟩; have nHM := Lib.hid (HM.out.below hb1); have nHA := Lib.hid (HA.out.below hb1); have nHY := Lib.hid (HY.out.below hb1); have nHB := Lib.hid (bthen HB.out hb1); have zz1 := hb1.size; clear HM HA HY HB hb1; have HM := nHM; have HA := nHA; have HY := nHY; have HB := nHB; clear nHM nHA nHY nHB; (try clear zHY); have zHY := HY.out.lt; (try clear cHY0); have cHY0 := HY.out.cell 0; (try clear cHY1); have cHY1 := HY.out.cell 1; (try clear fHY); have fHY := fun i => HY.out.frozen i))
    (exact bodyPost_ret (res_ctt rfl _ _ #[.int .i64 0, .int .i64 0] 2 rfl ((HY.out.set_ 0 _).set_ 1 _) Try.rowSpan rfl) rfl ⟨rfl, bset (bset HB.out (by omega) _) (by omega) _⟩)
  rw [hL] at hl1
  have HL := Lib.hid hl1
  clear hl1
  have hE2 : desC S cl bu wl wh tl th el eh nl nh = 0 := by rw [desC_then hE, hL]; rfl
  by_cases hl : 50 < n
  case pos =>
    rw [show desV S cl bu wl wh tl th el eh nl nh n D = (0, 0, 0, 2) by unfold desV; rw [if_neg (by simpa using hE2), if_pos hl]]
    dsimp only
    clear hE hE2 hr v1 v2 v3 v4 hp
    go_enter Try.func40, Try.ntmps40
    go_wp2_with (first | (refine wpl_row rfl 27 _ rfl _ rfl #[hx, hy, hv, gx, gy, gv, lx, ly, lv, px, py, pv, nx, ny, nv, ax, ay, av, cx, cy, cv, dx, dy, dv, .int .i64 cl, .int .i64 bu] 26 ?_ Try.rowRot rfl ?_; (focus exact (by repeat (first | (refine Blk.newAt _ _ _ ?_; first | rfl | (simp; done)) | refine Blk.alloc ?_ _))); simp only [Act.put]) | (refine wpl_row rfl 36 _ rfl _ rfl #[.int .i64 wl, .int .i64 wh, .int .i64 tl, .int .i64 th, .int .i64 el, .int .i64 eh, .int .i64 nl, .int .i64 nh] 8 ?_ Try.rowAir rfl ?_; (focus exact (by repeat (first | (refine Blk.newAt _ _ _ ?_; first | rfl | (simp; done)) | refine Blk.alloc ?_ _))); simp only [Act.put]))
    have bHM : Blk (((w.alloc (.cells #[hx, hy, hv, gx, gy, gv, lx, ly, lv, px, py, pv, nx, ny, nv, ax, ay, av, cx, cy, cv, dx, dy, dv, .int .i64 cl, .int .i64 bu] 27)).alloc (.cells #[.int .i64 wl, .int .i64 wh, .int .i64 tl, .int .i64 th, .int .i64 el, .int .i64 eh, .int .i64 nl, .int .i64 nh] 36)).alloc (.cells #[.int .i64 0, .int .i64 0] 34)) (w.heap.size) 27 #[hx, hy, hv, gx, gy, gv, lx, ly, lv, px, py, pv, nx, ny, nv, ax, ay, av, cx, cy, cv, dx, dy, dv, .int .i64 cl, .int .i64 bu] := (by repeat (first | (refine Blk.newAt _ _ _ ?_; first | rfl | (simp; done)) | refine Blk.alloc ?_ _))
    have bHA : Blk (((w.alloc (.cells #[hx, hy, hv, gx, gy, gv, lx, ly, lv, px, py, pv, nx, ny, nv, ax, ay, av, cx, cy, cv, dx, dy, dv, .int .i64 cl, .int .i64 bu] 27)).alloc (.cells #[.int .i64 wl, .int .i64 wh, .int .i64 tl, .int .i64 th, .int .i64 el, .int .i64 eh, .int .i64 nl, .int .i64 nh] 36)).alloc (.cells #[.int .i64 0, .int .i64 0] 34)) (w.heap.size + 1) 36 #[.int .i64 wl, .int .i64 wh, .int .i64 tl, .int .i64 th, .int .i64 el, .int .i64 eh, .int .i64 nl, .int .i64 nh] := (by repeat (first | (refine Blk.newAt _ _ _ ?_; first | rfl | (simp; done)) | refine Blk.alloc ?_ _))
    have bHY : Blk (((w.alloc (.cells #[hx, hy, hv, gx, gy, gv, lx, ly, lv, px, py, pv, nx, ny, nv, ax, ay, av, cx, cy, cv, dx, dy, dv, .int .i64 cl, .int .i64 bu] 27)).alloc (.cells #[.int .i64 wl, .int .i64 wh, .int .i64 tl, .int .i64 th, .int .i64 el, .int .i64 eh, .int .i64 nl, .int .i64 nh] 36)).alloc (.cells #[.int .i64 0, .int .i64 0] 34)) (w.heap.size + 1 + 1) 34 #[.int .i64 0, .int .i64 0] := (by repeat (first | (refine Blk.newAt _ _ _ ?_; first | rfl | (simp; done)) | refine Blk.alloc ?_ _))
    have bHB : Below w.heap.size w (((w.alloc (.cells #[hx, hy, hv, gx, gy, gv, lx, ly, lv, px, py, pv, nx, ny, nv, ax, ay, av, cx, cy, cv, dx, dy, dv, .int .i64 cl, .int .i64 bu] 27)).alloc (.cells #[.int .i64 wl, .int .i64 wh, .int .i64 tl, .int .i64 th, .int .i64 el, .int .i64 eh, .int .i64 nl, .int .i64 nh] 36)).alloc (.cells #[.int .i64 0, .int .i64 0] 34)) := (by repeat' (first | exact Below.refl _ _ | assumption | refine Below.drew ?_ | refine bdn ?_ _ | refine bal ?_ _ | refine Below.setCell ?_ (by first | (simp; done) | omega | (simp; omega)) _))
    generalize (((w.alloc (.cells #[hx, hy, hv, gx, gy, gv, lx, ly, lv, px, py, pv, nx, ny, nv, ax, ay, av, cx, cy, cv, dx, dy, dv, .int .i64 cl, .int .i64 bu] 27)).alloc (.cells #[.int .i64 wl, .int .i64 wh, .int .i64 tl, .int .i64 th, .int .i64 el, .int .i64 eh, .int .i64 nl, .int .i64 nh] 36)).alloc (.cells #[.int .i64 0, .int .i64 0] 34)) = W at *
    have zW := bHY.lt
    have HM := Lib.hid bHM
    have HA := Lib.hid bHA
    have HY := Lib.hid bHY
    have HB := Lib.hid bHB
    clear bHM bHA bHY bHB
    go_wp2_with (first | (refine wpl_row rfl 27 _ rfl _ rfl #[hx, hy, hv, gx, gy, gv, lx, ly, lv, px, py, pv, nx, ny, nv, ax, ay, av, cx, cy, cv, dx, dy, dv, .int .i64 cl, .int .i64 bu] 26 HM.out Try.rowRot rfl ?_; simp only [Act.put]) | (refine wpl_row rfl 36 _ rfl _ rfl #[.int .i64 wl, .int .i64 wh, .int .i64 tl, .int .i64 th, .int .i64 el, .int .i64 eh, .int .i64 nl, .int .i64 nh] 8 HA.out Try.rowAir rfl ?_; simp only [Act.put]) | (go_at_call 23; (with_reducible refine (HC.out _ (HR.out.below HB.out)).mono ?_); rintro e w1 ⟨rfl, hb1⟩; have nHM := Lib.hid (HM.out.below hb1); have nHA := Lib.hid (HA.out.below hb1); have nHY := Lib.hid (HY.out.below hb1); have nHB := Lib.hid (bthen HB.out hb1); have zz1 := hb1.size; clear HM HA HY HB hb1; have HM := nHM; have HA := nHA; have HY := nHY; have HB := nHB; clear nHM nHA nHY nHB; (try clear zHM); have zHM := HM.out.lt; (try clear cHM16); have cHM16 := HM.out.cell 16; (try clear zHA); have zHA := HA.out.lt; (try clear cHA0); have cHA0 := HA.out.cell 0; (try clear cHA1); have cHA1 := HA.out.cell 1; (try clear zHY); have zHY := HY.out.lt; (try clear cHY0); have cHY0 := HY.out.cell 0; (try clear cHY1); have cHY1 := HY.out.cell 1; (try clear fHY); have fHY := fun i => HY.out.frozen i) | (go_at_call 97; (with_reducible refine (HL.out _ (HR.out.a.y.below HB.out)).mono ?_); rintro e w1 ⟨rfl, hb1⟩; have nHM := Lib.hid (HM.out.below hb1); have nHA := Lib.hid (HA.out.below hb1); have nHY := Lib.hid (HY.out.below hb1); have nHB := Lib.hid (bthen HB.out hb1); have zz1 := hb1.size; clear HM HA HY HB hb1; have HM := nHM; have HA := nHA; have HY := nHY; have HB := nHB; clear nHM nHA nHY nHB; (try clear zHY); have zHY := HY.out.lt; (try clear cHY0); have cHY0 := HY.out.cell 0; (try clear cHY1); have cHY1 := HY.out.cell 1; (try clear fHY); have fHY := fun i => HY.out.frozen i))
    (exact bodyPost_ret (res_ctt rfl _ _ #[.int .i64 0, .int .i64 0] 2 rfl ((HY.out.set_ 0 _).set_ 1 _) Try.rowSpan rfl) rfl ⟨rfl, bset (bset HB.out (by omega) _) (by omega) _⟩)
  have v0 : (desV S cl bu wl wh tl th el eh nl nh n D) = if (dScan S wl wh D n 0).2 ≠ 0 then (0, 0, dScan S wl wh D n 0) else if vspan (dLo D n) (dHi D n) = true then (dLo D n, dHi D n, 0, 0) else (0, 0, 0, 2) := by
    unfold desV; rw [if_neg (by simpa using hE2), if_neg hl]
  generalize desV S cl bu wl wh tl th el eh nl nh n D = V at *
  have HV := Lib.hid v0
  have HEE := Lib.hid (And.intro hr v1)
  have HP := Lib.hid hp
  clear hE hE2 v0 hr v1 v2 v3 v4 hp
  go_enter Try.func40, Try.ntmps40
  go_wp2_with (first | (refine wpl_row rfl 27 _ rfl _ rfl #[hx, hy, hv, gx, gy, gv, lx, ly, lv, px, py, pv, nx, ny, nv, ax, ay, av, cx, cy, cv, dx, dy, dv, .int .i64 cl, .int .i64 bu] 26 ?_ Try.rowRot rfl ?_; (focus exact (by repeat (first | (refine Blk.newAt _ _ _ ?_; first | rfl | (simp; done)) | refine Blk.alloc ?_ _))); simp only [Act.put]) | (refine wpl_row rfl 36 _ rfl _ rfl #[.int .i64 wl, .int .i64 wh, .int .i64 tl, .int .i64 th, .int .i64 el, .int .i64 eh, .int .i64 nl, .int .i64 nh] 8 ?_ Try.rowAir rfl ?_; (focus exact (by repeat (first | (refine Blk.newAt _ _ _ ?_; first | rfl | (simp; done)) | refine Blk.alloc ?_ _))); simp only [Act.put]))
  have bHM : Blk (((w.alloc (.cells #[hx, hy, hv, gx, gy, gv, lx, ly, lv, px, py, pv, nx, ny, nv, ax, ay, av, cx, cy, cv, dx, dy, dv, .int .i64 cl, .int .i64 bu] 27)).alloc (.cells #[.int .i64 wl, .int .i64 wh, .int .i64 tl, .int .i64 th, .int .i64 el, .int .i64 eh, .int .i64 nl, .int .i64 nh] 36)).alloc (.cells #[.int .i64 0, .int .i64 0] 34)) (w.heap.size) 27 #[hx, hy, hv, gx, gy, gv, lx, ly, lv, px, py, pv, nx, ny, nv, ax, ay, av, cx, cy, cv, dx, dy, dv, .int .i64 cl, .int .i64 bu] := (by repeat (first | (refine Blk.newAt _ _ _ ?_; first | rfl | (simp; done)) | refine Blk.alloc ?_ _))
  have bHA : Blk (((w.alloc (.cells #[hx, hy, hv, gx, gy, gv, lx, ly, lv, px, py, pv, nx, ny, nv, ax, ay, av, cx, cy, cv, dx, dy, dv, .int .i64 cl, .int .i64 bu] 27)).alloc (.cells #[.int .i64 wl, .int .i64 wh, .int .i64 tl, .int .i64 th, .int .i64 el, .int .i64 eh, .int .i64 nl, .int .i64 nh] 36)).alloc (.cells #[.int .i64 0, .int .i64 0] 34)) (w.heap.size + 1) 36 #[.int .i64 wl, .int .i64 wh, .int .i64 tl, .int .i64 th, .int .i64 el, .int .i64 eh, .int .i64 nl, .int .i64 nh] := (by repeat (first | (refine Blk.newAt _ _ _ ?_; first | rfl | (simp; done)) | refine Blk.alloc ?_ _))
  have bHY : Blk (((w.alloc (.cells #[hx, hy, hv, gx, gy, gv, lx, ly, lv, px, py, pv, nx, ny, nv, ax, ay, av, cx, cy, cv, dx, dy, dv, .int .i64 cl, .int .i64 bu] 27)).alloc (.cells #[.int .i64 wl, .int .i64 wh, .int .i64 tl, .int .i64 th, .int .i64 el, .int .i64 eh, .int .i64 nl, .int .i64 nh] 36)).alloc (.cells #[.int .i64 0, .int .i64 0] 34)) (w.heap.size + 1 + 1) 34 #[.int .i64 0, .int .i64 0] := (by repeat (first | (refine Blk.newAt _ _ _ ?_; first | rfl | (simp; done)) | refine Blk.alloc ?_ _))
  have bHB : Below w.heap.size w (((w.alloc (.cells #[hx, hy, hv, gx, gy, gv, lx, ly, lv, px, py, pv, nx, ny, nv, ax, ay, av, cx, cy, cv, dx, dy, dv, .int .i64 cl, .int .i64 bu] 27)).alloc (.cells #[.int .i64 wl, .int .i64 wh, .int .i64 tl, .int .i64 th, .int .i64 el, .int .i64 eh, .int .i64 nl, .int .i64 nh] 36)).alloc (.cells #[.int .i64 0, .int .i64 0] 34)) := (by repeat' (first | exact Below.refl _ _ | assumption | refine Below.drew ?_ | refine bdn ?_ _ | refine bal ?_ _ | refine Below.setCell ?_ (by first | (simp; done) | omega | (simp; omega)) _))
  generalize (((w.alloc (.cells #[hx, hy, hv, gx, gy, gv, lx, ly, lv, px, py, pv, nx, ny, nv, ax, ay, av, cx, cy, cv, dx, dy, dv, .int .i64 cl, .int .i64 bu] 27)).alloc (.cells #[.int .i64 wl, .int .i64 wh, .int .i64 tl, .int .i64 th, .int .i64 el, .int .i64 eh, .int .i64 nl, .int .i64 nh] 36)).alloc (.cells #[.int .i64 0, .int .i64 0] 34)) = W at *
  have zW := bHY.lt
  have HM := Lib.hid bHM
  have HA := Lib.hid bHA
  have HY := Lib.hid bHY
  have HB := Lib.hid bHB
  clear bHM bHA bHY bHB
  go_wp2_with (first | (refine wpl_row rfl 27 _ rfl _ rfl #[hx, hy, hv, gx, gy, gv, lx, ly, lv, px, py, pv, nx, ny, nv, ax, ay, av, cx, cy, cv, dx, dy, dv, .int .i64 cl, .int .i64 bu] 26 HM.out Try.rowRot rfl ?_; simp only [Act.put]) | (refine wpl_row rfl 36 _ rfl _ rfl #[.int .i64 wl, .int .i64 wh, .int .i64 tl, .int .i64 th, .int .i64 el, .int .i64 eh, .int .i64 nl, .int .i64 nh] 8 HA.out Try.rowAir rfl ?_; simp only [Act.put]) | (go_at_call 23; (with_reducible refine (HC.out _ (HR.out.below HB.out)).mono ?_); rintro e w1 ⟨rfl, hb1⟩; have nHM := Lib.hid (HM.out.below hb1); have nHA := Lib.hid (HA.out.below hb1); have nHY := Lib.hid (HY.out.below hb1); have nHB := Lib.hid (bthen HB.out hb1); have zz1 := hb1.size; clear HM HA HY HB hb1; have HM := nHM; have HA := nHA; have HY := nHY; have HB := nHB; clear nHM nHA nHY nHB; (try clear zHM); have zHM := HM.out.lt; (try clear cHM16); have cHM16 := HM.out.cell 16; (try clear zHA); have zHA := HA.out.lt; (try clear cHA0); have cHA0 := HA.out.cell 0; (try clear cHA1); have cHA1 := HA.out.cell 1; (try clear zHY); have zHY := HY.out.lt; (try clear cHY0); have cHY0 := HY.out.cell 0; (try clear cHY1); have cHY1 := HY.out.cell 1; (try clear fHY); have fHY := fun i => HY.out.frozen i) | (go_at_call 97; (with_reducible refine (HL.out _ (HR.out.a.y.below HB.out)).mono ?_); rintro e w1 ⟨rfl, hb1⟩; have nHM := Lib.hid (HM.out.below hb1); have nHA := Lib.hid (HA.out.below hb1); have nHY := Lib.hid (HY.out.below hb1); have nHB := Lib.hid (bthen HB.out hb1); have zz1 := hb1.size; clear HM HA HY HB hb1; have HM := nHM; have HA := nHA; have HY := nHY; have HB := nHB; clear nHM nHA nHY nHB; (try clear zHY); have zHY := HY.out.lt; (try clear cHY0); have cHY0 := HY.out.cell 0; (try clear cHY1); have cHY1 := HY.out.cell 1; (try clear fHY); have fHY := fun i => HY.out.frozen i))
  have bHS := Blk.new w1 34 #[.int .i64 0, .int .i64 0]
  have nHM := Lib.hid (HM.out.alloc (.cells #[.int .i64 0, .int .i64 0] 34))
  have nHA := Lib.hid (HA.out.alloc (.cells #[.int .i64 0, .int .i64 0] 34))
  have nHY := Lib.hid (HY.out.alloc (.cells #[.int .i64 0, .int .i64 0] 34))
  have nHB := Lib.hid (bal HB.out (.cells #[.int .i64 0, .int .i64 0] 34))
  clear HM HA HY HB
  have HM := nHM
  have HA := nHA
  have HY := nHY
  have HB := nHB
  clear nHM nHA nHY nHB
  generalize w1.alloc (.cells #[.int .i64 0, .int .i64 0] 34) = W2 at *
  generalize w1.heap.size = gHS at *
  have HS := Lib.hid bHS
  clear bHS
  clear cHY0 cHY1 fHY cHM16 cHA0 cHA1
  have zS := HS.out.lt
  go_loopw [11] (fun s wr => ∃ k : Nat, k ≤ n ∧ s = .int .i64 k ∧ RowKit.Hid (Below w.heap.size w wr) ∧ RowKit.Hid (Blk wr w.heap.size 27 #[hx, hy, hv, gx, gy, gv, lx, ly, lv, px, py, pv, nx, ny, nv, ax, ay, av, cx, cy, cv, dx, dy, dv, .int .i64 cl, .int .i64 bu]) ∧ RowKit.Hid (Blk wr (w.heap.size + 1) 36 #[.int .i64 wl, .int .i64 wh, .int .i64 tl, .int .i64 th, .int .i64 el, .int .i64 eh, .int .i64 nl, .int .i64 nh]) ∧ RowKit.Hid (Blk wr (w.heap.size + 1 + 1) 34 #[.int .i64 0, .int .i64 0]) ∧ RowKit.Hid (Blk wr gHS 34 #[.int .i64 (dLo D k), .int .i64 (dHi D k)]) ∧ RowKit.Hid (dScan S wl wh D n 0 = dScan S wl wh D (n - k) k ∧ -1000000000 * (k : Int) ≤ dLo D k ∧ dLo D k ≤ 1000000000 * (k : Int) ∧ -1000000000 * (k : Int) ≤ dHi D k ∧ dHi D k ≤ 1000000000 * (k : Int))) (fun s _ => n - (intOf s).toNat)
  case atStart => exact ⟨0, by omega, rfl, HB.out, HM.out, HA.out, HY.out, HS.out, ⟨rfl, by simp [dLo, dHi]⟩⟩
  case round =>
    obtain ⟨k, hk, rfl, hB, hM, hA, hY, hS, hX⟩ := hrel
    have HB := hB
    have HM := hM
    have HA := hA
    have HY := hY
    have HS := hS
    have zY := HY.out.lt
    have zS2 := HS.out.lt
    clear hB hM hA hY hS
    by_cases hlt : k < n
    · obtain ⟨b, off, rfl, hbl, hcc⟩ := (HD.out.below HB.out) (by omega)
      have d0 := hcc k hlt 0 (by omega)
      have d1 := hcc k hlt 1 (by omega)
      have d2 := hcc k hlt 2 (by omega)
      have d3 := hcc k hlt 3 (by omega)
      have d4 := hcc k hlt 4 (by omega)
      simp only [Nat.add_zero] at d0
      clear hcc
      have I0 := Lib.hid (fun w => rf_from_c (D k 4) 0 1000 w)
      go_wp2_with fail
      clear d0 d1 d2 d3 d4
      rename World => w1
      have bN5 := Blk.new w1 74 #[.int .i64 (D k 0), .int .i64 (D k 1), .int .i64 (D k 2), .int .i64 (D k 3), .int .i64 (D k 4)]
      have nHM := Lib.hid (HM.out.alloc (.cells #[.int .i64 (D k 0), .int .i64 (D k 1), .int .i64 (D k 2), .int .i64 (D k 3), .int .i64 (D k 4)] 74))
      have nHA := Lib.hid (HA.out.alloc (.cells #[.int .i64 (D k 0), .int .i64 (D k 1), .int .i64 (D k 2), .int .i64 (D k 3), .int .i64 (D k 4)] 74))
      have nHY := Lib.hid (HY.out.alloc (.cells #[.int .i64 (D k 0), .int .i64 (D k 1), .int .i64 (D k 2), .int .i64 (D k 3), .int .i64 (D k 4)] 74))
      have nHS := Lib.hid (HS.out.alloc (.cells #[.int .i64 (D k 0), .int .i64 (D k 1), .int .i64 (D k 2), .int .i64 (D k 3), .int .i64 (D k 4)] 74))
      have nHB := Lib.hid (bal HB.out (.cells #[.int .i64 (D k 0), .int .i64 (D k 1), .int .i64 (D k 2), .int .i64 (D k 3), .int .i64 (D k 4)] 74))
      clear HM HA HY HS HB
      have HM := nHM
      have HA := nHA
      have HY := nHY
      have HS := nHS
      have HB := nHB
      clear nHM nHA nHY nHS nHB
      generalize w1.alloc (.cells #[.int .i64 (D k 0), .int .i64 (D k 1), .int .i64 (D k 2), .int .i64 (D k 3), .int .i64 (D k 4)] 74) = W2 at *
      generalize w1.heap.size = gN5 at *
      have N5 := Lib.hid bN5
      clear bN5
      have y0 := HY.out.cell 0
      have y1 := HY.out.cell 1
      have y2 := fun i => HY.out.frozen i
      have q4 := N5.out.cell 4
      cases h1 : inB (D k 4) 0 1000
      case false =>
        rw [h1] at I0
        have es := hX.out.1
        rw [dScan_bad hlt (by unfold dBad; rw [h1]; rfl)] at es
        have v1 := HV.out
        rw [es, if_pos (by dsimp only; decide)] at v1
        have HV1 := Lib.hid v1
        clear v1 es HV hX
        go_wp2_with (first | (go_at_call 57; (with_reducible refine (I0.out _).mono ?_); rintro e w3 ⟨rfl, rfl⟩))
        (exact bodyPost_ret (res_ctt rfl _ _ #[.int .i64 0, .int .i64 0] 2 rfl ((HY.out.set_ 0 _).set_ 1 _) Try.rowSpan rfl) rfl ⟨by rw [HV1.out]; rfl, bset (bset HB.out (by omega) _) (by omega) _⟩)
      rw [h1] at I0
      have I2 := fun w => rf_Valid_c (D k 2) (D k 3) w
      have q2 := N5.out.cell 2
      have q3 := N5.out.cell 3
      cases h2 : vspan (D k 2) (D k 3)
      case false =>
        rw [h2] at I2
        have es := hX.out.1
        rw [dScan_bad hlt (by unfold dBad; rw [h2]; simp)] at es
        have v1 := HV.out
        rw [es, if_pos (by dsimp only; decide)] at v1
        have HV1 := Lib.hid v1
        have J2 := Lib.hid I2
        clear v1 es HV hX I2
        go_wp2_with (first | (go_at_call 57; (with_reducible refine (I0.out _).mono ?_); rintro e w3 ⟨rfl, rfl⟩) | ((with_reducible refine (J2.out _).mono ?_); rintro e w1 ⟨rfl, hb1⟩; have nHM := Lib.hid (HM.out.below hb1); have nHA := Lib.hid (HA.out.below hb1); have nHY := Lib.hid (HY.out.below hb1); have nHS := Lib.hid (HS.out.below hb1); have nHB := Lib.hid (bthen HB.out hb1); have zz1 := hb1.size; clear HM HA HY HS HB hb1; have HM := nHM; have HA := nHA; have HY := nHY; have HS := nHS; have HB := nHB; clear nHM nHA nHY nHS nHB; (try clear zHY); have zHY := HY.out.lt; (try clear cHY0); have cHY0 := HY.out.cell 0; (try clear cHY1); have cHY1 := HY.out.cell 1; (try clear fHY); have fHY := fun i => HY.out.frozen i))
        (exact bodyPost_ret (res_ctt rfl _ _ #[.int .i64 0, .int .i64 0] 2 rfl ((HY.out.set_ 0 _).set_ 1 _) Try.rowSpan rfl) rfl ⟨by rw [HV1.out]; rfl, bset (bset HB.out (by omega) _) (by omega) _⟩)
      rw [h2] at I2
      have J2 := Lib.hid I2
      clear I2
      obtain ⟨hr, ha⟩ := HEE.out
      have I4 := fun w1 hT => rf2_lies_c ax ay av S.a (D k 0) (D k 1) wl wh w1 hT HP.out.1 HP.out.2
      rw [lieB_right ha] at I4
      have hd : dBad S wl wh (D k) = !(vspan (D k 0) (D k 1) && lkE S.a (D k 0) (D k 1) wl wh) := by unfold dBad; rw [h1, h2]; cases vspan (D k 0) (D k 1) <;> rfl
      cases h4 : (vspan (D k 0) (D k 1) && lkE S.a (D k 0) (D k 1) wl wh)
      case false =>
        rw [h4] at hd I4
        have es := hX.out.1
        rw [dScan_bad hlt hd] at es
        have v1 := HV.out
        rw [es, if_pos (by dsimp only; decide)] at v1
        have HV1 := Lib.hid v1
        have J4 := Lib.hid I4
        clear v1 es HV hX I4 hd ha hr
        go_wp2_with (first | (go_at_call 57; (with_reducible refine (I0.out _).mono ?_); rintro e w3 ⟨rfl, rfl⟩) | ((with_reducible refine (J2.out _).mono ?_); rintro e w1 ⟨rfl, hb1⟩; have nHM := Lib.hid (HM.out.below hb1); have nHA := Lib.hid (HA.out.below hb1); have nHY := Lib.hid (HY.out.below hb1); have nHS := Lib.hid (HS.out.below hb1); have nN5 := Lib.hid (N5.out.below hb1); have nHB := Lib.hid (bthen HB.out hb1); have zz1 := hb1.size; clear HM HA HY HS N5 HB hb1; have HM := nHM; have HA := nHA; have HY := nHY; have HS := nHS; have N5 := nN5; have HB := nHB; clear nHM nHA nHY nHS nN5 nHB; (try clear zHY); have zHY := HY.out.lt; (try clear cHY0); have cHY0 := HY.out.cell 0; (try clear cHY1); have cHY1 := HY.out.cell 1; (try clear fHY); have fHY := fun i => HY.out.frozen i; (try clear zN5); have zN5 := N5.out.lt; (try clear cN50); have cN50 := N5.out.cell 0; (try clear cN51); have cN51 := N5.out.cell 1; (try clear zHM); have zHM := HM.out.lt; (try clear cHM15); have cHM15 := HM.out.cell 15; (try clear cHM16); have cHM16 := HM.out.cell 16; (try clear cHM17); have cHM17 := HM.out.cell 17; (try clear zHA); have zHA := HA.out.lt; (try clear cHA0); have cHA0 := HA.out.cell 0; (try clear cHA1); have cHA1 := HA.out.cell 1) | ((with_reducible refine (J4.out _ (HR.out.a.below HB.out)).mono ?_); rintro e w1 ⟨rfl, hb1⟩; have nHY := Lib.hid (HY.out.below hb1); have nHS := Lib.hid (HS.out.below hb1); have nN5 := Lib.hid (N5.out.below hb1); have nHB := Lib.hid (bthen HB.out hb1); have zz1 := hb1.size; clear HY HS N5 HB hb1; have HY := nHY; have HS := nHS; have N5 := nN5; have HB := nHB; clear nHY nHS nN5 nHB; (try clear zHY); have zHY := HY.out.lt; (try clear cHY0); have cHY0 := HY.out.cell 0; (try clear cHY1); have cHY1 := HY.out.cell 1; (try clear fHY); have fHY := fun i => HY.out.frozen i))
        (exact bodyPost_ret (res_ctt rfl _ _ #[.int .i64 0, .int .i64 0] 2 rfl ((HY.out.set_ 0 _).set_ 1 _) Try.rowSpan rfl) rfl ⟨by rw [HV1.out]; rfl, bset (bset HB.out (by omega) _) (by omega) _⟩)
      rw [h4] at hd I4
      have J4 := Lib.hid I4
      have b4 := h4
      simp only [Bool.and_eq_true] at b4
      have f1 := Fits.mk' (rotB_a hr) b4.1 ha b4.2
      have I5 := fun w1 hR => rf2_wake_c hx hy hv gx gy gv lx ly lv px py pv nx ny nv ax ay av cx cy cv dx dy dv cl bu wl wh tl th el eh nl nh (D k 0) (D k 1) (D k 2) (D k 3) S w1 hR f1 (Fits_c hr f1)
      clear I4 b4
      cases h5 : wakV S wl wh (D k 0) (D k 1) (D k 2) (D k 3)
      case true =>
        rw [h5] at I5
        have es := hX.out.1
        rw [dScan_wak hlt hd h5] at es
        have v1 := HV.out
        rw [es, if_pos (by dsimp only; decide)] at v1
        have HV1 := Lib.hid v1
        have J5 := Lib.hid I5
        clear v1 es HV hX I5 hd hr f1 ha
        go_wp2_with (first | (go_at_call 57; (with_reducible refine (I0.out _).mono ?_); rintro e w3 ⟨rfl, rfl⟩) | ((with_reducible refine (J2.out _).mono ?_); rintro e w1 ⟨rfl, hb1⟩; have nHM := Lib.hid (HM.out.below hb1); have nHA := Lib.hid (HA.out.below hb1); have nHY := Lib.hid (HY.out.below hb1); have nHS := Lib.hid (HS.out.below hb1); have nN5 := Lib.hid (N5.out.below hb1); have nHB := Lib.hid (bthen HB.out hb1); have zz1 := hb1.size; clear HM HA HY HS N5 HB hb1; have HM := nHM; have HA := nHA; have HY := nHY; have HS := nHS; have N5 := nN5; have HB := nHB; clear nHM nHA nHY nHS nN5 nHB; (try clear zHY); have zHY := HY.out.lt; (try clear cHY0); have cHY0 := HY.out.cell 0; (try clear cHY1); have cHY1 := HY.out.cell 1; (try clear fHY); have fHY := fun i => HY.out.frozen i; (try clear zN5); have zN5 := N5.out.lt; (try clear cN50); have cN50 := N5.out.cell 0; (try clear cN51); have cN51 := N5.out.cell 1; (try clear zHM); have zHM := HM.out.lt; (try clear cHM15); have cHM15 := HM.out.cell 15; (try clear cHM16); have cHM16 := HM.out.cell 16; (try clear cHM17); have cHM17 := HM.out.cell 17; (try clear zHA); have zHA := HA.out.lt; (try clear cHA0); have cHA0 := HA.out.cell 0; (try clear cHA1); have cHA1 := HA.out.cell 1) | ((with_reducible refine (J4.out _ (HR.out.a.below HB.out)).mono ?_); rintro e w1 ⟨rfl, hb1⟩; have nHM := Lib.hid (HM.out.below hb1); have nHA := Lib.hid (HA.out.below hb1); have nHY := Lib.hid (HY.out.below hb1); have nHS := Lib.hid (HS.out.below hb1); have nN5 := Lib.hid (N5.out.below hb1); have nHB := Lib.hid (bthen HB.out hb1); have zz1 := hb1.size; clear HM HA HY HS N5 HB hb1; have HM := nHM; have HA := nHA; have HY := nHY; have HS := nHS; have N5 := nN5; have HB := nHB; clear nHM nHA nHY nHS nN5 nHB; (try clear zN5); have zN5 := N5.out.lt; (try clear cN50); have cN50 := N5.out.cell 0; (try clear cN51); have cN51 := N5.out.cell 1; (try clear cN52); have cN52 := N5.out.cell 2; (try clear cN53); have cN53 := N5.out.cell 3) | (refine wpl_row rfl 27 _ rfl _ rfl #[hx, hy, hv, gx, gy, gv, lx, ly, lv, px, py, pv, nx, ny, nv, ax, ay, av, cx, cy, cv, dx, dy, dv, .int .i64 cl, .int .i64 bu] 26 HM.out Try.rowRot rfl ?_; simp only [Act.put]) | (refine wpl_row rfl 36 _ rfl _ rfl #[.int .i64 wl, .int .i64 wh, .int .i64 tl, .int .i64 th, .int .i64 el, .int .i64 eh, .int .i64 nl, .int .i64 nh] 8 HA.out Try.rowAir rfl ?_; simp only [Act.put]) | (go_at_call 71; (with_reducible refine (J5.out _ (HR.out.below HB.out)).mono ?_); rintro e w1 ⟨rfl, hb1⟩; have nHY := Lib.hid (HY.out.below hb1); have nHS := Lib.hid (HS.out.below hb1); have nN5 := Lib.hid (N5.out.below hb1); have nHB := Lib.hid (bthen HB.out hb1); have zz1 := hb1.size; clear HY HS N5 HB hb1; have HY := nHY; have HS := nHS; have N5 := nN5; have HB := nHB; clear nHY nHS nN5 nHB; (try clear zHY); have zHY := HY.out.lt; (try clear cHY0); have cHY0 := HY.out.cell 0; (try clear cHY1); have cHY1 := HY.out.cell 1; (try clear fHY); have fHY := fun i => HY.out.frozen i))
        (exact bodyPost_ret (res_ctt rfl _ _ #[.int .i64 0, .int .i64 0] 2 rfl ((HY.out.set_ 0 _).set_ 1 _) Try.rowSpan rfl) rfl ⟨by rw [HV1.out]; rfl, bset (bset HB.out (by omega) _) (by omega) _⟩)
      rw [h5] at I5
      have es := hX.out.1
      rw [dScan_next hlt hd h5] at es
      have J5 := Lib.hid I5
      have HX2 := Lib.hid (And.intro es hX.out.2)
      obtain ⟨M0, L1, M1, H1, eq0, eq1, eq2, eq3, k0, k1, hb0, hb1, hb2, hb3⟩ := dStep (by omega) h1 h2 HX2.out.2
      have hne : gN5 ≠ gHS := by omega
      have hne2 : gHS ≠ gN5 := by omega
      have K0 := Lib.hid k0
      have K1 := Lib.hid k1
      have AQ := Lib.hid (And.intro hb0 (And.intro hb1 (And.intro hb2 hb3)))
      clear k0 k1 hb0 hb1 hb2 hb3 es hX I5 hd hr f1 ha h1 h2 h4 h5 y0 y1 y2
      go_wp2_with (first | (go_at_call 57; (with_reducible refine (I0.out _).mono ?_); rintro e w3 ⟨rfl, rfl⟩) | ((with_reducible refine (J2.out _).mono ?_); rintro e w1 ⟨rfl, hb1⟩; have nHM := Lib.hid (HM.out.below hb1); have nHA := Lib.hid (HA.out.below hb1); have nHY := Lib.hid (HY.out.below hb1); have nHS := Lib.hid (HS.out.below hb1); have nN5 := Lib.hid (N5.out.below hb1); have nHB := Lib.hid (bthen HB.out hb1); have zz1 := hb1.size; clear HM HA HY HS N5 HB hb1; have HM := nHM; have HA := nHA; have HY := nHY; have HS := nHS; have N5 := nN5; have HB := nHB; clear nHM nHA nHY nHS nN5 nHB; (try clear zN5); have zN5 := N5.out.lt; (try clear cN50); have cN50 := N5.out.cell 0; (try clear cN51); have cN51 := N5.out.cell 1; (try clear zHM); have zHM := HM.out.lt; (try clear cHM15); have cHM15 := HM.out.cell 15; (try clear cHM16); have cHM16 := HM.out.cell 16; (try clear cHM17); have cHM17 := HM.out.cell 17; (try clear zHA); have zHA := HA.out.lt; (try clear cHA0); have cHA0 := HA.out.cell 0; (try clear cHA1); have cHA1 := HA.out.cell 1) | ((with_reducible refine (J4.out _ (HR.out.a.below HB.out)).mono ?_); rintro e w1 ⟨rfl, hb1⟩; have nHM := Lib.hid (HM.out.below hb1); have nHA := Lib.hid (HA.out.below hb1); have nHY := Lib.hid (HY.out.below hb1); have nHS := Lib.hid (HS.out.below hb1); have nN5 := Lib.hid (N5.out.below hb1); have nHB := Lib.hid (bthen HB.out hb1); have zz1 := hb1.size; clear HM HA HY HS N5 HB hb1; have HM := nHM; have HA := nHA; have HY := nHY; have HS := nHS; have N5 := nN5; have HB := nHB; clear nHM nHA nHY nHS nN5 nHB; (try clear zN5); have zN5 := N5.out.lt; (try clear cN50); have cN50 := N5.out.cell 0; (try clear cN51); have cN51 := N5.out.cell 1; (try clear cN52); have cN52 := N5.out.cell 2; (try clear cN53); have cN53 := N5.out.cell 3) | (refine wpl_row rfl 27 _ rfl _ rfl #[hx, hy, hv, gx, gy, gv, lx, ly, lv, px, py, pv, nx, ny, nv, ax, ay, av, cx, cy, cv, dx, dy, dv, .int .i64 cl, .int .i64 bu] 26 HM.out Try.rowRot rfl ?_; simp only [Act.put]) | (refine wpl_row rfl 36 _ rfl _ rfl #[.int .i64 wl, .int .i64 wh, .int .i64 tl, .int .i64 th, .int .i64 el, .int .i64 eh, .int .i64 nl, .int .i64 nh] 8 HA.out Try.rowAir rfl ?_; simp only [Act.put]) | (go_at_call 71; (with_reducible refine (J5.out _ (HR.out.below HB.out)).mono ?_); rintro e w1 ⟨rfl, hb1⟩; have nHM := Lib.hid (HM.out.below hb1); have nHA := Lib.hid (HA.out.below hb1); have nHY := Lib.hid (HY.out.below hb1); have nHS := Lib.hid (HS.out.below hb1); have nN5 := Lib.hid (N5.out.below hb1); have nHB := Lib.hid (bthen HB.out hb1); have zz1 := hb1.size; clear HM HA HY HS N5 HB hb1; have HM := nHM; have HA := nHA; have HY := nHY; have HS := nHS; have N5 := nN5; have HB := nHB; clear nHM nHA nHY nHS nN5 nHB; (try clear zHS); have zHS := HS.out.lt; (try clear cHS0); have cHS0 := HS.out.cell 0; (try clear cHS1); have cHS1 := HS.out.cell 1; (try clear fHS); have fHS := fun i => HS.out.frozen i; (try clear zN5); have zN5 := N5.out.lt; (try clear cN52); have cN52 := N5.out.cell 2; (try clear cN53); have cN53 := N5.out.cell 3; (try clear cN54); have cN54 := N5.out.cell 4))
      exact ⟨⟨k + 1, by omega, by go_num, bset (bset HB.out (by omega) _) (by omega) _, (HM.out.far' (by omega) _).far' (by omega) _, (HA.out.far' (by omega) _).far' (by omega) _, (HY.out.far' (by omega) _).far' (by omega) _,
        by rw [← K0.out, ← K1.out]; exact (HS.out.set_ 0 (.int .i64 L1)).set_ 1 (.int .i64 H1), ⟨HX2.out.1, by have := AQ.out; push_cast; omega⟩⟩, by simp [intOf]; omega⟩
    · obtain rfl : k = n := by omega
      have e0 := hX.out.1
      rw [Nat.sub_self, show dScan S wl wh D 0 k = (0, 0) from rfl] at e0
      have v1 := HV.out
      rw [e0, if_neg (by decide)] at v1
      have HC1 := fun w => rf_Valid_c (dLo D k) (dHi D k) w
      clear HV e0 hX
      cases hv : vspan (dLo D k) (dHi D k)
      all_goals
        rw [hv] at v1 HC1
        have HV := Lib.hid v1
        clear v1
        generalize dLo D k = x0 at *
        generalize dHi D k = x1 at *
        have s0 := HS.out.cell 0
        have s1 := HS.out.cell 1
        have y0 := HY.out.cell 0
        have y1 := HY.out.cell 1
        have y2 := fun i => HY.out.frozen i
        go_wp2_with (first | (go_at_call 24; (with_reducible refine (HC1 _).mono ?_); rintro e w1 ⟨rfl, hb1⟩; have nHY := Lib.hid (HY.out.below hb1); have nHS := Lib.hid (HS.out.below hb1); have nHB := Lib.hid (bthen HB.out hb1); have zz1 := hb1.size; clear HY HS HB hb1; have HY := nHY; have HS := nHS; have HB := nHB; clear nHY nHS nHB; (try clear zHY); have zHY := HY.out.lt; (try clear cHY0); have cHY0 := HY.out.cell 0; (try clear cHY1); have cHY1 := HY.out.cell 1; (try clear fHY); have fHY := fun i => HY.out.frozen i; (try clear zHS); have zHS := HS.out.lt; (try clear cHS0); have cHS0 := HS.out.cell 0; (try clear cHS1); have cHS1 := HS.out.cell 1))
      · exact bodyPost_ret (res_ctt rfl _ _ #[.int .i64 0, .int .i64 0] 2 rfl ((HY.out.set_ 0 _).set_ 1 _) Try.rowSpan rfl) rfl ⟨by rw [HV.out]; rfl, bset (bset HB.out (by omega) _) (by omega) _⟩
      · exact bodyPost_ret (res_ctt rfl _ _ #[.int .i64 x0, .int .i64 x1] 2 rfl ((HY.out.set_ 0 _).set_ 1 _) Try.rowSpan rfl) rfl ⟨by rw [HV.out]; rfl, bset (bset HB.out (by omega) _) (by omega) _⟩
end Go.Proofs.Ytoembbcddhlokaa
