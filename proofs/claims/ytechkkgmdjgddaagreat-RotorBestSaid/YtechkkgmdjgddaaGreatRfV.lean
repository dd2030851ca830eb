/- Contracts: Fast of the reference of rotors. -/
import Derived.Test.YtechkkgmdjgddaaGreatRfU
import Derived.Test.YtechkkgmdjgddaaGreatRoY
set_option linter.all false
namespace Go.Proofs.YtechkkgmdjgddaaGreat
open Go Go.RowKit Go.Proofs
set_option maxRecDepth 100000
set_option maxHeartbeats 4000000


theorem rf2_Fast_c (hx hy hv gx gy gv lx ly lv px py pv nx ny nv ax ay av cx cy cv dx dy dv : Value) (cl bu : Int) (wl wh tl th el eh nl nh : Int) (S : Tabs) (w : World) (hR : RotAt w hx hy hv gx gy gv lx ly lv px py pv nx ny nv ax ay av cx cy cv dx dy dv cl bu S) :
   Calls Tryz.prog 11 #[.agg #[hx, hy, hv, gx, gy, gv, lx, ly, lv, px, py, pv, nx, ny, nv, ax, ay, av, cx, cy, cv, dx, dy, dv, .int .i64 cl, .int .i64 bu], .agg #[.int .i64 wl, .int .i64 wh, .int .i64 tl, .int .i64 th, .int .i64 el, .int .i64 eh, .int .i64 nl, .int .i64 nh]] w fun e w' => e = .returned (.tuple #[.int .i64 (fasP S cl bu wl wh tl th el eh nl nh).1, .int .i64 (fasP S cl bu wl wh tl th el eh nl nh).2]) ∧ Below w.heap.size w w' := by
  have hc := fun w1 hR => rf2_checkSpeeds_c hx hy hv gx gy gv lx ly lv px py pv nx ny nv ax ay av cx cy cv dx dy dv cl bu wl wh tl th el eh nl nh S w1 hR
  unfold fasP
  by_cases hB : besE S cl bu wl wh tl th el eh nl nh = 0
  case neg =>
    have HR := Lib.hid hR
    rw [fasE_pass hB, if_neg hB]
    have hne : (besE S cl bu wl wh tl th el eh nl nh != 0) = true := by simpa using hB
    have HC := Lib.hid hc
    have H1 := trivial
    generalize besE S cl bu wl wh tl th el eh nl nh = E at *
    clear hB hc hR
    dsimp only
    go_enter Tryz.func11, Tryz.ntmps11
    go_wp2_with (first | (refine wpl_row rfl 27 _ rfl _ rfl #[hx, hy, hv, gx, gy, gv, lx, ly, lv, px, py, pv, nx, ny, nv, ax, ay, av, cx, cy, cv, dx, dy, dv, .int .i64 cl, .int .i64 bu] 26 ?_ Tryz.rowRot rfl ?_; (focus exact (by repeat (first | (refine Blk.newAt _ _ _ ?_; first | rfl | (simp; done)) | refine Blk.alloc ?_ _))); simp only [Act.put]) | (refine wpl_row rfl 31 _ rfl _ rfl #[.int .i64 wl, .int .i64 wh, .int .i64 tl, .int .i64 th, .int .i64 el, .int .i64 eh, .int .i64 nl, .int .i64 nh] 8 ?_ Tryz.rowAir rfl ?_; (focus exact (by repeat (first | (refine Blk.newAt _ _ _ ?_; first | rfl | (simp; done)) | refine Blk.alloc ?_ _))); simp only [Act.put]))
    have bHM : Blk ((w.alloc (.cells #[hx, hy, hv, gx, gy, gv, lx, ly, lv, px, py, pv, nx, ny, nv, ax, ay, av, cx, cy, cv, dx, dy, dv, .int .i64 cl, .int .i64 bu] 27)).alloc (.cells #[.int .i64 wl, .int .i64 wh, .int .i64 tl, .int .i64 th, .int .i64 el, .int .i64 eh, .int .i64 nl, .int .i64 nh] 31)) (w.heap.size) 27 #[hx, hy, hv, gx, gy, gv, lx, ly, lv, px, py, pv, nx, ny, nv, ax, ay, av, cx, cy, cv, dx, dy, dv, .int .i64 cl, .int .i64 bu] := (by repeat (first | (refine Blk.newAt _ _ _ ?_; first | rfl | (simp; done)) | refine Blk.alloc ?_ _))
    have bHA : Blk ((w.alloc (.cells #[hx, hy, hv, gx, gy, gv, lx, ly, lv, px, py, pv, nx, ny, nv, ax, ay, av, cx, cy, cv, dx, dy, dv, .int .i64 cl, .int .i64 bu] 27)).alloc (.cells #[.int .i64 wl, .int .i64 wh, .int .i64 tl, .int .i64 th, .int .i64 el, .int .i64 eh, .int .i64 nl, .int .i64 nh] 31)) (w.heap.size + 1) 31 #[.int .i64 wl, .int .i64 wh, .int .i64 tl, .int .i64 th, .int .i64 el, .int .i64 eh, .int .i64 nl, .int .i64 nh] := (by repeat (first | (refine Blk.newAt _ _ _ ?_; first | rfl | (simp; done)) | refine Blk.alloc ?_ _))
    have bHB : Below w.heap.size w ((w.alloc (.cells #[hx, hy, hv, gx, gy, gv, lx, ly, lv, px, py, pv, nx, ny, nv, ax, ay, av, cx, cy, cv, dx, dy, dv, .int .i64 cl, .int .i64 bu] 27)).alloc (.cells #[.int .i64 wl, .int .i64 wh, .int .i64 tl, .int .i64 th, .int .i64 el, .int .i64 eh, .int .i64 nl, .int .i64 nh] 31)) := (by repeat' (first | exact Below.refl _ _ | assumption | refine Below.drew ?_ | refine bdn ?_ _ | refine bal ?_ _ | refine Below.setCell ?_ (by first | (simp; done) | omega | (simp; omega)) _))
    generalize ((w.alloc (.cells #[hx, hy, hv, gx, gy, gv, lx, ly, lv, px, py, pv, nx, ny, nv, ax, ay, av, cx, cy, cv, dx, dy, dv, .int .i64 cl, .int .i64 bu] 27)).alloc (.cells #[.int .i64 wl, .int .i64 wh, .int .i64 tl, .int .i64 th, .int .i64 el, .int .i64 eh, .int .i64 nl, .int .i64 nh] 31)) = W at *
    have zW := bHA.lt
    have HM := Lib.hid bHM
    have HA := Lib.hid bHA
    have HB := Lib.hid bHB
    clear bHM bHA bHB
    go_wp2_with (first | (go_at_call 24; (with_reducible refine (HC.out _ (HR.out.below HB.out)).mono ?_); rintro e w1 ⟨rfl, hb1⟩; have nHM := Lib.hid (HM.out.below hb1); have nHA := Lib.hid (HA.out.below hb1); have nHB := Lib.hid (bthen HB.out hb1); have zz1 := hb1.size; clear HM HA HB hb1; have HM := nHM; have HA := nHA; have HB := nHB; clear nHM nHA nHB; (try clear zHM); have zHM := HM.out.lt; (try clear cHM12); have cHM12 := HM.out.cell 12; (try clear cHM13); have cHM13 := HM.out.cell 13; (try clear cHM14); have cHM14 := HM.out.cell 14; (try clear zHA); have zHA := HA.out.lt; (try clear cHA0); have cHA0 := HA.out.cell 0; (try clear cHA1); have cHA1 := HA.out.cell 1; (try clear cHA2); have cHA2 := HA.out.cell 2; (try clear cHA3); have cHA3 := HA.out.cell 3) | (go_at_call 29; (with_reducible refine (H1.out _ (HR.out.n.below HB.out)).mono ?_); rintro e w1 ⟨rfl, hb1⟩; have nHM := Lib.hid (HM.out.below hb1); have nHA := Lib.hid (HA.out.below hb1); have nHB := Lib.hid (bthen HB.out hb1); have zz1 := hb1.size; clear HM HA HB hb1; have HM := nHM; have HA := nHA; have HB := nHB; clear nHM nHA nHB))
    go_ret2
    exact ⟨rfl, HB.out⟩
  rw [fasE_then hB]
  have hz := chkE_zero hB
  obtain ⟨hr0, hP0, hL0⟩ := ratE_ok hB
  have hp := lkE_pos (rotB_n hr0)
  have h1 := fun w1 hT => rf2_lies_c nx ny nv S.n wl wh tl th w1 hT hp.1 hp.2
  rw [lieB_right hP0.vx, hL0.vy, Bool.true_and] at h1
  rw [hB] at hc
  have HC := Lib.hid hc
  cases b1 : lkE S.n wl wh tl th
  · rw [b1] at h1
    have H1 := Lib.hid h1
    have HR := Lib.hid hR
    rw [if_neg (by decide), if_neg (by decide)]
    clear hB hc hR hz hr0 hP0 hL0 hp h1
    dsimp only
    go_enter Tryz.func11, Tryz.ntmps11
    go_wp2_with (first | (refine wpl_row rfl 27 _ rfl _ rfl #[hx, hy, hv, gx, gy, gv, lx, ly, lv, px, py, pv, nx, ny, nv, ax, ay, av, cx, cy, cv, dx, dy, dv, .int .i64 cl, .int .i64 bu] 26 ?_ Tryz.rowRot rfl ?_; (focus exact (by repeat (first | (refine Blk.newAt _ _ _ ?_; first | rfl | (simp; done)) | refine Blk.alloc ?_ _))); simp only [Act.put]) | (refine wpl_row rfl 31 _ rfl _ rfl #[.int .i64 wl, .int .i64 wh, .int .i64 tl, .int .i64 th, .int .i64 el, .int .i64 eh, .int .i64 nl, .int .i64 nh] 8 ?_ Tryz.rowAir rfl ?_; (focus exact (by repeat (first | (refine Blk.newAt _ _ _ ?_; first | rfl | (simp; done)) | refine Blk.alloc ?_ _))); simp only [Act.put]))
    have bHM : Blk ((w.alloc (.cells #[hx, hy, hv, gx, gy, gv, lx, ly, lv, px, py, pv, nx, ny, nv, ax, ay, av, cx, cy, cv, dx, dy, dv, .int .i64 cl, .int .i64 bu] 27)).alloc (.cells #[.int .i64 wl, .int .i64 wh, .int .i64 tl, .int .i64 th, .int .i64 el, .int .i64 eh, .int .i64 nl, .int .i64 nh] 31)) (w.heap.size) 27 #[hx, hy, hv, gx, gy, gv, lx, ly, lv, px, py, pv, nx, ny, nv, ax, ay, av, cx, cy, cv, dx, dy, dv, .int .i64 cl, .int .i64 bu] := (by repeat (first | (refine Blk.newAt _ _ _ ?_; first | rfl | (simp; done)) | refine Blk.alloc ?_ _))
    have bHA : Blk ((w.alloc (.cells #[hx, hy, hv, gx, gy, gv, lx, ly, lv, px, py, pv, nx, ny, nv, ax, ay, av, cx, cy, cv, dx, dy, dv, .int .i64 cl, .int .i64 bu] 27)).alloc (.cells #[.int .i64 wl, .int .i64 wh, .int .i64 tl, .int .i64 th, .int .i64 el, .int .i64 eh, .int .i64 nl, .int .i64 nh] 31)) (w.heap.size + 1) 31 #[.int .i64 wl, .int .i64 wh, .int .i64 tl, .int .i64 th, .int .i64 el, .int .i64 eh, .int .i64 nl, .int .i64 nh] := (by repeat (first | (refine Blk.newAt _ _ _ ?_; first | rfl | (simp; done)) | refine Blk.alloc ?_ _))
    have bHB : Below w.heap.size w ((w.alloc (.cells #[hx, hy, hv, gx, gy, gv, lx, ly, lv, px, py, pv, nx, ny, nv, ax, ay, av, cx, cy, cv, dx, dy, dv, .int .i64 cl, .int .i64 bu] 27)).alloc (.cells #[.int .i64 wl, .int .i64 wh, .int .i64 tl, .int .i64 th, .int .i64 el, .int .i64 eh, .int .i64 nl, .int .i64 nh] 31)) := (by repeat' (first | exact Below.refl _ _ | assumption | refine Below.drew ?_ | refine bdn ?_ _ | refine bal ?_ _ | refine Below.setCell ?_ (by first | (simp; done) | omega | (simp; omega)) _))
    generalize ((w.alloc (.cells #[hx, hy, hv, gx, gy, gv, lx, ly, lv, px, py, pv, nx, ny, nv, ax, ay, av, cx, cy, cv, dx, dy, dv, .int .i64 cl, .int .i64 bu] 27)).alloc (.cells #[.int .i64 wl, .int .i64 wh, .int .i64 tl, .int .i64 th, .int .i64 el, .int .i64 eh, .int .i64 nl, .int .i64 nh] 31)) = W at *
    have zW := bHA.lt
    have HM := Lib.hid bHM
    have HA := Lib.hid bHA
    have HB := Lib.hid bHB
    clear bHM bHA bHB
    go_wp2_with (first | (go_at_call 24; (with_reducible refine (HC.out _ (HR.out.below HB.out)).mono ?_); rintro e w1 ⟨rfl, hb1⟩; have nHM := Lib.hid (HM.out.below hb1); have nHA := Lib.hid (HA.out.below hb1); have nHB := Lib.hid (bthen HB.out hb1); have zz1 := hb1.size; clear HM HA HB hb1; have HM := nHM; have HA := nHA; have HB := nHB; clear nHM nHA nHB; (try clear zHM); have zHM := HM.out.lt; (try clear cHM12); have cHM12 := HM.out.cell 12; (try clear cHM13); have cHM13 := HM.out.cell 13; (try clear cHM14); have cHM14 := HM.out.cell 14; (try clear zHA); have zHA := HA.out.lt; (try clear cHA0); have cHA0 := HA.out.cell 0; (try clear cHA1); have cHA1 := HA.out.cell 1; (try clear cHA2); have cHA2 := HA.out.cell 2; (try clear cHA3); have cHA3 := HA.out.cell 3) | (go_at_call 29; (with_reducible refine (H1.out _ (HR.out.n.below HB.out)).mono ?_); rintro e w1 ⟨rfl, hb1⟩; have nHM := Lib.hid (HM.out.below hb1); have nHA := Lib.hid (HA.out.below hb1); have nHB := Lib.hid (bthen HB.out hb1); have zz1 := hb1.size; clear HM HA HB hb1; have HM := nHM; have HA := nHA; have HB := nHB; clear nHM nHA nHB))
    go_ret2
    exact ⟨rfl, HB.out⟩
  · rw [b1] at h1
    have H1 := Lib.hid h1
    rw [if_pos rfl, if_pos rfl]
    have hN := Fits.mk' (rotB_n hr0) hL0.vy hP0.vx b1
    have hn1 := bnd_lim (rotB_n hr0) hN
    clear hz hr0 hP0 hL0 hp h1 b1
    obtain ⟨hr, hP, hL⟩ := ratE_ok hB
    have sb := speed_bd hr
    obtain ⟨lA, lc0, rfl, hc1, hc2, -, hA⟩ := hR.l.x
    obtain ⟨lb0, lo0, rfl, hbl, hcells⟩ := hA sb.2.2.2
    have hlen := sb.2.2.2
    have HX0 := Lib.hid (fun w1 (h : Below w.heap.size w w1) => show w1.cell? ⟨lb0, lo0, none⟩ = some (.int .i64 (nth S.l.X 0)) from (h.cell (p := ⟨lb0, lo0, none⟩) hbl).trans (by simpa using hcells 0 hlen))
    have HX1 := Lib.hid (fun w1 (h : Below w.heap.size w w1) => show w1.cell? ⟨lb0, lo0 + (S.l.X.length - 1), none⟩ = some (.int .i64 (nth S.l.X (S.l.X.length - 1))) from (h.cell (p := ⟨lb0, lo0 + (S.l.X.length - 1), none⟩) hbl).trans (hcells (S.l.X.length - 1) (by omega)))
    have hi0 : (0 : Int) < (S.l.X.length : Int) := by omega
    have hi1 : (S.l.X.length : Int) ≤ 9223372036854775807 := by omega
    have ht : ((S.l.X.length : Int) - 1).toNat = S.l.X.length - 1 := by omega
    have HR := Lib.hid hR
    have hrt := fun w1 s (h0 : nth S.l.X 0 ≤ s) (h1 : s ≤ nth S.l.X (S.l.X.length - 1)) hR => rf2_Rate_c hx hy hv gx gy gv (.slice (some ⟨lb0, lo0, none⟩) S.l.X.length lc0) ly lv px py pv nx ny nv ax ay av cx cy cv dx dy dv cl bu wl wh tl th el eh nl nh S s w1 hR
    have hz : ∀ s, nth S.l.X 0 ≤ s → s ≤ nth S.l.X (S.l.X.length - 1) → ratE S cl bu wl wh tl th el eh nl nh s = 0 := fun s h0 h1 => by
      obtain ⟨c1, c2, c3, c4⟩ := chkE_zero hB
      have fl := fits_speed hr hL h0 h1
      simp only [Bool.or_eq_false_iff] at c4
      unfold ratE; rw [c1, c2, c4.1, fl.lk']; rfl
    have HRT := Lib.hid (fun w1 s (h0 : nth S.l.X 0 ≤ s) (h1 : s ≤ nth S.l.X (S.l.X.length - 1)) hR => show Calls Tryz.prog 25 #[.agg #[hx, hy, hv, gx, gy, gv, (.slice (some ⟨lb0, lo0, none⟩) S.l.X.length lc0), ly, lv, px, py, pv, nx, ny, nv, ax, ay, av, cx, cy, cv, dx, dy, dv, .int .i64 cl, .int .i64 bu], .agg #[.int .i64 wl, .int .i64 wh, .int .i64 tl, .int .i64 th, .int .i64 el, .int .i64 eh, .int .i64 nl, .int .i64 nh], .int .i64 s] w1 fun e w' => e = .returned (.tuple #[.int .i64 (ratV S wl wh tl th el eh cl s), .int .i64 0]) ∧ Below w1.heap.size w1 w' by have := hrt w1 s h0 h1 hR; unfold ratR at this; rw [hz s h0 h1, okN_ok] at this; exact this)
    have HBD := Lib.hid (fun w1 hT => rf2_bound_c nx ny nv S.n wl wh tl th w1 hT hN)
    have KN : faN S wl wh tl th = (min (nth S.l.X (S.l.X.length - 1)) (bLo S.n wl wh tl th) - nth S.l.X 0 + 1).toNat := rfl
    clear hB hP hL hr hR hA hcells hrt hz hc hN
    generalize ratV S wl wh tl th el eh cl = f at *
    generalize faN S wl wh tl th = K at *
    generalize nth S.l.X (S.l.X.length - 1) = x1 at *
    generalize nth S.l.X 0 = x0 at *
    generalize bLo S.n wl wh tl th = b0 at *
    generalize bHi S.n wl wh tl th = b1 at *
    obtain ⟨s0, s1, s2, -⟩ := sb
    have q1 := Tryz.fldLo
    obtain ⟨T0, hT0⟩ : ∃ T0, min x1 b0 = T0 := ⟨_, rfl⟩
    rw [hT0] at KN
    have HF0 := Lib.hid (show FAR f x0 K T0 from ⟨K, by omega, rfl⟩)
    have HT0 := Lib.hid hT0
    clear KN hT0
    rcases (show x1 ≤ b0 ∨ b0 < x1 by omega) with hle | hle
    · obtain rfl : T0 = x1 := by have := HT0.out; omega
      go_enter Tryz.func11, Tryz.ntmps11
      go_wp2_with (first | (refine wpl_row rfl 27 _ rfl _ rfl #[hx, hy, hv, gx, gy, gv, (.slice (some ⟨lb0, lo0, none⟩) S.l.X.length lc0), ly, lv, px, py, pv, nx, ny, nv, ax, ay, av, cx, cy, cv, dx, dy, dv, .int .i64 cl, .int .i64 bu] 26 ?_ Tryz.rowRot rfl ?_; (focus exact (by repeat (first | (refine Blk.newAt _ _ _ ?_; first | rfl | (simp; done)) | refine Blk.alloc ?_ _))); simp only [Act.put]) | (refine wpl_row rfl 31 _ rfl _ rfl #[.int .i64 wl, .int .i64 wh, .int .i64 tl, .int .i64 th, .int .i64 el, .int .i64 eh, .int .i64 nl, .int .i64 nh] 8 ?_ Tryz.rowAir rfl ?_; (focus exact (by repeat (first | (refine Blk.newAt _ _ _ ?_; first | rfl | (simp; done)) | refine Blk.alloc ?_ _))); simp only [Act.put]))
      have bHM : Blk ((w.alloc (.cells #[hx, hy, hv, gx, gy, gv, (.slice (some ⟨lb0, lo0, none⟩) S.l.X.length lc0), ly, lv, px, py, pv, nx, ny, nv, ax, ay, av, cx, cy, cv, dx, dy, dv, .int .i64 cl, .int .i64 bu] 27)).alloc (.cells #[.int .i64 wl, .int .i64 wh, .int .i64 tl, .int .i64 th, .int .i64 el, .int .i64 eh, .int .i64 nl, .int .i64 nh] 31)) (w.heap.size) 27 #[hx, hy, hv, gx, gy, gv, (.slice (some ⟨lb0, lo0, none⟩) S.l.X.length lc0), ly, lv, px, py, pv, nx, ny, nv, ax, ay, av, cx, cy, cv, dx, dy, dv, .int .i64 cl, .int .i64 bu] := (by repeat (first | (refine Blk.newAt _ _ _ ?_; first | rfl | (simp; done)) | refine Blk.alloc ?_ _))
      have bHA : Blk ((w.alloc (.cells #[hx, hy, hv, gx, gy, gv, (.slice (some ⟨lb0, lo0, none⟩) S.l.X.length lc0), ly, lv, px, py, pv, nx, ny, nv, ax, ay, av, cx, cy, cv, dx, dy, dv, .int .i64 cl, .int .i64 bu] 27)).alloc (.cells #[.int .i64 wl, .int .i64 wh, .int .i64 tl, .int .i64 th, .int .i64 el, .int .i64 eh, .int .i64 nl, .int .i64 nh] 31)) (w.heap.size + 1) 31 #[.int .i64 wl, .int .i64 wh, .int .i64 tl, .int .i64 th, .int .i64 el, .int .i64 eh, .int .i64 nl, .int .i64 nh] := (by repeat (first | (refine Blk.newAt _ _ _ ?_; first | rfl | (simp; done)) | refine Blk.alloc ?_ _))
      have bHB : Below w.heap.size w ((w.alloc (.cells #[hx, hy, hv, gx, gy, gv, (.slice (some ⟨lb0, lo0, none⟩) S.l.X.length lc0), ly, lv, px, py, pv, nx, ny, nv, ax, ay, av, cx, cy, cv, dx, dy, dv, .int .i64 cl, .int .i64 bu] 27)).alloc (.cells #[.int .i64 wl, .int .i64 wh, .int .i64 tl, .int .i64 th, .int .i64 el, .int .i64 eh, .int .i64 nl, .int .i64 nh] 31)) := (by repeat' (first | exact Below.refl _ _ | assumption | refine Below.drew ?_ | refine bdn ?_ _ | refine bal ?_ _ | refine Below.setCell ?_ (by first | (simp; done) | omega | (simp; omega)) _))
      generalize ((w.alloc (.cells #[hx, hy, hv, gx, gy, gv, (.slice (some ⟨lb0, lo0, none⟩) S.l.X.length lc0), ly, lv, px, py, pv, nx, ny, nv, ax, ay, av, cx, cy, cv, dx, dy, dv, .int .i64 cl, .int .i64 bu] 27)).alloc (.cells #[.int .i64 wl, .int .i64 wh, .int .i64 tl, .int .i64 th, .int .i64 el, .int .i64 eh, .int .i64 nl, .int .i64 nh] 31)) = W at *
      have zW := bHA.lt
      have HM := Lib.hid bHM
      have HA := Lib.hid bHA
      have HB := Lib.hid bHB
      clear bHM bHA bHB
      go_wp2_with (first | (go_at_call 24; (with_reducible refine (HC.out _ (HR.out.below HB.out)).mono ?_); rintro e w1 ⟨rfl, hb1⟩; have nHM := Lib.hid (HM.out.below hb1); have nHA := Lib.hid (HA.out.below hb1); have nHB := Lib.hid (bthen HB.out hb1); have zz1 := hb1.size; clear HM HA HB hb1; have HM := nHM; have HA := nHA; have HB := nHB; clear nHM nHA nHB; (try clear zHM); have zHM := HM.out.lt; (try clear cHM12); have cHM12 := HM.out.cell 12; (try clear cHM13); have cHM13 := HM.out.cell 13; (try clear cHM14); have cHM14 := HM.out.cell 14; (try clear zHA); have zHA := HA.out.lt; (try clear cHA0); have cHA0 := HA.out.cell 0; (try clear cHA1); have cHA1 := HA.out.cell 1; (try clear cHA2); have cHA2 := HA.out.cell 2; (try clear cHA3); have cHA3 := HA.out.cell 3) | (go_at_call 29; (with_reducible refine (H1.out _ (HR.out.n.below HB.out)).mono ?_); rintro e w1 ⟨rfl, hb1⟩; have nHM := Lib.hid (HM.out.below hb1); have nHA := Lib.hid (HA.out.below hb1); have nHB := Lib.hid (bthen HB.out hb1); have zz1 := hb1.size; clear HM HA HB hb1; have HM := nHM; have HA := nHA; have HB := nHB; clear nHM nHA nHB; (try clear zHM); have zHM := HM.out.lt; (try clear cHM6); have cHM6 := HM.out.cell 6))
      have aHM12 := fun (r : After w1) => (HM.out.below r.below).cell 12
      simp only [List.getElem?_toArray, List.getElem?_cons_succ, List.getElem?_cons_zero] at aHM12
      have aHM13 := fun (r : After w1) => (HM.out.below r.below).cell 13
      simp only [List.getElem?_toArray, List.getElem?_cons_succ, List.getElem?_cons_zero] at aHM13
      have aHM14 := fun (r : After w1) => (HM.out.below r.below).cell 14
      simp only [List.getElem?_toArray, List.getElem?_cons_succ, List.getElem?_cons_zero] at aHM14
      have aHA0 := fun (r : After w1) => (HA.out.below r.below).cell 0
      simp only [List.getElem?_toArray, List.getElem?_cons_succ, List.getElem?_cons_zero] at aHA0
      have aHA1 := fun (r : After w1) => (HA.out.below r.below).cell 1
      simp only [List.getElem?_toArray, List.getElem?_cons_succ, List.getElem?_cons_zero] at aHA1
      have aHA2 := fun (r : After w1) => (HA.out.below r.below).cell 2
      simp only [List.getElem?_toArray, List.getElem?_cons_succ, List.getElem?_cons_zero] at aHA2
      have aHA3 := fun (r : After w1) => (HA.out.below r.below).cell 3
      simp only [List.getElem?_toArray, List.getElem?_cons_succ, List.getElem?_cons_zero] at aHA3
      have ax := fun (r : After w1) => HX1.out r.w (bthen HB.out r.below)
      (refine wp_region_aftert 15 (by kernel_rfl) (by kernel_rfl) ?_; simp only [List.take_succ_cons, List.take_zero, List.drop_succ_cons, List.drop_zero]; (repeat (go_big_quiet_step ( first | (go_at_call 30; (with_reducible refine qafter (HBD.out _ ((HR.out.n.below HB.out).below (After.below _)))))))); refine wpQuiet_nil ?_; rintro _ ⟨r, rfl⟩)
      have hbS := r.below
      have nHM := Lib.hid (HM.out.below hbS)
      have nHA := Lib.hid (HA.out.below hbS)
      have nHB := Lib.hid (bthen HB.out hbS)
      clear HM HA HB hbS
      have HM := nHM
      have HA := nHA
      have HB := nHB
      clear nHM nHA nHB
      clear aHM12 aHM13 aHM14 aHA0 aHA1 aHA2 aHA3 ax
      generalize r.w = wv at *
      go_wp2_with fail
      go_loopw [8] (fun s wr => ∃ t : Int, s = .int .i64 t ∧ t ≤ T0 ∧ RowKit.Hid (FAR f x0 K t) ∧ RowKit.Hid (Below w.heap.size w wr) ∧ RowKit.Hid (Blk wr w.heap.size 27 #[hx, hy, hv, gx, gy, gv, (.slice (some ⟨lb0, lo0, none⟩) S.l.X.length lc0), ly, lv, px, py, pv, nx, ny, nv, ax, ay, av, cx, cy, cv, dx, dy, dv, .int .i64 cl, .int .i64 bu]) ∧ RowKit.Hid (Blk wr (w.heap.size + 1) 31 #[.int .i64 wl, .int .i64 wh, .int .i64 tl, .int .i64 th, .int .i64 el, .int .i64 eh, .int .i64 nl, .int .i64 nh])) (fun s _ => (intOf s - x0 + 1).toNat)
      case atStart => exact ⟨T0, rfl, by omega, HF0.out, HB.out, HM.out, HA.out⟩
      case round =>
        clear HB HM HA HF0
        obtain ⟨t, rfl, ht1, HF, HB, HM, HA⟩ := hrel
        have e0 := HX0.out _ HB.out
        have zz := HB.out.size
        by_cases hlt : x0 ≤ t
        · obtain ⟨k, hfar, hK⟩ := HF.out
          obtain ⟨k', hk', htk, hst⟩ := fa_step hfar hlt
          have htx1 : t ≤ T0 := by omega
          by_cases hfv : 0 ≤ f t
          · rw [if_pos hfv] at hst
            have HFIN := Lib.hid (show fstS f x0 K = (t, 0) by rw [hK, hst])
            clear hfar hK hk' htk hst HF
            go_wp2_with (first | (refine wpl_row rfl 27 _ rfl _ rfl #[hx, hy, hv, gx, gy, gv, (.slice (some ⟨lb0, lo0, none⟩) S.l.X.length lc0), ly, lv, px, py, pv, nx, ny, nv, ax, ay, av, cx, cy, cv, dx, dy, dv, .int .i64 cl, .int .i64 bu] 26 HM.out Tryz.rowRot rfl ?_; simp only [Act.put]) | (refine wpl_row rfl 31 _ rfl _ rfl #[.int .i64 wl, .int .i64 wh, .int .i64 tl, .int .i64 th, .int .i64 el, .int .i64 eh, .int .i64 nl, .int .i64 nh] 8 HA.out Tryz.rowAir rfl ?_; simp only [Act.put]) | (go_at_call 25; (with_reducible refine (HRT.out _ _ hlt htx1 (HR.out.below HB.out)).mono ?_); rintro e w1 ⟨rfl, hb1⟩; have nHM := Lib.hid (HM.out.below hb1); have nHA := Lib.hid (HA.out.below hb1); have nHB := Lib.hid (bthen HB.out hb1); have zz1 := hb1.size; clear HM HA HB hb1; have HM := nHM; have HA := nHA; have HB := nHB; clear nHM nHA nHB))
            go_ret2
            exact ⟨by rw [HFIN.out]; rfl, HB.out⟩
          · rw [if_neg hfv] at hst
            have hv2 : f t < 0 := by omega
            have HFN := Lib.hid (show FAR f x0 K (t - 1) from ⟨k', by omega, by rw [hK, hst]⟩)
            clear hfar hK hk' htk hst HF hfv
            go_wp2_with (first | (refine wpl_row rfl 27 _ rfl _ rfl #[hx, hy, hv, gx, gy, gv, (.slice (some ⟨lb0, lo0, none⟩) S.l.X.length lc0), ly, lv, px, py, pv, nx, ny, nv, ax, ay, av, cx, cy, cv, dx, dy, dv, .int .i64 cl, .int .i64 bu] 26 HM.out Tryz.rowRot rfl ?_; simp only [Act.put]) | (refine wpl_row rfl 31 _ rfl _ rfl #[.int .i64 wl, .int .i64 wh, .int .i64 tl, .int .i64 th, .int .i64 el, .int .i64 eh, .int .i64 nl, .int .i64 nh] 8 HA.out Tryz.rowAir rfl ?_; simp only [Act.put]) | (go_at_call 25; (with_reducible refine (HRT.out _ _ hlt htx1 (HR.out.below HB.out)).mono ?_); rintro e w1 ⟨rfl, hb1⟩; have nHM := Lib.hid (HM.out.below hb1); have nHA := Lib.hid (HA.out.below hb1); have nHB := Lib.hid (bthen HB.out hb1); have zz1 := hb1.size; clear HM HA HB hb1; have HM := nHM; have HA := nHA; have HB := nHB; clear nHM nHA nHB))
            exact ⟨⟨t - 1, rfl, by omega, HFN.out, HB.out, HM.out, HA.out⟩, by simp [intOf]; omega⟩
        · obtain ⟨k, hfar, hK⟩ := HF.out
          have HFIN := Lib.hid (show fstS f x0 K = (0, 3) by rw [hK]; exact fa_end hfar (by omega))
          clear hfar hK HF
          go_wp2_with fail
          go_ret2
          exact ⟨by rw [HFIN.out]; rfl, HB.out⟩
    · obtain rfl : T0 = b0 := by have := HT0.out; omega
      go_enter Tryz.func11, Tryz.ntmps11
      go_wp2_with (first | (refine wpl_row rfl 27 _ rfl _ rfl #[hx, hy, hv, gx, gy, gv, (.slice (some ⟨lb0, lo0, none⟩) S.l.X.length lc0), ly, lv, px, py, pv, nx, ny, nv, ax, ay, av, cx, cy, cv, dx, dy, dv, .int .i64 cl, .int .i64 bu] 26 ?_ Tryz.rowRot rfl ?_; (focus exact (by repeat (first | (refine Blk.newAt _ _ _ ?_; first | rfl | (simp; done)) | refine Blk.alloc ?_ _))); simp only [Act.put]) | (refine wpl_row rfl 31 _ rfl _ rfl #[.int .i64 wl, .int .i64 wh, .int .i64 tl, .int .i64 th, .int .i64 el, .int .i64 eh, .int .i64 nl, .int .i64 nh] 8 ?_ Tryz.rowAir rfl ?_; (focus exact (by repeat (first | (refine Blk.newAt _ _ _ ?_; first | rfl | (simp; done)) | refine Blk.alloc ?_ _))); simp only [Act.put]))
      have bHM : Blk ((w.alloc (.cells #[hx, hy, hv, gx, gy, gv, (.slice (some ⟨lb0, lo0, none⟩) S.l.X.length lc0), ly, lv, px, py, pv, nx, ny, nv, ax, ay, av, cx, cy, cv, dx, dy, dv, .int .i64 cl, .int .i64 bu] 27)).alloc (.cells #[.int .i64 wl, .int .i64 wh, .int .i64 tl, .int .i64 th, .int .i64 el, .int .i64 eh, .int .i64 nl, .int .i64 nh] 31)) (w.heap.size) 27 #[hx, hy, hv, gx, gy, gv, (.slice (some ⟨lb0, lo0, none⟩) S.l.X.length lc0), ly, lv, px, py, pv, nx, ny, nv, ax, ay, av, cx, cy, cv, dx, dy, dv, .int .i64 cl, .int .i64 bu] := (by repeat (first | (refine Blk.newAt _ _ _ ?_; first | rfl | (simp; done)) | refine Blk.alloc ?_ _))
      have bHA : Blk ((w.alloc (.cells #[hx, hy, hv, gx, gy, gv, (.slice (some ⟨lb0, lo0, none⟩) S.l.X.length lc0), ly, lv, px, py, pv, nx, ny, nv, ax, ay, av, cx, cy, cv, dx, dy, dv, .int .i64 cl, .int .i64 bu] 27)).alloc (.cells #[.int .i64 wl, .int .i64 wh, .int .i64 tl, .int .i64 th, .int .i64 el, .int .i64 eh, .int .i64 nl, .int .i64 nh] 31)) (w.heap.size + 1) 31 #[.int .i64 wl, .int .i64 wh, .int .i64 tl, .int .i64 th, .int .i64 el, .int .i64 eh, .int .i64 nl, .int .i64 nh] := (by repeat (first | (refine Blk.newAt _ _ _ ?_; first | rfl | (simp; done)) | refine Blk.alloc ?_ _))
      have bHB : Below w.heap.size w ((w.alloc (.cells #[hx, hy, hv, gx, gy, gv, (.slice (some ⟨lb0, lo0, none⟩) S.l.X.length lc0), ly, lv, px, py, pv, nx, ny, nv, ax, ay, av, cx, cy, cv, dx, dy, dv, .int .i64 cl, .int .i64 bu] 27)).alloc (.cells #[.int .i64 wl, .int .i64 wh, .int .i64 tl, .int .i64 th, .int .i64 el, .int .i64 eh, .int .i64 nl, .int .i64 nh] 31)) := (by repeat' (first | exact Below.refl _ _ | assumption | refine Below.drew ?_ | refine bdn ?_ _ | refine bal ?_ _ | refine Below.setCell ?_ (by first | (simp; done) | omega | (simp; omega)) _))
      generalize ((w.alloc (.cells #[hx, hy, hv, gx, gy, gv, (.slice (some ⟨lb0, lo0, none⟩) S.l.X.length lc0), ly, lv, px, py, pv, nx, ny, nv, ax, ay, av, cx, cy, cv, dx, dy, dv, .int .i64 cl, .int .i64 bu] 27)).alloc (.cells #[.int .i64 wl, .int .i64 wh, .int .i64 tl, .int .i64 th, .int .i64 el, .int .i64 eh, .int .i64 nl, .int .i64 nh] 31)) = W at *
      have zW := bHA.lt
      have HM := Lib.hid bHM
      have HA := Lib.hid bHA
      have HB := Lib.hid bHB
      clear bHM bHA bHB
      go_wp2_with (first | (go_at_call 24; (with_reducible refine (HC.out _ (HR.out.below HB.out)).mono ?_); rintro e w1 ⟨rfl, hb1⟩; have nHM := Lib.hid (HM.out.below hb1); have nHA := Lib.hid (HA.out.below hb1); have nHB := Lib.hid (bthen HB.out hb1); have zz1 := hb1.size; clear HM HA HB hb1; have HM := nHM; have HA := nHA; have HB := nHB; clear nHM nHA nHB; (try clear zHM); have zHM := HM.out.lt; (try clear cHM12); have cHM12 := HM.out.cell 12; (try clear cHM13); have cHM13 := HM.out.cell 13; (try clear cHM14); have cHM14 := HM.out.cell 14; (try clear zHA); have zHA := HA.out.lt; (try clear cHA0); have cHA0 := HA.out.cell 0; (try clear cHA1); have cHA1 := HA.out.cell 1; (try clear cHA2); have cHA2 := HA.out.cell 2; (try clear cHA3); have cHA3 := HA.out.cell 3) | (go_at_call 29; (with_reducible refine (H1.out _ (HR.out.n.below HB.out)).mono ?_); rintro e w1 ⟨rfl, hb1⟩; have nHM := Lib.hid (HM.out.below hb1); have nHA := Lib.hid (HA.out.below hb1); have nHB := Lib.hid (bthen HB.out hb1); have zz1 := hb1.size; clear HM HA HB hb1; have HM := nHM; have HA := nHA; have HB := nHB; clear nHM nHA nHB; (try clear zHM); have zHM := HM.out.lt; (try clear cHM6); have cHM6 := HM.out.cell 6))
      have aHM12 := fun (r : After w1) => (HM.out.below r.below).cell 12
      simp only [List.getElem?_toArray, List.getElem?_cons_succ, List.getElem?_cons_zero] at aHM12
      have aHM13 := fun (r : After w1) => (HM.out.below r.below).cell 13
      simp only [List.getElem?_toArray, List.getElem?_cons_succ, List.getElem?_cons_zero] at aHM13
      have aHM14 := fun (r : After w1) => (HM.out.below r.below).cell 14
      simp only [List.getElem?_toArray, List.getElem?_cons_succ, List.getElem?_cons_zero] at aHM14
      have aHA0 := fun (r : After w1) => (HA.out.below r.below).cell 0
      simp only [List.getElem?_toArray, List.getElem?_cons_succ, List.getElem?_cons_zero] at aHA0
      have aHA1 := fun (r : After w1) => (HA.out.below r.below).cell 1
      simp only [List.getElem?_toArray, List.getElem?_cons_succ, List.getElem?_cons_zero] at aHA1
      have aHA2 := fun (r : After w1) => (HA.out.below r.below).cell 2
      simp only [List.getElem?_toArray, List.getElem?_cons_succ, List.getElem?_cons_zero] at aHA2
      have aHA3 := fun (r : After w1) => (HA.out.below r.below).cell 3
      simp only [List.getElem?_toArray, List.getElem?_cons_succ, List.getElem?_cons_zero] at aHA3
      have ax := fun (r : After w1) => HX1.out r.w (bthen HB.out r.below)
      (refine wp_region_aftert 15 (by kernel_rfl) (by kernel_rfl) ?_; simp only [List.take_succ_cons, List.take_zero, List.drop_succ_cons, List.drop_zero]; (repeat (go_big_quiet_step ( first | (go_at_call 30; (with_reducible refine qafter (HBD.out _ ((HR.out.n.below HB.out).below (After.below _)))))))); refine wpQuiet_nil ?_; rintro _ ⟨r, rfl⟩)
      have hbS := r.below
      have nHM := Lib.hid (HM.out.below hbS)
      have nHA := Lib.hid (HA.out.below hbS)
      have nHB := Lib.hid (bthen HB.out hbS)
      clear HM HA HB hbS
      have HM := nHM
      have HA := nHA
      have HB := nHB
      clear nHM nHA nHB
      clear aHM12 aHM13 aHM14 aHA0 aHA1 aHA2 aHA3 ax
      generalize r.w = wv at *
      go_wp2_with fail
      go_loopw [8] (fun s wr => ∃ t : Int, s = .int .i64 t ∧ t ≤ T0 ∧ RowKit.Hid (FAR f x0 K t) ∧ RowKit.Hid (Below w.heap.size w wr) ∧ RowKit.Hid (Blk wr w.heap.size 27 #[hx, hy, hv, gx, gy, gv, (.slice (some ⟨lb0, lo0, none⟩) S.l.X.length lc0), ly, lv, px, py, pv, nx, ny, nv, ax, ay, av, cx, cy, cv, dx, dy, dv, .int .i64 cl, .int .i64 bu]) ∧ RowKit.Hid (Blk wr (w.heap.size + 1) 31 #[.int .i64 wl, .int .i64 wh, .int .i64 tl, .int .i64 th, .int .i64 el, .int .i64 eh, .int .i64 nl, .int .i64 nh])) (fun s _ => (intOf s - x0 + 1).toNat)
      case atStart => exact ⟨T0, rfl, by omega, HF0.out, HB.out, HM.out, HA.out⟩
      case round =>
        clear HB HM HA HF0
        obtain ⟨t, rfl, ht1, HF, HB, HM, HA⟩ := hrel
        have e0 := HX0.out _ HB.out
        have zz := HB.out.size
        by_cases hlt : x0 ≤ t
        · obtain ⟨k, hfar, hK⟩ := HF.out
          obtain ⟨k', hk', htk, hst⟩ := fa_step hfar hlt
          have htx1 : t ≤ x1 := by omega
          by_cases hfv : 0 ≤ f t
          · rw [if_pos hfv] at hst
            have HFIN := Lib.hid (show fstS f x0 K = (t, 0) by rw [hK, hst])
            clear hfar hK hk' htk hst HF
            go_wp2_with (first | (refine wpl_row rfl 27 _ rfl _ rfl #[hx, hy, hv, gx, gy, gv, (.slice (some ⟨lb0, lo0, none⟩) S.l.X.length lc0), ly, lv, px, py, pv, nx, ny, nv, ax, ay, av, cx, cy, cv, dx, dy, dv, .int .i64 cl, .int .i64 bu] 26 HM.out Tryz.rowRot rfl ?_; simp only [Act.put]) | (refine wpl_row rfl 31 _ rfl _ rfl #[.int .i64 wl, .int .i64 wh, .int .i64 tl, .int .i64 th, .int .i64 el, .int .i64 eh, .int .i64 nl, .int .i64 nh] 8 HA.out Tryz.rowAir rfl ?_; simp only [Act.put]) | (go_at_call 25; (with_reducible refine (HRT.out _ _ hlt htx1 (HR.out.below HB.out)).mono ?_); rintro e w1 ⟨rfl, hb1⟩; have nHM := Lib.hid (HM.out.below hb1); have nHA := Lib.hid (HA.out.below hb1); have nHB := Lib.hid (bthen HB.out hb1); have zz1 := hb1.size; clear HM HA HB hb1; have HM := nHM; have HA := nHA; have HB := nHB; clear nHM nHA nHB))
            go_ret2
            exact ⟨by rw [HFIN.out]; rfl, HB.out⟩
          · rw [if_neg hfv] at hst
            have hv2 : f t < 0 := by omega
            have HFN := Lib.hid (show FAR f x0 K (t - 1) from ⟨k', by omega, by rw [hK, hst]⟩)
            clear hfar hK hk' htk hst HF hfv
            go_wp2_with (first | (refine wpl_row rfl 27 _ rfl _ rfl #[hx, hy, hv, gx, gy, gv, (.slice (some ⟨lb0, lo0, none⟩) S.l.X.length lc0), ly, lv, px, py, pv, nx, ny, nv, ax, ay, av, cx, cy, cv, dx, dy, dv, .int .i64 cl, .int .i64 bu] 26 HM.out Tryz.rowRot rfl ?_; simp only [Act.put]) | (refine wpl_row rfl 31 _ rfl _ rfl #[.int .i64 wl, .int .i64 wh, .int .i64 tl, .int .i64 th, .int .i64 el, .int .i64 eh, .int .i64 nl, .int .i64 nh] 8 HA.out Tryz.rowAir rfl ?_; simp only [Act.put]) | (go_at_call 25; (with_reducible refine (HRT.out _ _ hlt htx1 (HR.out.below HB.out)).mono ?_); rintro e w1 ⟨rfl, hb1⟩; have nHM := Lib.hid (HM.out.below hb1); have nHA := Lib.hid (HA.out.below hb1); have nHB := Lib.hid (bthen HB.out hb1); have zz1 := hb1.size; clear HM HA HB hb1; have HM := nHM; have HA := nHA; have HB := nHB; clear nHM nHA nHB))
            exact ⟨⟨t - 1, rfl, by omega, HFN.out, HB.out, HM.out, HA.out⟩, by simp [intOf]; omega⟩
        · obtain ⟨k, hfar, hK⟩ := HF.out
          have HFIN := Lib.hid (show fstS f x0 K = (0, 3) by rw [hK]; exact fa_end hfar (by omega))
          clear hfar hK HF
          go_wp2_with fail
          go_ret2
          exact ⟨by rw [HFIN.out]; rfl, HB.out⟩
end Go.Proofs.YtechkkgmdjgddaaGreat
