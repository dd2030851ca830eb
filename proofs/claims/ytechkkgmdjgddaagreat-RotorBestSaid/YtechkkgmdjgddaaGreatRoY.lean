/- Contracts: Fast of package rotor. -/
import Derived.Test.YtechkkgmdjgddaaGreatRoX
set_option linter.all false
namespace Go.Proofs.YtechkkgmdjgddaaGreat
open Go Go.RowKit Go.Proofs
set_option maxRecDepth 100000
set_option maxHeartbeats 4000000

theorem fa_step {f : Int → Int} {x0 t : Int} {k : Nat} (h : t = x0 + (k : Int) - 1 ∨ (k = 0 ∧ t < x0)) (ht : x0 ≤ t) : ∃ k', k = k' + 1 ∧ t = x0 + (k' : Int) ∧ fstS f x0 k = if 0 ≤ f t then (t, 0) else fstS f x0 k' := by
  rcases h with h | h
  · refine ⟨k - 1, by omega, by omega, ?_⟩
    rw [show k = (k - 1) + 1 by omega]
    simp only [fstS, show x0 + ((k - 1 : Nat) : Int) = t by omega, Nat.add_sub_cancel]
  · omega
theorem fa_end {f : Int → Int} {x0 t : Int} {k : Nat} (h : t = x0 + (k : Int) - 1 ∨ (k = 0 ∧ t < x0)) (ht : t < x0) : fstS f x0 k = (0, 3) := by
  obtain rfl : k = 0 := by omega
  rfl
def FAR (f : Int → Int) (x0 : Int) (K : Nat) (t : Int) : Prop := ∃ k : Nat, (t = x0 + (k : Int) - 1 ∨ (k = 0 ∧ t < x0)) ∧ fstS f x0 K = fstS f x0 k
theorem Fast_c (hx hy hv gx gy gv lx ly lv px py pv nx ny nv ax ay av cx cy cv dx dy dv : Value) (cl bu : Int) (wl wh tl th el eh nl nh : Int) (S : Tabs) (w : World) (hR : RotAt w hx hy hv gx gy gv lx ly lv px py pv nx ny nv ax ay av cx cy cv dx dy dv cl bu S) :
   Calls Tryz.prog 10 #[.agg #[hx, hy, hv, gx, gy, gv, lx, ly, lv, px, py, pv, nx, ny, nv, ax, ay, av, cx, cy, cv, dx, dy, dv, .int .i64 cl, .int .i64 bu], .agg #[.int .i64 wl, .int .i64 wh, .int .i64 tl, .int .i64 th, .int .i64 el, .int .i64 eh, .int .i64 nl, .int .i64 nh]] w fun e w' => e = .returned (.tuple #[.int .i64 (fasP S cl bu wl wh tl th el eh nl nh).1, .int .i64 (fasP S cl bu wl wh tl th el eh nl nh).2]) ∧ Below w.heap.size w w' := by
  have HR := Lib.hid hR
  have HQG := Lib.hid (fun (hr : rotB S cl bu = true) W (hM : Blk W (w.heap.size + 1 + 1) 51 #[hx, hy, hv, gx, gy, gv, lx, ly, lv, px, py, pv, nx, ny, nv, ax, ay, av, cx, cy, cv, dx, dy, dv, .int .i64 cl, .int .i64 bu, .int .i64 wl, .int .i64 wh, .int .i64 tl, .int .i64 th, .int .i64 el, .int .i64 eh, .int .i64 nl, .int .i64 nh]) => fast1_c hx hy hv gx gy gv lx ly lv px py pv nx ny nv ax ay av cx cy cv dx dy dv cl bu wl wh tl th el eh nl nh (w.heap.size + 1 + 1) W hM hR.n.s1 hR.n.s2 hR.n.s3)
  have hc := fun w1 hR hF => checkSpeeds_c hx hy hv gx gy gv lx ly lv px py pv nx ny nv ax ay av cx cy cv dx dy dv cl bu wl wh tl th el eh nl nh S 26 #[.pointer (some ⟨w.heap.size + 1 + 1, 0, none⟩)] [nx, ny, nv, .int .i64 wl, .int .i64 wh, .int .i64 tl, .int .i64 th] 3 (look3 ⟨S.n, wl, wh, tl, th⟩ ⟨S.p, tl, th, el, eh⟩ ⟨S.l, nth S.l.X 0, nth S.l.X 0, wl, wh⟩) w1 hR (enters_of Tryz.func26 (by kernel_rfl) rfl) hF
    (fun W v hR hr ho => looks_own3 (c := ⟨S.n, wl, wh, tl, th⟩) (a := ⟨S.p, tl, th, el, eh⟩) (b := ⟨S.l, nth S.l.X 0, nth S.l.X 0, wl, wh⟩) ho hR.n (lkE_pos (rotB_n hr)).1 (lkE_pos (rotB_n hr)).2 hR.p (lkE_pos (rotB_p hr)).1 (lkE_pos (rotB_p hr)).2 hR.l (lkE_pos (rotB_l hr)).1 (lkE_pos (rotB_l hr)).2)
  rw [show chkE (rotB S cl bu) (airB wl wh tl th el eh nl nh) false (offL 3 (look3 ⟨S.n, wl, wh, tl, th⟩ ⟨S.p, tl, th, el, eh⟩ ⟨S.l, nth S.l.X 0, nth S.l.X 0, wl, wh⟩)) = fasE S cl bu wl wh tl th el eh nl nh by rw [offL3]; rfl] at hc
  unfold fasP
  by_cases hE : fasE S cl bu wl wh tl th el eh nl nh = 0
  case neg =>
    have hne : (fasE S cl bu wl wh tl th el eh nl nh != 0) = true := by simpa using hE
    rw [if_neg hE]
    have HC := Lib.hid hc
    generalize fasE S cl bu wl wh tl th el eh nl nh = E at *
    clear hE hc hR
    dsimp only
    go_enter Tryz.func10, Tryz.ntmps10
    go_wp2_with (first | (refine wpl_row rfl 27 _ rfl _ rfl #[hx, hy, hv, gx, gy, gv, lx, ly, lv, px, py, pv, nx, ny, nv, ax, ay, av, cx, cy, cv, dx, dy, dv, .int .i64 cl, .int .i64 bu] 26 ?_ Tryz.rowRot rfl ?_; (focus exact (by repeat (first | (refine Blk.newAt _ _ _ ?_; first | rfl | (simp; done)) | refine Blk.alloc ?_ _))); simp only [Act.put]) | (refine wpl_row rfl 31 _ rfl _ rfl #[.int .i64 wl, .int .i64 wh, .int .i64 tl, .int .i64 th, .int .i64 el, .int .i64 eh, .int .i64 nl, .int .i64 nh] 8 ?_ Tryz.rowAir rfl ?_; (focus exact (by repeat (first | (refine Blk.newAt _ _ _ ?_; first | rfl | (simp; done)) | refine Blk.alloc ?_ _))); simp only [Act.put]) | (refine wpl_store_new rfl 51 _ _ rfl #[hx, hy, hv, gx, gy, gv, lx, ly, lv, px, py, pv, nx, ny, nv, ax, ay, av, cx, cy, cv, dx, dy, dv, .int .i64 cl, .int .i64 bu, .int .i64 wl, .int .i64 wh, .int .i64 tl, .int .i64 th, .int .i64 el, .int .i64 eh, .int .i64 nl, .int .i64 nh] _ _ rfl ?_ rfl Tryz.sizeMach rfl (RotAt.one HR.out wl wh tl th el eh nl nh) ?_; (focus (simp; done)); simp only [Act.put]) | (refine wpl_row rfl 51 _ rfl _ rfl #[hx, hy, hv, gx, gy, gv, lx, ly, lv, px, py, pv, nx, ny, nv, ax, ay, av, cx, cy, cv, dx, dy, dv, .int .i64 cl, .int .i64 bu, .int .i64 wl, .int .i64 wh, .int .i64 tl, .int .i64 th, .int .i64 el, .int .i64 eh, .int .i64 nl, .int .i64 nh] 34 ?_ Tryz.rowMach rfl ?_; (focus exact (by repeat (first | (refine Blk.newAt _ _ _ ?_; first | rfl | (simp; done)) | refine Blk.alloc ?_ _))); simp only [Act.put]))
    have bHM : Blk (((w.alloc (.cells #[hx, hy, hv, gx, gy, gv, lx, ly, lv, px, py, pv, nx, ny, nv, ax, ay, av, cx, cy, cv, dx, dy, dv, .int .i64 cl, .int .i64 bu] 27)).alloc (.cells #[.int .i64 wl, .int .i64 wh, .int .i64 tl, .int .i64 th, .int .i64 el, .int .i64 eh, .int .i64 nl, .int .i64 nh] 31)).alloc (.cells #[hx, hy, hv, gx, gy, gv, lx, ly, lv, px, py, pv, nx, ny, nv, ax, ay, av, cx, cy, cv, dx, dy, dv, .int .i64 cl, .int .i64 bu, .int .i64 wl, .int .i64 wh, .int .i64 tl, .int .i64 th, .int .i64 el, .int .i64 eh, .int .i64 nl, .int .i64 nh] 51)) (w.heap.size) 27 #[hx, hy, hv, gx, gy, gv, lx, ly, lv, px, py, pv, nx, ny, nv, ax, ay, av, cx, cy, cv, dx, dy, dv, .int .i64 cl, .int .i64 bu] := (by repeat (first | (refine Blk.newAt _ _ _ ?_; first | rfl | (simp; done)) | refine Blk.alloc ?_ _))
    have bHA : Blk (((w.alloc (.cells #[hx, hy, hv, gx, gy, gv, lx, ly, lv, px, py, pv, nx, ny, nv, ax, ay, av, cx, cy, cv, dx, dy, dv, .int .i64 cl, .int .i64 bu] 27)).alloc (.cells #[.int .i64 wl, .int .i64 wh, .int .i64 tl, .int .i64 th, .int .i64 el, .int .i64 eh, .int .i64 nl, .int .i64 nh] 31)).alloc (.cells #[hx, hy, hv, gx, gy, gv, lx, ly, lv, px, py, pv, nx, ny, nv, ax, ay, av, cx, cy, cv, dx, dy, dv, .int .i64 cl, .int .i64 bu, .int .i64 wl, .int .i64 wh, .int .i64 tl, .int .i64 th, .int .i64 el, .int .i64 eh, .int .i64 nl, .int .i64 nh] 51)) (w.heap.size + 1) 31 #[.int .i64 wl, .int .i64 wh, .int .i64 tl, .int .i64 th, .int .i64 el, .int .i64 eh, .int .i64 nl, .int .i64 nh] := (by repeat (first | (refine Blk.newAt _ _ _ ?_; first | rfl | (simp; done)) | refine Blk.alloc ?_ _))
    have bHQ : Blk (((w.alloc (.cells #[hx, hy, hv, gx, gy, gv, lx, ly, lv, px, py, pv, nx, ny, nv, ax, ay, av, cx, cy, cv, dx, dy, dv, .int .i64 cl, .int .i64 bu] 27)).alloc (.cells #[.int .i64 wl, .int .i64 wh, .int .i64 tl, .int .i64 th, .int .i64 el, .int .i64 eh, .int .i64 nl, .int .i64 nh] 31)).alloc (.cells #[hx, hy, hv, gx, gy, gv, lx, ly, lv, px, py, pv, nx, ny, nv, ax, ay, av, cx, cy, cv, dx, dy, dv, .int .i64 cl, .int .i64 bu, .int .i64 wl, .int .i64 wh, .int .i64 tl, .int .i64 th, .int .i64 el, .int .i64 eh, .int .i64 nl, .int .i64 nh] 51)) (w.heap.size + 1 + 1) 51 #[hx, hy, hv, gx, gy, gv, lx, ly, lv, px, py, pv, nx, ny, nv, ax, ay, av, cx, cy, cv, dx, dy, dv, .int .i64 cl, .int .i64 bu, .int .i64 wl, .int .i64 wh, .int .i64 tl, .int .i64 th, .int .i64 el, .int .i64 eh, .int .i64 nl, .int .i64 nh] := (by repeat (first | (refine Blk.newAt _ _ _ ?_; first | rfl | (simp; done)) | refine Blk.alloc ?_ _))
    have bHB : Below w.heap.size w (((w.alloc (.cells #[hx, hy, hv, gx, gy, gv, lx, ly, lv, px, py, pv, nx, ny, nv, ax, ay, av, cx, cy, cv, dx, dy, dv, .int .i64 cl, .int .i64 bu] 27)).alloc (.cells #[.int .i64 wl, .int .i64 wh, .int .i64 tl, .int .i64 th, .int .i64 el, .int .i64 eh, .int .i64 nl, .int .i64 nh] 31)).alloc (.cells #[hx, hy, hv, gx, gy, gv, lx, ly, lv, px, py, pv, nx, ny, nv, ax, ay, av, cx, cy, cv, dx, dy, dv, .int .i64 cl, .int .i64 bu, .int .i64 wl, .int .i64 wh, .int .i64 tl, .int .i64 th, .int .i64 el, .int .i64 eh, .int .i64 nl, .int .i64 nh] 51)) := (by repeat' (first | exact Below.refl _ _ | assumption | refine Below.drew ?_ | refine bdn ?_ _ | refine bal ?_ _ | refine Below.setCell ?_ (by first | (simp; done) | omega | (simp; omega)) _))
    generalize (((w.alloc (.cells #[hx, hy, hv, gx, gy, gv, lx, ly, lv, px, py, pv, nx, ny, nv, ax, ay, av, cx, cy, cv, dx, dy, dv, .int .i64 cl, .int .i64 bu] 27)).alloc (.cells #[.int .i64 wl, .int .i64 wh, .int .i64 tl, .int .i64 th, .int .i64 el, .int .i64 eh, .int .i64 nl, .int .i64 nh] 31)).alloc (.cells #[hx, hy, hv, gx, gy, gv, lx, ly, lv, px, py, pv, nx, ny, nv, ax, ay, av, cx, cy, cv, dx, dy, dv, .int .i64 cl, .int .i64 bu, .int .i64 wl, .int .i64 wh, .int .i64 tl, .int .i64 th, .int .i64 el, .int .i64 eh, .int .i64 nl, .int .i64 nh] 51)) = W at *
    have zW := bHQ.lt
    have HM := Lib.hid bHM
    have HA := Lib.hid bHA
    have HQ := Lib.hid bHQ
    have HB := Lib.hid bHB
    clear bHM bHA bHQ bHB
    go_wp2_with (first | (refine wpl_row rfl 51 _ rfl _ rfl _ 34 HQ.out Tryz.rowMach rfl ?_; simp only [Act.put]) | (go_at_call 20; refine (HC.out _ (HR.out.below HB.out) (fun hr W hW => HQG.out hr W (HQ.out.below hW))).mono ?_; rintro e w1 ⟨rfl, hb1⟩; have nHQ := Lib.hid (HQ.out.below hb1); have nHB := Lib.hid (bthen HB.out hb1); have zz1 := hb1.size; clear HQ HB hb1; have HQ := nHQ; have HB := nHB; clear nHQ nHB))
    go_ret2
    exact ⟨rfl, HB.out⟩
  rw [if_pos hE]
  obtain ⟨hr, hN, hP, hL⟩ := fasE_ok hE
  have sb := speed_bd hr
  have hn1 := bnd_lim (rotB_n hr) hN
  have HRT := Lib.hid (fun w1 s (h0 : nth S.l.X 0 ≤ s) (h1 : s ≤ nth S.l.X (S.l.X.length - 1)) hR => rate_d hx hy hv gx gy gv lx ly lv px py pv nx ny nv ax ay av cx cy cv dx dy dv cl bu wl wh tl th el eh nl nh s S w1 hR hr hP (fits_speed hr hL h0 h1))
  have HSP := Lib.hid (fun w1 (h : Ints w1 lx S.l.X) => speeds_c hx hy hv gx gy gv lx ly lv px py pv nx ny nv ax ay av cx cy cv dx dy dv cl bu wl wh tl th el eh nl nh S.l.X w1 h sb.2.2.2)
  have HNV := Lib.hid (fun w => never_c hx hy hv gx gy gv lx ly lv px py pv nx ny nv ax ay av cx cy cv dx dy dv cl bu wl wh tl th el eh nl nh hR.n.s1 hR.n.s2 hR.n.s3 w)
  have HBD := Lib.hid (fun w1 hT => bnd_c nx ny nv S.n wl wh tl th w1 hT hN)
  rw [hE] at hc
  have HC := Lib.hid hc
  have KN : faN S wl wh tl th = (min (nth S.l.X (S.l.X.length - 1)) (bLo S.n wl wh tl th) - nth S.l.X 0 + 1).toNat := rfl
  clear hE hc hP hL hR hN
  generalize ratV S wl wh tl th el eh cl = f at *
  generalize faN S wl wh tl th = K at *
  generalize nth S.l.X (S.l.X.length - 1) = x1 at *
  generalize nth S.l.X 0 = x0 at *
  generalize bLo S.n wl wh tl th = b0 at *
  generalize bHi S.n wl wh tl th = b1 at *
  obtain ⟨s0, s1, s2, -⟩ := sb
  have q1 := Tryz.fldLo
  obtain ⟨T0, hT0⟩ : ∃ T0, min x1 b0 = T0 := ⟨_, rfl⟩
  have hT1 : T0 ≤ x1 := by omega
  rw [hT0] at KN
  have HF0 := Lib.hid (show FAR f x0 K T0 from ⟨K, by omega, rfl⟩)
  have HT0 := Lib.hid hT0
  have HGR := Lib.hid hr
  clear KN hT0 hr
  rcases (show x1 ≤ b0 ∨ b0 < x1 by omega) with hle | hle
  · obtain rfl : T0 = x1 := by have := HT0.out; omega
    go_enter Tryz.func10, Tryz.ntmps10
    go_wp2_with (first | (refine wpl_row rfl 27 _ rfl _ rfl #[hx, hy, hv, gx, gy, gv, lx, ly, lv, px, py, pv, nx, ny, nv, ax, ay, av, cx, cy, cv, dx, dy, dv, .int .i64 cl, .int .i64 bu] 26 ?_ Tryz.rowRot rfl ?_; (focus exact (by repeat (first | (refine Blk.newAt _ _ _ ?_; first | rfl | (simp; done)) | refine Blk.alloc ?_ _))); simp only [Act.put]) | (refine wpl_row rfl 31 _ rfl _ rfl #[.int .i64 wl, .int .i64 wh, .int .i64 tl, .int .i64 th, .int .i64 el, .int .i64 eh, .int .i64 nl, .int .i64 nh] 8 ?_ Tryz.rowAir rfl ?_; (focus exact (by repeat (first | (refine Blk.newAt _ _ _ ?_; first | rfl | (simp; done)) | refine Blk.alloc ?_ _))); simp only [Act.put]) | (refine wpl_store_new rfl 51 _ _ rfl #[hx, hy, hv, gx, gy, gv, lx, ly, lv, px, py, pv, nx, ny, nv, ax, ay, av, cx, cy, cv, dx, dy, dv, .int .i64 cl, .int .i64 bu, .int .i64 wl, .int .i64 wh, .int .i64 tl, .int .i64 th, .int .i64 el, .int .i64 eh, .int .i64 nl, .int .i64 nh] _ _ rfl ?_ rfl Tryz.sizeMach rfl (RotAt.one HR.out wl wh tl th el eh nl nh) ?_; (focus (simp; done)); simp only [Act.put]) | (refine wpl_row rfl 51 _ rfl _ rfl #[hx, hy, hv, gx, gy, gv, lx, ly, lv, px, py, pv, nx, ny, nv, ax, ay, av, cx, cy, cv, dx, dy, dv, .int .i64 cl, .int .i64 bu, .int .i64 wl, .int .i64 wh, .int .i64 tl, .int .i64 th, .int .i64 el, .int .i64 eh, .int .i64 nl, .int .i64 nh] 34 ?_ Tryz.rowMach rfl ?_; (focus exact (by repeat (first | (refine Blk.newAt _ _ _ ?_; first | rfl | (simp; done)) | refine Blk.alloc ?_ _))); simp only [Act.put]))
    have bHM : Blk (((w.alloc (.cells #[hx, hy, hv, gx, gy, gv, lx, ly, lv, px, py, pv, nx, ny, nv, ax, ay, av, cx, cy, cv, dx, dy, dv, .int .i64 cl, .int .i64 bu] 27)).alloc (.cells #[.int .i64 wl, .int .i64 wh, .int .i64 tl, .int .i64 th, .int .i64 el, .int .i64 eh, .int .i64 nl, .int .i64 nh] 31)).alloc (.cells #[hx, hy, hv, gx, gy, gv, lx, ly, lv, px, py, pv, nx, ny, nv, ax, ay, av, cx, cy, cv, dx, dy, dv, .int .i64 cl, .int .i64 bu, .int .i64 wl, .int .i64 wh, .int .i64 tl, .int .i64 th, .int .i64 el, .int .i64 eh, .int .i64 nl, .int .i64 nh] 51)) (w.heap.size) 27 #[hx, hy, hv, gx, gy, gv, lx, ly, lv, px, py, pv, nx, ny, nv, ax, ay, av, cx, cy, cv, dx, dy, dv, .int .i64 cl, .int .i64 bu] := (by repeat (first | (refine Blk.newAt _ _ _ ?_; first | rfl | (simp; done)) | refine Blk.alloc ?_ _))
    have bHA : Blk (((w.alloc (.cells #[hx, hy, hv, gx, gy, gv, lx, ly, lv, px, py, pv, nx, ny, nv, ax, ay, av, cx, cy, cv, dx, dy, dv, .int .i64 cl, .int .i64 bu] 27)).alloc (.cells #[.int .i64 wl, .int .i64 wh, .int .i64 tl, .int .i64 th, .int .i64 el, .int .i64 eh, .int .i64 nl, .int .i64 nh] 31)).alloc (.cells #[hx, hy, hv, gx, gy, gv, lx, ly, lv, px, py, pv, nx, ny, nv, ax, ay, av, cx, cy, cv, dx, dy, dv, .int .i64 cl, .int .i64 bu, .int .i64 wl, .int .i64 wh, .int .i64 tl, .int .i64 th, .int .i64 el, .int .i64 eh, .int .i64 nl, .int .i64 nh] 51)) (w.heap.size + 1) 31 #[.int .i64 wl, .int .i64 wh, .int .i64 tl, .int .i64 th, .int .i64 el, .int .i64 eh, .int .i64 nl, .int .i64 nh] := (by repeat (first | (refine Blk.newAt _ _ _ ?_; first | rfl | (simp; done)) | refine Blk.alloc ?_ _))
    have bHQ : Blk (((w.alloc (.cells #[hx, hy, hv, gx, gy, gv, lx, ly, lv, px, py, pv, nx, ny, nv, ax, ay, av, cx, cy, cv, dx, dy, dv, .int .i64 cl, .int .i64 bu] 27)).alloc (.cells #[.int .i64 wl, .int .i64 wh, .int .i64 tl, .int .i64 th, .int .i64 el, .int .i64 eh, .int .i64 nl, .int .i64 nh] 31)).alloc (.cells #[hx, hy, hv, gx, gy, gv, lx, ly, lv, px, py, pv, nx, ny, nv, ax, ay, av, cx, cy, cv, dx, dy, dv, .int .i64 cl, .int .i64 bu, .int .i64 wl, .int .i64 wh, .int .i64 tl, .int .i64 th, .int .i64 el, .int .i64 eh, .int .i64 nl, .int .i64 nh] 51)) (w.heap.size + 1 + 1) 51 #[hx, hy, hv, gx, gy, gv, lx, ly, lv, px, py, pv, nx, ny, nv, ax, ay, av, cx, cy, cv, dx, dy, dv, .int .i64 cl, .int .i64 bu, .int .i64 wl, .int .i64 wh, .int .i64 tl, .int .i64 th, .int .i64 el, .int .i64 eh, .int .i64 nl, .int .i64 nh] := (by repeat (first | (refine Blk.newAt _ _ _ ?_; first | rfl | (simp; done)) | refine Blk.alloc ?_ _))
    have bHB : Below w.heap.size w (((w.alloc (.cells #[hx, hy, hv, gx, gy, gv, lx, ly, lv, px, py, pv, nx, ny, nv, ax, ay, av, cx, cy, cv, dx, dy, dv, .int .i64 cl, .int .i64 bu] 27)).alloc (.cells #[.int .i64 wl, .int .i64 wh, .int .i64 tl, .int .i64 th, .int .i64 el, .int .i64 eh, .int .i64 nl, .int .i64 nh] 31)).alloc (.cells #[hx, hy, hv, gx, gy, gv, lx, ly, lv, px, py, pv, nx, ny, nv, ax, ay, av, cx, cy, cv, dx, dy, dv, .int .i64 cl, .int .i64 bu, .int .i64 wl, .int .i64 wh, .int .i64 tl, .int .i64 th, .int .i64 el, .int .i64 eh, .int .i64 nl, .int .i64 nh] 51)) := (by repeat' (first | exact Below.refl _ _ | assumption | refine Below.drew ?_ | refine bdn ?_ _ | refine bal ?_ _ | refine Below.setCell ?_ (by first | (simp; done) | omega | (simp; omega)) _))
    generalize (((w.alloc (.cells #[hx, hy, hv, gx, gy, gv, lx, ly, lv, px, py, pv, nx, ny, nv, ax, ay, av, cx, cy, cv, dx, dy, dv, .int .i64 cl, .int .i64 bu] 27)).alloc (.cells #[.int .i64 wl, .int .i64 wh, .int .i64 tl, .int .i64 th, .int .i64 el, .int .i64 eh, .int .i64 nl, .int .i64 nh] 31)).alloc (.cells #[hx, hy, hv, gx, gy, gv, lx, ly, lv, px, py, pv, nx, ny, nv, ax, ay, av, cx, cy, cv, dx, dy, dv, .int .i64 cl, .int .i64 bu, .int .i64 wl, .int .i64 wh, .int .i64 tl, .int .i64 th, .int .i64 el, .int .i64 eh, .int .i64 nl, .int .i64 nh] 51)) = W at *
    have zW := bHQ.lt
    have HM := Lib.hid bHM
    have HA := Lib.hid bHA
    have HQ := Lib.hid bHQ
    have HB := Lib.hid bHB
    clear bHM bHA bHQ bHB
    go_wp2_with (first | (refine wpl_row rfl 51 _ rfl _ rfl _ 34 HQ.out Tryz.rowMach rfl ?_; simp only [Act.put]) | (go_at_call 20; refine (HC.out _ (HR.out.below HB.out) (fun hr W hW => HQG.out hr W (HQ.out.below hW))).mono ?_; rintro e w1 ⟨rfl, hb1⟩; have nHQ := Lib.hid (HQ.out.below hb1); have nHB := Lib.hid (bthen HB.out hb1); have zz1 := hb1.size; clear HQ HB hb1; have HQ := nHQ; have HB := nHB; clear nHQ nHB) | (go_at_call 22; (with_reducible refine (HSP.out _ (HR.out.l.x.below HB.out)).mono ?_); rintro e w1 ⟨rfl, hb1⟩; have nHQ := Lib.hid (HQ.out.below hb1); have nHB := Lib.hid (bthen HB.out hb1); have zz1 := hb1.size; clear HQ HB hb1; have HQ := nHQ; have HB := nHB; clear nHQ nHB) | (go_at_call 27; (with_reducible refine (HNV.out _).mono ?_); rintro e w1 ⟨rfl, hb1⟩; have nHQ := Lib.hid (HQ.out.below hb1); have nHB := Lib.hid (bthen HB.out hb1); have zz1 := hb1.size; clear HQ HB hb1; have HQ := nHQ; have HB := nHB; clear nHQ nHB) | (go_at_call 28; (with_reducible refine (HBD.out _ (HR.out.n.below HB.out)).mono ?_); rintro e w1 ⟨rfl, hb1⟩; have nHQ := Lib.hid (HQ.out.below hb1); have nHB := Lib.hid (bthen HB.out hb1); have zz1 := hb1.size; clear HQ HB hb1; have HQ := nHQ; have HB := nHB; clear nHQ nHB))
    go_loopw [10] (fun s wr => ∃ t : Int, s = .int .i64 t ∧ t ≤ T0 ∧ RowKit.Hid (FAR f x0 K t) ∧ RowKit.Hid (Below w.heap.size w wr) ∧ RowKit.Hid (Blk wr (w.heap.size + 1 + 1) 51 #[hx, hy, hv, gx, gy, gv, lx, ly, lv, px, py, pv, nx, ny, nv, ax, ay, av, cx, cy, cv, dx, dy, dv, .int .i64 cl, .int .i64 bu, .int .i64 wl, .int .i64 wh, .int .i64 tl, .int .i64 th, .int .i64 el, .int .i64 eh, .int .i64 nl, .int .i64 nh])) (fun s _ => (intOf s - x0 + 1).toNat)
    case atStart => exact ⟨T0, rfl, by omega, HF0.out, HB.out, HQ.out⟩
    case round =>
      clear HB HQ HF0
      obtain ⟨t, rfl, ht1, HF, HB, HQ⟩ := hrel
      have zz := HB.out.size
      by_cases hlt : x0 ≤ t
      · obtain ⟨k, hfar, hK⟩ := HF.out
        obtain ⟨k', hk', htk, hst⟩ := fa_step hfar hlt
        have htx1 : t ≤ T0 := by omega
        by_cases hv : 0 ≤ f t
        · rw [if_pos hv] at hst
          have HFIN := Lib.hid (show fstS f x0 K = (t, 0) by rw [hK, hst])
          clear hfar hK hk' htk hst HF
          go_wp2_with (first | (refine wpl_row rfl 51 _ rfl _ rfl _ 34 HQ.out Tryz.rowMach rfl ?_; simp only [Act.put]) | (go_at_call 23; (with_reducible refine (HRT.out _ _ hlt htx1 (HR.out.below HB.out)).mono ?_); rintro e w1 ⟨rfl, hb1⟩; have nHQ := Lib.hid (HQ.out.below hb1); have nHB := Lib.hid (bthen HB.out hb1); have zz1 := hb1.size; clear HQ HB hb1; have HQ := nHQ; have HB := nHB; clear nHQ nHB))
          go_ret2
          exact ⟨by rw [HFIN.out]; rfl, HB.out⟩
        · rw [if_neg hv] at hst
          have hv2 : f t < 0 := by omega
          have HFN := Lib.hid (show FAR f x0 K (t - 1) from ⟨k', by omega, by rw [hK, hst]⟩)
          clear hfar hK hk' htk hst HF hv
          go_wp2_with (first | (refine wpl_row rfl 51 _ rfl _ rfl _ 34 HQ.out Tryz.rowMach rfl ?_; simp only [Act.put]) | (go_at_call 23; (with_reducible refine (HRT.out _ _ hlt htx1 (HR.out.below HB.out)).mono ?_); rintro e w1 ⟨rfl, hb1⟩; have nHQ := Lib.hid (HQ.out.below hb1); have nHB := Lib.hid (bthen HB.out hb1); have zz1 := hb1.size; clear HQ HB hb1; have HQ := nHQ; have HB := nHB; clear nHQ nHB))
          exact ⟨⟨t - 1, rfl, by omega, HFN.out, HB.out, HQ.out⟩, by simp [intOf]; omega⟩
      · obtain ⟨k, hfar, hK⟩ := HF.out
        have HFIN := Lib.hid (show fstS f x0 K = (0, 3) by rw [hK]; exact fa_end hfar (by omega))
        clear hfar hK HF
        go_wp2_with fail
        go_ret2
        exact ⟨by rw [HFIN.out]; rfl, HB.out⟩
  · obtain rfl : T0 = b0 := by have := HT0.out; omega
    go_enter Tryz.func10, Tryz.ntmps10
    go_wp2_with (first | (refine wpl_row rfl 27 _ rfl _ rfl #[hx, hy, hv, gx, gy, gv, lx, ly, lv, px, py, pv, nx, ny, nv, ax, ay, av, cx, cy, cv, dx, dy, dv, .int .i64 cl, .int .i64 bu] 26 ?_ Tryz.rowRot rfl ?_; (focus exact (by repeat (first | (refine Blk.newAt _ _ _ ?_; first | rfl | (simp; done)) | refine Blk.alloc ?_ _))); simp only [Act.put]) | (refine wpl_row rfl 31 _ rfl _ rfl #[.int .i64 wl, .int .i64 wh, .int .i64 tl, .int .i64 th, .int .i64 el, .int .i64 eh, .int .i64 nl, .int .i64 nh] 8 ?_ Tryz.rowAir rfl ?_; (focus exact (by repeat (first | (refine Blk.newAt _ _ _ ?_; first | rfl | (simp; done)) | refine Blk.alloc ?_ _))); simp only [Act.put]) | (refine wpl_store_new rfl 51 _ _ rfl #[hx, hy, hv, gx, gy, gv, lx, ly, lv, px, py, pv, nx, ny, nv, ax, ay, av, cx, cy, cv, dx, dy, dv, .int .i64 cl, .int .i64 bu, .int .i64 wl, .int .i64 wh, .int .i64 tl, .int .i64 th, .int .i64 el, .int .i64 eh, .int .i64 nl, .int .i64 nh] _ _ rfl ?_ rfl Tryz.sizeMach rfl (RotAt.one HR.out wl wh tl th el eh nl nh) ?_; (focus (simp; done)); simp only [Act.put]) | (refine wpl_row rfl 51 _ rfl _ rfl #[hx, hy, hv, gx, gy, gv, lx, ly, lv, px, py, pv, nx, ny, nv, ax, ay, av, cx, cy, cv, dx, dy, dv, .int .i64 cl, .int .i64 bu, .int .i64 wl, .int .i64 wh, .int .i64 tl, .int .i64 th, .int .i64 el, .int .i64 eh, .int .i64 nl, .int .i64 nh] 34 ?_ Tryz.rowMach rfl ?_; (focus exact (by repeat (first | (refine Blk.newAt _ _ _ ?_; first | rfl | (simp; done)) | refine Blk.alloc ?_ _))); simp only [Act.put]))
    have bHM : Blk (((w.alloc (.cells #[hx, hy, hv, gx, gy, gv, lx, ly, lv, px, py, pv, nx, ny, nv, ax, ay, av, cx, cy, cv, dx, dy, dv, .int .i64 cl, .int .i64 bu] 27)).alloc (.cells #[.int .i64 wl, .int .i64 wh, .int .i64 tl, .int .i64 th, .int .i64 el, .int .i64 eh, .int .i64 nl, .int .i64 nh] 31)).alloc (.cells #[hx, hy, hv, gx, gy, gv, lx, ly, lv, px, py, pv, nx, ny, nv, ax, ay, av, cx, cy, cv, dx, dy, dv, .int .i64 cl, .int .i64 bu, .int .i64 wl, .int .i64 wh, .int .i64 tl, .int .i64 th, .int .i64 el, .int .i64 eh, .int .i64 nl, .int .i64 nh] 51)) (w.heap.size) 27 #[hx, hy, hv, gx, gy, gv, lx, ly, lv, px, py, pv, nx, ny, nv, ax, ay, av, cx, cy, cv, dx, dy, dv, .int .i64 cl, .int .i64 bu] := (by repeat (first | (refine Blk.newAt _ _ _ ?_; first | rfl | (simp; done)) | refine Blk.alloc ?_ _))
    have bHA : Blk (((w.alloc (.cells #[hx, hy, hv, gx, gy, gv, lx, ly, lv, px, py, pv, nx, ny, nv, ax, ay, av, cx, cy, cv, dx, dy, dv, .int .i64 cl, .int .i64 bu] 27)).alloc (.cells #[.int .i64 wl, .int .i64 wh, .int .i64 tl, .int .i64 th, .int .i64 el, .int .i64 eh, .int .i64 nl, .int .i64 nh] 31)).alloc (.cells #[hx, hy, hv, gx, gy, gv, lx, ly, lv, px, py, pv, nx, ny, nv, ax, ay, av, cx, cy, cv, dx, dy, dv, .int .i64 cl, .int .i64 bu, .int .i64 wl, .int .i64 wh, .int .i64 tl, .int .i64 th, .int .i64 el, .int .i64 eh, .int .i64 nl, .int .i64 nh] 51)) (w.heap.size + 1) 31 #[.int .i64 wl, .int .i64 wh, .int .i64 tl, .int .i64 th, .int .i64 el, .int .i64 eh, .int .i64 nl, .int .i64 nh] := (by repeat (first | (refine Blk.newAt _ _ _ ?_; first | rfl | (simp; done)) | refine Blk.alloc ?_ _))
    have bHQ : Blk (((w.alloc (.cells #[hx, hy, hv, gx, gy, gv, lx, ly, lv, px, py, pv, nx, ny, nv, ax, ay, av, cx, cy, cv, dx, dy, dv, .int .i64 cl, .int .i64 bu] 27)).alloc (.cells #[.int .i64 wl, .int .i64 wh, .int .i64 tl, .int .i64 th, .int .i64 el, .int .i64 eh, .int .i64 nl, .int .i64 nh] 31)).alloc (.cells #[hx, hy, hv, gx, gy, gv, lx, ly, lv, px, py, pv, nx, ny, nv, ax, ay, av, cx, cy, cv, dx, dy, dv, .int .i64 cl, .int .i64 bu, .int .i64 wl, .int .i64 wh, .int .i64 tl, .int .i64 th, .int .i64 el, .int .i64 eh, .int .i64 nl, .int .i64 nh] 51)) (w.heap.size + 1 + 1) 51 #[hx, hy, hv, gx, gy, gv, lx, ly, lv, px, py, pv, nx, ny, nv, ax, ay, av, cx, cy, cv, dx, dy, dv, .int .i64 cl, .int .i64 bu, .int .i64 wl, .int .i64 wh, .int .i64 tl, .int .i64 th, .int .i64 el, .int .i64 eh, .int .i64 nl, .int .i64 nh] := (by repeat (first | (refine Blk.newAt _ _ _ ?_; first | rfl | (simp; done)) | refine Blk.alloc ?_ _))
    have bHB : Below w.heap.size w (((w.alloc (.cells #[hx, hy, hv, gx, gy, gv, lx, ly, lv, px, py, pv, nx, ny, nv, ax, ay, av, cx, cy, cv, dx, dy, dv, .int .i64 cl, .int .i64 bu] 27)).alloc (.cells #[.int .i64 wl, .int .i64 wh, .int .i64 tl, .int .i64 th, .int .i64 el, .int .i64 eh, .int .i64 nl, .int .i64 nh] 31)).alloc (.cells #[hx, hy, hv, gx, gy, gv, lx, ly, lv, px, py, pv, nx, ny, nv, ax, ay, av, cx, cy, cv, dx, dy, dv, .int .i64 cl, .int .i64 bu, .int .i64 wl, .int .i64 wh, .int .i64 tl, .int .i64 th, .int .i64 el, .int .i64 eh, .int .i64 nl, .int .i64 nh] 51)) := (by repeat' (first | exact Below.refl _ _ | assumption | refine Below.drew ?_ | refine bdn ?_ _ | refine bal ?_ _ | refine Below.setCell ?_ (by first | (simp; done) | omega | (simp; omega)) _))
    generalize (((w.alloc (.cells #[hx, hy, hv, gx, gy, gv, lx, ly, lv, px, py, pv, nx, ny, nv, ax, ay, av, cx, cy, cv, dx, dy, dv, .int .i64 cl, .int .i64 bu] 27)).alloc (.cells #[.int .i64 wl, .int .i64 wh, .int .i64 tl, .int .i64 th, .int .i64 el, .int .i64 eh, .int .i64 nl, .int .i64 nh] 31)).alloc (.cells #[hx, hy, hv, gx, gy, gv, lx, ly, lv, px, py, pv, nx, ny, nv, ax, ay, av, cx, cy, cv, dx, dy, dv, .int .i64 cl, .int .i64 bu, .int .i64 wl, .int .i64 wh, .int .i64 tl, .int .i64 th, .int .i64 el, .int .i64 eh, .int .i64 nl, .int .i64 nh] 51)) = W at *
    have zW := bHQ.lt
    have HM := Lib.hid bHM
    have HA := Lib.hid bHA
    have HQ := Lib.hid bHQ
    have HB := Lib.hid bHB
    clear bHM bHA bHQ bHB
    go_wp2_with (first | (refine wpl_row rfl 51 _ rfl _ rfl _ 34 HQ.out Tryz.rowMach rfl ?_; simp only [Act.put]) | (go_at_call 20; refine (HC.out _ (HR.out.below HB.out) (fun hr W hW => HQG.out hr W (HQ.out.below hW))).mono ?_; rintro e w1 ⟨rfl, hb1⟩; have nHQ := Lib.hid (HQ.out.below hb1); have nHB := Lib.hid (bthen HB.out hb1); have zz1 := hb1.size; clear HQ HB hb1; have HQ := nHQ; have HB := nHB; clear nHQ nHB) | (go_at_call 22; (with_reducible refine (HSP.out _ (HR.out.l.x.below HB.out)).mono ?_); rintro e w1 ⟨rfl, hb1⟩; have nHQ := Lib.hid (HQ.out.below hb1); have nHB := Lib.hid (bthen HB.out hb1); have zz1 := hb1.size; clear HQ HB hb1; have HQ := nHQ; have HB := nHB; clear nHQ nHB) | (go_at_call 27; (with_reducible refine (HNV.out _).mono ?_); rintro e w1 ⟨rfl, hb1⟩; have nHQ := Lib.hid (HQ.out.below hb1); have nHB := Lib.hid (bthen HB.out hb1); have zz1 := hb1.size; clear HQ HB hb1; have HQ := nHQ; have HB := nHB; clear nHQ nHB) | (go_at_call 28; (with_reducible refine (HBD.out _ (HR.out.n.below HB.out)).mono ?_); rintro e w1 ⟨rfl, hb1⟩; have nHQ := Lib.hid (HQ.out.below hb1); have nHB := Lib.hid (bthen HB.out hb1); have zz1 := hb1.size; clear HQ HB hb1; have HQ := nHQ; have HB := nHB; clear nHQ nHB))
    go_loopw [10] (fun s wr => ∃ t : Int, s = .int .i64 t ∧ t ≤ T0 ∧ RowKit.Hid (FAR f x0 K t) ∧ RowKit.Hid (Below w.heap.size w wr) ∧ RowKit.Hid (Blk wr (w.heap.size + 1 + 1) 51 #[hx, hy, hv, gx, gy, gv, lx, ly, lv, px, py, pv, nx, ny, nv, ax, ay, av, cx, cy, cv, dx, dy, dv, .int .i64 cl, .int .i64 bu, .int .i64 wl, .int .i64 wh, .int .i64 tl, .int .i64 th, .int .i64 el, .int .i64 eh, .int .i64 nl, .int .i64 nh])) (fun s _ => (intOf s - x0 + 1).toNat)
    case atStart => exact ⟨T0, rfl, by omega, HF0.out, HB.out, HQ.out⟩
    case round =>
      clear HB HQ HF0
      obtain ⟨t, rfl, ht1, HF, HB, HQ⟩ := hrel
      have zz := HB.out.size
      by_cases hlt : x0 ≤ t
      · obtain ⟨k, hfar, hK⟩ := HF.out
        obtain ⟨k', hk', htk, hst⟩ := fa_step hfar hlt
        have htx1 : t ≤ x1 := by omega
        by_cases hv : 0 ≤ f t
        · rw [if_pos hv] at hst
          have HFIN := Lib.hid (show fstS f x0 K = (t, 0) by rw [hK, hst])
          clear hfar hK hk' htk hst HF
          go_wp2_with (first | (refine wpl_row rfl 51 _ rfl _ rfl _ 34 HQ.out Tryz.rowMach rfl ?_; simp only [Act.put]) | (go_at_call 23; (with_reducible refine (HRT.out _ _ hlt htx1 (HR.out.below HB.out)).mono ?_); rintro e w1 ⟨rfl, hb1⟩; have nHQ := Lib.hid (HQ.out.below hb1); have nHB := Lib.hid (bthen HB.out hb1); have zz1 := hb1.size; clear HQ HB hb1; have HQ := nHQ; have HB := nHB; clear nHQ nHB))
          go_ret2
          exact ⟨by rw [HFIN.out]; rfl, HB.out⟩
        · rw [if_neg hv] at hst
          have hv2 : f t < 0 := by omega
          have HFN := Lib.hid (show FAR f x0 K (t - 1) from ⟨k', by omega, by rw [hK, hst]⟩)
          clear hfar hK hk' htk hst HF hv
          go_wp2_with (first | (refine wpl_row rfl 51 _ rfl _ rfl _ 34 HQ.out Tryz.rowMach rfl ?_; simp only [Act.put]) | (go_at_call 23; (with_reducible refine (HRT.out _ _ hlt htx1 (HR.out.below HB.out)).mono ?_); rintro e w1 ⟨rfl, hb1⟩; have nHQ := Lib.hid (HQ.out.below hb1); have nHB := Lib.hid (bthen HB.out hb1); have zz1 := hb1.size; clear HQ HB hb1; have HQ := nHQ; have HB := nHB; clear nHQ nHB))
          exact ⟨⟨t - 1, rfl, by omega, HFN.out, HB.out, HQ.out⟩, by simp [intOf]; omega⟩
      · obtain ⟨k, hfar, hK⟩ := HF.out
        have HFIN := Lib.hid (show fstS f x0 K = (0, 3) by rw [hK]; exact fa_end hfar (by omega))
        clear hfar hK HF
        go_wp2_with fail
        go_ret2
        exact ⟨by rw [HFIN.out]; rfl, HB.out⟩
end Go.Proofs.YtechkkgmdjgddaaGreat
