/- Contracts: Glide of the reference of rotors. -/
import Derived.Test.YtoembbcddhlokaaRfM
import Derived.Test.YtoembbcddhlokaaRoU
set_option linter.all false
namespace Go.Proofs.Ytoembbcddhlokaa
open Go Go.RowKit Go.Proofs
set_option maxRecDepth 100000
set_option maxHeartbeats 4000000

theorem gli_pass {S : Tabs} {cl bu wl wh tl th el eh nl nh n h : Int} (hE : airE S cl bu wl wh tl th el eh nl nh ≠ 0) : gliE S cl bu wl wh tl th el eh nl nh n h = airE S cl bu wl wh tl th el eh nl nh := by unfold gliE; exact airE_pass _ _ hE
theorem gli_then {S : Tabs} {cl bu wl wh tl th el eh nl nh n h : Int} (hE : airE S cl bu wl wh tl th el eh nl nh = 0) : gliE S cl bu wl wh tl th el eh nl nh n h = if !lkE S.d n n wl wh || (!inB n 0 1000000 || !inB h 0 1000000) then 1 else 0 := by
  unfold gliE; rw [airE_then _ _ hE, Bool.false_or]
theorem lkE_vspan {T : Tbl} {lo hi n a b : Int} (h : rightB T lo hi = true) (hl : lkE T n n a b = true) : vspan n n = true := by
  have hX := tblB_X (right_t h)
  have lX := axisB_len hX
  have r0 := axisB_range hX (k := 0) (by omega)
  have r1 := axisB_range hX (k := T.X.length - 1) (by omega)
  unfold lkE liesB at hl
  simp only [Bool.and_eq_true, decide_eq_true_eq] at hl
  unfold vspan inB
  simp only [Bool.and_eq_true, decide_eq_true_eq]; omega

def rg6R (w0 g : Nat) (t : Value) (n wl wh p0 p1 : Int) : Nat → Value → World → Prop
  | 0, v, _ => v = .pointer (some ⟨g, 21, none⟩)
  | 1, v, _ => v = t
  | 2, v, _ => v = .int .i64 n
  | 3, v, _ => v = .agg #[.int .i64 n, .int .i64 n]
  | 4, v, _ => v = .pointer (some ⟨g + 1, 0, none⟩)
  | 5, v, _ => v = .agg #[.int .i64 wl, .int .i64 wh]
  | 6, v, _ => v = .agg #[.int .i64 p0, .int .i64 p1]
  | 7, v, w => NewBlk w0 34 #[.int .i64 0, .int .i64 0] v w
  | _, _, _ => True
theorem rg6R_below {w0 g : Nat} {t : Value} {n wl wh p0 p1 : Int} (k : Nat) (v : Value) (w w' : World) (hb : Below w.heap.size w w') (h : rg6R w0 g t n wl wh p0 p1 k v w) : rg6R w0 g t n wl wh p0 p1 k v w' := by
  unfold rg6R at *
  split at h <;> first | exact h | exact NewBlk.below hb h
def rg7R (w0 g : Nat) (y p0 p1 a b : Int) : Nat → Value → World → Prop
  | 0, v, _ => v = .int .i64 y
  | 1, v, _ => v = .pointer (some ⟨g, 1, none⟩)
  | 2, v, _ => v = .int .i64 p1
  | 3, v, _ => v = .int .i64 a
  | 4, v, _ => v = .int .i64 y
  | 5, v, _ => v = .pointer (some ⟨g, 0, none⟩)
  | 6, v, _ => v = .int .i64 p0
  | 7, v, _ => v = .int .i64 b
  | 8, v, _ => v = .agg #[.int .i64 a, .int .i64 b]
  | 9, v, w => NewBlk w0 34 #[.int .i64 0, .int .i64 0] v w
  | _, _, _ => True
theorem rg7R_below {w0 g : Nat} {y p0 p1 a b : Int} (k : Nat) (v : Value) (w w' : World) (hb : Below w.heap.size w w') (h : rg7R w0 g y p0 p1 a b k v w) : rg7R w0 g y p0 p1 a b k v w' := by
  unfold rg7R at *
  split at h <;> first | exact h | exact NewBlk.below hb h
def rg8R (w0 g : Nat) (n y x p0 p1 a b : Int) : Nat → Value → World → Prop
  | 0, v, _ => v = .int .i64 n
  | 1, v, _ => v = .int .i64 y
  | 2, v, _ => v = .int .i64 x
  | 3, v, _ => v = .pointer (some ⟨g, 1, none⟩)
  | 4, v, _ => v = .int .i64 p1
  | 5, v, _ => v = .int .i64 a
  | 6, v, _ => v = .int .i64 n
  | 7, v, _ => v = .int .i64 y
  | 8, v, _ => v = .int .i64 x
  | 9, v, _ => v = .pointer (some ⟨g, 0, none⟩)
  | 10, v, _ => v = .int .i64 p0
  | 11, v, _ => v = .int .i64 b
  | 12, v, _ => v = .agg #[.int .i64 a, .int .i64 b]
  | 13, v, w => NewBlk w0 34 #[.int .i64 0, .int .i64 0] v w
  | _, _, _ => True
theorem rg8R_below {w0 g : Nat} {n y x p0 p1 a b : Int} (k : Nat) (v : Value) (w w' : World) (hb : Below w.heap.size w w') (h : rg8R w0 g n y x p0 p1 a b k v w) : rg8R w0 g n y x p0 p1 a b k v w' := by
  unfold rg8R at *
  split at h <;> first | exact h | exact NewBlk.below hb h
theorem rf2_Glide_c (hx hy hv gx gy gv lx ly lv px py pv nx ny nv ax ay av cx cy cv dx dy dv : Value) (cl bu : Int) (wl wh tl th el eh nl nh : Int) (S : Tabs) (n h : Int) (w : World) (hR : RotAt w hx hy hv gx gy gv lx ly lv px py pv nx ny nv ax ay av cx cy cv dx dy dv cl bu S) :
   Calls Try.prog 36 #[.agg #[hx, hy, hv, gx, gy, gv, lx, ly, lv, px, py, pv, nx, ny, nv, ax, ay, av, cx, cy, cv, dx, dy, dv, .int .i64 cl, .int .i64 bu], .agg #[.int .i64 wl, .int .i64 wh, .int .i64 tl, .int .i64 th, .int .i64 el, .int .i64 eh, .int .i64 nl, .int .i64 nh], .int .i64 n, .int .i64 h] w fun e w' => e = .returned (.tuple #[.agg #[.int .i64 (gliT0 S cl bu wl wh tl th el eh nl nh n h), .int .i64 (gliT1 S cl bu wl wh tl th el eh nl nh n h)], .agg #[.int .i64 (gliF0 S cl bu wl wh tl th el eh nl nh n h), .int .i64 (gliF1 S cl bu wl wh tl th el eh nl nh n h)], .int .i64 (gliX S cl bu wl wh tl th el eh nl nh n h)]) ∧ Below w.heap.size w w' := by
  have HR := Lib.hid hR
  have hc := fun w1 hR => rf2_CheckAir_c hx hy hv gx gy gv lx ly lv px py pv nx ny nv ax ay av cx cy cv dx dy dv cl bu wl wh tl th el eh nl nh S w1 hR
  clear hR
  unfold gliT0 gliT1 gliF0 gliF1
  by_cases ha : airE S cl bu wl wh tl th el eh nl nh = 0
  case neg =>
    have hne : (airE S cl bu wl wh tl th el eh nl nh != 0) = true := by simpa using ha
    rw [gliX_e (by rw [gli_pass ha]; exact ha), gli_pass ha, okN_no ha, okN_no ha, okN_no ha, okN_no ha]
    have HC := Lib.hid hc
    generalize airE S cl bu wl wh tl th el eh nl nh = E at *
    clear ha hc
    go_enter Try.func36, Try.ntmps36
    go_wp2_with (first | (refine wpl_row rfl 27 _ rfl _ rfl #[hx, hy, hv, gx, gy, gv, lx, ly, lv, px, py, pv, nx, ny, nv, ax, ay, av, cx, cy, cv, dx, dy, dv, .int .i64 cl, .int .i64 bu] 26 ?_ Try.rowRot rfl ?_; (focus exact (by repeat (first | (refine Blk.newAt _ _ _ ?_; first | rfl | (simp; done)) | refine Blk.alloc ?_ _))); simp only [Act.put]) | (refine wpl_row rfl 36 _ rfl _ rfl #[.int .i64 wl, .int .i64 wh, .int .i64 tl, .int .i64 th, .int .i64 el, .int .i64 eh, .int .i64 nl, .int .i64 nh] 8 ?_ Try.rowAir rfl ?_; (focus exact (by repeat (first | (refine Blk.newAt _ _ _ ?_; first | rfl | (simp; done)) | refine Blk.alloc ?_ _))); simp only [Act.put]))
    have bHM : Blk ((((w.alloc (.cells #[hx, hy, hv, gx, gy, gv, lx, ly, lv, px, py, pv, nx, ny, nv, ax, ay, av, cx, cy, cv, dx, dy, dv, .int .i64 cl, .int .i64 bu] 27)).alloc (.cells #[.int .i64 wl, .int .i64 wh, .int .i64 tl, .int .i64 th, .int .i64 el, .int .i64 eh, .int .i64 nl, .int .i64 nh] 36)).alloc (.cells #[.int .i64 0, .int .i64 0] 34)).alloc (.cells #[.int .i64 0, .int .i64 0] 34)) (w.heap.size) 27 #[hx, hy, hv, gx, gy, gv, lx, ly, lv, px, py, pv, nx, ny, nv, ax, ay, av, cx, cy, cv, dx, dy, dv, .int .i64 cl, .int .i64 bu] := (by repeat (first | (refine Blk.newAt _ _ _ ?_; first | rfl | (simp; done)) | refine Blk.alloc ?_ _))
    have bHA : Blk ((((w.alloc (.cells #[hx, hy, hv, gx, gy, gv, lx, ly, lv, px, py, pv, nx, ny, nv, ax, ay, av, cx, cy, cv, dx, dy, dv, .int .i64 cl, .int .i64 bu] 27)).alloc (.cells #[.int .i64 wl, .int .i64 wh, .int .i64 tl, .int .i64 th, .int .i64 el, .int .i64 eh, .int .i64 nl, .int .i64 nh] 36)).alloc (.cells #[.int .i64 0, .int .i64 0] 34)).alloc (.cells #[.int .i64 0, .int .i64 0] 34)) (w.heap.size + 1) 36 #[.int .i64 wl, .int .i64 wh, .int .i64 tl, .int .i64 th, .int .i64 el, .int .i64 eh, .int .i64 nl, .int .i64 nh] := (by repeat (first | (refine Blk.newAt _ _ _ ?_; first | rfl | (simp; done)) | refine Blk.alloc ?_ _))
    have bHY : Blk ((((w.alloc (.cells #[hx, hy, hv, gx, gy, gv, lx, ly, lv, px, py, pv, nx, ny, nv, ax, ay, av, cx, cy, cv, dx, dy, dv, .int .i64 cl, .int .i64 bu] 27)).alloc (.cells #[.int .i64 wl, .int .i64 wh, .int .i64 tl, .int .i64 th, .int .i64 el, .int .i64 eh, .int .i64 nl, .int .i64 nh] 36)).alloc (.cells #[.int .i64 0, .int .i64 0] 34)).alloc (.cells #[.int .i64 0, .int .i64 0] 34)) (w.heap.size + 1 + 1) 34 #[.int .i64 0, .int .i64 0] := (by repeat (first | (refine Blk.newAt _ _ _ ?_; first | rfl | (simp; done)) | refine Blk.alloc ?_ _))
    have bHZ : Blk ((((w.alloc (.cells #[hx, hy, hv, gx, gy, gv, lx, ly, lv, px, py, pv, nx, ny, nv, ax, ay, av, cx, cy, cv, dx, dy, dv, .int .i64 cl, .int .i64 bu] 27)).alloc (.cells #[.int .i64 wl, .int .i64 wh, .int .i64 tl, .int .i64 th, .int .i64 el, .int .i64 eh, .int .i64 nl, .int .i64 nh] 36)).alloc (.cells #[.int .i64 0, .int .i64 0] 34)).alloc (.cells #[.int .i64 0, .int .i64 0] 34)) (w.heap.size + 1 + 1 + 1) 34 #[.int .i64 0, .int .i64 0] := (by repeat (first | (refine Blk.newAt _ _ _ ?_; first | rfl | (simp; done)) | refine Blk.alloc ?_ _))
    have bHB : Below w.heap.size w ((((w.alloc (.cells #[hx, hy, hv, gx, gy, gv, lx, ly, lv, px, py, pv, nx, ny, nv, ax, ay, av, cx, cy, cv, dx, dy, dv, .int .i64 cl, .int .i64 bu] 27)).alloc (.cells #[.int .i64 wl, .int .i64 wh, .int .i64 tl, .int .i64 th, .int .i64 el, .int .i64 eh, .int .i64 nl, .int .i64 nh] 36)).alloc (.cells #[.int .i64 0, .int .i64 0] 34)).alloc (.cells #[.int .i64 0, .int .i64 0] 34)) := (by repeat' (first | exact Below.refl _ _ | assumption | refine Below.drew ?_ | refine bdn ?_ _ | refine bal ?_ _ | refine Below.setCell ?_ (by first | (simp; done) | omega | (simp; omega)) _))
    generalize ((((w.alloc (.cells #[hx, hy, hv, gx, gy, gv, lx, ly, lv, px, py, pv, nx, ny, nv, ax, ay, av, cx, cy, cv, dx, dy, dv, .int .i64 cl, .int .i64 bu] 27)).alloc (.cells #[.int .i64 wl, .int .i64 wh, .int .i64 tl, .int .i64 th, .int .i64 el, .int .i64 eh, .int .i64 nl, .int .i64 nh] 36)).alloc (.cells #[.int .i64 0, .int .i64 0] 34)).alloc (.cells #[.int .i64 0, .int .i64 0] 34)) = W at *
    have zW := bHZ.lt
    have HM := Lib.hid bHM
    have HA := Lib.hid bHA
    have HY := Lib.hid bHY
    have HZ := Lib.hid bHZ
    have HB := Lib.hid bHB
    clear bHM bHA bHY bHZ bHB
    go_wp2_with (first | (go_at_call 23; (with_reducible refine (HC.out _ (HR.out.below HB.out)).mono ?_); rintro e w1 ⟨rfl, hb1⟩; have nHM := Lib.hid (HM.out.below hb1); have nHA := Lib.hid (HA.out.below hb1); have nHY := Lib.hid (HY.out.below hb1); have nHZ := Lib.hid (HZ.out.below hb1); have nHB := Lib.hid (bthen HB.out hb1); have zz1 := hb1.size; clear HM HA HY HZ HB hb1; have HM := nHM; have HA := nHA; have HY := nHY; have HZ := nHZ; have HB := nHB; clear nHM nHA nHY nHZ nHB; (try clear zHY); have zHY := HY.out.lt; (try clear cHY0); have cHY0 := HY.out.cell 0; (try clear cHY1); have cHY1 := HY.out.cell 1; (try clear fHY); have fHY := fun i => HY.out.frozen i; (try clear zHZ); have zHZ := HZ.out.lt; (try clear cHZ0); have cHZ0 := HZ.out.cell 0; (try clear cHZ1); have cHZ1 := HZ.out.cell 1; (try clear fHZ); have fHZ := fun i => HZ.out.frozen i))
    exact bodyPost_ret (res_cct rfl _ _ _ #[.int .i64 0, .int .i64 0] #[.int .i64 0, .int .i64 0] 2 2 rfl rfl ((((HY.out.set_ 0 _).set_ 1 _).far' (by omega) _).far' (by omega) _) Try.rowSpan rfl ((((HZ.out.far' (by omega) _).far' (by omega) _).set_ 0 _).set_ 1 _) Try.rowSpan rfl) rfl ⟨rfl, (bset (bset (bset (bset HB.out (by omega) _) (by omega) _) (by omega) _) (by omega) _)⟩
  rw [ha] at hc
  have HC := Lib.hid hc
  have e0 := gli_then (n := n) (h := h) ha
  obtain ⟨hr, a1, a2, a3, a4⟩ := airE_zero ha
  clear hc ha
  have l1 := fun w1 hT => rf2_lies_c dx dy dv S.d n n wl wh w1 hT (lkE_pos (rotB_d hr)).1 (lkE_pos (rotB_d hr)).2
  rw [lieB_right a1] at l1
  have HI1 := Lib.hid (fun w => rf_from_c n 0 1000000 w)
  have HI2 := Lib.hid (fun w => rf_from_c h 0 1000000 w)
  cases b1 : (vspan n n && lkE S.d n n wl wh)
  case false =>
    have b2 : lkE S.d n n wl wh = false := by
      cases hl : lkE S.d n n wl wh with
      | false => rfl
      | true => rw [lkE_vspan (rotB_d hr) hl, hl] at b1; cases b1
    rw [b2, if_pos (by simp)] at e0
    rw [gliX_e (by rw [e0]; decide), e0, okN_no (by decide), okN_no (by decide), okN_no (by decide), okN_no (by decide)]
    rw [b1] at l1
    have L1 := Lib.hid l1
    clear l1 e0 hr b1 b2
    go_enter Try.func36, Try.ntmps36
    go_wp2_with (first | (refine wpl_row rfl 27 _ rfl _ rfl #[hx, hy, hv, gx, gy, gv, lx, ly, lv, px, py, pv, nx, ny, nv, ax, ay, av, cx, cy, cv, dx, dy, dv, .int .i64 cl, .int .i64 bu] 26 ?_ Try.rowRot rfl ?_; (focus exact (by repeat (first | (refine Blk.newAt _ _ _ ?_; first | rfl | (simp; done)) | refine Blk.alloc ?_ _))); simp only [Act.put]) | (refine wpl_row rfl 36 _ rfl _ rfl #[.int .i64 wl, .int .i64 wh, .int .i64 tl, .int .i64 th, .int .i64 el, .int .i64 eh, .int .i64 nl, .int .i64 nh] 8 ?_ Try.rowAir rfl ?_; (focus exact (by repeat (first | (refine Blk.newAt _ _ _ ?_; first | rfl | (simp; done)) | refine Blk.alloc ?_ _))); simp only [Act.put]))
    have bHM : Blk ((((w.alloc (.cells #[hx, hy, hv, gx, gy, gv, lx, ly, lv, px, py, pv, nx, ny, nv, ax, ay, av, cx, cy, cv, dx, dy, dv, .int .i64 cl, .int .i64 bu] 27)).alloc (.cells #[.int .i64 wl, .int .i64 wh, .int .i64 tl, .int .i64 th, .int .i64 el, .int .i64 eh, .int .i64 nl, .int .i64 nh] 36)).alloc (.cells #[.int .i64 0, .int .i64 0] 34)).alloc (.cells #[.int .i64 0, .int .i64 0] 34)) (w.heap.size) 27 #[hx, hy, hv, gx, gy, gv, lx, ly, lv, px, py, pv, nx, ny, nv, ax, ay, av, cx, cy, cv, dx, dy, dv, .int .i64 cl, .int .i64 bu] := (by repeat (first | (refine Blk.newAt _ _ _ ?_; first | rfl | (simp; done)) | refine Blk.alloc ?_ _))
    have bHA : Blk ((((w.alloc (.cells #[hx, hy, hv, gx, gy, gv, lx, ly, lv, px, py, pv, nx, ny, nv, ax, ay, av, cx, cy, cv, dx, dy, dv, .int .i64 cl, .int .i64 bu] 27)).alloc (.cells #[.int .i64 wl, .int .i64 wh, .int .i64 tl, .int .i64 th, .int .i64 el, .int .i64 eh, .int .i64 nl, .int .i64 nh] 36)).alloc (.cells #[.int .i64 0, .int .i64 0] 34)).alloc (.cells #[.int .i64 0, .int .i64 0] 34)) (w.heap.size + 1) 36 #[.int .i64 wl, .int .i64 wh, .int .i64 tl, .int .i64 th, .int .i64 el, .int .i64 eh, .int .i64 nl, .int .i64 nh] := (by repeat (first | (refine Blk.newAt _ _ _ ?_; first | rfl | (simp; done)) | refine Blk.alloc ?_ _))
    have bHY : Blk ((((w.alloc (.cells #[hx, hy, hv, gx, gy, gv, lx, ly, lv, px, py, pv, nx, ny, nv, ax, ay, av, cx, cy, cv, dx, dy, dv, .int .i64 cl, .int .i64 bu] 27)).alloc (.cells #[.int .i64 wl, .int .i64 wh, .int .i64 tl, .int .i64 th, .int .i64 el, .int .i64 eh, .int .i64 nl, .int .i64 nh] 36)).alloc (.cells #[.int .i64 0, .int .i64 0] 34)).alloc (.cells #[.int .i64 0, .int .i64 0] 34)) (w.heap.size + 1 + 1) 34 #[.int .i64 0, .int .i64 0] := (by repeat (first | (refine Blk.newAt _ _ _ ?_; first | rfl | (simp; done)) | refine Blk.alloc ?_ _))
    have bHZ : Blk ((((w.alloc (.cells #[hx, hy, hv, gx, gy, gv, lx, ly, lv, px, py, pv, nx, ny, nv, ax, ay, av, cx, cy, cv, dx, dy, dv, .int .i64 cl, .int .i64 bu] 27)).alloc (.cells #[.int .i64 wl, .int .i64 wh, .int .i64 tl, .int .i64 th, .int .i64 el, .int .i64 eh, .int .i64 nl, .int .i64 nh] 36)).alloc (.cells #[.int .i64 0, .int .i64 0] 34)).alloc (.cells #[.int .i64 0, .int .i64 0] 34)) (w.heap.size + 1 + 1 + 1) 34 #[.int .i64 0, .int .i64 0] := (by repeat (first | (refine Blk.newAt _ _ _ ?_; first | rfl | (simp; done)) | refine Blk.alloc ?_ _))
    have bHB : Below w.heap.size w ((((w.alloc (.cells #[hx, hy, hv, gx, gy, gv, lx, ly, lv, px, py, pv, nx, ny, nv, ax, ay, av, cx, cy, cv, dx, dy, dv, .int .i64 cl, .int .i64 bu] 27)).alloc (.cells #[.int .i64 wl, .int .i64 wh, .int .i64 tl, .int .i64 th, .int .i64 el, .int .i64 eh, .int .i64 nl, .int .i64 nh] 36)).alloc (.cells #[.int .i64 0, .int .i64 0] 34)).alloc (.cells #[.int .i64 0, .int .i64 0] 34)) := (by repeat' (first | exact Below.refl _ _ | assumption | refine Below.drew ?_ | refine bdn ?_ _ | refine bal ?_ _ | refine Below.setCell ?_ (by first | (simp; done) | omega | (simp; omega)) _))
    generalize ((((w.alloc (.cells #[hx, hy, hv, gx, gy, gv, lx, ly, lv, px, py, pv, nx, ny, nv, ax, ay, av, cx, cy, cv, dx, dy, dv, .int .i64 cl, .int .i64 bu] 27)).alloc (.cells #[.int .i64 wl, .int .i64 wh, .int .i64 tl, .int .i64 th, .int .i64 el, .int .i64 eh, .int .i64 nl, .int .i64 nh] 36)).alloc (.cells #[.int .i64 0, .int .i64 0] 34)).alloc (.cells #[.int .i64 0, .int .i64 0] 34)) = W at *
    have zW := bHZ.lt
    have HM := Lib.hid bHM
    have HA := Lib.hid bHA
    have HY := Lib.hid bHY
    have HZ := Lib.hid bHZ
    have HB := Lib.hid bHB
    clear bHM bHA bHY bHZ bHB
    go_wp2_with (first | (go_at_call 23; (with_reducible refine (HC.out _ (HR.out.below HB.out)).mono ?_); rintro e w1 ⟨rfl, hb1⟩; have nHM := Lib.hid (HM.out.below hb1); have nHA := Lib.hid (HA.out.below hb1); have nHY := Lib.hid (HY.out.below hb1); have nHZ := Lib.hid (HZ.out.below hb1); have nHB := Lib.hid (bthen HB.out hb1); have zz1 := hb1.size; clear HM HA HY HZ HB hb1; have HM := nHM; have HA := nHA; have HY := nHY; have HZ := nHZ; have HB := nHB; clear nHM nHA nHY nHZ nHB; (try clear zHY); have zHY := HY.out.lt; (try clear cHY0); have cHY0 := HY.out.cell 0; (try clear cHY1); have cHY1 := HY.out.cell 1; (try clear fHY); have fHY := fun i => HY.out.frozen i; (try clear zHZ); have zHZ := HZ.out.lt; (try clear cHZ0); have cHZ0 := HZ.out.cell 0; (try clear cHZ1); have cHZ1 := HZ.out.cell 1; (try clear fHZ); have fHZ := fun i => HZ.out.frozen i))
    have hRr := Lib.hid (fun r : After w1 => (HR.out.below HB.out).below r.below)
    have aHM21 := fun (r : After w1) => (HM.out.below r.below).cell 21
    simp only [List.getElem?_toArray, List.getElem?_cons_succ, List.getElem?_cons_zero] at aHM21
    have aHM22 := fun (r : After w1) => (HM.out.below r.below).cell 22
    simp only [List.getElem?_toArray, List.getElem?_cons_succ, List.getElem?_cons_zero] at aHM22
    have aHM23 := fun (r : After w1) => (HM.out.below r.below).cell 23
    simp only [List.getElem?_toArray, List.getElem?_cons_succ, List.getElem?_cons_zero] at aHM23
    have aHA0 := fun (r : After w1) => (HA.out.below r.below).cell 0
    simp only [List.getElem?_toArray, List.getElem?_cons_succ, List.getElem?_cons_zero] at aHA0
    have aHA1 := fun (r : After w1) => (HA.out.below r.below).cell 1
    simp only [List.getElem?_toArray, List.getElem?_cons_succ, List.getElem?_cons_zero] at aHA1
    refine wp_region_after (by kernel_rfl) (by kernel_rfl) ?_
    repeat (go_big_quiet_step (first | (go_at_call 89; (with_reducible refine qafter (rf_at_c _ _))) | (go_at_call 70; (with_reducible refine qafter (L1.out _ (hRr.out _).d))) | (go_at_call 57; (with_reducible refine qafter_same (HI1.out _))) | (go_at_call 57; (with_reducible refine qafter_same (HI2.out _)))))
    refine wpQuiet_nil ?_
    rintro W3 ⟨r, hr⟩
    have hbN : Below w1.heap.size w1 W3 := by rw [hr]; exact r.below
    clear hr r aHM21 aHM22 aHM23 aHA0 aHA1 hRr cHY0 cHY1 fHY cHZ0 cHZ1 fHZ zHY zHZ
    have nHM := Lib.hid (HM.out.below hbN)
    have nHA := Lib.hid (HA.out.below hbN)
    have nHY := Lib.hid (HY.out.below hbN)
    have nHZ := Lib.hid (HZ.out.below hbN)
    have nHB := Lib.hid (bthen HB.out hbN)
    clear HM HA HY HZ HB hbN
    have HM := nHM
    have HA := nHA
    have HY := nHY
    have HZ := nHZ
    have HB := nHB
    clear nHM nHA nHY nHZ nHB
    have zHY := HY.out.lt
    have cHY0 := HY.out.cell 0
    have cHY1 := HY.out.cell 1
    have fHY := fun i => HY.out.frozen i
    have zHZ := HZ.out.lt
    have cHZ0 := HZ.out.cell 0
    have cHZ1 := HZ.out.cell 1
    have fHZ := fun i => HZ.out.frozen i
    go_wp2
    exact bodyPost_ret (res_cct rfl _ _ _ #[.int .i64 0, .int .i64 0] #[.int .i64 0, .int .i64 0] 2 2 rfl rfl ((((HY.out.set_ 0 _).set_ 1 _).far' (by omega) _).far' (by omega) _) Try.rowSpan rfl ((((HZ.out.far' (by omega) _).far' (by omega) _).set_ 0 _).set_ 1 _) Try.rowSpan rfl) rfl ⟨rfl, (bset (bset (bset (bset HB.out (by omega) _) (by omega) _) (by omega) _) (by omega) _)⟩
  rw [b1] at l1
  have L1 := Lib.hid l1
  have b3 := b1
  simp only [Bool.and_eq_true] at b3
  have hF := Fits.mk' (rotB_d hr) b3.1 a1 b3.2
  rw [b3.2] at e0
  clear l1 b1 b3
  cases c1 : inB n 0 1000000
  case false =>
    rw [c1, if_pos (by simp)] at e0
    rw [gliX_e (by rw [e0]; decide), e0, okN_no (by decide), okN_no (by decide), okN_no (by decide), okN_no (by decide)]
    rw [c1] at HI1
    clear e0 hr hF c1
    go_enter Try.func36, Try.ntmps36
    go_wp2_with (first | (refine wpl_row rfl 27 _ rfl _ rfl #[hx, hy, hv, gx, gy, gv, lx, ly, lv, px, py, pv, nx, ny, nv, ax, ay, av, cx, cy, cv, dx, dy, dv, .int .i64 cl, .int .i64 bu] 26 ?_ Try.rowRot rfl ?_; (focus exact (by repeat (first | (refine Blk.newAt _ _ _ ?_; first | rfl | (simp; done)) | refine Blk.alloc ?_ _))); simp only [Act.put]) | (refine wpl_row rfl 36 _ rfl _ rfl #[.int .i64 wl, .int .i64 wh, .int .i64 tl, .int .i64 th, .int .i64 el, .int .i64 eh, .int .i64 nl, .int .i64 nh] 8 ?_ Try.rowAir rfl ?_; (focus exact (by repeat (first | (refine Blk.newAt _ _ _ ?_; first | rfl | (simp; done)) | refine Blk.alloc ?_ _))); simp only [Act.put]))
    have bHM : Blk ((((w.alloc (.cells #[hx, hy, hv, gx, gy, gv, lx, ly, lv, px, py, pv, nx, ny, nv, ax, ay, av, cx, cy, cv, dx, dy, dv, .int .i64 cl, .int .i64 bu] 27)).alloc (.cells #[.int .i64 wl, .int .i64 wh, .int .i64 tl, .int .i64 th, .int .i64 el, .int .i64 eh, .int .i64 nl, .int .i64 nh] 36)).alloc (.cells #[.int .i64 0, .int .i64 0] 34)).alloc (.cells #[.int .i64 0, .int .i64 0] 34)) (w.heap.size) 27 #[hx, hy, hv, gx, gy, gv, lx, ly, lv, px, py, pv, nx, ny, nv, ax, ay, av, cx, cy, cv, dx, dy, dv, .int .i64 cl, .int .i64 bu] := (by repeat (first | (refine Blk.newAt _ _ _ ?_; first | rfl | (simp; done)) | refine Blk.alloc ?_ _))
    have bHA : Blk ((((w.alloc (.cells #[hx, hy, hv, gx, gy, gv, lx, ly, lv, px, py, pv, nx, ny, nv, ax, ay, av, cx, cy, cv, dx, dy, dv, .int .i64 cl, .int .i64 bu] 27)).alloc (.cells #[.int .i64 wl, .int .i64 wh, .int .i64 tl, .int .i64 th, .int .i64 el, .int .i64 eh, .int .i64 nl, .int .i64 nh] 36)).alloc (.cells #[.int .i64 0, .int .i64 0] 34)).alloc (.cells #[.int .i64 0, .int .i64 0] 34)) (w.heap.size + 1) 36 #[.int .i64 wl, .int .i64 wh, .int .i64 tl, .int .i64 th, .int .i64 el, .int .i64 eh, .int .i64 nl, .int .i64 nh] := (by repeat (first | (refine Blk.newAt _ _ _ ?_; first | rfl | (simp; done)) | refine Blk.alloc ?_ _))
    have bHY : Blk ((((w.alloc (.cells #[hx, hy, hv, gx, gy, gv, lx, ly, lv, px, py, pv, nx, ny, nv, ax, ay, av, cx, cy, cv, dx, dy, dv, .int .i64 cl, .int .i64 bu] 27)).alloc (.cells #[.int .i64 wl, .int .i64 wh, .int .i64 tl, .int .i64 th, .int .i64 el, .int .i64 eh, .int .i64 nl, .int .i64 nh] 36)).alloc (.cells #[.int .i64 0, .int .i64 0] 34)).alloc (.cells #[.int .i64 0, .int .i64 0] 34)) (w.heap.size + 1 + 1) 34 #[.int .i64 0, .int .i64 0] := (by repeat (first | (refine Blk.newAt _ _ _ ?_; first | rfl | (simp; done)) | refine Blk.alloc ?_ _))
    have bHZ : Blk ((((w.alloc (.cells #[hx, hy, hv, gx, gy, gv, lx, ly, lv, px, py, pv, nx, ny, nv, ax, ay, av, cx, cy, cv, dx, dy, dv, .int .i64 cl, .int .i64 bu] 27)).alloc (.cells #[.int .i64 wl, .int .i64 wh, .int .i64 tl, .int .i64 th, .int .i64 el, .int .i64 eh, .int .i64 nl, .int .i64 nh] 36)).alloc (.cells #[.int .i64 0, .int .i64 0] 34)).alloc (.cells #[.int .i64 0, .int .i64 0] 34)) (w.heap.size + 1 + 1 + 1) 34 #[.int .i64 0, .int .i64 0] := (by repeat (first | (refine Blk.newAt _ _ _ ?_; first | rfl | (simp; done)) | refine Blk.alloc ?_ _))
    have bHB : Below w.heap.size w ((((w.alloc (.cells #[hx, hy, hv, gx, gy, gv, lx, ly, lv, px, py, pv, nx, ny, nv, ax, ay, av, cx, cy, cv, dx, dy, dv, .int .i64 cl, .int .i64 bu] 27)).alloc (.cells #[.int .i64 wl, .int .i64 wh, .int .i64 tl, .int .i64 th, .int .i64 el, .int .i64 eh, .int .i64 nl, .int .i64 nh] 36)).alloc (.cells #[.int .i64 0, .int .i64 0] 34)).alloc (.cells #[.int .i64 0, .int .i64 0] 34)) := (by repeat' (first | exact Below.refl _ _ | assumption | refine Below.drew ?_ | refine bdn ?_ _ | refine bal ?_ _ | refine Below.setCell ?_ (by first | (simp; done) | omega | (simp; omega)) _))
    generalize ((((w.alloc (.cells #[hx, hy, hv, gx, gy, gv, lx, ly, lv, px, py, pv, nx, ny, nv, ax, ay, av, cx, cy, cv, dx, dy, dv, .int .i64 cl, .int .i64 bu] 27)).alloc (.cells #[.int .i64 wl, .int .i64 wh, .int .i64 tl, .int .i64 th, .int .i64 el, .int .i64 eh, .int .i64 nl, .int .i64 nh] 36)).alloc (.cells #[.int .i64 0, .int .i64 0] 34)).alloc (.cells #[.int .i64 0, .int .i64 0] 34)) = W at *
    have zW := bHZ.lt
    have HM := Lib.hid bHM
    have HA := Lib.hid bHA
    have HY := Lib.hid bHY
    have HZ := Lib.hid bHZ
    have HB := Lib.hid bHB
    clear bHM bHA bHY bHZ bHB
    go_wp2_with (first | (go_at_call 23; (with_reducible refine (HC.out _ (HR.out.below HB.out)).mono ?_); rintro e w1 ⟨rfl, hb1⟩; have nHM := Lib.hid (HM.out.below hb1); have nHA := Lib.hid (HA.out.below hb1); have nHY := Lib.hid (HY.out.below hb1); have nHZ := Lib.hid (HZ.out.below hb1); have nHB := Lib.hid (bthen HB.out hb1); have zz1 := hb1.size; clear HM HA HY HZ HB hb1; have HM := nHM; have HA := nHA; have HY := nHY; have HZ := nHZ; have HB := nHB; clear nHM nHA nHY nHZ nHB; (try clear zHY); have zHY := HY.out.lt; (try clear cHY0); have cHY0 := HY.out.cell 0; (try clear cHY1); have cHY1 := HY.out.cell 1; (try clear fHY); have fHY := fun i => HY.out.frozen i; (try clear zHZ); have zHZ := HZ.out.lt; (try clear cHZ0); have cHZ0 := HZ.out.cell 0; (try clear cHZ1); have cHZ1 := HZ.out.cell 1; (try clear fHZ); have fHZ := fun i => HZ.out.frozen i))
    have hRr := Lib.hid (fun r : After w1 => (HR.out.below HB.out).below r.below)
    have aHM21 := fun (r : After w1) => (HM.out.below r.below).cell 21
    simp only [List.getElem?_toArray, List.getElem?_cons_succ, List.getElem?_cons_zero] at aHM21
    have aHM22 := fun (r : After w1) => (HM.out.below r.below).cell 22
    simp only [List.getElem?_toArray, List.getElem?_cons_succ, List.getElem?_cons_zero] at aHM22
    have aHM23 := fun (r : After w1) => (HM.out.below r.below).cell 23
    simp only [List.getElem?_toArray, List.getElem?_cons_succ, List.getElem?_cons_zero] at aHM23
    have aHA0 := fun (r : After w1) => (HA.out.below r.below).cell 0
    simp only [List.getElem?_toArray, List.getElem?_cons_succ, List.getElem?_cons_zero] at aHA0
    have aHA1 := fun (r : After w1) => (HA.out.below r.below).cell 1
    simp only [List.getElem?_toArray, List.getElem?_cons_succ, List.getElem?_cons_zero] at aHA1
    refine wp_region_after (by kernel_rfl) (by kernel_rfl) ?_
    repeat (go_big_quiet_step (first | (go_at_call 89; (with_reducible refine qafter (rf_at_c _ _))) | (go_at_call 70; (with_reducible refine qafter (L1.out _ (hRr.out _).d))) | (go_at_call 57; (with_reducible refine qafter_same (HI1.out _))) | (go_at_call 57; (with_reducible refine qafter_same (HI2.out _)))))
    refine wpQuiet_nil ?_
    rintro W3 ⟨r, hr⟩
    have hbN : Below w1.heap.size w1 W3 := by rw [hr]; exact r.below
    clear hr r aHM21 aHM22 aHM23 aHA0 aHA1 hRr cHY0 cHY1 fHY cHZ0 cHZ1 fHZ zHY zHZ
    have nHM := Lib.hid (HM.out.below hbN)
    have nHA := Lib.hid (HA.out.below hbN)
    have nHY := Lib.hid (HY.out.below hbN)
    have nHZ := Lib.hid (HZ.out.below hbN)
    have nHB := Lib.hid (bthen HB.out hbN)
    clear HM HA HY HZ HB hbN
    have HM := nHM
    have HA := nHA
    have HY := nHY
    have HZ := nHZ
    have HB := nHB
    clear nHM nHA nHY nHZ nHB
    have zHY := HY.out.lt
    have cHY0 := HY.out.cell 0
    have cHY1 := HY.out.cell 1
    have fHY := fun i => HY.out.frozen i
    have zHZ := HZ.out.lt
    have cHZ0 := HZ.out.cell 0
    have cHZ1 := HZ.out.cell 1
    have fHZ := fun i => HZ.out.frozen i
    go_wp2
    exact bodyPost_ret (res_cct rfl _ _ _ #[.int .i64 0, .int .i64 0] #[.int .i64 0, .int .i64 0] 2 2 rfl rfl ((((HY.out.set_ 0 _).set_ 1 _).far' (by omega) _).far' (by omega) _) Try.rowSpan rfl ((((HZ.out.far' (by omega) _).far' (by omega) _).set_ 0 _).set_ 1 _) Try.rowSpan rfl) rfl ⟨rfl, (bset (bset (bset (bset HB.out (by omega) _) (by omega) _) (by omega) _) (by omega) _)⟩
  rw [c1] at HI1
  cases c2 : inB h 0 1000000
  case false =>
    rw [c1, c2, if_pos (by simp)] at e0
    rw [gliX_e (by rw [e0]; decide), e0, okN_no (by decide), okN_no (by decide), okN_no (by decide), okN_no (by decide)]
    rw [c2] at HI2
    clear e0 hr hF c1 c2
    go_enter Try.func36, Try.ntmps36
    go_wp2_with (first | (refine wpl_row rfl 27 _ rfl _ rfl #[hx, hy, hv, gx, gy, gv, lx, ly, lv, px, py, pv, nx, ny, nv, ax, ay, av, cx, cy, cv, dx, dy, dv, .int .i64 cl, .int .i64 bu] 26 ?_ Try.rowRot rfl ?_; (focus exact (by repeat (first | (refine Blk.newAt _ _ _ ?_; first | rfl | (simp; done)) | refine Blk.alloc ?_ _))); simp only [Act.put]) | (refine wpl_row rfl 36 _ rfl _ rfl #[.int .i64 wl, .int .i64 wh, .int .i64 tl, .int .i64 th, .int .i64 el, .int .i64 eh, .int .i64 nl, .int .i64 nh] 8 ?_ Try.rowAir rfl ?_; (focus exact (by repeat (first | (refine Blk.newAt _ _ _ ?_; first | rfl | (simp; done)) | refine Blk.alloc ?_ _))); simp only [Act.put]))
    have bHM : Blk ((((w.alloc (.cells #[hx, hy, hv, gx, gy, gv, lx, ly, lv, px, py, pv, nx, ny, nv, ax, ay, av, cx, cy, cv, dx, dy, dv, .int .i64 cl, .int .i64 bu] 27)).alloc (.cells #[.int .i64 wl, .int .i64 wh, .int .i64 tl, .int .i64 th, .int .i64 el, .int .i64 eh, .int .i64 nl, .int .i64 nh] 36)).alloc (.cells #[.int .i64 0, .int .i64 0] 34)).alloc (.cells #[.int .i64 0, .int .i64 0] 34)) (w.heap.size) 27 #[hx, hy, hv, gx, gy, gv, lx, ly, lv, px, py, pv, nx, ny, nv, ax, ay, av, cx, cy, cv, dx, dy, dv, .int .i64 cl, .int .i64 bu] := (by repeat (first | (refine Blk.newAt _ _ _ ?_; first | rfl | (simp; done)) | refine Blk.alloc ?_ _))
    have bHA : Blk ((((w.alloc (.cells #[hx, hy, hv, gx, gy, gv, lx, ly, lv, px, py, pv, nx, ny, nv, ax, ay, av, cx, cy, cv, dx, dy, dv, .int .i64 cl, .int .i64 bu] 27)).alloc (.cells #[.int .i64 wl, .int .i64 wh, .int .i64 tl, .int .i64 th, .int .i64 el, .int .i64 eh, .int .i64 nl, .int .i64 nh] 36)).alloc (.cells #[.int .i64 0, .int .i64 0] 34)).alloc (.cells #[.int .i64 0, .int .i64 0] 34)) (w.heap.size + 1) 36 #[.int .i64 wl, .int .i64 wh, .int .i64 tl, .int .i64 th, .int .i64 el, .int .i64 eh, .int .i64 nl, .int .i64 nh] := (by repeat (first | (refine Blk.newAt _ _ _ ?_; first | rfl | (simp; done)) | refine Blk.alloc ?_ _))
    have bHY : Blk ((((w.alloc (.cells #[hx, hy, hv, gx, gy, gv, lx, ly, lv, px, py, pv, nx, ny, nv, ax, ay, av, cx, cy, cv, dx, dy, dv, .int .i64 cl, .int .i64 bu] 27)).alloc (.cells #[.int .i64 wl, .int .i64 wh, .int .i64 tl, .int .i64 th, .int .i64 el, .int .i64 eh, .int .i64 nl, .int .i64 nh] 36)).alloc (.cells #[.int .i64 0, .int .i64 0] 34)).alloc (.cells #[.int .i64 0, .int .i64 0] 34)) (w.heap.size + 1 + 1) 34 #[.int .i64 0, .int .i64 0] := (by repeat (first | (refine Blk.newAt _ _ _ ?_; first | rfl | (simp; done)) | refine Blk.alloc ?_ _))
    have bHZ : Blk ((((w.alloc (.cells #[hx, hy, hv, gx, gy, gv, lx, ly, lv, px, py, pv, nx, ny, nv, ax, ay, av, cx, cy, cv, dx, dy, dv, .int .i64 cl, .int .i64 bu] 27)).alloc (.cells #[.int .i64 wl, .int .i64 wh, .int .i64 tl, .int .i64 th, .int .i64 el, .int .i64 eh, .int .i64 nl, .int .i64 nh] 36)).alloc (.cells #[.int .i64 0, .int .i64 0] 34)).alloc (.cells #[.int .i64 0, .int .i64 0] 34)) (w.heap.size + 1 + 1 + 1) 34 #[.int .i64 0, .int .i64 0] := (by repeat (first | (refine Blk.newAt _ _ _ ?_; first | rfl | (simp; done)) | refine Blk.alloc ?_ _))
    have bHB : Below w.heap.size w ((((w.alloc (.cells #[hx, hy, hv, gx, gy, gv, lx, ly, lv, px, py, pv, nx, ny, nv, ax, ay, av, cx, cy, cv, dx, dy, dv, .int .i64 cl, .int .i64 bu] 27)).alloc (.cells #[.int .i64 wl, .int .i64 wh, .int .i64 tl, .int .i64 th, .int .i64 el, .int .i64 eh, .int .i64 nl, .int .i64 nh] 36)).alloc (.cells #[.int .i64 0, .int .i64 0] 34)).alloc (.cells #[.int .i64 0, .int .i64 0] 34)) := (by repeat' (first | exact Below.refl _ _ | assumption | refine Below.drew ?_ | refine bdn ?_ _ | refine bal ?_ _ | refine Below.setCell ?_ (by first | (simp; done) | omega | (simp; omega)) _))
    generalize ((((w.alloc (.cells #[hx, hy, hv, gx, gy, gv, lx, ly, lv, px, py, pv, nx, ny, nv, ax, ay, av, cx, cy, cv, dx, dy, dv, .int .i64 cl, .int .i64 bu] 27)).alloc (.cells #[.int .i64 wl, .int .i64 wh, .int .i64 tl, .int .i64 th, .int .i64 el, .int .i64 eh, .int .i64 nl, .int .i64 nh] 36)).alloc (.cells #[.int .i64 0, .int .i64 0] 34)).alloc (.cells #[.int .i64 0, .int .i64 0] 34)) = W at *
    have zW := bHZ.lt
    have HM := Lib.hid bHM
    have HA := Lib.hid bHA
    have HY := Lib.hid bHY
    have HZ := Lib.hid bHZ
    have HB := Lib.hid bHB
    clear bHM bHA bHY bHZ bHB
    go_wp2_with (first | (go_at_call 23; (with_reducible refine (HC.out _ (HR.out.below HB.out)).mono ?_); rintro e w1 ⟨rfl, hb1⟩; have nHM := Lib.hid (HM.out.below hb1); have nHA := Lib.hid (HA.out.below hb1); have nHY := Lib.hid (HY.out.below hb1); have nHZ := Lib.hid (HZ.out.below hb1); have nHB := Lib.hid (bthen HB.out hb1); have zz1 := hb1.size; clear HM HA HY HZ HB hb1; have HM := nHM; have HA := nHA; have HY := nHY; have HZ := nHZ; have HB := nHB; clear nHM nHA nHY nHZ nHB; (try clear zHY); have zHY := HY.out.lt; (try clear cHY0); have cHY0 := HY.out.cell 0; (try clear cHY1); have cHY1 := HY.out.cell 1; (try clear fHY); have fHY := fun i => HY.out.frozen i; (try clear zHZ); have zHZ := HZ.out.lt; (try clear cHZ0); have cHZ0 := HZ.out.cell 0; (try clear cHZ1); have cHZ1 := HZ.out.cell 1; (try clear fHZ); have fHZ := fun i => HZ.out.frozen i))
    have hRr := Lib.hid (fun r : After w1 => (HR.out.below HB.out).below r.below)
    have aHM21 := fun (r : After w1) => (HM.out.below r.below).cell 21
    simp only [List.getElem?_toArray, List.getElem?_cons_succ, List.getElem?_cons_zero] at aHM21
    have aHM22 := fun (r : After w1) => (HM.out.below r.below).cell 22
    simp only [List.getElem?_toArray, List.getElem?_cons_succ, List.getElem?_cons_zero] at aHM22
    have aHM23 := fun (r : After w1) => (HM.out.below r.below).cell 23
    simp only [List.getElem?_toArray, List.getElem?_cons_succ, List.getElem?_cons_zero] at aHM23
    have aHA0 := fun (r : After w1) => (HA.out.below r.below).cell 0
    simp only [List.getElem?_toArray, List.getElem?_cons_succ, List.getElem?_cons_zero] at aHA0
    have aHA1 := fun (r : After w1) => (HA.out.below r.below).cell 1
    simp only [List.getElem?_toArray, List.getElem?_cons_succ, List.getElem?_cons_zero] at aHA1
    refine wp_region_after (by kernel_rfl) (by kernel_rfl) ?_
    repeat (go_big_quiet_step (first | (go_at_call 89; (with_reducible refine qafter (rf_at_c _ _))) | (go_at_call 70; (with_reducible refine qafter (L1.out _ (hRr.out _).d))) | (go_at_call 57; (with_reducible refine qafter_same (HI1.out _))) | (go_at_call 57; (with_reducible refine qafter_same (HI2.out _)))))
    refine wpQuiet_nil ?_
    rintro W3 ⟨r, hr⟩
    have hbN : Below w1.heap.size w1 W3 := by rw [hr]; exact r.below
    clear hr r aHM21 aHM22 aHM23 aHA0 aHA1 hRr cHY0 cHY1 fHY cHZ0 cHZ1 fHZ zHY zHZ
    have nHM := Lib.hid (HM.out.below hbN)
    have nHA := Lib.hid (HA.out.below hbN)
    have nHY := Lib.hid (HY.out.below hbN)
    have nHZ := Lib.hid (HZ.out.below hbN)
    have nHB := Lib.hid (bthen HB.out hbN)
    clear HM HA HY HZ HB hbN
    have HM := nHM
    have HA := nHA
    have HY := nHY
    have HZ := nHZ
    have HB := nHB
    clear nHM nHA nHY nHZ nHB
    have zHY := HY.out.lt
    have cHY0 := HY.out.cell 0
    have cHY1 := HY.out.cell 1
    have fHY := fun i => HY.out.frozen i
    have zHZ := HZ.out.lt
    have cHZ0 := HZ.out.cell 0
    have cHZ1 := HZ.out.cell 1
    have fHZ := fun i => HZ.out.frozen i
    go_wp2
    exact bodyPost_ret (res_cct rfl _ _ _ #[.int .i64 0, .int .i64 0] #[.int .i64 0, .int .i64 0] 2 2 rfl rfl ((((HY.out.set_ 0 _).set_ 1 _).far' (by omega) _).far' (by omega) _) Try.rowSpan rfl ((((HZ.out.far' (by omega) _).far' (by omega) _).set_ 0 _).set_ 1 _) Try.rowSpan rfl) rfl ⟨rfl, (bset (bset (bset (bset HB.out (by omega) _) (by omega) _) (by omega) _) (by omega) _)⟩
  rw [c2] at HI2
  rw [c1, c2, if_neg (by simp)] at e0
  rw [gliX_o e0]
  have n1 := inB_iff.1 c1
  have n2 := inB_iff.1 c2
  have lim := bnd_lim (rotB_d hr) hF
  have B := Lib.hid (fun w1 x y v hT => rf2_bound_c x y v S.d n n wl wh w1 hT hF)
  unfold gliV
  generalize bLo S.d n n wl wh = p0 at *
  generalize bHi S.d n n wl wh = p1 at *
  have m0 := Int.mul_nonneg n1.1 n2.1
  have m1 := Int.mul_le_mul n1.2 n2.2 n2.1 (by omega)
  have F1 := Lib.hid (fun w => rf_up_c h p0 w (by omega) (by omega) (by omega) (by omega))
  have F2 := Lib.hid (fun w => rf_up_c (n * h) p0 w (by omega) (by omega) (by omega) (by omega))
  have C1 := fun w => rf_Valid_c (h / p1) (cdiv h p0) w
  have C2 := fun w => rf_Valid_c (n * h / p1) (cdiv (n * h) p0) w
  generalize vspan (h / p1) (cdiv h p0) = v1 at *
  generalize vspan (n * h / p1) (cdiv (n * h) p0) = v2 at *
  clear e0 hr hF c1 c2
  cases v1
  case false =>
    rw [Bool.false_and, if_neg (by decide), okN_no (by decide), okN_no (by decide), okN_no (by decide), okN_no (by decide)]
    have HC1 := Lib.hid C1
    have HC2 := trivial
    clear C1 C2
    go_enter Try.func36, Try.ntmps36
    go_wp2_with (first | (refine wpl_row rfl 27 _ rfl _ rfl #[hx, hy, hv, gx, gy, gv, lx, ly, lv, px, py, pv, nx, ny, nv, ax, ay, av, cx, cy, cv, dx, dy, dv, .int .i64 cl, .int .i64 bu] 26 ?_ Try.rowRot rfl ?_; (focus exact (by repeat (first | (refine Blk.newAt _ _ _ ?_; first | rfl | (simp; done)) | refine Blk.alloc ?_ _))); simp only [Act.put]) | (refine wpl_row rfl 36 _ rfl _ rfl #[.int .i64 wl, .int .i64 wh, .int .i64 tl, .int .i64 th, .int .i64 el, .int .i64 eh, .int .i64 nl, .int .i64 nh] 8 ?_ Try.rowAir rfl ?_; (focus exact (by repeat (first | (refine Blk.newAt _ _ _ ?_; first | rfl | (simp; done)) | refine Blk.alloc ?_ _))); simp only [Act.put]))
    have bHM : Blk ((((w.alloc (.cells #[hx, hy, hv, gx, gy, gv, lx, ly, lv, px, py, pv, nx, ny, nv, ax, ay, av, cx, cy, cv, dx, dy, dv, .int .i64 cl, .int .i64 bu] 27)).alloc (.cells #[.int .i64 wl, .int .i64 wh, .int .i64 tl, .int .i64 th, .int .i64 el, .int .i64 eh, .int .i64 nl, .int .i64 nh] 36)).alloc (.cells #[.int .i64 0, .int .i64 0] 34)).alloc (.cells #[.int .i64 0, .int .i64 0] 34)) (w.heap.size) 27 #[hx, hy, hv, gx, gy, gv, lx, ly, lv, px, py, pv, nx, ny, nv, ax, ay, av, cx, cy, cv, dx, dy, dv, .int .i64 cl, .int .i64 bu] := (by repeat (first | (refine Blk.newAt _ _ _ ?_; first | rfl | (simp; done)) | refine Blk.alloc ?_ _))
    have bHA : Blk ((((w.alloc (.cells #[hx, hy, hv, gx, gy, gv, lx, ly, lv, px, py, pv, nx, ny, nv, ax, ay, av, cx, cy, cv, dx, dy, dv, .int .i64 cl, .int .i64 bu] 27)).alloc (.cells #[.int .i64 wl, .int .i64 wh, .int .i64 tl, .int .i64 th, .int .i64 el, .int .i64 eh, .int .i64 nl, .int .i64 nh] 36)).alloc (.cells #[.int .i64 0, .int .i64 0] 34)).alloc (.cells #[.int .i64 0, .int .i64 0] 34)) (w.heap.size + 1) 36 #[.int .i64 wl, .int .i64 wh, .int .i64 tl, .int .i64 th, .int .i64 el, .int .i64 eh, .int .i64 nl, .int .i64 nh] := (by repeat (first | (refine Blk.newAt _ _ _ ?_; first | rfl | (simp; done)) | refine Blk.alloc ?_ _))
    have bHY : Blk ((((w.alloc (.cells #[hx, hy, hv, gx, gy, gv, lx, ly, lv, px, py, pv, nx, ny, nv, ax, ay, av, cx, cy, cv, dx, dy, dv, .int .i64 cl, .int .i64 bu] 27)).alloc (.cells #[.int .i64 wl, .int .i64 wh, .int .i64 tl, .int .i64 th, .int .i64 el, .int .i64 eh, .int .i64 nl, .int .i64 nh] 36)).alloc (.cells #[.int .i64 0, .int .i64 0] 34)).alloc (.cells #[.int .i64 0, .int .i64 0] 34)) (w.heap.size + 1 + 1) 34 #[.int .i64 0, .int .i64 0] := (by repeat (first | (refine Blk.newAt _ _ _ ?_; first | rfl | (simp; done)) | refine Blk.alloc ?_ _))
    have bHZ : Blk ((((w.alloc (.cells #[hx, hy, hv, gx, gy, gv, lx, ly, lv, px, py, pv, nx, ny, nv, ax, ay, av, cx, cy, cv, dx, dy, dv, .int .i64 cl, .int .i64 bu] 27)).alloc (.cells #[.int .i64 wl, .int .i64 wh, .int .i64 tl, .int .i64 th, .int .i64 el, .int .i64 eh, .int .i64 nl, .int .i64 nh] 36)).alloc (.cells #[.int .i64 0, .int .i64 0] 34)).alloc (.cells #[.int .i64 0, .int .i64 0] 34)) (w.heap.size + 1 + 1 + 1) 34 #[.int .i64 0, .int .i64 0] := (by repeat (first | (refine Blk.newAt _ _ _ ?_; first | rfl | (simp; done)) | refine Blk.alloc ?_ _))
    have bHB : Below w.heap.size w ((((w.alloc (.cells #[hx, hy, hv, gx, gy, gv, lx, ly, lv, px, py, pv, nx, ny, nv, ax, ay, av, cx, cy, cv, dx, dy, dv, .int .i64 cl, .int .i64 bu] 27)).alloc (.cells #[.int .i64 wl, .int .i64 wh, .int .i64 tl, .int .i64 th, .int .i64 el, .int .i64 eh, .int .i64 nl, .int .i64 nh] 36)).alloc (.cells #[.int .i64 0, .int .i64 0] 34)).alloc (.cells #[.int .i64 0, .int .i64 0] 34)) := (by repeat' (first | exact Below.refl _ _ | assumption | refine Below.drew ?_ | refine bdn ?_ _ | refine bal ?_ _ | refine Below.setCell ?_ (by first | (simp; done) | omega | (simp; omega)) _))
    generalize ((((w.alloc (.cells #[hx, hy, hv, gx, gy, gv, lx, ly, lv, px, py, pv, nx, ny, nv, ax, ay, av, cx, cy, cv, dx, dy, dv, .int .i64 cl, .int .i64 bu] 27)).alloc (.cells #[.int .i64 wl, .int .i64 wh, .int .i64 tl, .int .i64 th, .int .i64 el, .int .i64 eh, .int .i64 nl, .int .i64 nh] 36)).alloc (.cells #[.int .i64 0, .int .i64 0] 34)).alloc (.cells #[.int .i64 0, .int .i64 0] 34)) = W at *
    have zW := bHZ.lt
    have HM := Lib.hid bHM
    have HA := Lib.hid bHA
    have HY := Lib.hid bHY
    have HZ := Lib.hid bHZ
    have HB := Lib.hid bHB
    clear bHM bHA bHY bHZ bHB
    go_wp2_with (first | (go_at_call 23; (with_reducible refine (HC.out _ (HR.out.below HB.out)).mono ?_); rintro e w1 ⟨rfl, hb1⟩; have nHM := Lib.hid (HM.out.below hb1); have nHA := Lib.hid (HA.out.below hb1); have nHY := Lib.hid (HY.out.below hb1); have nHZ := Lib.hid (HZ.out.below hb1); have nHB := Lib.hid (bthen HB.out hb1); have zz1 := hb1.size; clear HM HA HY HZ HB hb1; have HM := nHM; have HA := nHA; have HY := nHY; have HZ := nHZ; have HB := nHB; clear nHM nHA nHY nHZ nHB; (try clear zHY); have zHY := HY.out.lt; (try clear cHY0); have cHY0 := HY.out.cell 0; (try clear cHY1); have cHY1 := HY.out.cell 1; (try clear fHY); have fHY := fun i => HY.out.frozen i; (try clear zHZ); have zHZ := HZ.out.lt; (try clear cHZ0); have cHZ0 := HZ.out.cell 0; (try clear cHZ1); have cHZ1 := HZ.out.cell 1; (try clear fHZ); have fHZ := fun i => HZ.out.frozen i))
    have hRr := Lib.hid (fun r : After w1 => (HR.out.below HB.out).below r.below)
    have aHM21 := fun (r : After w1) => (HM.out.below r.below).cell 21
    simp only [List.getElem?_toArray, List.getElem?_cons_succ, List.getElem?_cons_zero] at aHM21
    have aHM22 := fun (r : After w1) => (HM.out.below r.below).cell 22
    simp only [List.getElem?_toArray, List.getElem?_cons_succ, List.getElem?_cons_zero] at aHM22
    have aHM23 := fun (r : After w1) => (HM.out.below r.below).cell 23
    simp only [List.getElem?_toArray, List.getElem?_cons_succ, List.getElem?_cons_zero] at aHM23
    have aHA0 := fun (r : After w1) => (HA.out.below r.below).cell 0
    simp only [List.getElem?_toArray, List.getElem?_cons_succ, List.getElem?_cons_zero] at aHA0
    have aHA1 := fun (r : After w1) => (HA.out.below r.below).cell 1
    simp only [List.getElem?_toArray, List.getElem?_cons_succ, List.getElem?_cons_zero] at aHA1
    refine wp_region_after (by kernel_rfl) (by kernel_rfl) ?_
    repeat (go_big_quiet_step (first | (go_at_call 89; (with_reducible refine qafter (rf_at_c _ _))) | (go_at_call 70; (with_reducible refine qafter (L1.out _ (hRr.out _).d))) | (go_at_call 57; (with_reducible refine qafter_same (HI1.out _))) | (go_at_call 57; (with_reducible refine qafter_same (HI2.out _)))))
    refine wpQuiet_nil ?_
    rintro W3 ⟨r, hr⟩
    have hbN : Below w1.heap.size w1 W3 := by rw [hr]; exact r.below
    clear hr r aHM21 aHM22 aHM23 aHA0 aHA1 hRr cHY0 cHY1 fHY cHZ0 cHZ1 fHZ zHY zHZ
    have nHM := Lib.hid (HM.out.below hbN)
    have nHA := Lib.hid (HA.out.below hbN)
    have nHY := Lib.hid (HY.out.below hbN)
    have nHZ := Lib.hid (HZ.out.below hbN)
    have nHB := Lib.hid (bthen HB.out hbN)
    clear HM HA HY HZ HB hbN
    have HM := nHM
    have HA := nHA
    have HY := nHY
    have HZ := nHZ
    have HB := nHB
    clear nHM nHA nHY nHZ nHB
    have zHY := HY.out.lt
    have cHY0 := HY.out.cell 0
    have cHY1 := HY.out.cell 1
    have fHY := fun i => HY.out.frozen i
    have zHZ := HZ.out.lt
    have cHZ0 := HZ.out.cell 0
    have cHZ1 := HZ.out.cell 1
    have fHZ := fun i => HZ.out.frozen i
    go_wp2
    have zB := HB.out.size
    have zW := HZ.out.lt
    refine wp_region_spec 8 (rg6R W3.heap.size w.heap.size (.agg #[dx, dy, dv]) n wl wh p0 p1) (fun i => decide (i = 7)) (by kernel_rfl) (by kernel_rfl) rg6R_below ?hop1 ?htail1
    case hop1 =>
      simp only [List.take_succ_cons, List.take_zero, allOps]
      refine ⟨?_, ?_, ?_, ?_, ?_, ?_, ?_, ?_, trivial⟩
      all_goals intro u A w1 hA hb hd
      all_goals simp only [putAll, dstOf, List.getElem?_toArray, List.getElem?_cons_succ, List.getElem?_cons_zero, Option.bind_some, Option.bind, Act.put, List.setIfInBounds_toArray, List.set_cons_succ, List.set_cons_zero] at hA; subst hA
      all_goals have HB1 := Lib.hid hb
      · clear hb hd
        go_wp2
        exact ⟨_, rfl, Below.refl _ _, rfl, fun h => absurd h (by decide)⟩
      · have d0 : u 0 = _ := hd 0 (by omega) (by kernel_rfl)
        clear hb hd
        rw [d0]
        clear d0
        have c0 := (HM.out.below HB1.out).cell 21
        have c1 := (HM.out.below HB1.out).cell 22
        have c2 := (HM.out.below HB1.out).cell 23
        go_wp2
        exact ⟨_, rfl, Below.refl _ _, rfl, fun h => absurd h (by decide)⟩
      · clear hb hd
        go_wp2
        exact ⟨_, rfl, Below.refl _ _, rfl, fun h => absurd h (by decide)⟩
      · have d2 : u 2 = _ := hd 2 (by omega) (by kernel_rfl)
        clear hb hd
        rw [d2]
        clear d2
        go_wp2_with (go_at_call 89; (with_reducible refine (rf_at_c _ _).mono ?_); rintro e w2 ⟨rfl, hb2⟩)
        exact ⟨_, rfl, hb2, rfl, fun h => absurd h (by decide)⟩
      · clear hb hd
        go_wp2
        exact ⟨_, rfl, Below.refl _ _, rfl, fun h => absurd h (by decide)⟩
      · have d4 : u 4 = _ := hd 4 (by omega) (by kernel_rfl)
        clear hb hd
        rw [d4]
        clear d4
        have c0 := (HA.out.below HB1.out).cell 0
        have c1 := (HA.out.below HB1.out).cell 1
        go_wp2
        exact ⟨_, rfl, Below.refl _ _, rfl, fun h => absurd h (by decide)⟩
      · have d1 : u 1 = _ := hd 1 (by omega) (by kernel_rfl)
        have d3 : u 3 = _ := hd 3 (by omega) (by kernel_rfl)
        have d5 : u 5 = _ := hd 5 (by omega) (by kernel_rfl)
        clear hb hd
        rw [d1, d3, d5]
        clear d1 d3 d5
        go_wp2_with (go_at_call 80; (with_reducible refine (B.out _ _ _ _ ((HR.out.d.below HB.out).below HB1.out)).mono ?_); rintro e w2 ⟨rfl, hb2⟩)
        exact ⟨_, rfl, hb2, rfl, fun h => absurd h (by decide)⟩
      · have zz := hb.size
        clear hb hd
        go_wp2
        exact ⟨_, rfl, bal (Below.refl _ _) _, ⟨_, rfl, by omega, Blk.new _ _ _⟩, fun _ => ⟨_, rfl, Nat.le_refl _, by simp⟩⟩
    case htail1 =>
      intro u A w1 hA hb hd hf
      simp only [putAll, dstOf, List.getElem?_toArray, List.getElem?_cons_succ, List.getElem?_cons_zero, Option.bind_some, Option.bind, Act.put, List.setIfInBounds_toArray, List.set_cons_succ, List.set_cons_zero] at hA; subst hA
      have e0 : u 0 = _ := hd 0 (by omega)
      have e1 : u 1 = _ := hd 1 (by omega)
      have e2 : u 2 = _ := hd 2 (by omega)
      have e3 : u 3 = _ := hd 3 (by omega)
      have e4 : u 4 = _ := hd 4 (by omega)
      have e5 : u 5 = _ := hd 5 (by omega)
      have e6 : u 6 = _ := hd 6 (by omega)
      obtain ⟨g7, e7, z7, b7⟩ := hd 7 (by omega)
      first | rw [e0, e1, e2, e3, e4, e5, e6, e7] | simp only [e0, e1, e2, e3, e4, e5, e6, e7]
      clear e0 e1 e2 e3 e4 e5 e6 e7
      clear hd hf
      have HG0 := Lib.hid b7
      clear cHY0 cHY1 fHY cHZ0 cHZ1 fHZ zHY zHZ
      have zz := hb.size
      have nHY := Lib.hid (HY.out.below hb)
      have nHZ := Lib.hid (HZ.out.below hb)
      have nHB := Lib.hid (bthen HB.out hb)
      clear HY HZ HB hb
      have HY := nHY
      have HZ := nHZ
      have HB := nHB
      clear nHY nHZ nHB
      have x0 := b7.cell 0
      have x1 := b7.cell 1
      have x2 := fun i => b7.frozen i
      clear b7
      go_wp2
      have HG := Lib.hid ((HG0.out.set_ 0 (.int .i64 p0)).set_ 1 (.int .i64 p1))
      have nHY := Lib.hid ((HY.out.far' (f := g7) (by omega) (i := 0) (.int .i64 p0)).far' (f := g7) (by omega) (i := 1) (.int .i64 p1))
      have nHZ := Lib.hid ((HZ.out.far' (f := g7) (by omega) (i := 0) (.int .i64 p0)).far' (f := g7) (by omega) (i := 1) (.int .i64 p1))
      have nHB := Lib.hid (bset (bset HB.out (g := g7) (by omega) (i := 0) (.int .i64 p0)) (g := g7) (by omega) (i := 1) (.int .i64 p1))
      clear x0 x1 x2 HG0 HY HZ HB
      have HY := nHY
      have HZ := nHZ
      have HB := nHB
      clear nHY nHZ nHB
      generalize (w1.setCell ⟨g7, 0, none⟩ (.int .i64 p0)).setCell ⟨g7, 1, none⟩ (.int .i64 p1) = W5 at *
      have zG := HG.out.lt
      refine wp_region_spec 10 (rg7R W5.heap.size g7 h p0 p1 (h / p1) (cdiv h p0)) (fun i => decide (i = 9)) (by kernel_rfl) (by kernel_rfl) rg7R_below ?hop2 ?htail2
      case hop2 =>
        simp only [List.take_succ_cons, List.take_zero, allOps]
        refine ⟨?_, ?_, ?_, ?_, ?_, ?_, ?_, ?_, ?_, ?_, trivial⟩
        all_goals intro u A w1 hA hb hd
        all_goals simp only [putAll, dstOf, List.getElem?_toArray, List.getElem?_cons_succ, List.getElem?_cons_zero, Option.bind_some, Option.bind, Act.put, List.setIfInBounds_toArray, List.set_cons_succ, List.set_cons_zero] at hA; subst hA
        all_goals have HB1 := Lib.hid hb
        · clear hb hd
          go_wp2
          exact ⟨_, rfl, Below.refl _ _, rfl, fun h => absurd h (by decide)⟩
        · clear hb hd
          go_wp2
          exact ⟨_, rfl, Below.refl _ _, rfl, fun h => absurd h (by decide)⟩
        · have d1 : u 1 = _ := hd 1 (by omega) (by kernel_rfl)
          clear hb hd
          rw [d1]
          clear d1
          have c0 := (HG.out.below HB1.out).cell 1
          go_wp2
          exact ⟨_, rfl, Below.refl _ _, rfl, fun h => absurd h (by decide)⟩
        · have d0 : u 0 = _ := hd 0 (by omega) (by kernel_rfl)
          have d2 : u 2 = _ := hd 2 (by omega) (by kernel_rfl)
          clear hb hd
          rw [d0, d2]
          clear d0 d2
          go_wp2
          exact ⟨_, rfl, Below.refl _ _, rfl, fun h => absurd h (by decide)⟩
        · clear hb hd
          go_wp2
          exact ⟨_, rfl, Below.refl _ _, rfl, fun h => absurd h (by decide)⟩
        · clear hb hd
          go_wp2
          exact ⟨_, rfl, Below.refl _ _, rfl, fun h => absurd h (by decide)⟩
        · have d5 : u 5 = _ := hd 5 (by omega) (by kernel_rfl)
          clear hb hd
          rw [d5]
          clear d5
          have c0 := (HG.out.below HB1.out).cell 0
          go_wp2
          exact ⟨_, rfl, Below.refl _ _, rfl, fun h => absurd h (by decide)⟩
        · have d4 : u 4 = _ := hd 4 (by omega) (by kernel_rfl)
          have d6 : u 6 = _ := hd 6 (by omega) (by kernel_rfl)
          clear hb hd
          rw [d4, d6]
          clear d4 d6
          go_wp2_with (go_at_call 90; (with_reducible refine (F1.out _).mono ?_); rintro e w2 ⟨rfl, rfl⟩)
          exact ⟨_, rfl, Below.refl _ _, rfl, fun h => absurd h (by decide)⟩
        · have d3 : u 3 = _ := hd 3 (by omega) (by kernel_rfl)
          have d7 : u 7 = _ := hd 7 (by omega) (by kernel_rfl)
          clear hb hd
          rw [d3, d7]
          clear d3 d7
          go_wp2
          exact ⟨_, rfl, Below.refl _ _, rfl, fun h => absurd h (by decide)⟩
        · have zz := hb.size
          clear hb hd
          go_wp2
          exact ⟨_, rfl, bal (Below.refl _ _) _, ⟨_, rfl, by omega, Blk.new _ _ _⟩, fun _ => ⟨_, rfl, Nat.le_refl _, by simp⟩⟩
      case htail2 =>
        intro u A w1 hA hb hd hf
        simp only [putAll, dstOf, List.getElem?_toArray, List.getElem?_cons_succ, List.getElem?_cons_zero, Option.bind_some, Option.bind, Act.put, List.setIfInBounds_toArray, List.set_cons_succ, List.set_cons_zero] at hA; subst hA
        have e0 : u 0 = _ := hd 0 (by omega)
        have e1 : u 1 = _ := hd 1 (by omega)
        have e2 : u 2 = _ := hd 2 (by omega)
        have e3 : u 3 = _ := hd 3 (by omega)
        have e4 : u 4 = _ := hd 4 (by omega)
        have e5 : u 5 = _ := hd 5 (by omega)
        have e6 : u 6 = _ := hd 6 (by omega)
        have e7 : u 7 = _ := hd 7 (by omega)
        have e8 : u 8 = _ := hd 8 (by omega)
        obtain ⟨g9, e9, z9, b9⟩ := hd 9 (by omega)
        first | rw [e0, e1, e2, e3, e4, e5, e6, e7, e8, e9] | simp only [e0, e1, e2, e3, e4, e5, e6, e7, e8, e9]
        clear e0 e1 e2 e3 e4 e5 e6 e7 e8 e9
        clear hd hf
        have HT0 := Lib.hid b9
        have zz := hb.size
        have nHY := Lib.hid (HY.out.below hb)
        have nHZ := Lib.hid (HZ.out.below hb)
        have nHG := Lib.hid (HG.out.below hb)
        have nHB := Lib.hid (bthen HB.out hb)
        clear HY HZ HG HB hb
        have HY := nHY
        have HZ := nHZ
        have HG := nHG
        have HB := nHB
        clear nHY nHZ nHG nHB
        have x0 := b9.cell 0
        have x1 := b9.cell 1
        have x2 := fun i => b9.frozen i
        clear b9
        go_wp2_with fail
        have HT := Lib.hid ((HT0.out.set_ 0 (.int .i64 (h / p1))).set_ 1 (.int .i64 (cdiv h p0)))
        have nHY := Lib.hid ((HY.out.far' (f := g9) (by omega) (i := 0) (.int .i64 (h / p1))).far' (f := g9) (by omega) (i := 1) (.int .i64 (cdiv h p0)))
        have nHZ := Lib.hid ((HZ.out.far' (f := g9) (by omega) (i := 0) (.int .i64 (h / p1))).far' (f := g9) (by omega) (i := 1) (.int .i64 (cdiv h p0)))
        have nHG := Lib.hid ((HG.out.far' (f := g9) (by omega) (i := 0) (.int .i64 (h / p1))).far' (f := g9) (by omega) (i := 1) (.int .i64 (cdiv h p0)))
        have nHB := Lib.hid (bset (bset HB.out (g := g9) (by omega) (i := 0) (.int .i64 (h / p1))) (g := g9) (by omega) (i := 1) (.int .i64 (cdiv h p0)))
        clear x0 x1 x2 HT0 HY HZ HG HB
        have HY := nHY
        have HZ := nHZ
        have HG := nHG
        have HB := nHB
        clear nHY nHZ nHG nHB
        generalize (w1.setCell ⟨g9, 0, none⟩ (.int .i64 (h / p1))).setCell ⟨g9, 1, none⟩ (.int .i64 (cdiv h p0)) = W6 at *
        have zT := HT.out.lt
        refine wp_region_spec 14 (rg8R W6.heap.size g7 n h (n * h) p0 p1 (n * h / p1) (cdiv (n * h) p0)) (fun i => decide (i = 13)) (by kernel_rfl) (by kernel_rfl) rg8R_below ?hop3 ?htail3
        case hop3 =>
          simp only [List.take_succ_cons, List.take_zero, allOps]
          refine ⟨?_, ?_, ?_, ?_, ?_, ?_, ?_, ?_, ?_, ?_, ?_, ?_, ?_, ?_, trivial⟩
          all_goals intro u A w1 hA hb hd
          all_goals simp only [putAll, dstOf, List.getElem?_toArray, List.getElem?_cons_succ, List.getElem?_cons_zero, Option.bind_some, Option.bind, Act.put, List.setIfInBounds_toArray, List.set_cons_succ, List.set_cons_zero] at hA; subst hA
          all_goals have HB1 := Lib.hid hb
          · clear hb hd
            go_wp2
            exact ⟨_, rfl, Below.refl _ _, rfl, fun h => absurd h (by decide)⟩
          · clear hb hd
            go_wp2
            exact ⟨_, rfl, Below.refl _ _, rfl, fun h => absurd h (by decide)⟩
          · have d0 : u 0 = _ := hd 0 (by omega) (by kernel_rfl)
            have d1 : u 1 = _ := hd 1 (by omega) (by kernel_rfl)
            clear hb hd
            rw [d0, d1]
            clear d0 d1
            go_wp2
            exact ⟨_, rfl, Below.refl _ _, rfl, fun h => absurd h (by decide)⟩
          · clear hb hd
            go_wp2
            exact ⟨_, rfl, Below.refl _ _, rfl, fun h => absurd h (by decide)⟩
          · have d3 : u 3 = _ := hd 3 (by omega) (by kernel_rfl)
            clear hb hd
            rw [d3]
            clear d3
            have c0 := (HG.out.below HB1.out).cell 1
            go_wp2
            exact ⟨_, rfl, Below.refl _ _, rfl, fun h => absurd h (by decide)⟩
          · have d2 : u 2 = _ := hd 2 (by omega) (by kernel_rfl)
            have d4 : u 4 = _ := hd 4 (by omega) (by kernel_rfl)
            clear hb hd
            rw [d2, d4]
            clear d2 d4
            go_wp2
            exact ⟨_, rfl, Below.refl _ _, rfl, fun h => absurd h (by decide)⟩
          · clear hb hd
            go_wp2
            exact ⟨_, rfl, Below.refl _ _, rfl, fun h => absurd h (by decide)⟩
          · clear hb hd
            go_wp2
            exact ⟨_, rfl, Below.refl _ _, rfl, fun h => absurd h (by decide)⟩
          · have d6 : u 6 = _ := hd 6 (by omega) (by kernel_rfl)
            have d7 : u 7 = _ := hd 7 (by omega) (by kernel_rfl)
            clear hb hd
            rw [d6, d7]
            clear d6 d7
            go_wp2
            exact ⟨_, rfl, Below.refl _ _, rfl, fun h => absurd h (by decide)⟩
          · clear hb hd
            go_wp2
            exact ⟨_, rfl, Below.refl _ _, rfl, fun h => absurd h (by decide)⟩
          · have d9 : u 9 = _ := hd 9 (by omega) (by kernel_rfl)
            clear hb hd
            rw [d9]
            clear d9
            have c0 := (HG.out.below HB1.out).cell 0
            go_wp2
            exact ⟨_, rfl, Below.refl _ _, rfl, fun h => absurd h (by decide)⟩
          · have d8 : u 8 = _ := hd 8 (by omega) (by kernel_rfl)
            have d10 : u 10 = _ := hd 10 (by omega) (by kernel_rfl)
            clear hb hd
            rw [d8, d10]
            clear d8 d10
            go_wp2_with (go_at_call 90; (with_reducible refine (F2.out _).mono ?_); rintro e w2 ⟨rfl, rfl⟩)
            exact ⟨_, rfl, Below.refl _ _, rfl, fun h => absurd h (by decide)⟩
          · have d5 : u 5 = _ := hd 5 (by omega) (by kernel_rfl)
            have d11 : u 11 = _ := hd 11 (by omega) (by kernel_rfl)
            clear hb hd
            rw [d5, d11]
            clear d5 d11
            go_wp2
            exact ⟨_, rfl, Below.refl _ _, rfl, fun h => absurd h (by decide)⟩
          · have zz := hb.size
            clear hb hd
            go_wp2
            exact ⟨_, rfl, bal (Below.refl _ _) _, ⟨_, rfl, by omega, Blk.new _ _ _⟩, fun _ => ⟨_, rfl, Nat.le_refl _, by simp⟩⟩
        case htail3 =>
          intro u A w1 hA hb hd hf
          simp only [putAll, dstOf, List.getElem?_toArray, List.getElem?_cons_succ, List.getElem?_cons_zero, Option.bind_some, Option.bind, Act.put, List.setIfInBounds_toArray, List.set_cons_succ, List.set_cons_zero] at hA; subst hA
          have e0 : u 0 = _ := hd 0 (by omega)
          have e1 : u 1 = _ := hd 1 (by omega)
          have e2 : u 2 = _ := hd 2 (by omega)
          have e3 : u 3 = _ := hd 3 (by omega)
          have e4 : u 4 = _ := hd 4 (by omega)
          have e5 : u 5 = _ := hd 5 (by omega)
          have e6 : u 6 = _ := hd 6 (by omega)
          have e7 : u 7 = _ := hd 7 (by omega)
          have e8 : u 8 = _ := hd 8 (by omega)
          have e9 : u 9 = _ := hd 9 (by omega)
          have e10 : u 10 = _ := hd 10 (by omega)
          have e11 : u 11 = _ := hd 11 (by omega)
          have e12 : u 12 = _ := hd 12 (by omega)
          obtain ⟨g13, e13, z13, b13⟩ := hd 13 (by omega)
          first | rw [e0, e1, e2, e3, e4, e5, e6, e7, e8, e9, e10, e11, e12, e13] | simp only [e0, e1, e2, e3, e4, e5, e6, e7, e8, e9, e10, e11, e12, e13]
          clear e0 e1 e2 e3 e4 e5 e6 e7 e8 e9 e10 e11 e12 e13
          clear hd hf
          have HU0 := Lib.hid b13
          have zz := hb.size
          have nHY := Lib.hid (HY.out.below hb)
          have nHZ := Lib.hid (HZ.out.below hb)
          have nHT := Lib.hid (HT.out.below hb)
          have nHB := Lib.hid (bthen HB.out hb)
          clear HY HZ HT HB hb
          have HY := nHY
          have HZ := nHZ
          have HT := nHT
          have HB := nHB
          clear nHY nHZ nHT nHB
          have x0 := b13.cell 0
          have x1 := b13.cell 1
          have x2 := fun i => b13.frozen i
          clear b13
          have zHT := HT.out.lt
          have cHT0 := HT.out.cell 0
          have cHT1 := HT.out.cell 1
          have hq1 : ¬ (g9 = g13) := by omega
          have hq2 : ¬ (g13 = g9) := by omega
          go_wp2_with fail
          have HU := Lib.hid ((HU0.out.set_ 0 (.int .i64 (n * h / p1))).set_ 1 (.int .i64 (cdiv (n * h) p0)))
          have nHY := Lib.hid ((HY.out.far' (f := g13) (by omega) (i := 0) (.int .i64 (n * h / p1))).far' (f := g13) (by omega) (i := 1) (.int .i64 (cdiv (n * h) p0)))
          have nHZ := Lib.hid ((HZ.out.far' (f := g13) (by omega) (i := 0) (.int .i64 (n * h / p1))).far' (f := g13) (by omega) (i := 1) (.int .i64 (cdiv (n * h) p0)))
          have nHT := Lib.hid ((HT.out.far' (f := g13) (by omega) (i := 0) (.int .i64 (n * h / p1))).far' (f := g13) (by omega) (i := 1) (.int .i64 (cdiv (n * h) p0)))
          have nHB := Lib.hid (bset (bset HB.out (g := g13) (by omega) (i := 0) (.int .i64 (n * h / p1))) (g := g13) (by omega) (i := 1) (.int .i64 (cdiv (n * h) p0)))
          clear x0 x1 x2 HU0 HY HZ HT HB cHT0 cHT1 zHT hq1 hq2
          have HY := nHY
          have HZ := nHZ
          have HT := nHT
          have HB := nHB
          clear nHY nHZ nHT nHB
          generalize (w1.setCell ⟨g13, 0, none⟩ (.int .i64 (n * h / p1))).setCell ⟨g13, 1, none⟩ (.int .i64 (cdiv (n * h) p0)) = W7 at *
          have zHY := HY.out.lt
          have cHY0 := HY.out.cell 0
          have cHY1 := HY.out.cell 1
          have fHY := fun i => HY.out.frozen i
          have zHZ := HZ.out.lt
          have cHZ0 := HZ.out.cell 0
          have cHZ1 := HZ.out.cell 1
          have fHZ := fun i => HZ.out.frozen i
          have zHT := HT.out.lt
          have cHT0 := HT.out.cell 0
          have cHT1 := HT.out.cell 1
          have zHU := HU.out.lt
          have cHU0 := HU.out.cell 0
          have cHU1 := HU.out.cell 1
          go_wp2_with (first | (go_at_call 24; (with_reducible refine (HC1.out _).mono ?_); rintro e w1 ⟨rfl, hb1⟩; have nHY := Lib.hid (HY.out.below hb1); have nHZ := Lib.hid (HZ.out.below hb1); have nHT := Lib.hid (HT.out.below hb1); have nHU := Lib.hid (HU.out.below hb1); have nHB := Lib.hid (bthen HB.out hb1); have zz1 := hb1.size; clear HY HZ HT HU HB hb1; have HY := nHY; have HZ := nHZ; have HT := nHT; have HU := nHU; have HB := nHB; clear nHY nHZ nHT nHU nHB; (try clear zHT); have zHT := HT.out.lt; (try clear cHT0); have cHT0 := HT.out.cell 0; (try clear cHT1); have cHT1 := HT.out.cell 1; (try clear zHU); have zHU := HU.out.lt; (try clear cHU0); have cHU0 := HU.out.cell 0; (try clear cHU1); have cHU1 := HU.out.cell 1; (try clear zHY); have zHY := HY.out.lt; (try clear cHY0); have cHY0 := HY.out.cell 0; (try clear cHY1); have cHY1 := HY.out.cell 1; (try clear fHY); have fHY := fun i => HY.out.frozen i; (try clear zHZ); have zHZ := HZ.out.lt; (try clear cHZ0); have cHZ0 := HZ.out.cell 0; (try clear cHZ1); have cHZ1 := HZ.out.cell 1; (try clear fHZ); have fHZ := fun i => HZ.out.frozen i) | (go_at_call 24; (with_reducible refine (HC2.out _).mono ?_); rintro e w1 ⟨rfl, hb1⟩; have nHY := Lib.hid (HY.out.below hb1); have nHZ := Lib.hid (HZ.out.below hb1); have nHT := Lib.hid (HT.out.below hb1); have nHU := Lib.hid (HU.out.below hb1); have nHB := Lib.hid (bthen HB.out hb1); have zz1 := hb1.size; clear HY HZ HT HU HB hb1; have HY := nHY; have HZ := nHZ; have HT := nHT; have HU := nHU; have HB := nHB; clear nHY nHZ nHT nHU nHB; (try clear zHT); have zHT := HT.out.lt; (try clear cHT0); have cHT0 := HT.out.cell 0; (try clear cHT1); have cHT1 := HT.out.cell 1; (try clear zHU); have zHU := HU.out.lt; (try clear cHU0); have cHU0 := HU.out.cell 0; (try clear cHU1); have cHU1 := HU.out.cell 1; (try clear zHY); have zHY := HY.out.lt; (try clear cHY0); have cHY0 := HY.out.cell 0; (try clear cHY1); have cHY1 := HY.out.cell 1; (try clear fHY); have fHY := fun i => HY.out.frozen i; (try clear zHZ); have zHZ := HZ.out.lt; (try clear cHZ0); have cHZ0 := HZ.out.cell 0; (try clear cHZ1); have cHZ1 := HZ.out.cell 1; (try clear fHZ); have fHZ := fun i => HZ.out.frozen i))
          exact bodyPost_ret (res_cct rfl _ _ _ #[.int .i64 0, .int .i64 0] #[.int .i64 0, .int .i64 0] 2 2 rfl rfl ((((HY.out.set_ 0 _).set_ 1 _).far' (by omega) _).far' (by omega) _) Try.rowSpan rfl ((((HZ.out.far' (by omega) _).far' (by omega) _).set_ 0 _).set_ 1 _) Try.rowSpan rfl) rfl ⟨rfl, (bset (bset (bset (bset HB.out (by omega) _) (by omega) _) (by omega) _) (by omega) _)⟩
  cases v2
  case false =>
    rw [Bool.true_and, if_neg (by decide), okN_no (by decide), okN_no (by decide), okN_no (by decide), okN_no (by decide)]
    have HC1 := Lib.hid C1
    have HC2 := Lib.hid C2
    clear C1 C2
    go_enter Try.func36, Try.ntmps36
    go_wp2_with (first | (refine wpl_row rfl 27 _ rfl _ rfl #[hx, hy, hv, gx, gy, gv, lx, ly, lv, px, py, pv, nx, ny, nv, ax, ay, av, cx, cy, cv, dx, dy, dv, .int .i64 cl, .int .i64 bu] 26 ?_ Try.rowRot rfl ?_; (focus exact (by repeat (first | (refine Blk.newAt _ _ _ ?_; first | rfl | (simp; done)) | refine Blk.alloc ?_ _))); simp only [Act.put]) | (refine wpl_row rfl 36 _ rfl _ rfl #[.int .i64 wl, .int .i64 wh, .int .i64 tl, .int .i64 th, .int .i64 el, .int .i64 eh, .int .i64 nl, .int .i64 nh] 8 ?_ Try.rowAir rfl ?_; (focus exact (by repeat (first | (refine Blk.newAt _ _ _ ?_; first | rfl | (simp; done)) | refine Blk.alloc ?_ _))); simp only [Act.put]))
    have bHM : Blk ((((w.alloc (.cells #[hx, hy, hv, gx, gy, gv, lx, ly, lv, px, py, pv, nx, ny, nv, ax, ay, av, cx, cy, cv, dx, dy, dv, .int .i64 cl, .int .i64 bu] 27)).alloc (.cells #[.int .i64 wl, .int .i64 wh, .int .i64 tl, .int .i64 th, .int .i64 el, .int .i64 eh, .int .i64 nl, .int .i64 nh] 36)).alloc (.cells #[.int .i64 0, .int .i64 0] 34)).alloc (.cells #[.int .i64 0, .int .i64 0] 34)) (w.heap.size) 27 #[hx, hy, hv, gx, gy, gv, lx, ly, lv, px, py, pv, nx, ny, nv, ax, ay, av, cx, cy, cv, dx, dy, dv, .int .i64 cl, .int .i64 bu] := (by repeat (first | (refine Blk.newAt _ _ _ ?_; first | rfl | (simp; done)) | refine Blk.alloc ?_ _))
    have bHA : Blk ((((w.alloc (.cells #[hx, hy, hv, gx, gy, gv, lx, ly, lv, px, py, pv, nx, ny, nv, ax, ay, av, cx, cy, cv, dx, dy, dv, .int .i64 cl, .int .i64 bu] 27)).alloc (.cells #[.int .i64 wl, .int .i64 wh, .int .i64 tl, .int .i64 th, .int .i64 el, .int .i64 eh, .int .i64 nl, .int .i64 nh] 36)).alloc (.cells #[.int .i64 0, .int .i64 0] 34)).alloc (.cells #[.int .i64 0, .int .i64 0] 34)) (w.heap.size + 1) 36 #[.int .i64 wl, .int .i64 wh, .int .i64 tl, .int .i64 th, .int .i64 el, .int .i64 eh, .int .i64 nl, .int .i64 nh] := (by repeat (first | (refine Blk.newAt _ _ _ ?_; first | rfl | (simp; done)) | refine Blk.alloc ?_ _))
    have bHY : Blk ((((w.alloc (.cells #[hx, hy, hv, gx, gy, gv, lx, ly, lv, px, py, pv, nx, ny, nv, ax, ay, av, cx, cy, cv, dx, dy, dv, .int .i64 cl, .int .i64 bu] 27)).alloc (.cells #[.int .i64 wl, .int .i64 wh, .int .i64 tl, .int .i64 th, .int .i64 el, .int .i64 eh, .int .i64 nl, .int .i64 nh] 36)).alloc (.cells #[.int .i64 0, .int .i64 0] 34)).alloc (.cells #[.int .i64 0, .int .i64 0] 34)) (w.heap.size + 1 + 1) 34 #[.int .i64 0, .int .i64 0] := (by repeat (first | (refine Blk.newAt _ _ _ ?_; first | rfl | (simp; done)) | refine Blk.alloc ?_ _))
    have bHZ : Blk ((((w.alloc (.cells #[hx, hy, hv, gx, gy, gv, lx, ly, lv, px, py, pv, nx, ny, nv, ax, ay, av, cx, cy, cv, dx, dy, dv, .int .i64 cl, .int .i64 bu] 27)).alloc (.cells #[.int .i64 wl, .int .i64 wh, .int .i64 tl, .int .i64 th, .int .i64 el, .int .i64 eh, .int .i64 nl, .int .i64 nh] 36)).alloc (.cells #[.int .i64 0, .int .i64 0] 34)).alloc (.cells #[.int .i64 0, .int .i64 0] 34)) (w.heap.size + 1 + 1 + 1) 34 #[.int .i64 0, .int .i64 0] := (by repeat (first | (refine Blk.newAt _ _ _ ?_; first | rfl | (simp; done)) | refine Blk.alloc ?_ _))
    have bHB : Below w.heap.size w ((((w.alloc (.cells #[hx, hy, hv, gx, gy, gv, lx, ly, lv, px, py, pv, nx, ny, nv, ax, ay, av, cx, cy, cv, dx, dy, dv, .int .i64 cl, .int .i64 bu] 27)).alloc (.cells #[.int .i64 wl, .int .i64 wh, .int .i64 tl, .int .i64 th, .int .i64 el, .int .i64 eh, .int .i64 nl, .int .i64 nh] 36)).alloc (.cells #[.int .i64 0, .int .i64 0] 34)).alloc (.cells #[.int .i64 0, .int .i64 0] 34)) := (by repeat' (first | exact Below.refl _ _ | assumption | refine Below.drew ?_ | refine bdn ?_ _ | refine bal ?_ _ | refine Below.setCell ?_ (by first | (simp; done) | omega | (simp; omega)) _))
    generalize ((((w.alloc (.cells #[hx, hy, hv, gx, gy, gv, lx, ly, lv, px, py, pv, nx, ny, nv, ax, ay, av, cx, cy, cv, dx, dy, dv, .int .i64 cl, .int .i64 bu] 27)).alloc (.cells #[.int .i64 wl, .int .i64 wh, .int .i64 tl, .int .i64 th, .int .i64 el, .int .i64 eh, .int .i64 nl, .int .i64 nh] 36)).alloc (.cells #[.int .i64 0, .int .i64 0] 34)).alloc (.cells #[.int .i64 0, .int .i64 0] 34)) = W at *
    have zW := bHZ.lt
    have HM := Lib.hid bHM
    have HA := Lib.hid bHA
    have HY := Lib.hid bHY
    have HZ := Lib.hid bHZ
    have HB := Lib.hid bHB
    clear bHM bHA bHY bHZ bHB
    go_wp2_with (first | (go_at_call 23; (with_reducible refine (HC.out _ (HR.out.below HB.out)).mono ?_); rintro e w1 ⟨rfl, hb1⟩; have nHM := Lib.hid (HM.out.below hb1); have nHA := Lib.hid (HA.out.below hb1); have nHY := Lib.hid (HY.out.below hb1); have nHZ := Lib.hid (HZ.out.below hb1); have nHB := Lib.hid (bthen HB.out hb1); have zz1 := hb1.size; clear HM HA HY HZ HB hb1; have HM := nHM; have HA := nHA; have HY := nHY; have HZ := nHZ; have HB := nHB; clear nHM nHA nHY nHZ nHB; (try clear zHY); have zHY := HY.out.lt; (try clear cHY0); have cHY0 := HY.out.cell 0; (try clear cHY1); have cHY1 := HY.out.cell 1; (try clear fHY); have fHY := fun i => HY.out.frozen i; (try clear zHZ); have zHZ := HZ.out.lt; (try clear cHZ0); have cHZ0 := HZ.out.cell 0; (try clear cHZ1); have cHZ1 := HZ.out.cell 1; (try clear fHZ); have fHZ := fun i => HZ.out.frozen i))
    have hRr := Lib.hid (fun r : After w1 => (HR.out.below HB.out).below r.below)
    have aHM21 := fun (r : After w1) => (HM.out.below r.below).cell 21
    simp only [List.getElem?_toArray, List.getElem?_cons_succ, List.getElem?_cons_zero] at aHM21
    have aHM22 := fun (r : After w1) => (HM.out.below r.below).cell 22
    simp only [List.getElem?_toArray, List.getElem?_cons_succ, List.getElem?_cons_zero] at aHM22
    have aHM23 := fun (r : After w1) => (HM.out.below r.below).cell 23
    simp only [List.getElem?_toArray, List.getElem?_cons_succ, List.getElem?_cons_zero] at aHM23
    have aHA0 := fun (r : After w1) => (HA.out.below r.below).cell 0
    simp only [List.getElem?_toArray, List.getElem?_cons_succ, List.getElem?_cons_zero] at aHA0
    have aHA1 := fun (r : After w1) => (HA.out.below r.below).cell 1
    simp only [List.getElem?_toArray, List.getElem?_cons_succ, List.getElem?_cons_zero] at aHA1
    refine wp_region_after (by kernel_rfl) (by kernel_rfl) ?_
    repeat (go_big_quiet_step (first | (go_at_call 89; (with_reducible refine qafter (rf_at_c _ _))) | (go_at_call 70; (with_reducible refine qafter (L1.out _ (hRr.out _).d))) | (go_at_call 57; (with_reducible refine qafter_same (HI1.out _))) | (go_at_call 57; (with_reducible refine qafter_same (HI2.out _)))))
    refine wpQuiet_nil ?_
    rintro W3 ⟨r, hr⟩
    have hbN : Below w1.heap.size w1 W3 := by rw [hr]; exact r.below
    clear hr r aHM21 aHM22 aHM23 aHA0 aHA1 hRr cHY0 cHY1 fHY cHZ0 cHZ1 fHZ zHY zHZ
    have nHM := Lib.hid (HM.out.below hbN)
    have nHA := Lib.hid (HA.out.below hbN)
    have nHY := Lib.hid (HY.out.below hbN)
    have nHZ := Lib.hid (HZ.out.below hbN)
    have nHB := Lib.hid (bthen HB.out hbN)
    clear HM HA HY HZ HB hbN
    have HM := nHM
    have HA := nHA
    have HY := nHY
    have HZ := nHZ
    have HB := nHB
    clear nHM nHA nHY nHZ nHB
    have zHY := HY.out.lt
    have cHY0 := HY.out.cell 0
    have cHY1 := HY.out.cell 1
    have fHY := fun i => HY.out.frozen i
    have zHZ := HZ.out.lt
    have cHZ0 := HZ.out.cell 0
    have cHZ1 := HZ.out.cell 1
    have fHZ := fun i => HZ.out.frozen i
    go_wp2
    have zB := HB.out.size
    have zW := HZ.out.lt
    refine wp_region_spec 8 (rg6R W3.heap.size w.heap.size (.agg #[dx, dy, dv]) n wl wh p0 p1) (fun i => decide (i = 7)) (by kernel_rfl) (by kernel_rfl) rg6R_below ?hop4 ?htail4
    case hop4 =>
      simp only [List.take_succ_cons, List.take_zero, allOps]
      refine ⟨?_, ?_, ?_, ?_, ?_, ?_, ?_, ?_, trivial⟩
      all_goals intro u A w1 hA hb hd
      all_goals simp only [putAll, dstOf, List.getElem?_toArray, List.getElem?_cons_succ, List.getElem?_cons_zero, Option.bind_some, Option.bind, Act.put, List.setIfInBounds_toArray, List.set_cons_succ, List.set_cons_zero] at hA; subst hA
      all_goals have HB1 := Lib.hid hb
      · clear hb hd
        go_wp2
        exact ⟨_, rfl, Below.refl _ _, rfl, fun h => absurd h (by decide)⟩
      · have d0 : u 0 = _ := hd 0 (by omega) (by kernel_rfl)
        clear hb hd
        rw [d0]
        clear d0
        have c0 := (HM.out.below HB1.out).cell 21
        have c1 := (HM.out.below HB1.out).cell 22
        have c2 := (HM.out.below HB1.out).cell 23
        go_wp2
        exact ⟨_, rfl, Below.refl _ _, rfl, fun h => absurd h (by decide)⟩
      · clear hb hd
        go_wp2
        exact ⟨_, rfl, Below.refl _ _, rfl, fun h => absurd h (by decide)⟩
      · have d2 : u 2 = _ := hd 2 (by omega) (by kernel_rfl)
        clear hb hd
        rw [d2]
        clear d2
        go_wp2_with (go_at_call 89; (with_reducible refine (rf_at_c _ _).mono ?_); rintro e w2 ⟨rfl, hb2⟩)
        exact ⟨_, rfl, hb2, rfl, fun h => absurd h (by decide)⟩
      · clear hb hd
        go_wp2
        exact ⟨_, rfl, Below.refl _ _, rfl, fun h => absurd h (by decide)⟩
      · have d4 : u 4 = _ := hd 4 (by omega) (by kernel_rfl)
        clear hb hd
        rw [d4]
        clear d4
        have c0 := (HA.out.below HB1.out).cell 0
        have c1 := (HA.out.below HB1.out).cell 1
        go_wp2
        exact ⟨_, rfl, Below.refl _ _, rfl, fun h => absurd h (by decide)⟩
      · have d1 : u 1 = _ := hd 1 (by omega) (by kernel_rfl)
        have d3 : u 3 = _ := hd 3 (by omega) (by kernel_rfl)
        have d5 : u 5 = _ := hd 5 (by omega) (by kernel_rfl)
        clear hb hd
        rw [d1, d3, d5]
        clear d1 d3 d5
        go_wp2_with (go_at_call 80; (with_reducible refine (B.out _ _ _ _ ((HR.out.d.below HB.out).below HB1.out)).mono ?_); rintro e w2 ⟨rfl, hb2⟩)
        exact ⟨_, rfl, hb2, rfl, fun h => absurd h (by decide)⟩
      · have zz := hb.size
        clear hb hd
        go_wp2
        exact ⟨_, rfl, bal (Below.refl _ _) _, ⟨_, rfl, by omega, Blk.new _ _ _⟩, fun _ => ⟨_, rfl, Nat.le_refl _, by simp⟩⟩
    case htail4 =>
      intro u A w1 hA hb hd hf
      simp only [putAll, dstOf, List.getElem?_toArray, List.getElem?_cons_succ, List.getElem?_cons_zero, Option.bind_some, Option.bind, Act.put, List.setIfInBounds_toArray, List.set_cons_succ, List.set_cons_zero] at hA; subst hA
      have e0 : u 0 = _ := hd 0 (by omega)
      have e1 : u 1 = _ := hd 1 (by omega)
      have e2 : u 2 = _ := hd 2 (by omega)
      have e3 : u 3 = _ := hd 3 (by omega)
      have e4 : u 4 = _ := hd 4 (by omega)
      have e5 : u 5 = _ := hd 5 (by omega)
      have e6 : u 6 = _ := hd 6 (by omega)
      obtain ⟨g7, e7, z7, b7⟩ := hd 7 (by omega)
      first | rw [e0, e1, e2, e3, e4, e5, e6, e7] | simp only [e0, e1, e2, e3, e4, e5, e6, e7]
      clear e0 e1 e2 e3 e4 e5 e6 e7
      clear hd hf
      have HG0 := Lib.hid b7
      clear cHY0 cHY1 fHY cHZ0 cHZ1 fHZ zHY zHZ
      have zz := hb.size
      have nHY := Lib.hid (HY.out.below hb)
      have nHZ := Lib.hid (HZ.out.below hb)
      have nHB := Lib.hid (bthen HB.out hb)
      clear HY HZ HB hb
      have HY := nHY
      have HZ := nHZ
      have HB := nHB
      clear nHY nHZ nHB
      have x0 := b7.cell 0
      have x1 := b7.cell 1
      have x2 := fun i => b7.frozen i
      clear b7
      go_wp2
      have HG := Lib.hid ((HG0.out.set_ 0 (.int .i64 p0)).set_ 1 (.int .i64 p1))
      have nHY := Lib.hid ((HY.out.far' (f := g7) (by omega) (i := 0) (.int .i64 p0)).far' (f := g7) (by omega) (i := 1) (.int .i64 p1))
      have nHZ := Lib.hid ((HZ.out.far' (f := g7) (by omega) (i := 0) (.int .i64 p0)).far' (f := g7) (by omega) (i := 1) (.int .i64 p1))
      have nHB := Lib.hid (bset (bset HB.out (g := g7) (by omega) (i := 0) (.int .i64 p0)) (g := g7) (by omega) (i := 1) (.int .i64 p1))
      clear x0 x1 x2 HG0 HY HZ HB
      have HY := nHY
      have HZ := nHZ
      have HB := nHB
      clear nHY nHZ nHB
      generalize (w1.setCell ⟨g7, 0, none⟩ (.int .i64 p0)).setCell ⟨g7, 1, none⟩ (.int .i64 p1) = W5 at *
      have zG := HG.out.lt
      refine wp_region_spec 10 (rg7R W5.heap.size g7 h p0 p1 (h / p1) (cdiv h p0)) (fun i => decide (i = 9)) (by kernel_rfl) (by kernel_rfl) rg7R_below ?hop5 ?htail5
      case hop5 =>
        simp only [List.take_succ_cons, List.take_zero, allOps]
        refine ⟨?_, ?_, ?_, ?_, ?_, ?_, ?_, ?_, ?_, ?_, trivial⟩
        all_goals intro u A w1 hA hb hd
        all_goals simp only [putAll, dstOf, List.getElem?_toArray, List.getElem?_cons_succ, List.getElem?_cons_zero, Option.bind_some, Option.bind, Act.put, List.setIfInBounds_toArray, List.set_cons_succ, List.set_cons_zero] at hA; subst hA
        all_goals have HB1 := Lib.hid hb
        · clear hb hd
          go_wp2
          exact ⟨_, rfl, Below.refl _ _, rfl, fun h => absurd h (by decide)⟩
        · clear hb hd
          go_wp2
          exact ⟨_, rfl, Below.refl _ _, rfl, fun h => absurd h (by decide)⟩
        · have d1 : u 1 = _ := hd 1 (by omega) (by kernel_rfl)
          clear hb hd
          rw [d1]
          clear d1
          have c0 := (HG.out.below HB1.out).cell 1
          go_wp2
          exact ⟨_, rfl, Below.refl _ _, rfl, fun h => absurd h (by decide)⟩
        · have d0 : u 0 = _ := hd 0 (by omega) (by kernel_rfl)
          have d2 : u 2 = _ := hd 2 (by omega) (by kernel_rfl)
          clear hb hd
          rw [d0, d2]
          clear d0 d2
          go_wp2
          exact ⟨_, rfl, Below.refl _ _, rfl, fun h => absurd h (by decide)⟩
        · clear hb hd
          go_wp2
          exact ⟨_, rfl, Below.refl _ _, rfl, fun h => absurd h (by decide)⟩
        · clear hb hd
          go_wp2
          exact ⟨_, rfl, Below.refl _ _, rfl, fun h => absurd h (by decide)⟩
        · have d5 : u 5 = _ := hd 5 (by omega) (by kernel_rfl)
          clear hb hd
          rw [d5]
          clear d5
          have c0 := (HG.out.below HB1.out).cell 0
          go_wp2
          exact ⟨_, rfl, Below.refl _ _, rfl, fun h => absurd h (by decide)⟩
        · have d4 : u 4 = _ := hd 4 (by omega) (by kernel_rfl)
          have d6 : u 6 = _ := hd 6 (by omega) (by kernel_rfl)
          clear hb hd
          rw [d4, d6]
          clear d4 d6
          go_wp2_with (go_at_call 90; (with_reducible refine (F1.out _).mono ?_); rintro e w2 ⟨rfl, rfl⟩)
          exact ⟨_, rfl, Below.refl _ _, rfl, fun h => absurd h (by decide)⟩
        · have d3 : u 3 = _ := hd 3 (by omega) (by kernel_rfl)
          have d7 : u 7 = _ := hd 7 (by omega) (by kernel_rfl)
          clear hb hd
          rw [d3, d7]
          clear d3 d7
          go_wp2
          exact ⟨_, rfl, Below.refl _ _, rfl, fun h => absurd h (by decide)⟩
        · have zz := hb.size
          clear hb hd
          go_wp2
          exact ⟨_, rfl, bal (Below.refl _ _) _, ⟨_, rfl, by omega, Blk.new _ _ _⟩, fun _ => ⟨_, rfl, Nat.le_refl _, by simp⟩⟩
      case htail5 =>
        intro u A w1 hA hb hd hf
        simp only [putAll, dstOf, List.getElem?_toArray, List.getElem?_cons_succ, List.getElem?_cons_zero, Option.bind_some, Option.bind, Act.put, List.setIfInBounds_toArray, List.set_cons_succ, List.set_cons_zero] at hA; subst hA
        have e0 : u 0 = _ := hd 0 (by omega)
        have e1 : u 1 = _ := hd 1 (by omega)
        have e2 : u 2 = _ := hd 2 (by omega)
        have e3 : u 3 = _ := hd 3 (by omega)
        have e4 : u 4 = _ := hd 4 (by omega)
        have e5 : u 5 = _ := hd 5 (by omega)
        have e6 : u 6 = _ := hd 6 (by omega)
        have e7 : u 7 = _ := hd 7 (by omega)
        have e8 : u 8 = _ := hd 8 (by omega)
        obtain ⟨g9, e9, z9, b9⟩ := hd 9 (by omega)
        first | rw [e0, e1, e2, e3, e4, e5, e6, e7, e8, e9] | simp only [e0, e1, e2, e3, e4, e5, e6, e7, e8, e9]
        clear e0 e1 e2 e3 e4 e5 e6 e7 e8 e9
        clear hd hf
        have HT0 := Lib.hid b9
        have zz := hb.size
        have nHY := Lib.hid (HY.out.below hb)
        have nHZ := Lib.hid (HZ.out.below hb)
        have nHG := Lib.hid (HG.out.below hb)
        have nHB := Lib.hid (bthen HB.out hb)
        clear HY HZ HG HB hb
        have HY := nHY
        have HZ := nHZ
        have HG := nHG
        have HB := nHB
        clear nHY nHZ nHG nHB
        have x0 := b9.cell 0
        have x1 := b9.cell 1
        have x2 := fun i => b9.frozen i
        clear b9
        go_wp2_with fail
        have HT := Lib.hid ((HT0.out.set_ 0 (.int .i64 (h / p1))).set_ 1 (.int .i64 (cdiv h p0)))
        have nHY := Lib.hid ((HY.out.far' (f := g9) (by omega) (i := 0) (.int .i64 (h / p1))).far' (f := g9) (by omega) (i := 1) (.int .i64 (cdiv h p0)))
        have nHZ := Lib.hid ((HZ.out.far' (f := g9) (by omega) (i := 0) (.int .i64 (h / p1))).far' (f := g9) (by omega) (i := 1) (.int .i64 (cdiv h p0)))
        have nHG := Lib.hid ((HG.out.far' (f := g9) (by omega) (i := 0) (.int .i64 (h / p1))).far' (f := g9) (by omega) (i := 1) (.int .i64 (cdiv h p0)))
        have nHB := Lib.hid (bset (bset HB.out (g := g9) (by omega) (i := 0) (.int .i64 (h / p1))) (g := g9) (by omega) (i := 1) (.int .i64 (cdiv h p0)))
        clear x0 x1 x2 HT0 HY HZ HG HB
        have HY := nHY
        have HZ := nHZ
        have HG := nHG
        have HB := nHB
        clear nHY nHZ nHG nHB
        generalize (w1.setCell ⟨g9, 0, none⟩ (.int .i64 (h / p1))).setCell ⟨g9, 1, none⟩ (.int .i64 (cdiv h p0)) = W6 at *
        have zT := HT.out.lt
        refine wp_region_spec 14 (rg8R W6.heap.size g7 n h (n * h) p0 p1 (n * h / p1) (cdiv (n * h) p0)) (fun i => decide (i = 13)) (by kernel_rfl) (by kernel_rfl) rg8R_below ?hop6 ?htail6
        case hop6 =>
          simp only [List.take_succ_cons, List.take_zero, allOps]
          refine ⟨?_, ?_, ?_, ?_, ?_, ?_, ?_, ?_, ?_, ?_, ?_, ?_, ?_, ?_, trivial⟩
          all_goals intro u A w1 hA hb hd
          all_goals simp only [putAll, dstOf, List.getElem?_toArray, List.getElem?_cons_succ, List.getElem?_cons_zero, Option.bind_some, Option.bind, Act.put, List.setIfInBounds_toArray, List.set_cons_succ, List.set_cons_zero] at hA; subst hA
          all_goals have HB1 := Lib.hid hb
          · clear hb hd
            go_wp2
            exact ⟨_, rfl, Below.refl _ _, rfl, fun h => absurd h (by decide)⟩
          · clear hb hd
            go_wp2
            exact ⟨_, rfl, Below.refl _ _, rfl, fun h => absurd h (by decide)⟩
          · have d0 : u 0 = _ := hd 0 (by omega) (by kernel_rfl)
            have d1 : u 1 = _ := hd 1 (by omega) (by kernel_rfl)
            clear hb hd
            rw [d0, d1]
            clear d0 d1
            go_wp2
            exact ⟨_, rfl, Below.refl _ _, rfl, fun h => absurd h (by decide)⟩
          · clear hb hd
            go_wp2
            exact ⟨_, rfl, Below.refl _ _, rfl, fun h => absurd h (by decide)⟩
          · have d3 : u 3 = _ := hd 3 (by omega) (by kernel_rfl)
            clear hb hd
            rw [d3]
            clear d3
            have c0 := (HG.out.below HB1.out).cell 1
            go_wp2
            exact ⟨_, rfl, Below.refl _ _, rfl, fun h => absurd h (by decide)⟩
          · have d2 : u 2 = _ := hd 2 (by omega) (by kernel_rfl)
            have d4 : u 4 = _ := hd 4 (by omega) (by kernel_rfl)
            clear hb hd
            rw [d2, d4]
            clear d2 d4
            go_wp2
            exact ⟨_, rfl, Below.refl _ _, rfl, fun h => absurd h (by decide)⟩
          · clear hb hd
            go_wp2
            exact ⟨_, rfl, Below.refl _ _, rfl, fun h => absurd h (by decide)⟩
          · clear hb hd
            go_wp2
            exact ⟨_, rfl, Below.refl _ _, rfl, fun h => absurd h (by decide)⟩
          · have d6 : u 6 = _ := hd 6 (by omega) (by kernel_rfl)
            have d7 : u 7 = _ := hd 7 (by omega) (by kernel_rfl)
            clear hb hd
            rw [d6, d7]
            clear d6 d7
            go_wp2
            exact ⟨_, rfl, Below.refl _ _, rfl, fun h => absurd h (by decide)⟩
          · clear hb hd
            go_wp2
            exact ⟨_, rfl, Below.refl _ _, rfl, fun h => absurd h (by decide)⟩
          · have d9 : u 9 = _ := hd 9 (by omega) (by kernel_rfl)
            clear hb hd
            rw [d9]
            clear d9
            have c0 := (HG.out.below HB1.out).cell 0
            go_wp2
            exact ⟨_, rfl, Below.refl _ _, rfl, fun h => absurd h (by decide)⟩
          · have d8 : u 8 = _ := hd 8 (by omega) (by kernel_rfl)
            have d10 : u 10 = _ := hd 10 (by omega) (by kernel_rfl)
            clear hb hd
            rw [d8, d10]
            clear d8 d10
            go_wp2_with (go_at_call 90; (with_reducible refine (F2.out _).mono ?_); rintro e w2 ⟨rfl, rfl⟩)
            exact ⟨_, rfl, Below.refl _ _, rfl, fun h => absurd h (by decide)⟩
          · have d5 : u 5 = _ := hd 5 (by omega) (by kernel_rfl)
            have d11 : u 11 = _ := hd 11 (by omega) (by kernel_rfl)
            clear hb hd
            rw [d5, d11]
            clear d5 d11
            go_wp2
            exact ⟨_, rfl, Below.refl _ _, rfl, fun h => absurd h (by decide)⟩
          · have zz := hb.size
            clear hb hd
            go_wp2
            exact ⟨_, rfl, bal (Below.refl _ _) _, ⟨_, rfl, by omega, Blk.new _ _ _⟩, fun _ => ⟨_, rfl, Nat.le_refl _, by simp⟩⟩
        case htail6 =>
          intro u A w1 hA hb hd hf
          simp only [putAll, dstOf, List.getElem?_toArray, List.getElem?_cons_succ, List.getElem?_cons_zero, Option.bind_some, Option.bind, Act.put, List.setIfInBounds_toArray, List.set_cons_succ, List.set_cons_zero] at hA; subst hA
          have e0 : u 0 = _ := hd 0 (by omega)
          have e1 : u 1 = _ := hd 1 (by omega)
          have e2 : u 2 = _ := hd 2 (by omega)
          have e3 : u 3 = _ := hd 3 (by omega)
          have e4 : u 4 = _ := hd 4 (by omega)
          have e5 : u 5 = _ := hd 5 (by omega)
          have e6 : u 6 = _ := hd 6 (by omega)
          have e7 : u 7 = _ := hd 7 (by omega)
          have e8 : u 8 = _ := hd 8 (by omega)
          have e9 : u 9 = _ := hd 9 (by omega)
          have e10 : u 10 = _ := hd 10 (by omega)
          have e11 : u 11 = _ := hd 11 (by omega)
          have e12 : u 12 = _ := hd 12 (by omega)
          obtain ⟨g13, e13, z13, b13⟩ := hd 13 (by omega)
          first | rw [e0, e1, e2, e3, e4, e5, e6, e7, e8, e9, e10, e11, e12, e13] | simp only [e0, e1, e2, e3, e4, e5, e6, e7, e8, e9, e10, e11, e12, e13]
          clear e0 e1 e2 e3 e4 e5 e6 e7 e8 e9 e10 e11 e12 e13
          clear hd hf
          have HU0 := Lib.hid b13
          have zz := hb.size
          have nHY := Lib.hid (HY.out.below hb)
          have nHZ := Lib.hid (HZ.out.below hb)
          have nHT := Lib.hid (HT.out.below hb)
          have nHB := Lib.hid (bthen HB.out hb)
          clear HY HZ HT HB hb
          have HY := nHY
          have HZ := nHZ
          have HT := nHT
          have HB := nHB
          clear nHY nHZ nHT nHB
          have x0 := b13.cell 0
          have x1 := b13.cell 1
          have x2 := fun i => b13.frozen i
          clear b13
          have zHT := HT.out.lt
          have cHT0 := HT.out.cell 0
          have cHT1 := HT.out.cell 1
          have hq1 : ¬ (g9 = g13) := by omega
          have hq2 : ¬ (g13 = g9) := by omega
          go_wp2_with fail
          have HU := Lib.hid ((HU0.out.set_ 0 (.int .i64 (n * h / p1))).set_ 1 (.int .i64 (cdiv (n * h) p0)))
          have nHY := Lib.hid ((HY.out.far' (f := g13) (by omega) (i := 0) (.int .i64 (n * h / p1))).far' (f := g13) (by omega) (i := 1) (.int .i64 (cdiv (n * h) p0)))
          have nHZ := Lib.hid ((HZ.out.far' (f := g13) (by omega) (i := 0) (.int .i64 (n * h / p1))).far' (f := g13) (by omega) (i := 1) (.int .i64 (cdiv (n * h) p0)))
          have nHT := Lib.hid ((HT.out.far' (f := g13) (by omega) (i := 0) (.int .i64 (n * h / p1))).far' (f := g13) (by omega) (i := 1) (.int .i64 (cdiv (n * h) p0)))
          have nHB := Lib.hid (bset (bset HB.out (g := g13) (by omega) (i := 0) (.int .i64 (n * h / p1))) (g := g13) (by omega) (i := 1) (.int .i64 (cdiv (n * h) p0)))
          clear x0 x1 x2 HU0 HY HZ HT HB cHT0 cHT1 zHT hq1 hq2
          have HY := nHY
          have HZ := nHZ
          have HT := nHT
          have HB := nHB
          clear nHY nHZ nHT nHB
          generalize (w1.setCell ⟨g13, 0, none⟩ (.int .i64 (n * h / p1))).setCell ⟨g13, 1, none⟩ (.int .i64 (cdiv (n * h) p0)) = W7 at *
          have zHY := HY.out.lt
          have cHY0 := HY.out.cell 0
          have cHY1 := HY.out.cell 1
          have fHY := fun i => HY.out.frozen i
          have zHZ := HZ.out.lt
          have cHZ0 := HZ.out.cell 0
          have cHZ1 := HZ.out.cell 1
          have fHZ := fun i => HZ.out.frozen i
          have zHT := HT.out.lt
          have cHT0 := HT.out.cell 0
          have cHT1 := HT.out.cell 1
          have zHU := HU.out.lt
          have cHU0 := HU.out.cell 0
          have cHU1 := HU.out.cell 1
          go_wp2_with (first | (go_at_call 24; (with_reducible refine (HC1.out _).mono ?_); rintro e w1 ⟨rfl, hb1⟩; have nHY := Lib.hid (HY.out.below hb1); have nHZ := Lib.hid (HZ.out.below hb1); have nHT := Lib.hid (HT.out.below hb1); have nHU := Lib.hid (HU.out.below hb1); have nHB := Lib.hid (bthen HB.out hb1); have zz1 := hb1.size; clear HY HZ HT HU HB hb1; have HY := nHY; have HZ := nHZ; have HT := nHT; have HU := nHU; have HB := nHB; clear nHY nHZ nHT nHU nHB; (try clear zHT); have zHT := HT.out.lt; (try clear cHT0); have cHT0 := HT.out.cell 0; (try clear cHT1); have cHT1 := HT.out.cell 1; (try clear zHU); have zHU := HU.out.lt; (try clear cHU0); have cHU0 := HU.out.cell 0; (try clear cHU1); have cHU1 := HU.out.cell 1; (try clear zHY); have zHY := HY.out.lt; (try clear cHY0); have cHY0 := HY.out.cell 0; (try clear cHY1); have cHY1 := HY.out.cell 1; (try clear fHY); have fHY := fun i => HY.out.frozen i; (try clear zHZ); have zHZ := HZ.out.lt; (try clear cHZ0); have cHZ0 := HZ.out.cell 0; (try clear cHZ1); have cHZ1 := HZ.out.cell 1; (try clear fHZ); have fHZ := fun i => HZ.out.frozen i) | (go_at_call 24; (with_reducible refine (HC2.out _).mono ?_); rintro e w1 ⟨rfl, hb1⟩; have nHY := Lib.hid (HY.out.below hb1); have nHZ := Lib.hid (HZ.out.below hb1); have nHT := Lib.hid (HT.out.below hb1); have nHU := Lib.hid (HU.out.below hb1); have nHB := Lib.hid (bthen HB.out hb1); have zz1 := hb1.size; clear HY HZ HT HU HB hb1; have HY := nHY; have HZ := nHZ; have HT := nHT; have HU := nHU; have HB := nHB; clear nHY nHZ nHT nHU nHB; (try clear zHT); have zHT := HT.out.lt; (try clear cHT0); have cHT0 := HT.out.cell 0; (try clear cHT1); have cHT1 := HT.out.cell 1; (try clear zHU); have zHU := HU.out.lt; (try clear cHU0); have cHU0 := HU.out.cell 0; (try clear cHU1); have cHU1 := HU.out.cell 1; (try clear zHY); have zHY := HY.out.lt; (try clear cHY0); have cHY0 := HY.out.cell 0; (try clear cHY1); have cHY1 := HY.out.cell 1; (try clear fHY); have fHY := fun i => HY.out.frozen i; (try clear zHZ); have zHZ := HZ.out.lt; (try clear cHZ0); have cHZ0 := HZ.out.cell 0; (try clear cHZ1); have cHZ1 := HZ.out.cell 1; (try clear fHZ); have fHZ := fun i => HZ.out.frozen i))
          exact bodyPost_ret (res_cct rfl _ _ _ #[.int .i64 0, .int .i64 0] #[.int .i64 0, .int .i64 0] 2 2 rfl rfl ((((HY.out.set_ 0 _).set_ 1 _).far' (by omega) _).far' (by omega) _) Try.rowSpan rfl ((((HZ.out.far' (by omega) _).far' (by omega) _).set_ 0 _).set_ 1 _) Try.rowSpan rfl) rfl ⟨rfl, (bset (bset (bset (bset HB.out (by omega) _) (by omega) _) (by omega) _) (by omega) _)⟩
  rw [Bool.true_and, if_pos rfl, okN_ok, okN_ok, okN_ok, okN_ok]
  have HC1 := Lib.hid C1
  have HC2 := Lib.hid C2
  clear C1 C2
  go_enter Try.func36, Try.ntmps36
  go_wp2_with (first | (refine wpl_row rfl 27 _ rfl _ rfl #[hx, hy, hv, gx, gy, gv, lx, ly, lv, px, py, pv, nx, ny, nv, ax, ay, av, cx, cy, cv, dx, dy, dv, .int .i64 cl, .int .i64 bu] 26 ?_ Try.rowRot rfl ?_; (focus exact (by repeat (first | (refine Blk.newAt _ _ _ ?_; first | rfl | (simp; done)) | refine Blk.alloc ?_ _))); simp only [Act.put]) | (refine wpl_row rfl 36 _ rfl _ rfl #[.int .i64 wl, .int .i64 wh, .int .i64 tl, .int .i64 th, .int .i64 el, .int .i64 eh, .int .i64 nl, .int .i64 nh] 8 ?_ Try.rowAir rfl ?_; (focus exact (by repeat (first | (refine Blk.newAt _ _ _ ?_; first | rfl | (simp; done)) | refine Blk.alloc ?_ _))); simp only [Act.put]))
  have bHM : Blk ((((w.alloc (.cells #[hx, hy, hv, gx, gy, gv, lx, ly, lv, px, py, pv, nx, ny, nv, ax, ay, av, cx, cy, cv, dx, dy, dv, .int .i64 cl, .int .i64 bu] 27)).alloc (.cells #[.int .i64 wl, .int .i64 wh, .int .i64 tl, .int .i64 th, .int .i64 el, .int .i64 eh, .int .i64 nl, .int .i64 nh] 36)).alloc (.cells #[.int .i64 0, .int .i64 0] 34)).alloc (.cells #[.int .i64 0, .int .i64 0] 34)) (w.heap.size) 27 #[hx, hy, hv, gx, gy, gv, lx, ly, lv, px, py, pv, nx, ny, nv, ax, ay, av, cx, cy, cv, dx, dy, dv, .int .i64 cl, .int .i64 bu] := (by repeat (first | (refine Blk.newAt _ _ _ ?_; first | rfl | (simp; done)) | refine Blk.alloc ?_ _))
  have bHA : Blk ((((w.alloc (.cells #[hx, hy, hv, gx, gy, gv, lx, ly, lv, px, py, pv, nx, ny, nv, ax, ay, av, cx, cy, cv, dx, dy, dv, .int .i64 cl, .int .i64 bu] 27)).alloc (.cells #[.int .i64 wl, .int .i64 wh, .int .i64 tl, .int .i64 th, .int .i64 el, .int .i64 eh, .int .i64 nl, .int .i64 nh] 36)).alloc (.cells #[.int .i64 0, .int .i64 0] 34)).alloc (.cells #[.int .i64 0, .int .i64 0] 34)) (w.heap.size + 1) 36 #[.int .i64 wl, .int .i64 wh, .int .i64 tl, .int .i64 th, .int .i64 el, .int .i64 eh, .int .i64 nl, .int .i64 nh] := (by repeat (first | (refine Blk.newAt _ _ _ ?_; first | rfl | (simp; done)) | refine Blk.alloc ?_ _))
  have bHY : Blk ((((w.alloc (.cells #[hx, hy, hv, gx, gy, gv, lx, ly, lv, px, py, pv, nx, ny, nv, ax, ay, av, cx, cy, cv, dx, dy, dv, .int .i64 cl, .int .i64 bu] 27)).alloc (.cells #[.int .i64 wl, .int .i64 wh, .int .i64 tl, .int .i64 th, .int .i64 el, .int .i64 eh, .int .i64 nl, .int .i64 nh] 36)).alloc (.cells #[.int .i64 0, .int .i64 0] 34)).alloc (.cells #[.int .i64 0, .int .i64 0] 34)) (w.heap.size + 1 + 1) 34 #[.int .i64 0, .int .i64 0] := (by repeat (first | (refine Blk.newAt _ _ _ ?_; first | rfl | (simp; done)) | refine Blk.alloc ?_ _))
  have bHZ : Blk ((((w.alloc (.cells #[hx, hy, hv, gx, gy, gv, lx, ly, lv, px, py, pv, nx, ny, nv, ax, ay, av, cx, cy, cv, dx, dy, dv, .int .i64 cl, .int .i64 bu] 27)).alloc (.cells #[.int .i64 wl, .int .i64 wh, .int .i64 tl, .int .i64 th, .int .i64 el, .int .i64 eh, .int .i64 nl, .int .i64 nh] 36)).alloc (.cells #[.int .i64 0, .int .i64 0] 34)).alloc (.cells #[.int .i64 0, .int .i64 0] 34)) (w.heap.size + 1 + 1 + 1) 34 #[.int .i64 0, .int .i64 0] := (by repeat (first | (refine Blk.newAt _ _ _ ?_; first | rfl | (simp; done)) | refine Blk.alloc ?_ _))
  have bHB : Below w.heap.size w ((((w.alloc (.cells #[hx, hy, hv, gx, gy, gv, lx, ly, lv, px, py, pv, nx, ny, nv, ax, ay, av, cx, cy, cv, dx, dy, dv, .int .i64 cl, .int .i64 bu] 27)).alloc (.cells #[.int .i64 wl, .int .i64 wh, .int .i64 tl, .int .i64 th, .int .i64 el, .int .i64 eh, .int .i64 nl, .int .i64 nh] 36)).alloc (.cells #[.int .i64 0, .int .i64 0] 34)).alloc (.cells #[.int .i64 0, .int .i64 0] 34)) := (by repeat' (first | exact Below.refl _ _ | assumption | refine Below.drew ?_ | refine bdn ?_ _ | refine bal ?_ _ | refine Below.setCell ?_ (by first | (simp; done) | omega | (simp; omega)) _))
  generalize ((((w.alloc (.cells #[hx, hy, hv, gx, gy, gv, lx, ly, lv, px, py, pv, nx, ny, nv, ax, ay, av, cx, cy, cv, dx, dy, dv, .int .i64 cl, .int .i64 bu] 27)).alloc (.cells #[.int .i64 wl, .int .i64 wh, .int .i64 tl, .int .i64 th, .int .i64 el, .int .i64 eh, .int .i64 nl, .int .i64 nh] 36)).alloc (.cells #[.int .i64 0, .int .i64 0] 34)).alloc (.cells #[.int .i64 0, .int .i64 0] 34)) = W at *
  have zW := bHZ.lt
  have HM := Lib.hid bHM
  have HA := Lib.hid bHA
  have HY := Lib.hid bHY
  have HZ := Lib.hid bHZ
  have HB := Lib.hid bHB
  clear bHM bHA bHY bHZ bHB
  go_wp2_with (first | (go_at_call 23; (with_reducible refine (HC.out _ (HR.out.below HB.out)).mono ?_); rintro e w1 ⟨rfl, hb1⟩; have nHM := Lib.hid (HM.out.below hb1); have nHA := Lib.hid (HA.out.below hb1); have nHY := Lib.hid (HY.out.below hb1); have nHZ := Lib.hid (HZ.out.below hb1); have nHB := Lib.hid (bthen HB.out hb1); have zz1 := hb1.size; clear HM HA HY HZ HB hb1; have HM := nHM; have HA := nHA; have HY := nHY; have HZ := nHZ; have HB := nHB; clear nHM nHA nHY nHZ nHB; (try clear zHY); have zHY := HY.out.lt; (try clear cHY0); have cHY0 := HY.out.cell 0; (try clear cHY1); have cHY1 := HY.out.cell 1; (try clear fHY); have fHY := fun i => HY.out.frozen i; (try clear zHZ); have zHZ := HZ.out.lt; (try clear cHZ0); have cHZ0 := HZ.out.cell 0; (try clear cHZ1); have cHZ1 := HZ.out.cell 1; (try clear fHZ); have fHZ := fun i => HZ.out.frozen i))
  have hRr := Lib.hid (fun r : After w1 => (HR.out.below HB.out).below r.below)
  have aHM21 := fun (r : After w1) => (HM.out.below r.below).cell 21
  simp only [List.getElem?_toArray, List.getElem?_cons_succ, List.getElem?_cons_zero] at aHM21
  have aHM22 := fun (r : After w1) => (HM.out.below r.below).cell 22
  simp only [List.getElem?_toArray, List.getElem?_cons_succ, List.getElem?_cons_zero] at aHM22
  have aHM23 := fun (r : After w1) => (HM.out.below r.below).cell 23
  simp only [List.getElem?_toArray, List.getElem?_cons_succ, List.getElem?_cons_zero] at aHM23
  have aHA0 := fun (r : After w1) => (HA.out.below r.below).cell 0
  simp only [List.getElem?_toArray, List.getElem?_cons_succ, List.getElem?_cons_zero] at aHA0
  have aHA1 := fun (r : After w1) => (HA.out.below r.below).cell 1
  simp only [List.getElem?_toArray, List.getElem?_cons_succ, List.getElem?_cons_zero] at aHA1
  refine wp_region_after (by kernel_rfl) (by kernel_rfl) ?_
  repeat (go_big_quiet_step (first | (go_at_call 89; (with_reducible refine qafter (rf_at_c _ _))) | (go_at_call 70; (with_reducible refine qafter (L1.out _ (hRr.out _).d))) | (go_at_call 57; (with_reducible refine qafter_same (HI1.out _))) | (go_at_call 57; (with_reducible refine qafter_same (HI2.out _)))))
  refine wpQuiet_nil ?_
  rintro W3 ⟨r, hr⟩
  have hbN : Below w1.heap.size w1 W3 := by rw [hr]; exact r.below
  clear hr r aHM21 aHM22 aHM23 aHA0 aHA1 hRr cHY0 cHY1 fHY cHZ0 cHZ1 fHZ zHY zHZ
  have nHM := Lib.hid (HM.out.below hbN)
  have nHA := Lib.hid (HA.out.below hbN)
  have nHY := Lib.hid (HY.out.below hbN)
  have nHZ := Lib.hid (HZ.out.below hbN)
  have nHB := Lib.hid (bthen HB.out hbN)
  clear HM HA HY HZ HB hbN
  have HM := nHM
  have HA := nHA
  have HY := nHY
  have HZ := nHZ
  have HB := nHB
  clear nHM nHA nHY nHZ nHB
  have zHY := HY.out.lt
  have cHY0 := HY.out.cell 0
  have cHY1 := HY.out.cell 1
  have fHY := fun i => HY.out.frozen i
  have zHZ := HZ.out.lt
  have cHZ0 := HZ.out.cell 0
  have cHZ1 := HZ.out.cell 1
  have fHZ := fun i => HZ.out.frozen i
  go_wp2
  have zB := HB.out.size
  have zW := HZ.out.lt
  refine wp_region_spec 8 (rg6R W3.heap.size w.heap.size (.agg #[dx, dy, dv]) n wl wh p0 p1) (fun i => decide (i = 7)) (by kernel_rfl) (by kernel_rfl) rg6R_below ?hop7 ?htail7
  case hop7 =>
    simp only [List.take_succ_cons, List.take_zero, allOps]
    refine ⟨?_, ?_, ?_, ?_, ?_, ?_, ?_, ?_, trivial⟩
    all_goals intro u A w1 hA hb hd
    all_goals simp only [putAll, dstOf, List.getElem?_toArray, List.getElem?_cons_succ, List.getElem?_cons_zero, Option.bind_some, Option.bind, Act.put, List.setIfInBounds_toArray, List.set_cons_succ, List.set_cons_zero] at hA; subst hA
    all_goals have HB1 := Lib.hid hb
    · clear hb hd
      go_wp2
      exact ⟨_, rfl, Below.refl _ _, rfl, fun h => absurd h (by decide)⟩
    · have d0 : u 0 = _ := hd 0 (by omega) (by kernel_rfl)
      clear hb hd
      rw [d0]
      clear d0
      have c0 := (HM.out.below HB1.out).cell 21
      have c1 := (HM.out.below HB1.out).cell 22
      have c2 := (HM.out.below HB1.out).cell 23
      go_wp2
      exact ⟨_, rfl, Below.refl _ _, rfl, fun h => absurd h (by decide)⟩
    · clear hb hd
      go_wp2
      exact ⟨_, rfl, Below.refl _ _, rfl, fun h => absurd h (by decide)⟩
    · have d2 : u 2 = _ := hd 2 (by omega) (by kernel_rfl)
      clear hb hd
      rw [d2]
      clear d2
      go_wp2_with (go_at_call 89; (with_reducible refine (rf_at_c _ _).mono ?_); rintro e w2 ⟨rfl, hb2⟩)
      exact ⟨_, rfl, hb2, rfl, fun h => absurd h (by decide)⟩
    · clear hb hd
      go_wp2
      exact ⟨_, rfl, Below.refl _ _, rfl, fun h => absurd h (by decide)⟩
    · have d4 : u 4 = _ := hd 4 (by omega) (by kernel_rfl)
      clear hb hd
      rw [d4]
      clear d4
      have c0 := (HA.out.below HB1.out).cell 0
      have c1 := (HA.out.below HB1.out).cell 1
      go_wp2
      exact ⟨_, rfl, Below.refl _ _, rfl, fun h => absurd h (by decide)⟩
    · have d1 : u 1 = _ := hd 1 (by omega) (by kernel_rfl)
      have d3 : u 3 = _ := hd 3 (by omega) (by kernel_rfl)
      have d5 : u 5 = _ := hd 5 (by omega) (by kernel_rfl)
      clear hb hd
      rw [d1, d3, d5]
      clear d1 d3 d5
      go_wp2_with (go_at_call 80; (with_reducible refine (B.out _ _ _ _ ((HR.out.d.below HB.out).below HB1.out)).mono ?_); rintro e w2 ⟨rfl, hb2⟩)
      exact ⟨_, rfl, hb2, rfl, fun h => absurd h (by decide)⟩
    · have zz := hb.size
      clear hb hd
      go_wp2
      exact ⟨_, rfl, bal (Below.refl _ _) _, ⟨_, rfl, by omega, Blk.new _ _ _⟩, fun _ => ⟨_, rfl, Nat.le_refl _, by simp⟩⟩
  case htail7 =>
    intro u A w1 hA hb hd hf
    simp only [putAll, dstOf, List.getElem?_toArray, List.getElem?_cons_succ, List.getElem?_cons_zero, Option.bind_some, Option.bind, Act.put, List.setIfInBounds_toArray, List.set_cons_succ, List.set_cons_zero] at hA; subst hA
    have e0 : u 0 = _ := hd 0 (by omega)
    have e1 : u 1 = _ := hd 1 (by omega)
    have e2 : u 2 = _ := hd 2 (by omega)
    have e3 : u 3 = _ := hd 3 (by omega)
    have e4 : u 4 = _ := hd 4 (by omega)
    have e5 : u 5 = _ := hd 5 (by omega)
    have e6 : u 6 = _ := hd 6 (by omega)
    obtain ⟨g7, e7, z7, b7⟩ := hd 7 (by omega)
    first | rw [e0, e1, e2, e3, e4, e5, e6, e7] | simp only [e0, e1, e2, e3, e4, e5, e6, e7]
    clear e0 e1 e2 e3 e4 e5 e6 e7
    clear hd hf
    have HG0 := Lib.hid b7
    clear cHY0 cHY1 fHY cHZ0 cHZ1 fHZ zHY zHZ
    have zz := hb.size
    have nHY := Lib.hid (HY.out.below hb)
    have nHZ := Lib.hid (HZ.out.below hb)
    have nHB := Lib.hid (bthen HB.out hb)
    clear HY HZ HB hb
    have HY := nHY
    have HZ := nHZ
    have HB := nHB
    clear nHY nHZ nHB
    have x0 := b7.cell 0
    have x1 := b7.cell 1
    have x2 := fun i => b7.frozen i
    clear b7
    go_wp2
    have HG := Lib.hid ((HG0.out.set_ 0 (.int .i64 p0)).set_ 1 (.int .i64 p1))
    have nHY := Lib.hid ((HY.out.far' (f := g7) (by omega) (i := 0) (.int .i64 p0)).far' (f := g7) (by omega) (i := 1) (.int .i64 p1))
    have nHZ := Lib.hid ((HZ.out.far' (f := g7) (by omega) (i := 0) (.int .i64 p0)).far' (f := g7) (by omega) (i := 1) (.int .i64 p1))
    have nHB := Lib.hid (bset (bset HB.out (g := g7) (by omega) (i := 0) (.int .i64 p0)) (g := g7) (by omega) (i := 1) (.int .i64 p1))
    clear x0 x1 x2 HG0 HY HZ HB
    have HY := nHY
    have HZ := nHZ
    have HB := nHB
    clear nHY nHZ nHB
    generalize (w1.setCell ⟨g7, 0, none⟩ (.int .i64 p0)).setCell ⟨g7, 1, none⟩ (.int .i64 p1) = W5 at *
    have zG := HG.out.lt
    refine wp_region_spec 10 (rg7R W5.heap.size g7 h p0 p1 (h / p1) (cdiv h p0)) (fun i => decide (i = 9)) (by kernel_rfl) (by kernel_rfl) rg7R_below ?hop8 ?htail8
    case hop8 =>
      simp only [List.take_succ_cons, List.take_zero, allOps]
      refine ⟨?_, ?_, ?_, ?_, ?_, ?_, ?_, ?_, ?_, ?_, trivial⟩
      all_goals intro u A w1 hA hb hd
      all_goals simp only [putAll, dstOf, List.getElem?_toArray, List.getElem?_cons_succ, List.getElem?_cons_zero, Option.bind_some, Option.bind, Act.put, List.setIfInBounds_toArray, List.set_cons_succ, List.set_cons_zero] at hA; subst hA
      all_goals have HB1 := Lib.hid hb
      · clear hb hd
        go_wp2
        exact ⟨_, rfl, Below.refl _ _, rfl, fun h => absurd h (by decide)⟩
      · clear hb hd
        go_wp2
        exact ⟨_, rfl, Below.refl _ _, rfl, fun h => absurd h (by decide)⟩
      · have d1 : u 1 = _ := hd 1 (by omega) (by kernel_rfl)
        clear hb hd
        rw [d1]
        clear d1
        have c0 := (HG.out.below HB1.out).cell 1
        go_wp2
        exact ⟨_, rfl, Below.refl _ _, rfl, fun h => absurd h (by decide)⟩
      · have d0 : u 0 = _ := hd 0 (by omega) (by kernel_rfl)
        have d2 : u 2 = _ := hd 2 (by omega) (by kernel_rfl)
        clear hb hd
        rw [d0, d2]
        clear d0 d2
        go_wp2
        exact ⟨_, rfl, Below.refl _ _, rfl, fun h => absurd h (by decide)⟩
      · clear hb hd
        go_wp2
        exact ⟨_, rfl, Below.refl _ _, rfl, fun h => absurd h (by decide)⟩
      · clear hb hd
        go_wp2
        exact ⟨_, rfl, Below.refl _ _, rfl, fun h => absurd h (by decide)⟩
      · have d5 : u 5 = _ := hd 5 (by omega) (by kernel_rfl)
        clear hb hd
        rw [d5]
        clear d5
        have c0 := (HG.out.below HB1.out).cell 0
        go_wp2
        exact ⟨_, rfl, Below.refl _ _, rfl, fun h => absurd h (by decide)⟩
      · have d4 : u 4 = _ := hd 4 (by omega) (by kernel_rfl)
        have d6 : u 6 = _ := hd 6 (by omega) (by kernel_rfl)
        clear hb hd
        rw [d4, d6]
        clear d4 d6
        go_wp2_with (go_at_call 90; (with_reducible refine (F1.out _).mono ?_); rintro e w2 ⟨rfl, rfl⟩)
        exact ⟨_, rfl, Below.refl _ _, rfl, fun h => absurd h (by decide)⟩
      · have d3 : u 3 = _ := hd 3 (by omega) (by kernel_rfl)
        have d7 : u 7 = _ := hd 7 (by omega) (by kernel_rfl)
        clear hb hd
        rw [d3, d7]
        clear d3 d7
        go_wp2
        exact ⟨_, rfl, Below.refl _ _, rfl, fun h => absurd h (by decide)⟩
      · have zz := hb.size
        clear hb hd
        go_wp2
        exact ⟨_, rfl, bal (Below.refl _ _) _, ⟨_, rfl, by omega, Blk.new _ _ _⟩, fun _ => ⟨_, rfl, Nat.le_refl _, by simp⟩⟩
    case htail8 =>
      intro u A w1 hA hb hd hf
      simp only [putAll, dstOf, List.getElem?_toArray, List.getElem?_cons_succ, List.getElem?_cons_zero, Option.bind_some, Option.bind, Act.put, List.setIfInBounds_toArray, List.set_cons_succ, List.set_cons_zero] at hA; subst hA
      have e0 : u 0 = _ := hd 0 (by omega)
      have e1 : u 1 = _ := hd 1 (by omega)
      have e2 : u 2 = _ := hd 2 (by omega)
      have e3 : u 3 = _ := hd 3 (by omega)
      have e4 : u 4 = _ := hd 4 (by omega)
      have e5 : u 5 = _ := hd 5 (by omega)
      have e6 : u 6 = _ := hd 6 (by omega)
      have e7 : u 7 = _ := hd 7 (by omega)
      have e8 : u 8 = _ := hd 8 (by omega)
      obtain ⟨g9, e9, z9, b9⟩ := hd 9 (by omega)
      first | rw [e0, e1, e2, e3, e4, e5, e6, e7, e8, e9] | simp only [e0, e1, e2, e3, e4, e5, e6, e7, e8, e9]
      clear e0 e1 e2 e3 e4 e5 e6 e7 e8 e9
      clear hd hf
      have HT0 := Lib.hid b9
      have zz := hb.size
      have nHY := Lib.hid (HY.out.below hb)
      have nHZ := Lib.hid (HZ.out.below hb)
      have nHG := Lib.hid (HG.out.below hb)
      have nHB := Lib.hid (bthen HB.out hb)
      clear HY HZ HG HB hb
      have HY := nHY
      have HZ := nHZ
      have HG := nHG
      have HB := nHB
      clear nHY nHZ nHG nHB
      have x0 := b9.cell 0
      have x1 := b9.cell 1
      have x2 := fun i => b9.frozen i
      clear b9
      go_wp2_with fail
      have HT := Lib.hid ((HT0.out.set_ 0 (.int .i64 (h / p1))).set_ 1 (.int .i64 (cdiv h p0)))
      have nHY := Lib.hid ((HY.out.far' (f := g9) (by omega) (i := 0) (.int .i64 (h / p1))).far' (f := g9) (by omega) (i := 1) (.int .i64 (cdiv h p0)))
      have nHZ := Lib.hid ((HZ.out.far' (f := g9) (by omega) (i := 0) (.int .i64 (h / p1))).far' (f := g9) (by omega) (i := 1) (.int .i64 (cdiv h p0)))
      have nHG := Lib.hid ((HG.out.far' (f := g9) (by omega) (i := 0) (.int .i64 (h / p1))).far' (f := g9) (by omega) (i := 1) (.int .i64 (cdiv h p0)))
      have nHB := Lib.hid (bset (bset HB.out (g := g9) (by omega) (i := 0) (.int .i64 (h / p1))) (g := g9) (by omega) (i := 1) (.int .i64 (cdiv h p0)))
      clear x0 x1 x2 HT0 HY HZ HG HB
      have HY := nHY
      have HZ := nHZ
      have HG := nHG
      have HB := nHB
      clear nHY nHZ nHG nHB
      generalize (w1.setCell ⟨g9, 0, none⟩ (.int .i64 (h / p1))).setCell ⟨g9, 1, none⟩ (.int .i64 (cdiv h p0)) = W6 at *
      have zT := HT.out.lt
      refine wp_region_spec 14 (rg8R W6.heap.size g7 n h (n * h) p0 p1 (n * h / p1) (cdiv (n * h) p0)) (fun i => decide (i = 13)) (by kernel_rfl) (by kernel_rfl) rg8R_below ?hop9 ?htail9
      case hop9 =>
        simp only [List.take_succ_cons, List.take_zero, allOps]
        refine ⟨?_, ?_, ?_, ?_, ?_, ?_, ?_, ?_, ?_, ?_, ?_, ?_, ?_, ?_, trivial⟩
        all_goals intro u A w1 hA hb hd
        all_goals simp only [putAll, dstOf, List.getElem?_toArray, List.getElem?_cons_succ, List.getElem?_cons_zero, Option.bind_some, Option.bind, Act.put, List.setIfInBounds_toArray, List.set_cons_succ, List.set_cons_zero] at hA; subst hA
        all_goals have HB1 := Lib.hid hb
        · clear hb hd
          go_wp2
          exact ⟨_, rfl, Below.refl _ _, rfl, fun h => absurd h (by decide)⟩
        · clear hb hd
          go_wp2
          exact ⟨_, rfl, Below.refl _ _, rfl, fun h => absurd h (by decide)⟩
        · have d0 : u 0 = _ := hd 0 (by omega) (by kernel_rfl)
          have d1 : u 1 = _ := hd 1 (by omega) (by kernel_rfl)
          clear hb hd
          rw [d0, d1]
          clear d0 d1
          go_wp2
          exact ⟨_, rfl, Below.refl _ _, rfl, fun h => absurd h (by decide)⟩
        · clear hb hd
          go_wp2
          exact ⟨_, rfl, Below.refl _ _, rfl, fun h => absurd h (by decide)⟩
        · have d3 : u 3 = _ := hd 3 (by omega) (by kernel_rfl)
          clear hb hd
          rw [d3]
          clear d3
          have c0 := (HG.out.below HB1.out).cell 1
          go_wp2
          exact ⟨_, rfl, Below.refl _ _, rfl, fun h => absurd h (by decide)⟩
        · have d2 : u 2 = _ := hd 2 (by omega) (by kernel_rfl)
          have d4 : u 4 = _ := hd 4 (by omega) (by kernel_rfl)
          clear hb hd
          rw [d2, d4]
          clear d2 d4
          go_wp2
          exact ⟨_, rfl, Below.refl _ _, rfl, fun h => absurd h (by decide)⟩
        · clear hb hd
          go_wp2
          exact ⟨_, rfl, Below.refl _ _, rfl, fun h => absurd h (by decide)⟩
        · clear hb hd
          go_wp2
          exact ⟨_, rfl, Below.refl _ _, rfl, fun h => absurd h (by decide)⟩
        · have d6 : u 6 = _ := hd 6 (by omega) (by kernel_rfl)
          have d7 : u 7 = _ := hd 7 (by omega) (by kernel_rfl)
          clear hb hd
          rw [d6, d7]
          clear d6 d7
          go_wp2
          exact ⟨_, rfl, Below.refl _ _, rfl, fun h => absurd h (by decide)⟩
        · clear hb hd
          go_wp2
          exact ⟨_, rfl, Below.refl _ _, rfl, fun h => absurd h (by decide)⟩
        · have d9 : u 9 = _ := hd 9 (by omega) (by kernel_rfl)
          clear hb hd
          rw [d9]
          clear d9
          have c0 := (HG.out.below HB1.out).cell 0
          go_wp2
          exact ⟨_, rfl, Below.refl _ _, rfl, fun h => absurd h (by decide)⟩
        · have d8 : u 8 = _ := hd 8 (by omega) (by kernel_rfl)
          have d10 : u 10 = _ := hd 10 (by omega) (by kernel_rfl)
          clear hb hd
          rw [d8, d10]
          clear d8 d10
          go_wp2_with (go_at_call 90; (with_reducible refine (F2.out _).mono ?_); rintro e w2 ⟨rfl, rfl⟩)
          exact ⟨_, rfl, Below.refl _ _, rfl, fun h => absurd h (by decide)⟩
        · have d5 : u 5 = _ := hd 5 (by omega) (by kernel_rfl)
          have d11 : u 11 = _ := hd 11 (by omega) (by kernel_rfl)
          clear hb hd
          rw [d5, d11]
          clear d5 d11
          go_wp2
          exact ⟨_, rfl, Below.refl _ _, rfl, fun h => absurd h (by decide)⟩
        · have zz := hb.size
          clear hb hd
          go_wp2
          exact ⟨_, rfl, bal (Below.refl _ _) _, ⟨_, rfl, by omega, Blk.new _ _ _⟩, fun _ => ⟨_, rfl, Nat.le_refl _, by simp⟩⟩
      case htail9 =>
        intro u A w1 hA hb hd hf
        simp only [putAll, dstOf, List.getElem?_toArray, List.getElem?_cons_succ, List.getElem?_cons_zero, Option.bind_some, Option.bind, Act.put, List.setIfInBounds_toArray, List.set_cons_succ, List.set_cons_zero] at hA; subst hA
        have e0 : u 0 = _ := hd 0 (by omega)
        have e1 : u 1 = _ := hd 1 (by omega)
        have e2 : u 2 = _ := hd 2 (by omega)
        have e3 : u 3 = _ := hd 3 (by omega)
        have e4 : u 4 = _ := hd 4 (by omega)
        have e5 : u 5 = _ := hd 5 (by omega)
        have e6 : u 6 = _ := hd 6 (by omega)
        have e7 : u 7 = _ := hd 7 (by omega)
        have e8 : u 8 = _ := hd 8 (by omega)
        have e9 : u 9 = _ := hd 9 (by omega)
        have e10 : u 10 = _ := hd 10 (by omega)
        have e11 : u 11 = _ := hd 11 (by omega)
        have e12 : u 12 = _ := hd 12 (by omega)
        obtain ⟨g13, e13, z13, b13⟩ := hd 13 (by omega)
        first | rw [e0, e1, e2, e3, e4, e5, e6, e7, e8, e9, e10, e11, e12, e13] | simp only [e0, e1, e2, e3, e4, e5, e6, e7, e8, e9, e10, e11, e12, e13]
        clear e0 e1 e2 e3 e4 e5 e6 e7 e8 e9 e10 e11 e12 e13
        clear hd hf
        have HU0 := Lib.hid b13
        have zz := hb.size
        have nHY := Lib.hid (HY.out.below hb)
        have nHZ := Lib.hid (HZ.out.below hb)
        have nHT := Lib.hid (HT.out.below hb)
        have nHB := Lib.hid (bthen HB.out hb)
        clear HY HZ HT HB hb
        have HY := nHY
        have HZ := nHZ
        have HT := nHT
        have HB := nHB
        clear nHY nHZ nHT nHB
        have x0 := b13.cell 0
        have x1 := b13.cell 1
        have x2 := fun i => b13.frozen i
        clear b13
        have zHT := HT.out.lt
        have cHT0 := HT.out.cell 0
        have cHT1 := HT.out.cell 1
        have hq1 : ¬ (g9 = g13) := by omega
        have hq2 : ¬ (g13 = g9) := by omega
        go_wp2_with fail
        have HU := Lib.hid ((HU0.out.set_ 0 (.int .i64 (n * h / p1))).set_ 1 (.int .i64 (cdiv (n * h) p0)))
        have nHY := Lib.hid ((HY.out.far' (f := g13) (by omega) (i := 0) (.int .i64 (n * h / p1))).far' (f := g13) (by omega) (i := 1) (.int .i64 (cdiv (n * h) p0)))
        have nHZ := Lib.hid ((HZ.out.far' (f := g13) (by omega) (i := 0) (.int .i64 (n * h / p1))).far' (f := g13) (by omega) (i := 1) (.int .i64 (cdiv (n * h) p0)))
        have nHT := Lib.hid ((HT.out.far' (f := g13) (by omega) (i := 0) (.int .i64 (n * h / p1))).far' (f := g13) (by omega) (i := 1) (.int .i64 (cdiv (n * h) p0)))
        have nHB := Lib.hid (bset (bset HB.out (g := g13) (by omega) (i := 0) (.int .i64 (n * h / p1))) (g := g13) (by omega) (i := 1) (.int .i64 (cdiv (n * h) p0)))
        clear x0 x1 x2 HU0 HY HZ HT HB cHT0 cHT1 zHT hq1 hq2
        have HY := nHY
        have HZ := nHZ
        have HT := nHT
        have HB := nHB
        clear nHY nHZ nHT nHB
        generalize (w1.setCell ⟨g13, 0, none⟩ (.int .i64 (n * h / p1))).setCell ⟨g13, 1, none⟩ (.int .i64 (cdiv (n * h) p0)) = W7 at *
        have zHY := HY.out.lt
        have cHY0 := HY.out.cell 0
        have cHY1 := HY.out.cell 1
        have fHY := fun i => HY.out.frozen i
        have zHZ := HZ.out.lt
        have cHZ0 := HZ.out.cell 0
        have cHZ1 := HZ.out.cell 1
        have fHZ := fun i => HZ.out.frozen i
        have zHT := HT.out.lt
        have cHT0 := HT.out.cell 0
        have cHT1 := HT.out.cell 1
        have zHU := HU.out.lt
        have cHU0 := HU.out.cell 0
        have cHU1 := HU.out.cell 1
        go_wp2_with (first | (go_at_call 24; (with_reducible refine (HC1.out _).mono ?_); rintro e w1 ⟨rfl, hb1⟩; have nHY := Lib.hid (HY.out.below hb1); have nHZ := Lib.hid (HZ.out.below hb1); have nHT := Lib.hid (HT.out.below hb1); have nHU := Lib.hid (HU.out.below hb1); have nHB := Lib.hid (bthen HB.out hb1); have zz1 := hb1.size; clear HY HZ HT HU HB hb1; have HY := nHY; have HZ := nHZ; have HT := nHT; have HU := nHU; have HB := nHB; clear nHY nHZ nHT nHU nHB; (try clear zHT); have zHT := HT.out.lt; (try clear cHT0); have cHT0 := HT.out.cell 0; (try clear cHT1); have cHT1 := HT.out.cell 1; (try clear zHU); have zHU := HU.out.lt; (try clear cHU0); have cHU0 := HU.out.cell 0; (try clear cHU1); have cHU1 := HU.out.cell 1; (try clear zHY); have zHY := HY.out.lt; (try clear cHY0); have cHY0 := HY.out.cell 0; (try clear cHY1); have cHY1 := HY.out.cell 1; (try clear fHY); have fHY := fun i => HY.out.frozen i; (try clear zHZ); have zHZ := HZ.out.lt; (try clear cHZ0); have cHZ0 := HZ.out.cell 0; (try clear cHZ1); have cHZ1 := HZ.out.cell 1; (try clear fHZ); have fHZ := fun i => HZ.out.frozen i) | (go_at_call 24; (with_reducible refine (HC2.out _).mono ?_); rintro e w1 ⟨rfl, hb1⟩; have nHY := Lib.hid (HY.out.below hb1); have nHZ := Lib.hid (HZ.out.below hb1); have nHT := Lib.hid (HT.out.below hb1); have nHU := Lib.hid (HU.out.below hb1); have nHB := Lib.hid (bthen HB.out hb1); have zz1 := hb1.size; clear HY HZ HT HU HB hb1; have HY := nHY; have HZ := nHZ; have HT := nHT; have HU := nHU; have HB := nHB; clear nHY nHZ nHT nHU nHB; (try clear zHT); have zHT := HT.out.lt; (try clear cHT0); have cHT0 := HT.out.cell 0; (try clear cHT1); have cHT1 := HT.out.cell 1; (try clear zHU); have zHU := HU.out.lt; (try clear cHU0); have cHU0 := HU.out.cell 0; (try clear cHU1); have cHU1 := HU.out.cell 1; (try clear zHY); have zHY := HY.out.lt; (try clear cHY0); have cHY0 := HY.out.cell 0; (try clear cHY1); have cHY1 := HY.out.cell 1; (try clear fHY); have fHY := fun i => HY.out.frozen i; (try clear zHZ); have zHZ := HZ.out.lt; (try clear cHZ0); have cHZ0 := HZ.out.cell 0; (try clear cHZ1); have cHZ1 := HZ.out.cell 1; (try clear fHZ); have fHZ := fun i => HZ.out.frozen i))
        go_region
        go_wp2
        exact bodyPost_ret (res_cct rfl _ _ _ #[.int .i64 (h / p1), .int .i64 (cdiv h p0)] #[.int .i64 (n * h / p1), .int .i64 (cdiv (n * h) p0)] 2 2 rfl rfl (Blk.drew ((((HY.out.set_ 0 _).set_ 1 _).far' (by omega) _).far' (by omega) _)) Try.rowSpan rfl (Blk.drew ((((HZ.out.far' (by omega) _).far' (by omega) _).set_ 0 _).set_ 1 _)) Try.rowSpan rfl) rfl ⟨rfl, (Below.drew (bset (bset (bset (bset HB.out (by omega) _) (by omega) _) (by omega) _) (by omega) _))⟩
end Go.Proofs.Ytoembbcddhlokaa
