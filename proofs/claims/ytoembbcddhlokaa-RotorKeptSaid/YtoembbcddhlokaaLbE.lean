/- The law RotorKept. -/
import Derived.Test.YtoembbcddhlokaaLbB
import Derived.Test.YtoembbcddhlokaaRgM
set_option linter.all false
namespace Go.Proofs.Ytoembbcddhlokaa
open Go Go.RowKit Go.Proofs
set_option maxRecDepth 100000
set_option maxHeartbeats 8000000

/-- The number that pick takes: from 0 to the width. -/
def pickN (lo hi m : Int) : Int := m % (hi - lo + 1)
def pickLo (lo hi m n : Int) : Int := lo + min (pickN lo hi m) (pickN lo hi n)
def pickHi (lo hi m n : Int) : Int := lo + max (pickN lo hi m) (pickN lo hi n)
theorem pickN_bd {lo hi m : Int} (h : lo ≤ hi) : 0 ≤ pickN lo hi m ∧ pickN lo hi m ≤ hi - lo := by
  unfold pickN
  have h1 := Int.emod_nonneg m (show hi - lo + 1 ≠ 0 by omega)
  have h2 := Int.emod_lt_of_pos m (show 0 < hi - lo + 1 by omega)
  omega
theorem pick_bd {lo hi m n : Int} (h : lo ≤ hi) : lo ≤ pickLo lo hi m n ∧ pickLo lo hi m n ≤ pickHi lo hi m n ∧ pickHi lo hi m n ≤ hi := by
  have h1 := pickN_bd (m := m) h
  have h2 := pickN_bd (m := n) h
  unfold pickLo pickHi
  omega
theorem tmod_pick {m w : Int} (hw : 1 ≤ w) : (m.tmod w + w) % w = m % w := by
  rw [Int.add_emod_right]
  have e := Int.mul_tdiv_add_tmod m w
  have : m.tmod w = m - w * m.tdiv w := by omega
  rw [this, Int.sub_mul_emod_self_left]

theorem pick_c (lo hi m n : Int) (w : World) (hv : vspan lo hi = true) (hm : I64 m) (hn : I64 n) :
   Calls Try.prog 25 #[.agg #[.int .i64 lo, .int .i64 hi], .int .i64 m, .int .i64 n] w fun e w' => e = .returned (.agg #[.int .i64 (pickLo lo hi m n), .int .i64 (pickHi lo hi m n)]) ∧ Below w.heap.size w w' := by
  have hw := vspan_iff.1 hv
  unfold pickLo pickHi
  have p1 := pickN_bd (m := m) hw.2.1
  have p2 := pickN_bd (m := n) hw.2.1
  have e1 : (m.tmod (hi - lo + 1) + (hi - lo + 1)) % (hi - lo + 1) = pickN lo hi m := tmod_pick (by omega)
  have e2 : (n.tmod (hi - lo + 1) + (hi - lo + 1)) % (hi - lo + 1) = pickN lo hi n := tmod_pick (by omega)
  have a1 := Int.tmod_lt_of_pos m (show 0 < hi - lo + 1 by omega)
  have a2 := Int.lt_tmod_of_pos m (show 0 < hi - lo + 1 by omega)
  have b1 := Int.tmod_lt_of_pos n (show 0 < hi - lo + 1 by omega)
  have b2 := Int.lt_tmod_of_pos n (show 0 < hi - lo + 1 by omega)
  generalize pickN lo hi m = i at *
  generalize pickN lo hi n = k at *
  have E1 := Lib.hid e1
  have E2 := Lib.hid e2
  clear e1 e2
  obtain ⟨x, hx⟩ : ∃ x, min i k = x := ⟨_, rfl⟩
  obtain ⟨y, hy⟩ : ∃ y, max i k = y := ⟨_, rfl⟩
  rw [hx, hy]
  rcases (show (i < k ∧ x = i ∧ y = k) ∨ (k = i ∧ x = i ∧ y = i) ∨ (k < i ∧ x = k ∧ y = i) by omega) with ⟨h, rfl, rfl⟩ | ⟨rfl, rfl, rfl⟩ | ⟨h, rfl, rfl⟩
  all_goals
    clear hx hy
    go_enter Try.func25, Try.ntmps25
    go_wp2
    go_quiet (fail)
    rw [E1.out, E2.out]
    go_wp2
  · exact bodyPost_ret (v := .agg #[.int .i64 (lo + x), .int .i64 (lo + y)]) (by first | (simp (maxDischargeDepth := 9) [results, Try.results25, go_sem, hc1, hd1]; done) | (simp (maxDischargeDepth := 9) [results, Try.results25, go_sem, hc1]; done) | (simp [results, Try.results25, go_sem]; done)) rfl (⟨rfl, (by repeat' (first | exact Below.refl _ _ | assumption | refine Below.drew ?_ | refine bdn ?_ _ | refine bal ?_ _ | refine Below.setCell ?_ (by first | (simp; done) | omega | (simp; omega)) _))⟩)
  · exact bodyPost_ret (v := .agg #[.int .i64 (lo + y), .int .i64 (lo + y)]) (by first | (simp (maxDischargeDepth := 9) [results, Try.results25, go_sem, hc1, hd1]; done) | (simp (maxDischargeDepth := 9) [results, Try.results25, go_sem, hc1]; done) | (simp [results, Try.results25, go_sem]; done)) rfl (⟨rfl, (by repeat' (first | exact Below.refl _ _ | assumption | refine Below.drew ?_ | refine bdn ?_ _ | refine bal ?_ _ | refine Below.setCell ?_ (by first | (simp; done) | omega | (simp; omega)) _))⟩)
  · exact bodyPost_ret (v := .agg #[.int .i64 (lo + x), .int .i64 (lo + y)]) (by first | (simp (maxDischargeDepth := 9) [results, Try.results25, go_sem, hc1, hd1]; done) | (simp (maxDischargeDepth := 9) [results, Try.results25, go_sem, hc1]; done) | (simp [results, Try.results25, go_sem]; done)) rfl (⟨rfl, (by repeat' (first | exact Below.refl _ _ | assumption | refine Below.drew ?_ | refine bdn ?_ _ | refine bal ?_ _ | refine Below.setCell ?_ (by first | (simp; done) | omega | (simp; omega)) _))⟩)

theorem At_c (x y v : Value) (T : Tbl) (px py : Int) (w : World) (hT : TblAt w x y v T) (ht : tblB T = true) (hO : OnT T px py) :
   Calls Try.prog 26 #[.agg #[x, y, v], .int .i64 px, .int .i64 py] w fun e w' => e = .returned (.tuple #[.agg #[.int .i64 (flo T px py), .int .i64 (cei T px py)], .int .i64 0]) ∧ Below w.heap.size w w' := by
  have hX := axisB_len (tblB_X ht)
  have hY := axisB_len (tblB_Y ht)
  obtain ⟨o1, o2, o3, o4⟩ := id hO
  obtain ⟨⟨b1, b2⟩, b3, b4⟩ := numP_bd ht hO
  have C1 := Lib.hid (fun w1 (h : TblAt w1 x y v T) => (show Calls Try.prog 61 #[.agg #[x, y, v]] w1 fun e w' => e = .returned (.int .i64 0) ∧ Below w1.heap.size w1 w' by have := CheckTable_c x y v T w1 h; rwa [ht, tblE_t] at this))
  have lx : liesB T.X px px = true := by unfold liesB; simp only [Bool.and_eq_true, decide_eq_true_eq]; omega
  have ly : liesB T.Y py py = true := by unfold liesB; simp only [Bool.and_eq_true, decide_eq_true_eq]; omega
  have C2 := Lib.hid (fun w1 (h : TblAt w1 x y v T) => (show Calls Try.prog 62 #[x, .agg #[.int .i64 px, .int .i64 px]] w1 fun e w' => e = .returned (.bool true) ∧ Below w1.heap.size w1 w' by have := lies_c x T.X px px w1 h.x (by omega); rwa [lx] at this))
  have C3 := Lib.hid (fun w1 (h : TblAt w1 x y v T) => (show Calls Try.prog 62 #[y, .agg #[.int .i64 py, .int .i64 py]] w1 fun e w' => e = .returned (.bool true) ∧ Below w1.heap.size w1 w' by have := lies_c y T.Y py py w1 h.y (by omega); rwa [ly] at this))
  have C4 := Lib.hid (fun w1 (h : TblAt w1 x y v T) => (show Calls Try.prog 63 #[.agg #[x, y, v], .int .i64 px, .int .i64 py] w1 fun e w' => e = .returned (.agg #[.int .i64 (numP T px py), .int .i64 (denP T px py)]) ∧ Below w1.heap.size w1 w' from at_c x y v T px py w1 h ht o1 o2 o3 o4))
  have HT := Lib.hid hT
  unfold flo cei
  generalize numP T px py = n at *
  generalize denP T px py = d at *
  have F1 := Lib.hid (fun w => floor_c n d w (by omega) (by omega) (by omega) (by omega))
  have F2 := Lib.hid (fun w => ceil_c n d w (by omega) (by omega) (by omega) (by omega))
  generalize n / d = q at *
  generalize cdiv n d = c at *
  clear hT lx ly hX hY hO o1 o2 o3 o4 b1 b2 b3 b4
  go_enter Try.func26, Try.ntmps26
  go_wp2_with fail
  have bHM : Blk ((w.alloc (.cells #[x, y, v] 25)).alloc (.cells #[.int .i64 0, .int .i64 0] 34)) (w.heap.size) 25 #[x, y, v] := (by repeat (first | (refine Blk.newAt _ _ _ ?_; first | rfl | (simp; done)) | refine Blk.alloc ?_ _))
  have bHZ : Blk ((w.alloc (.cells #[x, y, v] 25)).alloc (.cells #[.int .i64 0, .int .i64 0] 34)) (w.heap.size + 1) 34 #[.int .i64 0, .int .i64 0] := (by repeat (first | (refine Blk.newAt _ _ _ ?_; first | rfl | (simp; done)) | refine Blk.alloc ?_ _))
  have bHB : Below w.heap.size w ((w.alloc (.cells #[x, y, v] 25)).alloc (.cells #[.int .i64 0, .int .i64 0] 34)) := (by repeat' (first | exact Below.refl _ _ | assumption | refine Below.drew ?_ | refine bdn ?_ _ | refine bal ?_ _ | refine Below.setCell ?_ (by first | (simp; done) | omega | (simp; omega)) _))
  generalize ((w.alloc (.cells #[x, y, v] 25)).alloc (.cells #[.int .i64 0, .int .i64 0] 34)) = W at *
  have zW := bHZ.lt
  have HM := Lib.hid bHM
  have HZ := Lib.hid bHZ
  have HB := Lib.hid bHB
  clear bHM bHZ bHB
  go_wp2_with (first | (go_at_call 61; (with_reducible refine (C1.out _ (HT.out.below HB.out)).mono ?_); rintro e w1 ⟨rfl, hb1⟩; have nHM := Lib.hid (HM.out.below hb1); have nHZ := Lib.hid (HZ.out.below hb1); have nHB := Lib.hid (bthen HB.out hb1); have zz1 := hb1.size; clear HM HZ HB hb1; have HM := nHM; have HZ := nHZ; have HB := nHB; clear nHM nHZ nHB; (try clear zHM); have zHM := HM.out.lt; (try clear cHM0); have cHM0 := HM.out.cell 0; (try clear cHM1); have cHM1 := HM.out.cell 1; (try clear cHM2); have cHM2 := HM.out.cell 2) | (go_at_call 62; (with_reducible refine (C2.out _ (HT.out.below HB.out)).mono ?_); rintro e w1 ⟨rfl, hb1⟩; have nHM := Lib.hid (HM.out.below hb1); have nHZ := Lib.hid (HZ.out.below hb1); have nHB := Lib.hid (bthen HB.out hb1); have zz1 := hb1.size; clear HM HZ HB hb1; have HM := nHM; have HZ := nHZ; have HB := nHB; clear nHM nHZ nHB; (try clear zHM); have zHM := HM.out.lt; (try clear cHM0); have cHM0 := HM.out.cell 0; (try clear cHM1); have cHM1 := HM.out.cell 1; (try clear cHM2); have cHM2 := HM.out.cell 2) | (go_at_call 62; (with_reducible refine (C3.out _ (HT.out.below HB.out)).mono ?_); rintro e w1 ⟨rfl, hb1⟩; have nHM := Lib.hid (HM.out.below hb1); have nHZ := Lib.hid (HZ.out.below hb1); have nHB := Lib.hid (bthen HB.out hb1); have zz1 := hb1.size; clear HM HZ HB hb1; have HM := nHM; have HZ := nHZ; have HB := nHB; clear nHM nHZ nHB; (try clear zHM); have zHM := HM.out.lt; (try clear cHM0); have cHM0 := HM.out.cell 0; (try clear cHM1); have cHM1 := HM.out.cell 1; (try clear cHM2); have cHM2 := HM.out.cell 2) | (go_at_call 63; (with_reducible refine (C4.out _ (HT.out.below HB.out)).mono ?_); rintro e w1 ⟨rfl, hb1⟩; have nHM := Lib.hid (HM.out.below hb1); have nHZ := Lib.hid (HZ.out.below hb1); have nHB := Lib.hid (bthen HB.out hb1); have zz1 := hb1.size; clear HM HZ HB hb1; have HM := nHM; have HZ := nHZ; have HB := nHB; clear nHM nHZ nHB; (try clear zHZ); have zHZ := HZ.out.lt; (try clear cHZ0); have cHZ0 := HZ.out.cell 0; (try clear cHZ1); have cHZ1 := HZ.out.cell 1; (try clear fHZ); have fHZ := fun i => HZ.out.frozen i))
  have bHV := Blk.new w1 94 #[.int .i64 n, .int .i64 d]
  have nHZ := Lib.hid (HZ.out.alloc (.cells #[.int .i64 n, .int .i64 d] 94))
  have nHB := Lib.hid (bal HB.out (.cells #[.int .i64 n, .int .i64 d] 94))
  clear HZ HB
  have HZ := nHZ
  have HB := nHB
  clear nHZ nHB
  generalize w1.alloc (.cells #[.int .i64 n, .int .i64 d] 94) = W2 at *
  generalize w1.heap.size = gHV at *
  have HV := Lib.hid bHV
  clear bHV
  have zHV := HV.out.lt
  have cHV0 := HV.out.cell 0
  have cHV1 := HV.out.cell 1
  (refine wp_region_drawnt 11 (by kernel_rfl) (by kernel_rfl) ?_; simp only [List.take_succ_cons, List.take_zero, List.drop_succ_cons, List.drop_zero]; (repeat (go_big_quiet_step ( first | (go_at_call 64; (with_reducible refine qsame (F1.out _))) | (go_at_call 65; (with_reducible refine qsame (F2.out _)))))); refine wpQuiet_nil ?_; rintro _ ⟨nq, rfl⟩)
  have HZ1 := Lib.hid (Blk.below HZ.out (bdn (Below.refl W2.heap.size W2) nq))
  have HB1 := Lib.hid (bdn HB.out nq)
  clear HZ HB cHV0 cHV1 zHV
  generalize W2.drewN nq = W3 at *
  have z0 := HZ1.out.cell 0
  have z1 := HZ1.out.cell 1
  have z2 := fun i => HZ1.out.frozen i
  have z3 := HZ1.out.lt
  go_wp2
  exact bodyPost_ret (res_ct rfl _ _ #[.int .i64 q, .int .i64 c] 2 rfl ((HZ1.out.set_ 0 _).set_ 1 _) Try.rowSpan rfl) rfl ⟨rfl, bset (bset HB1.out (by omega) _) (by omega) _⟩

theorem kept_law {S : Tabs} {cl bu wl wh tl th el eh nl nh sl sh x t z y u : Int} (h : margE S cl bu wl wh tl th el eh nl nh sl sh = 0) (hx : wl ≤ x ∧ x ≤ wh) (ht : tl ≤ t ∧ t ≤ th) (hz : el ≤ z ∧ z ≤ eh) (hy : nl ≤ y ∧ y ≤ nh) (hu : sl ≤ u ∧ u ≤ sh) :
    cei S.h x t * cei S.g u y + marV S cl bu wl wh tl th el eh nl nh sl sh * 100 ≤ flo S.p t z * 100 ∧ (0 ≤ cei S.h x t ∧ cei S.h x t ≤ 100000) ∧ (0 ≤ cei S.g u y ∧ cei S.g u y ≤ 100) ∧ (0 ≤ flo S.p t z ∧ flo S.p t z ≤ 100000) ∧ (-200000 ≤ marV S cl bu wl wh tl th el eh nl nh sl sh ∧ marV S cl bu wl wh tl th el eh nl nh sl sh ≤ 200000) ∧ (0 ≤ cei S.h x t * cei S.g u y ∧ cei S.h x t * cei S.g u y ≤ 10000000) := by
  obtain ⟨hr, fh, fg, fp⟩ := margE_ok h
  have b1 := bnd_lim (rotB_p hr) fp
  have b2 := need_lim (rotB_h hr) (rotB_g hr) fh fg
  have l1 := flo_lim (rotB_h hr) (fh.on hx ht)
  have l2 := flo_lim (rotB_g hr) (fg.on hu hy)
  have l3 := flo_lim (rotB_p hr) (fp.on ht hz)
  have a1 := (bnd_at fh hx ht).2
  have a2 := (bnd_at fg hu hy).2
  have a3 := (bnd_at fp ht hz).1
  have c1 := bnd_lim (rotB_h hr) fh
  have c2 := bnd_lim (rotB_g hr) fg
  unfold marV
  rw [h, okN_ok]
  unfold margV
  have m1 := Int.mul_le_mul a1 a2 (by omega) (by omega)
  have m2 := Int.mul_nonneg (show 0 ≤ cei S.h x t by omega) (show 0 ≤ cei S.g u y by omega)
  have m3 := Int.mul_le_mul (show cei S.h x t ≤ 100000 by omega) (show cei S.g u y ≤ 100 by omega) (by omega) (by omega)
  have e : bHi S.h wl wh tl th * bHi S.g sl sh nl nh ≤ 100 * needHi S wl wh tl th nl nh sl sh := by unfold needHi; omega
  generalize needHi S wl wh tl th nl nh sl sh = N at *
  generalize bHi S.h wl wh tl th * bHi S.g sl sh nl nh = P at *
  generalize cei S.h x t * cei S.g u y = Q at *
  refine ⟨?_, ?_, ?_, ?_, ?_, ?_⟩ <;> omega
theorem marg_one {S : Tabs} {cl bu wl wh tl th el eh nl nh sl sh : Int} (ha : airE S cl bu wl wh tl th el eh nl nh = 0) (h : margE S cl bu wl wh tl th el eh nl nh sl sh ≠ 0) : margE S cl bu wl wh tl th el eh nl nh sl sh = 1 := by
  unfold margE at *
  rw [airE_then _ _ ha] at *
  split at h
  · rename_i hc; rw [if_pos hc]
  · exact absurd rfl h

theorem RotorKept_c (hx hy hv gx gy gv lx ly lv px py pv nx ny nv ax ay av cx cy cv dx dy dv : Value) (cl bu : Int) (wl wh tl th el eh nl nh : Int) (S : Tabs) (n0 n1 n2 n3 n4 n5 n6 n7 n8 n9 n10 n11 pl ph sl sh : Int) (w : World) (hR : RotAt w hx hy hv gx gy gv lx ly lv px py pv nx ny nv ax ay av cx cy cv dx dy dv cl bu S) (i0 : I64 n0) (i1 : I64 n1) (i2 : I64 n2) (i3 : I64 n3) (i4 : I64 n4) :
   Calls Try.prog 5 #[.agg #[hx, hy, hv, gx, gy, gv, lx, ly, lv, px, py, pv, nx, ny, nv, ax, ay, av, cx, cy, cv, dx, dy, dv, .int .i64 cl, .int .i64 bu], .agg #[.int .i64 wl, .int .i64 wh, .int .i64 tl, .int .i64 th, .int .i64 el, .int .i64 eh, .int .i64 nl, .int .i64 nh], .agg #[.int .i64 n0, .int .i64 n1, .int .i64 n2, .int .i64 n3, .int .i64 n4, .int .i64 n5, .int .i64 n6, .int .i64 n7, .int .i64 n8, .int .i64 n9, .int .i64 n10, .int .i64 n11, .int .i64 pl, .int .i64 ph, .int .i64 sl, .int .i64 sh]] w fun e w' => e = .returned (.bool true) ∧ Below w.heap.size w w' := by
  have HR := Lib.hid hR
  clear hR
  have hw := fun w1 hR => far2_c hx hy hv gx gy gv lx ly lv px py pv nx ny nv ax ay av cx cy cv dx dy dv cl bu S w1 hR
  have hca := fun w1 hR => rf2_CheckAir_c hx hy hv gx gy gv lx ly lv px py pv nx ny nv ax ay av cx cy cv dx dy dv cl bu wl wh tl th el eh nl nh S w1 hR
  have hv := fun w1 => rf_Valid_c sl sh w1
  cases hf : farS S
  case true =>
    rw [hf] at hw
    have HW := Lib.hid hw
    have HCA := trivial
    have HV := trivial
    have HN := trivial
    clear hw hca hv
    go_enter Try.func5, Try.ntmps5
    go_wp2_with (first | (refine wpl_row rfl 27 _ rfl _ rfl #[hx, hy, hv, gx, gy, gv, lx, ly, lv, px, py, pv, nx, ny, nv, ax, ay, av, cx, cy, cv, dx, dy, dv, .int .i64 cl, .int .i64 bu] 26 ?_ Try.rowRot rfl ?_; (focus exact (by repeat (first | (refine Blk.newAt _ _ _ ?_; first | rfl | (simp; done)) | refine Blk.alloc ?_ _))); simp only [Act.put]))
    have bHM : Blk (((w.alloc (.cells #[hx, hy, hv, gx, gy, gv, lx, ly, lv, px, py, pv, nx, ny, nv, ax, ay, av, cx, cy, cv, dx, dy, dv, .int .i64 cl, .int .i64 bu] 27)).alloc (.cells #[.int .i64 wl, .int .i64 wh, .int .i64 tl, .int .i64 th, .int .i64 el, .int .i64 eh, .int .i64 nl, .int .i64 nh] 36)).alloc (.cells #[.int .i64 n0, .int .i64 n1, .int .i64 n2, .int .i64 n3, .int .i64 n4, .int .i64 n5, .int .i64 n6, .int .i64 n7, .int .i64 n8, .int .i64 n9, .int .i64 n10, .int .i64 n11, .int .i64 pl, .int .i64 ph, .int .i64 sl, .int .i64 sh] 46)) (w.heap.size) 27 #[hx, hy, hv, gx, gy, gv, lx, ly, lv, px, py, pv, nx, ny, nv, ax, ay, av, cx, cy, cv, dx, dy, dv, .int .i64 cl, .int .i64 bu] := (by repeat (first | (refine Blk.newAt _ _ _ ?_; first | rfl | (simp; done)) | refine Blk.alloc ?_ _))
    have bHA : Blk (((w.alloc (.cells #[hx, hy, hv, gx, gy, gv, lx, ly, lv, px, py, pv, nx, ny, nv, ax, ay, av, cx, cy, cv, dx, dy, dv, .int .i64 cl, .int .i64 bu] 27)).alloc (.cells #[.int .i64 wl, .int .i64 wh, .int .i64 tl, .int .i64 th, .int .i64 el, .int .i64 eh, .int .i64 nl, .int .i64 nh] 36)).alloc (.cells #[.int .i64 n0, .int .i64 n1, .int .i64 n2, .int .i64 n3, .int .i64 n4, .int .i64 n5, .int .i64 n6, .int .i64 n7, .int .i64 n8, .int .i64 n9, .int .i64 n10, .int .i64 n11, .int .i64 pl, .int .i64 ph, .int .i64 sl, .int .i64 sh] 46)) (w.heap.size + 1) 36 #[.int .i64 wl, .int .i64 wh, .int .i64 tl, .int .i64 th, .int .i64 el, .int .i64 eh, .int .i64 nl, .int .i64 nh] := (by repeat (first | (refine Blk.newAt _ _ _ ?_; first | rfl | (simp; done)) | refine Blk.alloc ?_ _))
    have bHS : Blk (((w.alloc (.cells #[hx, hy, hv, gx, gy, gv, lx, ly, lv, px, py, pv, nx, ny, nv, ax, ay, av, cx, cy, cv, dx, dy, dv, .int .i64 cl, .int .i64 bu] 27)).alloc (.cells #[.int .i64 wl, .int .i64 wh, .int .i64 tl, .int .i64 th, .int .i64 el, .int .i64 eh, .int .i64 nl, .int .i64 nh] 36)).alloc (.cells #[.int .i64 n0, .int .i64 n1, .int .i64 n2, .int .i64 n3, .int .i64 n4, .int .i64 n5, .int .i64 n6, .int .i64 n7, .int .i64 n8, .int .i64 n9, .int .i64 n10, .int .i64 n11, .int .i64 pl, .int .i64 ph, .int .i64 sl, .int .i64 sh] 46)) (w.heap.size + 1 + 1) 46 #[.int .i64 n0, .int .i64 n1, .int .i64 n2, .int .i64 n3, .int .i64 n4, .int .i64 n5, .int .i64 n6, .int .i64 n7, .int .i64 n8, .int .i64 n9, .int .i64 n10, .int .i64 n11, .int .i64 pl, .int .i64 ph, .int .i64 sl, .int .i64 sh] := (by repeat (first | (refine Blk.newAt _ _ _ ?_; first | rfl | (simp; done)) | refine Blk.alloc ?_ _))
    have bHB : Below w.heap.size w (((w.alloc (.cells #[hx, hy, hv, gx, gy, gv, lx, ly, lv, px, py, pv, nx, ny, nv, ax, ay, av, cx, cy, cv, dx, dy, dv, .int .i64 cl, .int .i64 bu] 27)).alloc (.cells #[.int .i64 wl, .int .i64 wh, .int .i64 tl, .int .i64 th, .int .i64 el, .int .i64 eh, .int .i64 nl, .int .i64 nh] 36)).alloc (.cells #[.int .i64 n0, .int .i64 n1, .int .i64 n2, .int .i64 n3, .int .i64 n4, .int .i64 n5, .int .i64 n6, .int .i64 n7, .int .i64 n8, .int .i64 n9, .int .i64 n10, .int .i64 n11, .int .i64 pl, .int .i64 ph, .int .i64 sl, .int .i64 sh] 46)) := (by repeat' (first | exact Below.refl _ _ | assumption | refine Below.drew ?_ | refine bdn ?_ _ | refine bal ?_ _ | refine Below.setCell ?_ (by first | (simp; done) | omega | (simp; omega)) _))
    generalize (((w.alloc (.cells #[hx, hy, hv, gx, gy, gv, lx, ly, lv, px, py, pv, nx, ny, nv, ax, ay, av, cx, cy, cv, dx, dy, dv, .int .i64 cl, .int .i64 bu] 27)).alloc (.cells #[.int .i64 wl, .int .i64 wh, .int .i64 tl, .int .i64 th, .int .i64 el, .int .i64 eh, .int .i64 nl, .int .i64 nh] 36)).alloc (.cells #[.int .i64 n0, .int .i64 n1, .int .i64 n2, .int .i64 n3, .int .i64 n4, .int .i64 n5, .int .i64 n6, .int .i64 n7, .int .i64 n8, .int .i64 n9, .int .i64 n10, .int .i64 n11, .int .i64 pl, .int .i64 ph, .int .i64 sl, .int .i64 sh] 46)) = W at *
    have zW := bHS.lt
    have HM := Lib.hid bHM
    have HA := Lib.hid bHA
    have HS := Lib.hid bHS
    have HB := Lib.hid bHB
    clear bHM bHA bHS bHB
    go_wp2_with (first | (refine wpl_row_g rfl 27 _ rfl _ rfl #[hx, hy, hv, gx, gy, gv, lx, ly, lv, px, py, pv, nx, ny, nv, ax, ay, av, cx, cy, cv, dx, dy, dv, .int .i64 cl, .int .i64 bu] 26 HM.out Try.rowRot rfl ?_; simp only [Act.put]) | (refine wpl_row_g rfl 36 _ rfl _ rfl #[.int .i64 wl, .int .i64 wh, .int .i64 tl, .int .i64 th, .int .i64 el, .int .i64 eh, .int .i64 nl, .int .i64 nh] 8 HA.out Try.rowAir rfl ?_; simp only [Act.put]) | (refine wpl_row rfl 27 _ rfl _ rfl #[hx, hy, hv, gx, gy, gv, lx, ly, lv, px, py, pv, nx, ny, nv, ax, ay, av, cx, cy, cv, dx, dy, dv, .int .i64 cl, .int .i64 bu] 26 HM.out Try.rowRot rfl ?_; simp only [Act.put]) | (refine wpl_row rfl 36 _ rfl _ rfl #[.int .i64 wl, .int .i64 wh, .int .i64 tl, .int .i64 th, .int .i64 el, .int .i64 eh, .int .i64 nl, .int .i64 nh] 8 HA.out Try.rowAir rfl ?_; simp only [Act.put]) | (go_at_call 14; (with_reducible refine (HW.out _ (HR.out.below HB.out)).mono ?_); rintro e w1 ⟨rfl, hb1⟩; have nHM := Lib.hid (HM.out.below hb1); have nHA := Lib.hid (HA.out.below hb1); have nHS := Lib.hid (HS.out.below hb1); have nHB := Lib.hid (bthen HB.out hb1); have zz1 := hb1.size; clear HM HA HS HB hb1; have HM := nHM; have HA := nHA; have HS := nHS; have HB := nHB; clear nHM nHA nHS nHB; (try clear zHS); have zHS := HS.out.lt; (try clear cHS14); have cHS14 := HS.out.cell 14; (try clear cHS15); have cHS15 := HS.out.cell 15) | (go_at_call 23; (with_reducible refine (HCA.out _ (HR.out.below HB.out)).mono ?_); rintro e w1 ⟨rfl, hb1⟩; have nHM := Lib.hid (HM.out.below hb1); have nHA := Lib.hid (HA.out.below hb1); have nHS := Lib.hid (HS.out.below hb1); have nHB := Lib.hid (bthen HB.out hb1); have zz1 := hb1.size; clear HM HA HS HB hb1; have HM := nHM; have HA := nHA; have HS := nHS; have HB := nHB; clear nHM nHA nHS nHB; (try clear zHS); have zHS := HS.out.lt; (try clear cHS14); have cHS14 := HS.out.cell 14; (try clear cHS15); have cHS15 := HS.out.cell 15) | (go_at_call 24; (with_reducible refine (HV.out _).mono ?_); rintro e w1 ⟨rfl, hb1⟩; have nHM := Lib.hid (HM.out.below hb1); have nHA := Lib.hid (HA.out.below hb1); have nHS := Lib.hid (HS.out.below hb1); have nHB := Lib.hid (bthen HB.out hb1); have zz1 := hb1.size; clear HM HA HS HB hb1; have HM := nHM; have HA := nHA; have HS := nHS; have HB := nHB; clear nHM nHA nHS nHB; (try clear zHS); have zHS := HS.out.lt; (try clear cHS14); have cHS14 := HS.out.cell 14; (try clear cHS15); have cHS15 := HS.out.cell 15) | (go_at_call 15; (with_reducible refine (works_c _).mono ?_); rintro e w1 ⟨rfl, hb1⟩; have nHM := Lib.hid (HM.out.below hb1); have nHA := Lib.hid (HA.out.below hb1); have nHS := Lib.hid (HS.out.below hb1); have nHB := Lib.hid (bthen HB.out hb1); have zz1 := hb1.size; clear HM HA HS HB hb1; have HM := nHM; have HA := nHA; have HS := nHS; have HB := nHB; clear nHM nHA nHS nHB) | (go_at_call 17; (with_reducible refine (own_c hx hy hv gx gy gv lx ly lv px py pv nx ny nv ax ay av cx cy cv dx dy dv cl bu S _ (HR.out.below HB.out) HN.out).mono ?_); rintro e w1 ⟨v, rfl, ho, hb1⟩; obtain ⟨hx', hy', hv', gx', gy', gv', lx', ly', lv', px', py', pv', nx', ny', nv', ax', ay', av', cx', cy', cv', dx', dy', dv', rfl, r1⟩ := ho; have HO := Lib.hid r1; clear r1; have nHM := Lib.hid (HM.out.below hb1); have nHA := Lib.hid (HA.out.below hb1); have nHS := Lib.hid (HS.out.below hb1); have nHB := Lib.hid (bthen HB.out hb1); have zz1 := hb1.size; clear HM HA HS HB hb1; have HM := nHM; have HA := nHA; have HS := nHS; have HB := nHB; clear nHM nHA nHS nHB; (try clear zHS); have zHS := HS.out.lt; (try clear cHS14); have cHS14 := HS.out.cell 14; (try clear cHS15); have cHS15 := HS.out.cell 15) | (refine wpl_store_new rfl 27 _ _ rfl #[hx', hy', hv', gx', gy', gv', lx', ly', lv', px', py', pv', nx', ny', nv', ax', ay', av', cx', cy', cv', dx', dy', dv', .int .i64 cl, .int .i64 bu] _ _ rfl ?_ rfl Try.sizeRot' rfl (RotAt.one26' HO.out) ?_; (focus (simp; done)); simp only [Act.put]) | (refine wpl_row rfl 27 _ rfl _ rfl #[hx', hy', hv', gx', gy', gv', lx', ly', lv', px', py', pv', nx', ny', nv', ax', ay', av', cx', cy', cv', dx', dy', dv', .int .i64 cl, .int .i64 bu] 26 (Blk.new _ _ _) Try.rowRot rfl ?_; simp only [Act.put]) | (refine wpl_row rfl 36 _ rfl _ rfl #[.int .i64 wl, .int .i64 wh, .int .i64 tl, .int .i64 th, .int .i64 el, .int .i64 eh, .int .i64 nl, .int .i64 nh] 8 (HA.out.alloc _) Try.rowAir rfl ?_; simp only [Act.put]))
    go_ret
    exact ⟨rfl, HB.out⟩
  rw [hf] at hw
  have HW := Lib.hid hw
  have HN := Lib.hid (farS_near hf)
  clear hw hf
  by_cases ha : airE S cl bu wl wh tl th el eh nl nh = 0
  case neg =>
    have hne : (airE S cl bu wl wh tl th el eh nl nh != 0) = true := by simpa using ha
    have HCA := Lib.hid hca
    have HV := trivial
    generalize airE S cl bu wl wh tl th el eh nl nh = E at *
    clear hca hv ha
    go_enter Try.func5, Try.ntmps5
    go_wp2_with (first | (refine wpl_row rfl 27 _ rfl _ rfl #[hx, hy, hv, gx, gy, gv, lx, ly, lv, px, py, pv, nx, ny, nv, ax, ay, av, cx, cy, cv, dx, dy, dv, .int .i64 cl, .int .i64 bu] 26 ?_ Try.rowRot rfl ?_; (focus exact (by repeat (first | (refine Blk.newAt _ _ _ ?_; first | rfl | (simp; done)) | refine Blk.alloc ?_ _))); simp only [Act.put]))
    have bHM : Blk (((w.alloc (.cells #[hx, hy, hv, gx, gy, gv, lx, ly, lv, px, py, pv, nx, ny, nv, ax, ay, av, cx, cy, cv, dx, dy, dv, .int .i64 cl, .int .i64 bu] 27)).alloc (.cells #[.int .i64 wl, .int .i64 wh, .int .i64 tl, .int .i64 th, .int .i64 el, .int .i64 eh, .int .i64 nl, .int .i64 nh] 36)).alloc (.cells #[.int .i64 n0, .int .i64 n1, .int .i64 n2, .int .i64 n3, .int .i64 n4, .int .i64 n5, .int .i64 n6, .int .i64 n7, .int .i64 n8, .int .i64 n9, .int .i64 n10, .int .i64 n11, .int .i64 pl, .int .i64 ph, .int .i64 sl, .int .i64 sh] 46)) (w.heap.size) 27 #[hx, hy, hv, gx, gy, gv, lx, ly, lv, px, py, pv, nx, ny, nv, ax, ay, av, cx, cy, cv, dx, dy, dv, .int .i64 cl, .int .i64 bu] := (by repeat (first | (refine Blk.newAt _ _ _ ?_; first | rfl | (simp; done)) | refine Blk.alloc ?_ _))
    have bHA : Blk (((w.alloc (.cells #[hx, hy, hv, gx, gy, gv, lx, ly, lv, px, py, pv, nx, ny, nv, ax, ay, av, cx, cy, cv, dx, dy, dv, .int .i64 cl, .int .i64 bu] 27)).alloc (.cells #[.int .i64 wl, .int .i64 wh, .int .i64 tl, .int .i64 th, .int .i64 el, .int .i64 eh, .int .i64 nl, .int .i64 nh] 36)).alloc (.cells #[.int .i64 n0, .int .i64 n1, .int .i64 n2, .int .i64 n3, .int .i64 n4, .int .i64 n5, .int .i64 n6, .int .i64 n7, .int .i64 n8, .int .i64 n9, .int .i64 n10, .int .i64 n11, .int .i64 pl, .int .i64 ph, .int .i64 sl, .int .i64 sh] 46)) (w.heap.size + 1) 36 #[.int .i64 wl, .int .i64 wh, .int .i64 tl, .int .i64 th, .int .i64 el, .int .i64 eh, .int .i64 nl, .int .i64 nh] := (by repeat (first | (refine Blk.newAt _ _ _ ?_; first | rfl | (simp; done)) | refine Blk.alloc ?_ _))
    have bHS : Blk (((w.alloc (.cells #[hx, hy, hv, gx, gy, gv, lx, ly, lv, px, py, pv, nx, ny, nv, ax, ay, av, cx, cy, cv, dx, dy, dv, .int .i64 cl, .int .i64 bu] 27)).alloc (.cells #[.int .i64 wl, .int .i64 wh, .int .i64 tl, .int .i64 th, .int .i64 el, .int .i64 eh, .int .i64 nl, .int .i64 nh] 36)).alloc (.cells #[.int .i64 n0, .int .i64 n1, .int .i64 n2, .int .i64 n3, .int .i64 n4, .int .i64 n5, .int .i64 n6, .int .i64 n7, .int .i64 n8, .int .i64 n9, .int .i64 n10, .int .i64 n11, .int .i64 pl, .int .i64 ph, .int .i64 sl, .int .i64 sh] 46)) (w.heap.size + 1 + 1) 46 #[.int .i64 n0, .int .i64 n1, .int .i64 n2, .int .i64 n3, .int .i64 n4, .int .i64 n5, .int .i64 n6, .int .i64 n7, .int .i64 n8, .int .i64 n9, .int .i64 n10, .int .i64 n11, .int .i64 pl, .int .i64 ph, .int .i64 sl, .int .i64 sh] := (by repeat (first | (refine Blk.newAt _ _ _ ?_; first | rfl | (simp; done)) | refine Blk.alloc ?_ _))
    have bHB : Below w.heap.size w (((w.alloc (.cells #[hx, hy, hv, gx, gy, gv, lx, ly, lv, px, py, pv, nx, ny, nv, ax, ay, av, cx, cy, cv, dx, dy, dv, .int .i64 cl, .int .i64 bu] 27)).alloc (.cells #[.int .i64 wl, .int .i64 wh, .int .i64 tl, .int .i64 th, .int .i64 el, .int .i64 eh, .int .i64 nl, .int .i64 nh] 36)).alloc (.cells #[.int .i64 n0, .int .i64 n1, .int .i64 n2, .int .i64 n3, .int .i64 n4, .int .i64 n5, .int .i64 n6, .int .i64 n7, .int .i64 n8, .int .i64 n9, .int .i64 n10, .int .i64 n11, .int .i64 pl, .int .i64 ph, .int .i64 sl, .int .i64 sh] 46)) := (by repeat' (first | exact Below.refl _ _ | assumption | refine Below.drew ?_ | refine bdn ?_ _ | refine bal ?_ _ | refine Below.setCell ?_ (by first | (simp; done) | omega | (simp; omega)) _))
    generalize (((w.alloc (.cells #[hx, hy, hv, gx, gy, gv, lx, ly, lv, px, py, pv, nx, ny, nv, ax, ay, av, cx, cy, cv, dx, dy, dv, .int .i64 cl, .int .i64 bu] 27)).alloc (.cells #[.int .i64 wl, .int .i64 wh, .int .i64 tl, .int .i64 th, .int .i64 el, .int .i64 eh, .int .i64 nl, .int .i64 nh] 36)).alloc (.cells #[.int .i64 n0, .int .i64 n1, .int .i64 n2, .int .i64 n3, .int .i64 n4, .int .i64 n5, .int .i64 n6, .int .i64 n7, .int .i64 n8, .int .i64 n9, .int .i64 n10, .int .i64 n11, .int .i64 pl, .int .i64 ph, .int .i64 sl, .int .i64 sh] 46)) = W at *
    have zW := bHS.lt
    have HM := Lib.hid bHM
    have HA := Lib.hid bHA
    have HS := Lib.hid bHS
    have HB := Lib.hid bHB
    clear bHM bHA bHS bHB
    go_wp2_with (first | (refine wpl_row_g rfl 27 _ rfl _ rfl #[hx, hy, hv, gx, gy, gv, lx, ly, lv, px, py, pv, nx, ny, nv, ax, ay, av, cx, cy, cv, dx, dy, dv, .int .i64 cl, .int .i64 bu] 26 HM.out Try.rowRot rfl ?_; simp only [Act.put]) | (refine wpl_row_g rfl 36 _ rfl _ rfl #[.int .i64 wl, .int .i64 wh, .int .i64 tl, .int .i64 th, .int .i64 el, .int .i64 eh, .int .i64 nl, .int .i64 nh] 8 HA.out Try.rowAir rfl ?_; simp only [Act.put]) | (refine wpl_row rfl 27 _ rfl _ rfl #[hx, hy, hv, gx, gy, gv, lx, ly, lv, px, py, pv, nx, ny, nv, ax, ay, av, cx, cy, cv, dx, dy, dv, .int .i64 cl, .int .i64 bu] 26 HM.out Try.rowRot rfl ?_; simp only [Act.put]) | (refine wpl_row rfl 36 _ rfl _ rfl #[.int .i64 wl, .int .i64 wh, .int .i64 tl, .int .i64 th, .int .i64 el, .int .i64 eh, .int .i64 nl, .int .i64 nh] 8 HA.out Try.rowAir rfl ?_; simp only [Act.put]) | (go_at_call 14; (with_reducible refine (HW.out _ (HR.out.below HB.out)).mono ?_); rintro e w1 ⟨rfl, hb1⟩; have nHM := Lib.hid (HM.out.below hb1); have nHA := Lib.hid (HA.out.below hb1); have nHS := Lib.hid (HS.out.below hb1); have nHB := Lib.hid (bthen HB.out hb1); have zz1 := hb1.size; clear HM HA HS HB hb1; have HM := nHM; have HA := nHA; have HS := nHS; have HB := nHB; clear nHM nHA nHS nHB; (try clear zHS); have zHS := HS.out.lt; (try clear cHS14); have cHS14 := HS.out.cell 14; (try clear cHS15); have cHS15 := HS.out.cell 15) | (go_at_call 23; (with_reducible refine (HCA.out _ (HR.out.below HB.out)).mono ?_); rintro e w1 ⟨rfl, hb1⟩; have nHM := Lib.hid (HM.out.below hb1); have nHA := Lib.hid (HA.out.below hb1); have nHS := Lib.hid (HS.out.below hb1); have nHB := Lib.hid (bthen HB.out hb1); have zz1 := hb1.size; clear HM HA HS HB hb1; have HM := nHM; have HA := nHA; have HS := nHS; have HB := nHB; clear nHM nHA nHS nHB; (try clear zHS); have zHS := HS.out.lt; (try clear cHS14); have cHS14 := HS.out.cell 14; (try clear cHS15); have cHS15 := HS.out.cell 15) | (go_at_call 24; (with_reducible refine (HV.out _).mono ?_); rintro e w1 ⟨rfl, hb1⟩; have nHM := Lib.hid (HM.out.below hb1); have nHA := Lib.hid (HA.out.below hb1); have nHS := Lib.hid (HS.out.below hb1); have nHB := Lib.hid (bthen HB.out hb1); have zz1 := hb1.size; clear HM HA HS HB hb1; have HM := nHM; have HA := nHA; have HS := nHS; have HB := nHB; clear nHM nHA nHS nHB; (try clear zHS); have zHS := HS.out.lt; (try clear cHS14); have cHS14 := HS.out.cell 14; (try clear cHS15); have cHS15 := HS.out.cell 15) | (go_at_call 15; (with_reducible refine (works_c _).mono ?_); rintro e w1 ⟨rfl, hb1⟩; have nHM := Lib.hid (HM.out.below hb1); have nHA := Lib.hid (HA.out.below hb1); have nHS := Lib.hid (HS.out.below hb1); have nHB := Lib.hid (bthen HB.out hb1); have zz1 := hb1.size; clear HM HA HS HB hb1; have HM := nHM; have HA := nHA; have HS := nHS; have HB := nHB; clear nHM nHA nHS nHB) | (go_at_call 17; (with_reducible refine (own_c hx hy hv gx gy gv lx ly lv px py pv nx ny nv ax ay av cx cy cv dx dy dv cl bu S _ (HR.out.below HB.out) HN.out).mono ?_); rintro e w1 ⟨v, rfl, ho, hb1⟩; obtain ⟨hx', hy', hv', gx', gy', gv', lx', ly', lv', px', py', pv', nx', ny', nv', ax', ay', av', cx', cy', cv', dx', dy', dv', rfl, r1⟩ := ho; have HO := Lib.hid r1; clear r1; have nHM := Lib.hid (HM.out.below hb1); have nHA := Lib.hid (HA.out.below hb1); have nHS := Lib.hid (HS.out.below hb1); have nHB := Lib.hid (bthen HB.out hb1); have zz1 := hb1.size; clear HM HA HS HB hb1; have HM := nHM; have HA := nHA; have HS := nHS; have HB := nHB; clear nHM nHA nHS nHB; (try clear zHS); have zHS := HS.out.lt; (try clear cHS14); have cHS14 := HS.out.cell 14; (try clear cHS15); have cHS15 := HS.out.cell 15) | (refine wpl_store_new rfl 27 _ _ rfl #[hx', hy', hv', gx', gy', gv', lx', ly', lv', px', py', pv', nx', ny', nv', ax', ay', av', cx', cy', cv', dx', dy', dv', .int .i64 cl, .int .i64 bu] _ _ rfl ?_ rfl Try.sizeRot' rfl (RotAt.one26' HO.out) ?_; (focus (simp; done)); simp only [Act.put]) | (refine wpl_row rfl 27 _ rfl _ rfl #[hx', hy', hv', gx', gy', gv', lx', ly', lv', px', py', pv', nx', ny', nv', ax', ay', av', cx', cy', cv', dx', dy', dv', .int .i64 cl, .int .i64 bu] 26 (Blk.new _ _ _) Try.rowRot rfl ?_; simp only [Act.put]) | (refine wpl_row rfl 36 _ rfl _ rfl #[.int .i64 wl, .int .i64 wh, .int .i64 tl, .int .i64 th, .int .i64 el, .int .i64 eh, .int .i64 nl, .int .i64 nh] 8 (HA.out.alloc _) Try.rowAir rfl ?_; simp only [Act.put]))
    go_ret
    exact ⟨rfl, HB.out⟩
  rw [ha] at hca
  have HCA := Lib.hid hca
  clear hca
  obtain ⟨hr, v1, v2, v3, v4⟩ := airE_zero ha
  cases vs : vspan sl sh
  case false =>
    rw [vs] at hv
    have HV := Lib.hid hv
    clear hv ha hr v1 v2 v3 v4
    go_enter Try.func5, Try.ntmps5
    go_wp2_with (first | (refine wpl_row rfl 27 _ rfl _ rfl #[hx, hy, hv, gx, gy, gv, lx, ly, lv, px, py, pv, nx, ny, nv, ax, ay, av, cx, cy, cv, dx, dy, dv, .int .i64 cl, .int .i64 bu] 26 ?_ Try.rowRot rfl ?_; (focus exact (by repeat (first | (refine Blk.newAt _ _ _ ?_; first | rfl | (simp; done)) | refine Blk.alloc ?_ _))); simp only [Act.put]))
    have bHM : Blk (((w.alloc (.cells #[hx, hy, hv, gx, gy, gv, lx, ly, lv, px, py, pv, nx, ny, nv, ax, ay, av, cx, cy, cv, dx, dy, dv, .int .i64 cl, .int .i64 bu] 27)).alloc (.cells #[.int .i64 wl, .int .i64 wh, .int .i64 tl, .int .i64 th, .int .i64 el, .int .i64 eh, .int .i64 nl, .int .i64 nh] 36)).alloc (.cells #[.int .i64 n0, .int .i64 n1, .int .i64 n2, .int .i64 n3, .int .i64 n4, .int .i64 n5, .int .i64 n6, .int .i64 n7, .int .i64 n8, .int .i64 n9, .int .i64 n10, .int .i64 n11, .int .i64 pl, .int .i64 ph, .int .i64 sl, .int .i64 sh] 46)) (w.heap.size) 27 #[hx, hy, hv, gx, gy, gv, lx, ly, lv, px, py, pv, nx, ny, nv, ax, ay, av, cx, cy, cv, dx, dy, dv, .int .i64 cl, .int .i64 bu] := (by repeat (first | (refine Blk.newAt _ _ _ ?_; first | rfl | (simp; done)) | refine Blk.alloc ?_ _))
    have bHA : Blk (((w.alloc (.cells #[hx, hy, hv, gx, gy, gv, lx, ly, lv, px, py, pv, nx, ny, nv, ax, ay, av, cx, cy, cv, dx, dy, dv, .int .i64 cl, .int .i64 bu] 27)).alloc (.cells #[.int .i64 wl, .int .i64 wh, .int .i64 tl, .int .i64 th, .int .i64 el, .int .i64 eh, .int .i64 nl, .int .i64 nh] 36)).alloc (.cells #[.int .i64 n0, .int .i64 n1, .int .i64 n2, .int .i64 n3, .int .i64 n4, .int .i64 n5, .int .i64 n6, .int .i64 n7, .int .i64 n8, .int .i64 n9, .int .i64 n10, .int .i64 n11, .int .i64 pl, .int .i64 ph, .int .i64 sl, .int .i64 sh] 46)) (w.heap.size + 1) 36 #[.int .i64 wl, .int .i64 wh, .int .i64 tl, .int .i64 th, .int .i64 el, .int .i64 eh, .int .i64 nl, .int .i64 nh] := (by repeat (first | (refine Blk.newAt _ _ _ ?_; first | rfl | (simp; done)) | refine Blk.alloc ?_ _))
    have bHS : Blk (((w.alloc (.cells #[hx, hy, hv, gx, gy, gv, lx, ly, lv, px, py, pv, nx, ny, nv, ax, ay, av, cx, cy, cv, dx, dy, dv, .int .i64 cl, .int .i64 bu] 27)).alloc (.cells #[.int .i64 wl, .int .i64 wh, .int .i64 tl, .int .i64 th, .int .i64 el, .int .i64 eh, .int .i64 nl, .int .i64 nh] 36)).alloc (.cells #[.int .i64 n0, .int .i64 n1, .int .i64 n2, .int .i64 n3, .int .i64 n4, .int .i64 n5, .int .i64 n6, .int .i64 n7, .int .i64 n8, .int .i64 n9, .int .i64 n10, .int .i64 n11, .int .i64 pl, .int .i64 ph, .int .i64 sl, .int .i64 sh] 46)) (w.heap.size + 1 + 1) 46 #[.int .i64 n0, .int .i64 n1, .int .i64 n2, .int .i64 n3, .int .i64 n4, .int .i64 n5, .int .i64 n6, .int .i64 n7, .int .i64 n8, .int .i64 n9, .int .i64 n10, .int .i64 n11, .int .i64 pl, .int .i64 ph, .int .i64 sl, .int .i64 sh] := (by repeat (first | (refine Blk.newAt _ _ _ ?_; first | rfl | (simp; done)) | refine Blk.alloc ?_ _))
    have bHB : Below w.heap.size w (((w.alloc (.cells #[hx, hy, hv, gx, gy, gv, lx, ly, lv, px, py, pv, nx, ny, nv, ax, ay, av, cx, cy, cv, dx, dy, dv, .int .i64 cl, .int .i64 bu] 27)).alloc (.cells #[.int .i64 wl, .int .i64 wh, .int .i64 tl, .int .i64 th, .int .i64 el, .int .i64 eh, .int .i64 nl, .int .i64 nh] 36)).alloc (.cells #[.int .i64 n0, .int .i64 n1, .int .i64 n2, .int .i64 n3, .int .i64 n4, .int .i64 n5, .int .i64 n6, .int .i64 n7, .int .i64 n8, .int .i64 n9, .int .i64 n10, .int .i64 n11, .int .i64 pl, .int .i64 ph, .int .i64 sl, .int .i64 sh] 46)) := (by repeat' (first | exact Below.refl _ _ | assumption | refine Below.drew ?_ | refine bdn ?_ _ | refine bal ?_ _ | refine Below.setCell ?_ (by first | (simp; done) | omega | (simp; omega)) _))
    generalize (((w.alloc (.cells #[hx, hy, hv, gx, gy, gv, lx, ly, lv, px, py, pv, nx, ny, nv, ax, ay, av, cx, cy, cv, dx, dy, dv, .int .i64 cl, .int .i64 bu] 27)).alloc (.cells #[.int .i64 wl, .int .i64 wh, .int .i64 tl, .int .i64 th, .int .i64 el, .int .i64 eh, .int .i64 nl, .int .i64 nh] 36)).alloc (.cells #[.int .i64 n0, .int .i64 n1, .int .i64 n2, .int .i64 n3, .int .i64 n4, .int .i64 n5, .int .i64 n6, .int .i64 n7, .int .i64 n8, .int .i64 n9, .int .i64 n10, .int .i64 n11, .int .i64 pl, .int .i64 ph, .int .i64 sl, .int .i64 sh] 46)) = W at *
    have zW := bHS.lt
    have HM := Lib.hid bHM
    have HA := Lib.hid bHA
    have HS := Lib.hid bHS
    have HB := Lib.hid bHB
    clear bHM bHA bHS bHB
    go_wp2_with (first | (refine wpl_row_g rfl 27 _ rfl _ rfl #[hx, hy, hv, gx, gy, gv, lx, ly, lv, px, py, pv, nx, ny, nv, ax, ay, av, cx, cy, cv, dx, dy, dv, .int .i64 cl, .int .i64 bu] 26 HM.out Try.rowRot rfl ?_; simp only [Act.put]) | (refine wpl_row_g rfl 36 _ rfl _ rfl #[.int .i64 wl, .int .i64 wh, .int .i64 tl, .int .i64 th, .int .i64 el, .int .i64 eh, .int .i64 nl, .int .i64 nh] 8 HA.out Try.rowAir rfl ?_; simp only [Act.put]) | (refine wpl_row rfl 27 _ rfl _ rfl #[hx, hy, hv, gx, gy, gv, lx, ly, lv, px, py, pv, nx, ny, nv, ax, ay, av, cx, cy, cv, dx, dy, dv, .int .i64 cl, .int .i64 bu] 26 HM.out Try.rowRot rfl ?_; simp only [Act.put]) | (refine wpl_row rfl 36 _ rfl _ rfl #[.int .i64 wl, .int .i64 wh, .int .i64 tl, .int .i64 th, .int .i64 el, .int .i64 eh, .int .i64 nl, .int .i64 nh] 8 HA.out Try.rowAir rfl ?_; simp only [Act.put]) | (go_at_call 14; (with_reducible refine (HW.out _ (HR.out.below HB.out)).mono ?_); rintro e w1 ⟨rfl, hb1⟩; have nHM := Lib.hid (HM.out.below hb1); have nHA := Lib.hid (HA.out.below hb1); have nHS := Lib.hid (HS.out.below hb1); have nHB := Lib.hid (bthen HB.out hb1); have zz1 := hb1.size; clear HM HA HS HB hb1; have HM := nHM; have HA := nHA; have HS := nHS; have HB := nHB; clear nHM nHA nHS nHB; (try clear zHS); have zHS := HS.out.lt; (try clear cHS14); have cHS14 := HS.out.cell 14; (try clear cHS15); have cHS15 := HS.out.cell 15) | (go_at_call 23; (with_reducible refine (HCA.out _ (HR.out.below HB.out)).mono ?_); rintro e w1 ⟨rfl, hb1⟩; have nHM := Lib.hid (HM.out.below hb1); have nHA := Lib.hid (HA.out.below hb1); have nHS := Lib.hid (HS.out.below hb1); have nHB := Lib.hid (bthen HB.out hb1); have zz1 := hb1.size; clear HM HA HS HB hb1; have HM := nHM; have HA := nHA; have HS := nHS; have HB := nHB; clear nHM nHA nHS nHB; (try clear zHS); have zHS := HS.out.lt; (try clear cHS14); have cHS14 := HS.out.cell 14; (try clear cHS15); have cHS15 := HS.out.cell 15) | (go_at_call 24; (with_reducible refine (HV.out _).mono ?_); rintro e w1 ⟨rfl, hb1⟩; have nHM := Lib.hid (HM.out.below hb1); have nHA := Lib.hid (HA.out.below hb1); have nHS := Lib.hid (HS.out.below hb1); have nHB := Lib.hid (bthen HB.out hb1); have zz1 := hb1.size; clear HM HA HS HB hb1; have HM := nHM; have HA := nHA; have HS := nHS; have HB := nHB; clear nHM nHA nHS nHB; (try clear zHS); have zHS := HS.out.lt; (try clear cHS14); have cHS14 := HS.out.cell 14; (try clear cHS15); have cHS15 := HS.out.cell 15) | (go_at_call 15; (with_reducible refine (works_c _).mono ?_); rintro e w1 ⟨rfl, hb1⟩; have nHM := Lib.hid (HM.out.below hb1); have nHA := Lib.hid (HA.out.below hb1); have nHS := Lib.hid (HS.out.below hb1); have nHB := Lib.hid (bthen HB.out hb1); have zz1 := hb1.size; clear HM HA HS HB hb1; have HM := nHM; have HA := nHA; have HS := nHS; have HB := nHB; clear nHM nHA nHS nHB) | (go_at_call 17; (with_reducible refine (own_c hx hy hv gx gy gv lx ly lv px py pv nx ny nv ax ay av cx cy cv dx dy dv cl bu S _ (HR.out.below HB.out) HN.out).mono ?_); rintro e w1 ⟨v, rfl, ho, hb1⟩; obtain ⟨hx', hy', hv', gx', gy', gv', lx', ly', lv', px', py', pv', nx', ny', nv', ax', ay', av', cx', cy', cv', dx', dy', dv', rfl, r1⟩ := ho; have HO := Lib.hid r1; clear r1; have nHM := Lib.hid (HM.out.below hb1); have nHA := Lib.hid (HA.out.below hb1); have nHS := Lib.hid (HS.out.below hb1); have nHB := Lib.hid (bthen HB.out hb1); have zz1 := hb1.size; clear HM HA HS HB hb1; have HM := nHM; have HA := nHA; have HS := nHS; have HB := nHB; clear nHM nHA nHS nHB; (try clear zHS); have zHS := HS.out.lt; (try clear cHS14); have cHS14 := HS.out.cell 14; (try clear cHS15); have cHS15 := HS.out.cell 15) | (refine wpl_store_new rfl 27 _ _ rfl #[hx', hy', hv', gx', gy', gv', lx', ly', lv', px', py', pv', nx', ny', nv', ax', ay', av', cx', cy', cv', dx', dy', dv', .int .i64 cl, .int .i64 bu] _ _ rfl ?_ rfl Try.sizeRot' rfl (RotAt.one26' HO.out) ?_; (focus (simp; done)); simp only [Act.put]) | (refine wpl_row rfl 27 _ rfl _ rfl #[hx', hy', hv', gx', gy', gv', lx', ly', lv', px', py', pv', nx', ny', nv', ax', ay', av', cx', cy', cv', dx', dy', dv', .int .i64 cl, .int .i64 bu] 26 (Blk.new _ _ _) Try.rowRot rfl ?_; simp only [Act.put]) | (refine wpl_row rfl 36 _ rfl _ rfl #[.int .i64 wl, .int .i64 wh, .int .i64 tl, .int .i64 th, .int .i64 el, .int .i64 eh, .int .i64 nl, .int .i64 nh] 8 (HA.out.alloc _) Try.rowAir rfl ?_; simp only [Act.put]))
    go_ret
    exact ⟨rfl, HB.out⟩
  rw [vs] at hv
  have HV := Lib.hid hv
  clear hv
  have hk := fun w1 hx hy hv gx gy gv lx ly lv px py pv nx ny nv ax ay av cx cy cv dx dy dv hR => Margin_c hx hy hv gx gy gv lx ly lv px py pv nx ny nv ax ay av cx cy cv dx dy dv cl bu wl wh tl th el eh nl nh S sl sh w1 hR
  by_cases hm : margE S cl bu wl wh tl th el eh nl nh sl sh = 0
  case neg =>
    rw [marg_one ha hm] at hk
    have HK := Lib.hid hk
    generalize marV S cl bu wl wh tl th el eh nl nh sl sh = V at *
    clear hk hm ha hr v1 v2 v3 v4 vs
    go_enter Try.func5, Try.ntmps5
    go_wp2_with (first | (refine wpl_row rfl 27 _ rfl _ rfl #[hx, hy, hv, gx, gy, gv, lx, ly, lv, px, py, pv, nx, ny, nv, ax, ay, av, cx, cy, cv, dx, dy, dv, .int .i64 cl, .int .i64 bu] 26 ?_ Try.rowRot rfl ?_; (focus exact (by repeat (first | (refine Blk.newAt _ _ _ ?_; first | rfl | (simp; done)) | refine Blk.alloc ?_ _))); simp only [Act.put]))
    have bHM : Blk (((w.alloc (.cells #[hx, hy, hv, gx, gy, gv, lx, ly, lv, px, py, pv, nx, ny, nv, ax, ay, av, cx, cy, cv, dx, dy, dv, .int .i64 cl, .int .i64 bu] 27)).alloc (.cells #[.int .i64 wl, .int .i64 wh, .int .i64 tl, .int .i64 th, .int .i64 el, .int .i64 eh, .int .i64 nl, .int .i64 nh] 36)).alloc (.cells #[.int .i64 n0, .int .i64 n1, .int .i64 n2, .int .i64 n3, .int .i64 n4, .int .i64 n5, .int .i64 n6, .int .i64 n7, .int .i64 n8, .int .i64 n9, .int .i64 n10, .int .i64 n11, .int .i64 pl, .int .i64 ph, .int .i64 sl, .int .i64 sh] 46)) (w.heap.size) 27 #[hx, hy, hv, gx, gy, gv, lx, ly, lv, px, py, pv, nx, ny, nv, ax, ay, av, cx, cy, cv, dx, dy, dv, .int .i64 cl, .int .i64 bu] := (by repeat (first | (refine Blk.newAt _ _ _ ?_; first | rfl | (simp; done)) | refine Blk.alloc ?_ _))
    have bHA : Blk (((w.alloc (.cells #[hx, hy, hv, gx, gy, gv, lx, ly, lv, px, py, pv, nx, ny, nv, ax, ay, av, cx, cy, cv, dx, dy, dv, .int .i64 cl, .int .i64 bu] 27)).alloc (.cells #[.int .i64 wl, .int .i64 wh, .int .i64 tl, .int .i64 th, .int .i64 el, .int .i64 eh, .int .i64 nl, .int .i64 nh] 36)).alloc (.cells #[.int .i64 n0, .int .i64 n1, .int .i64 n2, .int .i64 n3, .int .i64 n4, .int .i64 n5, .int .i64 n6, .int .i64 n7, .int .i64 n8, .int .i64 n9, .int .i64 n10, .int .i64 n11, .int .i64 pl, .int .i64 ph, .int .i64 sl, .int .i64 sh] 46)) (w.heap.size + 1) 36 #[.int .i64 wl, .int .i64 wh, .int .i64 tl, .int .i64 th, .int .i64 el, .int .i64 eh, .int .i64 nl, .int .i64 nh] := (by repeat (first | (refine Blk.newAt _ _ _ ?_; first | rfl | (simp; done)) | refine Blk.alloc ?_ _))
    have bHS : Blk (((w.alloc (.cells #[hx, hy, hv, gx, gy, gv, lx, ly, lv, px, py, pv, nx, ny, nv, ax, ay, av, cx, cy, cv, dx, dy, dv, .int .i64 cl, .int .i64 bu] 27)).alloc (.cells #[.int .i64 wl, .int .i64 wh, .int .i64 tl, .int .i64 th, .int .i64 el, .int .i64 eh, .int .i64 nl, .int .i64 nh] 36)).alloc (.cells #[.int .i64 n0, .int .i64 n1, .int .i64 n2, .int .i64 n3, .int .i64 n4, .int .i64 n5, .int .i64 n6, .int .i64 n7, .int .i64 n8, .int .i64 n9, .int .i64 n10, .int .i64 n11, .int .i64 pl, .int .i64 ph, .int .i64 sl, .int .i64 sh] 46)) (w.heap.size + 1 + 1) 46 #[.int .i64 n0, .int .i64 n1, .int .i64 n2, .int .i64 n3, .int .i64 n4, .int .i64 n5, .int .i64 n6, .int .i64 n7, .int .i64 n8, .int .i64 n9, .int .i64 n10, .int .i64 n11, .int .i64 pl, .int .i64 ph, .int .i64 sl, .int .i64 sh] := (by repeat (first | (refine Blk.newAt _ _ _ ?_; first | rfl | (simp; done)) | refine Blk.alloc ?_ _))
    have bHB : Below w.heap.size w (((w.alloc (.cells #[hx, hy, hv, gx, gy, gv, lx, ly, lv, px, py, pv, nx, ny, nv, ax, ay, av, cx, cy, cv, dx, dy, dv, .int .i64 cl, .int .i64 bu] 27)).alloc (.cells #[.int .i64 wl, .int .i64 wh, .int .i64 tl, .int .i64 th, .int .i64 el, .int .i64 eh, .int .i64 nl, .int .i64 nh] 36)).alloc (.cells #[.int .i64 n0, .int .i64 n1, .int .i64 n2, .int .i64 n3, .int .i64 n4, .int .i64 n5, .int .i64 n6, .int .i64 n7, .int .i64 n8, .int .i64 n9, .int .i64 n10, .int .i64 n11, .int .i64 pl, .int .i64 ph, .int .i64 sl, .int .i64 sh] 46)) := (by repeat' (first | exact Below.refl _ _ | assumption | refine Below.drew ?_ | refine bdn ?_ _ | refine bal ?_ _ | refine Below.setCell ?_ (by first | (simp; done) | omega | (simp; omega)) _))
    generalize (((w.alloc (.cells #[hx, hy, hv, gx, gy, gv, lx, ly, lv, px, py, pv, nx, ny, nv, ax, ay, av, cx, cy, cv, dx, dy, dv, .int .i64 cl, .int .i64 bu] 27)).alloc (.cells #[.int .i64 wl, .int .i64 wh, .int .i64 tl, .int .i64 th, .int .i64 el, .int .i64 eh, .int .i64 nl, .int .i64 nh] 36)).alloc (.cells #[.int .i64 n0, .int .i64 n1, .int .i64 n2, .int .i64 n3, .int .i64 n4, .int .i64 n5, .int .i64 n6, .int .i64 n7, .int .i64 n8, .int .i64 n9, .int .i64 n10, .int .i64 n11, .int .i64 pl, .int .i64 ph, .int .i64 sl, .int .i64 sh] 46)) = W at *
    have zW := bHS.lt
    have HM := Lib.hid bHM
    have HA := Lib.hid bHA
    have HS := Lib.hid bHS
    have HB := Lib.hid bHB
    clear bHM bHA bHS bHB
    go_wp2_with (first | (refine wpl_row_g rfl 27 _ rfl _ rfl #[hx, hy, hv, gx, gy, gv, lx, ly, lv, px, py, pv, nx, ny, nv, ax, ay, av, cx, cy, cv, dx, dy, dv, .int .i64 cl, .int .i64 bu] 26 HM.out Try.rowRot rfl ?_; simp only [Act.put]) | (refine wpl_row_g rfl 36 _ rfl _ rfl #[.int .i64 wl, .int .i64 wh, .int .i64 tl, .int .i64 th, .int .i64 el, .int .i64 eh, .int .i64 nl, .int .i64 nh] 8 HA.out Try.rowAir rfl ?_; simp only [Act.put]) | (refine wpl_row rfl 27 _ rfl _ rfl #[hx, hy, hv, gx, gy, gv, lx, ly, lv, px, py, pv, nx, ny, nv, ax, ay, av, cx, cy, cv, dx, dy, dv, .int .i64 cl, .int .i64 bu] 26 HM.out Try.rowRot rfl ?_; simp only [Act.put]) | (refine wpl_row rfl 36 _ rfl _ rfl #[.int .i64 wl, .int .i64 wh, .int .i64 tl, .int .i64 th, .int .i64 el, .int .i64 eh, .int .i64 nl, .int .i64 nh] 8 HA.out Try.rowAir rfl ?_; simp only [Act.put]) | (go_at_call 14; (with_reducible refine (HW.out _ (HR.out.below HB.out)).mono ?_); rintro e w1 ⟨rfl, hb1⟩; have nHM := Lib.hid (HM.out.below hb1); have nHA := Lib.hid (HA.out.below hb1); have nHS := Lib.hid (HS.out.below hb1); have nHB := Lib.hid (bthen HB.out hb1); have zz1 := hb1.size; clear HM HA HS HB hb1; have HM := nHM; have HA := nHA; have HS := nHS; have HB := nHB; clear nHM nHA nHS nHB; (try clear zHS); have zHS := HS.out.lt; (try clear cHS14); have cHS14 := HS.out.cell 14; (try clear cHS15); have cHS15 := HS.out.cell 15) | (go_at_call 23; (with_reducible refine (HCA.out _ (HR.out.below HB.out)).mono ?_); rintro e w1 ⟨rfl, hb1⟩; have nHM := Lib.hid (HM.out.below hb1); have nHA := Lib.hid (HA.out.below hb1); have nHS := Lib.hid (HS.out.below hb1); have nHB := Lib.hid (bthen HB.out hb1); have zz1 := hb1.size; clear HM HA HS HB hb1; have HM := nHM; have HA := nHA; have HS := nHS; have HB := nHB; clear nHM nHA nHS nHB; (try clear zHS); have zHS := HS.out.lt; (try clear cHS14); have cHS14 := HS.out.cell 14; (try clear cHS15); have cHS15 := HS.out.cell 15) | (go_at_call 24; (with_reducible refine (HV.out _).mono ?_); rintro e w1 ⟨rfl, hb1⟩; have nHM := Lib.hid (HM.out.below hb1); have nHA := Lib.hid (HA.out.below hb1); have nHS := Lib.hid (HS.out.below hb1); have nHB := Lib.hid (bthen HB.out hb1); have zz1 := hb1.size; clear HM HA HS HB hb1; have HM := nHM; have HA := nHA; have HS := nHS; have HB := nHB; clear nHM nHA nHS nHB; (try clear zHS); have zHS := HS.out.lt; (try clear cHS14); have cHS14 := HS.out.cell 14; (try clear cHS15); have cHS15 := HS.out.cell 15) | (go_at_call 15; (with_reducible refine (works_c _).mono ?_); rintro e w1 ⟨rfl, hb1⟩; have nHM := Lib.hid (HM.out.below hb1); have nHA := Lib.hid (HA.out.below hb1); have nHS := Lib.hid (HS.out.below hb1); have nHB := Lib.hid (bthen HB.out hb1); have zz1 := hb1.size; clear HM HA HS HB hb1; have HM := nHM; have HA := nHA; have HS := nHS; have HB := nHB; clear nHM nHA nHS nHB) | (go_at_call 17; (with_reducible refine (own_c hx hy hv gx gy gv lx ly lv px py pv nx ny nv ax ay av cx cy cv dx dy dv cl bu S _ (HR.out.below HB.out) HN.out).mono ?_); rintro e w1 ⟨v, rfl, ho, hb1⟩; obtain ⟨hx', hy', hv', gx', gy', gv', lx', ly', lv', px', py', pv', nx', ny', nv', ax', ay', av', cx', cy', cv', dx', dy', dv', rfl, r1⟩ := ho; have HO := Lib.hid r1; clear r1; have nHM := Lib.hid (HM.out.below hb1); have nHA := Lib.hid (HA.out.below hb1); have nHS := Lib.hid (HS.out.below hb1); have nHB := Lib.hid (bthen HB.out hb1); have zz1 := hb1.size; clear HM HA HS HB hb1; have HM := nHM; have HA := nHA; have HS := nHS; have HB := nHB; clear nHM nHA nHS nHB; (try clear zHS); have zHS := HS.out.lt; (try clear cHS14); have cHS14 := HS.out.cell 14; (try clear cHS15); have cHS15 := HS.out.cell 15) | (refine wpl_store_new rfl 27 _ _ rfl #[hx', hy', hv', gx', gy', gv', lx', ly', lv', px', py', pv', nx', ny', nv', ax', ay', av', cx', cy', cv', dx', dy', dv', .int .i64 cl, .int .i64 bu] _ _ rfl ?_ rfl Try.sizeRot' rfl (RotAt.one26' HO.out) ?_; (focus (simp; done)); simp only [Act.put]) | (refine wpl_row rfl 27 _ rfl _ rfl #[hx', hy', hv', gx', gy', gv', lx', ly', lv', px', py', pv', nx', ny', nv', ax', ay', av', cx', cy', cv', dx', dy', dv', .int .i64 cl, .int .i64 bu] 26 (Blk.new _ _ _) Try.rowRot rfl ?_; simp only [Act.put]) | (refine wpl_row rfl 36 _ rfl _ rfl #[.int .i64 wl, .int .i64 wh, .int .i64 tl, .int .i64 th, .int .i64 el, .int .i64 eh, .int .i64 nl, .int .i64 nh] 8 (HA.out.alloc _) Try.rowAir rfl ?_; simp only [Act.put]))
    have bHQ := Blk.new w1 27 #[hx', hy', hv', gx', gy', gv', lx', ly', lv', px', py', pv', nx', ny', nv', ax', ay', av', cx', cy', cv', dx', dy', dv', .int .i64 cl, .int .i64 bu]
    have nHM := Lib.hid (HM.out.alloc (.cells #[hx', hy', hv', gx', gy', gv', lx', ly', lv', px', py', pv', nx', ny', nv', ax', ay', av', cx', cy', cv', dx', dy', dv', .int .i64 cl, .int .i64 bu] 27))
    have nHA := Lib.hid (HA.out.alloc (.cells #[hx', hy', hv', gx', gy', gv', lx', ly', lv', px', py', pv', nx', ny', nv', ax', ay', av', cx', cy', cv', dx', dy', dv', .int .i64 cl, .int .i64 bu] 27))
    have nHS := Lib.hid (HS.out.alloc (.cells #[hx', hy', hv', gx', gy', gv', lx', ly', lv', px', py', pv', nx', ny', nv', ax', ay', av', cx', cy', cv', dx', dy', dv', .int .i64 cl, .int .i64 bu] 27))
    have nHO := Lib.hid (HO.out.alloc (.cells #[hx', hy', hv', gx', gy', gv', lx', ly', lv', px', py', pv', nx', ny', nv', ax', ay', av', cx', cy', cv', dx', dy', dv', .int .i64 cl, .int .i64 bu] 27))
    have nHB := Lib.hid (bal HB.out (.cells #[hx', hy', hv', gx', gy', gv', lx', ly', lv', px', py', pv', nx', ny', nv', ax', ay', av', cx', cy', cv', dx', dy', dv', .int .i64 cl, .int .i64 bu] 27))
    clear HM HA HS HO HB
    have HM := nHM
    have HA := nHA
    have HS := nHS
    have HO := nHO
    have HB := nHB
    clear nHM nHA nHS nHO nHB
    generalize w1.alloc (.cells #[hx', hy', hv', gx', gy', gv', lx', ly', lv', px', py', pv', nx', ny', nv', ax', ay', av', cx', cy', cv', dx', dy', dv', .int .i64 cl, .int .i64 bu] 27) = W2 at *
    generalize w1.heap.size = gHQ at *
    have HQ := Lib.hid bHQ
    clear bHQ
    go_wp2_with (first | (go_at_call 21; (with_reducible refine (HK.out _ _ _ _ _ _ _ _ _ _ _ _ _ _ _ _ _ _ _ _ _ _ _ _ _ HO.out).mono ?_); rintro e w1 ⟨rfl, hb1⟩; have nHA := Lib.hid (HA.out.below hb1); have nHB := Lib.hid (bthen HB.out hb1); have zz1 := hb1.size; clear HA HB hb1; have HA := nHA; have HB := nHB; clear nHA nHB) | (go_at_call 15; (with_reducible refine (works_c _).mono ?_); rintro e w1 ⟨rfl, hb1⟩; have nHA := Lib.hid (HA.out.below hb1); have nHB := Lib.hid (bthen HB.out hb1); have zz1 := hb1.size; clear HA HB hb1; have HA := nHA; have HB := nHB; clear nHA nHB))
    go_ret
    exact ⟨rfl, HB.out⟩
  obtain ⟨-, fh, fg, fp⟩ := margE_ok hm
  have PK1 := Lib.hid (fun w => pick_c wl wh n0 n0 w v1 i0 i0)
  have PK2 := Lib.hid (fun w => pick_c tl th n1 n1 w v2 i1 i1)
  have PK3 := Lib.hid (fun w => pick_c el eh n2 n2 w v3 i2 i2)
  have PK4 := Lib.hid (fun w => pick_c nl nh n3 n3 w v4 i3 i3)
  have PK5 := Lib.hid (fun w => pick_c sl sh n4 n4 w vs i4 i4)
  have k1 := pick_bd (m := n0) (n := n0) (vspan_le v1)
  have k2 := pick_bd (m := n1) (n := n1) (vspan_le v2)
  have k3 := pick_bd (m := n2) (n := n2) (vspan_le v3)
  have k4 := pick_bd (m := n3) (n := n3) (vspan_le v4)
  have k5 := pick_bd (m := n4) (n := n4) (vspan_le vs)
  have kl := kept_law hm (x := pickLo wl wh n0 n0) (t := pickLo tl th n1 n1) (z := pickLo el eh n2 n2) (y := pickLo nl nh n3 n3) (u := pickLo sl sh n4 n4) (by omega) (by omega) (by omega) (by omega) (by omega)
  have A1 := Lib.hid (fun w1 x y v hT => At_c x y v S.p (pickLo tl th n1 n1) (pickLo el eh n2 n2) w1 hT fp.t (fp.on (by omega) (by omega)))
  have A2 := Lib.hid (fun w1 x y v hT => At_c x y v S.h (pickLo wl wh n0 n0) (pickLo tl th n1 n1) w1 hT fh.t (fh.on (by omega) (by omega)))
  have A3 := Lib.hid (fun w1 x y v hT => At_c x y v S.g (pickLo sl sh n4 n4) (pickLo nl nh n3 n3) w1 hT fg.t (fg.on (by omega) (by omega)))
  rw [hm] at hk
  have HK := Lib.hid hk
  clear hk hm ha hr v1 v2 v3 v4 vs fh fg fp k1 k2 k3 k4 k5 i0 i1 i2 i3 i4
  generalize marV S cl bu wl wh tl th el eh nl nh sl sh = V at *
  generalize pickLo wl wh n0 n0 = x0 at *
  generalize pickHi wl wh n0 n0 = x0' at *
  generalize pickLo tl th n1 n1 = x1 at *
  generalize pickHi tl th n1 n1 = x1' at *
  generalize pickLo el eh n2 n2 = x2 at *
  generalize pickHi el eh n2 n2 = x2' at *
  generalize pickLo nl nh n3 n3 = x3 at *
  generalize pickHi nl nh n3 n3 = x3' at *
  generalize pickLo sl sh n4 n4 = x4 at *
  generalize pickHi sl sh n4 n4 = x4' at *
  generalize cei S.h x0 x1 = ch at *
  generalize flo S.h x0 x1 = fh at *
  generalize cei S.g x4 x3 = cg at *
  generalize flo S.g x4 x3 = fg at *
  generalize cei S.p x1 x2 = cp at *
  generalize flo S.p x1 x2 = fp at *
  obtain ⟨kl, ⟨r1, r2⟩, ⟨r3, r4⟩, ⟨r5, r6⟩, ⟨r7, r8⟩, r9, r10⟩ := kl
  have q1 := Try.fldLo
  go_enter Try.func5, Try.ntmps5
  go_wp2_with (first | (refine wpl_row rfl 27 _ rfl _ rfl #[hx, hy, hv, gx, gy, gv, lx, ly, lv, px, py, pv, nx, ny, nv, ax, ay, av, cx, cy, cv, dx, dy, dv, .int .i64 cl, .int .i64 bu] 26 ?_ Try.rowRot rfl ?_; (focus exact (by repeat (first | (refine Blk.newAt _ _ _ ?_; first | rfl | (simp; done)) | refine Blk.alloc ?_ _))); simp only [Act.put]))
  have bHM : Blk (((w.alloc (.cells #[hx, hy, hv, gx, gy, gv, lx, ly, lv, px, py, pv, nx, ny, nv, ax, ay, av, cx, cy, cv, dx, dy, dv, .int .i64 cl, .int .i64 bu] 27)).alloc (.cells #[.int .i64 wl, .int .i64 wh, .int .i64 tl, .int .i64 th, .int .i64 el, .int .i64 eh, .int .i64 nl, .int .i64 nh] 36)).alloc (.cells #[.int .i64 n0, .int .i64 n1, .int .i64 n2, .int .i64 n3, .int .i64 n4, .int .i64 n5, .int .i64 n6, .int .i64 n7, .int .i64 n8, .int .i64 n9, .int .i64 n10, .int .i64 n11, .int .i64 pl, .int .i64 ph, .int .i64 sl, .int .i64 sh] 46)) (w.heap.size) 27 #[hx, hy, hv, gx, gy, gv, lx, ly, lv, px, py, pv, nx, ny, nv, ax, ay, av, cx, cy, cv, dx, dy, dv, .int .i64 cl, .int .i64 bu] := (by repeat (first | (refine Blk.newAt _ _ _ ?_; first | rfl | (simp; done)) | refine Blk.alloc ?_ _))
  have bHA : Blk (((w.alloc (.cells #[hx, hy, hv, gx, gy, gv, lx, ly, lv, px, py, pv, nx, ny, nv, ax, ay, av, cx, cy, cv, dx, dy, dv, .int .i64 cl, .int .i64 bu] 27)).alloc (.cells #[.int .i64 wl, .int .i64 wh, .int .i64 tl, .int .i64 th, .int .i64 el, .int .i64 eh, .int .i64 nl, .int .i64 nh] 36)).alloc (.cells #[.int .i64 n0, .int .i64 n1, .int .i64 n2, .int .i64 n3, .int .i64 n4, .int .i64 n5, .int .i64 n6, .int .i64 n7, .int .i64 n8, .int .i64 n9, .int .i64 n10, .int .i64 n11, .int .i64 pl, .int .i64 ph, .int .i64 sl, .int .i64 sh] 46)) (w.heap.size + 1) 36 #[.int .i64 wl, .int .i64 wh, .int .i64 tl, .int .i64 th, .int .i64 el, .int .i64 eh, .int .i64 nl, .int .i64 nh] := (by repeat (first | (refine Blk.newAt _ _ _ ?_; first | rfl | (simp; done)) | refine Blk.alloc ?_ _))
  have bHS : Blk (((w.alloc (.cells #[hx, hy, hv, gx, gy, gv, lx, ly, lv, px, py, pv, nx, ny, nv, ax, ay, av, cx, cy, cv, dx, dy, dv, .int .i64 cl, .int .i64 bu] 27)).alloc (.cells #[.int .i64 wl, .int .i64 wh, .int .i64 tl, .int .i64 th, .int .i64 el, .int .i64 eh, .int .i64 nl, .int .i64 nh] 36)).alloc (.cells #[.int .i64 n0, .int .i64 n1, .int .i64 n2, .int .i64 n3, .int .i64 n4, .int .i64 n5, .int .i64 n6, .int .i64 n7, .int .i64 n8, .int .i64 n9, .int .i64 n10, .int .i64 n11, .int .i64 pl, .int .i64 ph, .int .i64 sl, .int .i64 sh] 46)) (w.heap.size + 1 + 1) 46 #[.int .i64 n0, .int .i64 n1, .int .i64 n2, .int .i64 n3, .int .i64 n4, .int .i64 n5, .int .i64 n6, .int .i64 n7, .int .i64 n8, .int .i64 n9, .int .i64 n10, .int .i64 n11, .int .i64 pl, .int .i64 ph, .int .i64 sl, .int .i64 sh] := (by repeat (first | (refine Blk.newAt _ _ _ ?_; first | rfl | (simp; done)) | refine Blk.alloc ?_ _))
  have bHB : Below w.heap.size w (((w.alloc (.cells #[hx, hy, hv, gx, gy, gv, lx, ly, lv, px, py, pv, nx, ny, nv, ax, ay, av, cx, cy, cv, dx, dy, dv, .int .i64 cl, .int .i64 bu] 27)).alloc (.cells #[.int .i64 wl, .int .i64 wh, .int .i64 tl, .int .i64 th, .int .i64 el, .int .i64 eh, .int .i64 nl, .int .i64 nh] 36)).alloc (.cells #[.int .i64 n0, .int .i64 n1, .int .i64 n2, .int .i64 n3, .int .i64 n4, .int .i64 n5, .int .i64 n6, .int .i64 n7, .int .i64 n8, .int .i64 n9, .int .i64 n10, .int .i64 n11, .int .i64 pl, .int .i64 ph, .int .i64 sl, .int .i64 sh] 46)) := (by repeat' (first | exact Below.refl _ _ | assumption | refine Below.drew ?_ | refine bdn ?_ _ | refine bal ?_ _ | refine Below.setCell ?_ (by first | (simp; done) | omega | (simp; omega)) _))
  generalize (((w.alloc (.cells #[hx, hy, hv, gx, gy, gv, lx, ly, lv, px, py, pv, nx, ny, nv, ax, ay, av, cx, cy, cv, dx, dy, dv, .int .i64 cl, .int .i64 bu] 27)).alloc (.cells #[.int .i64 wl, .int .i64 wh, .int .i64 tl, .int .i64 th, .int .i64 el, .int .i64 eh, .int .i64 nl, .int .i64 nh] 36)).alloc (.cells #[.int .i64 n0, .int .i64 n1, .int .i64 n2, .int .i64 n3, .int .i64 n4, .int .i64 n5, .int .i64 n6, .int .i64 n7, .int .i64 n8, .int .i64 n9, .int .i64 n10, .int .i64 n11, .int .i64 pl, .int .i64 ph, .int .i64 sl, .int .i64 sh] 46)) = W at *
  have zW := bHS.lt
  have HM := Lib.hid bHM
  have HA := Lib.hid bHA
  have HS := Lib.hid bHS
  have HB := Lib.hid bHB
  clear bHM bHA bHS bHB
  go_wp2_with (first | (refine wpl_row_g rfl 27 _ rfl _ rfl #[hx, hy, hv, gx, gy, gv, lx, ly, lv, px, py, pv, nx, ny, nv, ax, ay, av, cx, cy, cv, dx, dy, dv, .int .i64 cl, .int .i64 bu] 26 HM.out Try.rowRot rfl ?_; simp only [Act.put]) | (refine wpl_row_g rfl 36 _ rfl _ rfl #[.int .i64 wl, .int .i64 wh, .int .i64 tl, .int .i64 th, .int .i64 el, .int .i64 eh, .int .i64 nl, .int .i64 nh] 8 HA.out Try.rowAir rfl ?_; simp only [Act.put]) | (refine wpl_row rfl 27 _ rfl _ rfl #[hx, hy, hv, gx, gy, gv, lx, ly, lv, px, py, pv, nx, ny, nv, ax, ay, av, cx, cy, cv, dx, dy, dv, .int .i64 cl, .int .i64 bu] 26 HM.out Try.rowRot rfl ?_; simp only [Act.put]) | (refine wpl_row rfl 36 _ rfl _ rfl #[.int .i64 wl, .int .i64 wh, .int .i64 tl, .int .i64 th, .int .i64 el, .int .i64 eh, .int .i64 nl, .int .i64 nh] 8 HA.out Try.rowAir rfl ?_; simp only [Act.put]) | (go_at_call 14; (with_reducible refine (HW.out _ (HR.out.below HB.out)).mono ?_); rintro e w1 ⟨rfl, hb1⟩; have nHM := Lib.hid (HM.out.below hb1); have nHA := Lib.hid (HA.out.below hb1); have nHS := Lib.hid (HS.out.below hb1); have nHB := Lib.hid (bthen HB.out hb1); have zz1 := hb1.size; clear HM HA HS HB hb1; have HM := nHM; have HA := nHA; have HS := nHS; have HB := nHB; clear nHM nHA nHS nHB; (try clear zHS); have zHS := HS.out.lt; (try clear cHS14); have cHS14 := HS.out.cell 14; (try clear cHS15); have cHS15 := HS.out.cell 15) | (go_at_call 23; (with_reducible refine (HCA.out _ (HR.out.below HB.out)).mono ?_); rintro e w1 ⟨rfl, hb1⟩; have nHM := Lib.hid (HM.out.below hb1); have nHA := Lib.hid (HA.out.below hb1); have nHS := Lib.hid (HS.out.below hb1); have nHB := Lib.hid (bthen HB.out hb1); have zz1 := hb1.size; clear HM HA HS HB hb1; have HM := nHM; have HA := nHA; have HS := nHS; have HB := nHB; clear nHM nHA nHS nHB; (try clear zHS); have zHS := HS.out.lt; (try clear cHS14); have cHS14 := HS.out.cell 14; (try clear cHS15); have cHS15 := HS.out.cell 15) | (go_at_call 24; (with_reducible refine (HV.out _).mono ?_); rintro e w1 ⟨rfl, hb1⟩; have nHM := Lib.hid (HM.out.below hb1); have nHA := Lib.hid (HA.out.below hb1); have nHS := Lib.hid (HS.out.below hb1); have nHB := Lib.hid (bthen HB.out hb1); have zz1 := hb1.size; clear HM HA HS HB hb1; have HM := nHM; have HA := nHA; have HS := nHS; have HB := nHB; clear nHM nHA nHS nHB; (try clear zHS); have zHS := HS.out.lt; (try clear cHS14); have cHS14 := HS.out.cell 14; (try clear cHS15); have cHS15 := HS.out.cell 15) | (go_at_call 15; (with_reducible refine (works_c _).mono ?_); rintro e w1 ⟨rfl, hb1⟩; have nHM := Lib.hid (HM.out.below hb1); have nHA := Lib.hid (HA.out.below hb1); have nHS := Lib.hid (HS.out.below hb1); have nHB := Lib.hid (bthen HB.out hb1); have zz1 := hb1.size; clear HM HA HS HB hb1; have HM := nHM; have HA := nHA; have HS := nHS; have HB := nHB; clear nHM nHA nHS nHB) | (go_at_call 17; (with_reducible refine (own_c hx hy hv gx gy gv lx ly lv px py pv nx ny nv ax ay av cx cy cv dx dy dv cl bu S _ (HR.out.below HB.out) HN.out).mono ?_); rintro e w1 ⟨v, rfl, ho, hb1⟩; obtain ⟨hx', hy', hv', gx', gy', gv', lx', ly', lv', px', py', pv', nx', ny', nv', ax', ay', av', cx', cy', cv', dx', dy', dv', rfl, r1⟩ := ho; have HO := Lib.hid r1; clear r1; have nHM := Lib.hid (HM.out.below hb1); have nHA := Lib.hid (HA.out.below hb1); have nHS := Lib.hid (HS.out.below hb1); have nHB := Lib.hid (bthen HB.out hb1); have zz1 := hb1.size; clear HM HA HS HB hb1; have HM := nHM; have HA := nHA; have HS := nHS; have HB := nHB; clear nHM nHA nHS nHB; (try clear zHS); have zHS := HS.out.lt; (try clear cHS14); have cHS14 := HS.out.cell 14; (try clear cHS15); have cHS15 := HS.out.cell 15) | (refine wpl_store_new rfl 27 _ _ rfl #[hx', hy', hv', gx', gy', gv', lx', ly', lv', px', py', pv', nx', ny', nv', ax', ay', av', cx', cy', cv', dx', dy', dv', .int .i64 cl, .int .i64 bu] _ _ rfl ?_ rfl Try.sizeRot' rfl (RotAt.one26' HO.out) ?_; (focus (simp; done)); simp only [Act.put]) | (refine wpl_row rfl 27 _ rfl _ rfl #[hx', hy', hv', gx', gy', gv', lx', ly', lv', px', py', pv', nx', ny', nv', ax', ay', av', cx', cy', cv', dx', dy', dv', .int .i64 cl, .int .i64 bu] 26 (Blk.new _ _ _) Try.rowRot rfl ?_; simp only [Act.put]) | (refine wpl_row rfl 36 _ rfl _ rfl #[.int .i64 wl, .int .i64 wh, .int .i64 tl, .int .i64 th, .int .i64 el, .int .i64 eh, .int .i64 nl, .int .i64 nh] 8 (HA.out.alloc _) Try.rowAir rfl ?_; simp only [Act.put]))
  have bHQ := Blk.new w1 27 #[hx', hy', hv', gx', gy', gv', lx', ly', lv', px', py', pv', nx', ny', nv', ax', ay', av', cx', cy', cv', dx', dy', dv', .int .i64 cl, .int .i64 bu]
  have nHM := Lib.hid (HM.out.alloc (.cells #[hx', hy', hv', gx', gy', gv', lx', ly', lv', px', py', pv', nx', ny', nv', ax', ay', av', cx', cy', cv', dx', dy', dv', .int .i64 cl, .int .i64 bu] 27))
  have nHA := Lib.hid (HA.out.alloc (.cells #[hx', hy', hv', gx', gy', gv', lx', ly', lv', px', py', pv', nx', ny', nv', ax', ay', av', cx', cy', cv', dx', dy', dv', .int .i64 cl, .int .i64 bu] 27))
  have nHS := Lib.hid (HS.out.alloc (.cells #[hx', hy', hv', gx', gy', gv', lx', ly', lv', px', py', pv', nx', ny', nv', ax', ay', av', cx', cy', cv', dx', dy', dv', .int .i64 cl, .int .i64 bu] 27))
  have nHO := Lib.hid (HO.out.alloc (.cells #[hx', hy', hv', gx', gy', gv', lx', ly', lv', px', py', pv', nx', ny', nv', ax', ay', av', cx', cy', cv', dx', dy', dv', .int .i64 cl, .int .i64 bu] 27))
  have nHB := Lib.hid (bal HB.out (.cells #[hx', hy', hv', gx', gy', gv', lx', ly', lv', px', py', pv', nx', ny', nv', ax', ay', av', cx', cy', cv', dx', dy', dv', .int .i64 cl, .int .i64 bu] 27))
  clear HM HA HS HO HB
  have HM := nHM
  have HA := nHA
  have HS := nHS
  have HO := nHO
  have HB := nHB
  clear nHM nHA nHS nHO nHB
  generalize w1.alloc (.cells #[hx', hy', hv', gx', gy', gv', lx', ly', lv', px', py', pv', nx', ny', nv', ax', ay', av', cx', cy', cv', dx', dy', dv', .int .i64 cl, .int .i64 bu] 27) = W2 at *
  generalize w1.heap.size = gHQ at *
  have HQ := Lib.hid bHQ
  clear bHQ
  go_wp2_with (first | (go_at_call 21; (with_reducible refine (HK.out _ _ _ _ _ _ _ _ _ _ _ _ _ _ _ _ _ _ _ _ _ _ _ _ _ HO.out).mono ?_); rintro e w1 ⟨rfl, hb1⟩; have nHA := Lib.hid (HA.out.below hb1); have nHS := Lib.hid (HS.out.below hb1); have nHQ := Lib.hid (HQ.out.below hb1); have nHO := Lib.hid (HO.out.below hb1); have nHB := Lib.hid (bthen HB.out hb1); have zz1 := hb1.size; clear HA HS HQ HO HB hb1; have HA := nHA; have HS := nHS; have HQ := nHQ; have HO := nHO; have HB := nHB; clear nHA nHS nHQ nHO nHB))
  have aHA0 := fun (r : After w1) => (HA.out.below r.below).cell 0
  simp only [List.getElem?_toArray, List.getElem?_cons_succ, List.getElem?_cons_zero] at aHA0
  have aHA1 := fun (r : After w1) => (HA.out.below r.below).cell 1
  simp only [List.getElem?_toArray, List.getElem?_cons_succ, List.getElem?_cons_zero] at aHA1
  have aHA2 := fun (r : After w1) => (HA.out.below r.below).cell 2
  simp only [List.getElem?_toArray, List.getElem?_cons_succ, List.getElem?_cons_zero] at aHA2
  have aHA3 := fun (r : After w1) => (HA.out.below r.below).cell 3
  simp only [List.getElem?_toArray, List.getElem?_cons_succ, List.getElem?_cons_zero] at aHA3
  have aHA4 := fun (r : After w1) => (HA.out.below r.below).cell 4
  simp only [List.getElem?_toArray, List.getElem?_cons_succ, List.getElem?_cons_zero] at aHA4
  have aHA5 := fun (r : After w1) => (HA.out.below r.below).cell 5
  simp only [List.getElem?_toArray, List.getElem?_cons_succ, List.getElem?_cons_zero] at aHA5
  have aHS0 := fun (r : After w1) => (HS.out.below r.below).cell 0
  simp only [List.getElem?_toArray, List.getElem?_cons_succ, List.getElem?_cons_zero] at aHS0
  have aHS1 := fun (r : After w1) => (HS.out.below r.below).cell 1
  simp only [List.getElem?_toArray, List.getElem?_cons_succ, List.getElem?_cons_zero] at aHS1
  have aHS2 := fun (r : After w1) => (HS.out.below r.below).cell 2
  simp only [List.getElem?_toArray, List.getElem?_cons_succ, List.getElem?_cons_zero] at aHS2
  refine wp_region_after (by kernel_rfl) (by kernel_rfl) ?_
  repeat (go_big_quiet_step ((go_at_call 25; (with_reducible first | refine qafter (PK1.out _) | refine qafter (PK2.out _) | refine qafter (PK3.out _) | refine qafter (PK4.out _) | refine qafter (PK5.out _)))))
  refine wpQuiet_nil ?_
  rintro W3 ⟨r, hr⟩
  have hbN : Below (World.heap w1).size w1 W3 := by rw [hr]; exact r.below
  clear hr r
  have nHA := Lib.hid (HA.out.below hbN)
  have nHS := Lib.hid (HS.out.below hbN)
  have nHQ := Lib.hid (HQ.out.below hbN)
  have nHO := Lib.hid (HO.out.below hbN)
  have nHB := Lib.hid (bthen HB.out hbN)
  clear HA HS HQ HO HB hbN
  have HA := nHA
  have HS := nHS
  have HQ := nHQ
  have HO := nHO
  have HB := nHB
  clear nHA nHS nHQ nHO nHB
  clear aHA0 aHA1 aHA2 aHA3 aHA4 aHA5 aHS0 aHS1 aHS2
  go_wp2
  have aHA6 := fun (r : After W3) => (HA.out.below r.below).cell 6
  simp only [List.getElem?_toArray, List.getElem?_cons_succ, List.getElem?_cons_zero] at aHA6
  have aHA7 := fun (r : After W3) => (HA.out.below r.below).cell 7
  simp only [List.getElem?_toArray, List.getElem?_cons_succ, List.getElem?_cons_zero] at aHA7
  have aHS3 := fun (r : After W3) => (HS.out.below r.below).cell 3
  simp only [List.getElem?_toArray, List.getElem?_cons_succ, List.getElem?_cons_zero] at aHS3
  have aHS4 := fun (r : After W3) => (HS.out.below r.below).cell 4
  simp only [List.getElem?_toArray, List.getElem?_cons_succ, List.getElem?_cons_zero] at aHS4
  have aHS14 := fun (r : After W3) => (HS.out.below r.below).cell 14
  simp only [List.getElem?_toArray, List.getElem?_cons_succ, List.getElem?_cons_zero] at aHS14
  have aHS15 := fun (r : After W3) => (HS.out.below r.below).cell 15
  simp only [List.getElem?_toArray, List.getElem?_cons_succ, List.getElem?_cons_zero] at aHS15
  refine wp_region_after (by kernel_rfl) (by kernel_rfl) ?_
  repeat (go_big_quiet_step ((go_at_call 25; (with_reducible first | refine qafter (PK1.out _) | refine qafter (PK2.out _) | refine qafter (PK3.out _) | refine qafter (PK4.out _) | refine qafter (PK5.out _)))))
  refine wpQuiet_nil ?_
  rintro W4 ⟨r, hr⟩
  have hbN : Below (World.heap W3).size W3 W4 := by rw [hr]; exact r.below
  clear hr r
  have nHA := Lib.hid (HA.out.below hbN)
  have nHS := Lib.hid (HS.out.below hbN)
  have nHQ := Lib.hid (HQ.out.below hbN)
  have nHO := Lib.hid (HO.out.below hbN)
  have nHB := Lib.hid (bthen HB.out hbN)
  clear HA HS HQ HO HB hbN
  have HA := nHA
  have HS := nHS
  have HQ := nHQ
  have HO := nHO
  have HB := nHB
  clear nHA nHS nHQ nHO nHB
  clear aHA6 aHA7 aHS3 aHS4 aHS14 aHS15
  have zHQ := HQ.out.lt
  have cHQ0 := HQ.out.cell 0
  have cHQ1 := HQ.out.cell 1
  have cHQ2 := HQ.out.cell 2
  have cHQ3 := HQ.out.cell 3
  have cHQ4 := HQ.out.cell 4
  have cHQ5 := HQ.out.cell 5
  have cHQ9 := HQ.out.cell 9
  have cHQ10 := HQ.out.cell 10
  have cHQ11 := HQ.out.cell 11
  go_wp2_with (first | ((with_reducible refine (A1.out _ _ _ _ HO.out.p).mono ?_); rintro e w1 ⟨rfl, hb1⟩; have nHQ := Lib.hid (HQ.out.below hb1); have nHO := Lib.hid (HO.out.below hb1); have nHB := Lib.hid (bthen HB.out hb1); have zz1 := hb1.size; clear HQ HO HB hb1; have HQ := nHQ; have HO := nHO; have HB := nHB; clear nHQ nHO nHB; (try clear zHQ); have zHQ := HQ.out.lt; (try clear cHQ0); have cHQ0 := HQ.out.cell 0; (try clear cHQ1); have cHQ1 := HQ.out.cell 1; (try clear cHQ2); have cHQ2 := HQ.out.cell 2; (try clear cHQ3); have cHQ3 := HQ.out.cell 3; (try clear cHQ4); have cHQ4 := HQ.out.cell 4; (try clear cHQ5); have cHQ5 := HQ.out.cell 5))
  have bN1 := Blk.new w1 34 #[.int .i64 fp, .int .i64 cp]
  have nHQ := Lib.hid (HQ.out.alloc (.cells #[.int .i64 fp, .int .i64 cp] 34))
  have nHO := Lib.hid (HO.out.alloc (.cells #[.int .i64 fp, .int .i64 cp] 34))
  have nHB := Lib.hid (bal HB.out (.cells #[.int .i64 fp, .int .i64 cp] 34))
  clear HQ HO HB
  have HQ := nHQ
  have HO := nHO
  have HB := nHB
  clear nHQ nHO nHB
  generalize w1.alloc (.cells #[.int .i64 fp, .int .i64 cp] 34) = W2 at *
  generalize w1.heap.size = gN1 at *
  have N1 := Lib.hid bN1
  clear bN1
  go_wp2_with (first | ((with_reducible refine (A2.out _ _ _ _ HO.out.h).mono ?_); rintro e w1 ⟨rfl, hb1⟩; have nN1 := Lib.hid (N1.out.below hb1); have nHQ := Lib.hid (HQ.out.below hb1); have nHO := Lib.hid (HO.out.below hb1); have nHB := Lib.hid (bthen HB.out hb1); have zz1 := hb1.size; clear N1 HQ HO HB hb1; have N1 := nN1; have HQ := nHQ; have HO := nHO; have HB := nHB; clear nN1 nHQ nHO nHB; (try clear zHQ); have zHQ := HQ.out.lt; (try clear cHQ3); have cHQ3 := HQ.out.cell 3; (try clear cHQ4); have cHQ4 := HQ.out.cell 4; (try clear cHQ5); have cHQ5 := HQ.out.cell 5))
  have bN2 := Blk.new w1 34 #[.int .i64 fh, .int .i64 ch]
  have nN1 := Lib.hid (N1.out.alloc (.cells #[.int .i64 fh, .int .i64 ch] 34))
  have nHQ := Lib.hid (HQ.out.alloc (.cells #[.int .i64 fh, .int .i64 ch] 34))
  have nHO := Lib.hid (HO.out.alloc (.cells #[.int .i64 fh, .int .i64 ch] 34))
  have nHB := Lib.hid (bal HB.out (.cells #[.int .i64 fh, .int .i64 ch] 34))
  clear N1 HQ HO HB
  have N1 := nN1
  have HQ := nHQ
  have HO := nHO
  have HB := nHB
  clear nN1 nHQ nHO nHB
  generalize w1.alloc (.cells #[.int .i64 fh, .int .i64 ch] 34) = W2 at *
  generalize w1.heap.size = gN2 at *
  have N2 := Lib.hid bN2
  clear bN2
  go_wp2_with (first | ((with_reducible refine (A3.out _ _ _ _ HO.out.g).mono ?_); rintro e w1 ⟨rfl, hb1⟩; have nN1 := Lib.hid (N1.out.below hb1); have nN2 := Lib.hid (N2.out.below hb1); have nHB := Lib.hid (bthen HB.out hb1); have zz1 := hb1.size; clear N1 N2 HB hb1; have N1 := nN1; have N2 := nN2; have HB := nHB; clear nN1 nN2 nHB; (try clear zN1); have zN1 := N1.out.lt; (try clear cN10); have cN10 := N1.out.cell 0; (try clear zN2); have zN2 := N2.out.lt; (try clear cN21); have cN21 := N2.out.cell 1))
  have bN3 := Blk.new w1 34 #[.int .i64 fg, .int .i64 cg]
  have nN1 := Lib.hid (N1.out.alloc (.cells #[.int .i64 fg, .int .i64 cg] 34))
  have nN2 := Lib.hid (N2.out.alloc (.cells #[.int .i64 fg, .int .i64 cg] 34))
  have nHB := Lib.hid (bal HB.out (.cells #[.int .i64 fg, .int .i64 cg] 34))
  clear N1 N2 HB
  have N1 := nN1
  have N2 := nN2
  have HB := nHB
  clear nN1 nN2 nHB
  generalize w1.alloc (.cells #[.int .i64 fg, .int .i64 cg] 34) = W2 at *
  generalize w1.heap.size = gN3 at *
  have N3 := Lib.hid bN3
  clear bN3
  go_wp2_with (first | (go_at_call 15; (with_reducible refine (works_c _).mono ?_); rintro e w1 ⟨rfl, hb1⟩; have nN1 := Lib.hid (N1.out.below hb1); have nHB := Lib.hid (bthen HB.out hb1); have zz1 := hb1.size; clear N1 HB hb1; have N1 := nN1; have HB := nHB; clear nN1 nHB))
  go_ret
  exact ⟨rfl, HB.out⟩
end Go.Proofs.Ytoembbcddhlokaa
