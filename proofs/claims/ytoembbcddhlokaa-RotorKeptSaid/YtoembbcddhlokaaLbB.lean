/- The laws RotorRates, RotorLevels. -/
import Derived.Test.YtoembbcddhlokaaLaQ
import Derived.Test.YtoembbcddhlokaaRfP
import Derived.Test.YtoembbcddhlokaaRgL
set_option linter.all false
namespace Go.Proofs.Ytoembbcddhlokaa
open Go Go.RowKit Go.Proofs
set_option maxRecDepth 100000
set_option maxHeartbeats 8000000

theorem RotAt.alloc {W : World} {hx hy hv gx gy gv lx ly lv px py pv nx ny nv ax ay av cx cy cv dx dy dv : Value} {cl bu : Int} {S : Tabs} (h : RotAt W hx hy hv gx gy gv lx ly lv px py pv nx ny nv ax ay av cx cy cv dx dy dv cl bu S) (o : Obj) : RotAt (W.alloc o) hx hy hv gx gy gv lx ly lv px py pv nx ny nv ax ay av cx cy cv dx dy dv cl bu S := h.below (bal (Below.refl _ _) o)

def lawrR (cl bu : Int) (S : Tabs) (r a : Value) (n : Int) (V E : Int) : Nat → Value → World → Prop
  | 0, v, _ => v = r
  | 1, v, w => OwnP cl bu S v w
  | 2, v, _ => v = a
  | 3, v, _ => v = .int .i64 n
  | 4, v, _ => v = .tuple #[.int .i64 V, .int .i64 E]
  | 5, v, _ => v = .tuple #[.int .i64 V, .int .i64 E]
  | 6, v, _ => v = .int .i64 V
  | 7, v, _ => v = .int .i64 E
  | _, _, _ => True
theorem lawrR_below {cl bu : Int} {S : Tabs} {r a : Value} {n : Int} {V E : Int} (k : Nat) (v : Value) (w w' : World) (hb : Below w.heap.size w w') (h : lawrR cl bu S r a n V E k v w) : lawrR cl bu S r a n V E k v w' := by
  unfold lawrR at *
  split at h <;> first | exact h | exact OwnP.below h hb


theorem RotorRates_c (hx hy hv gx gy gv lx ly lv px py pv nx ny nv ax ay av cx cy cv dx dy dv : Value) (cl bu : Int) (wl wh tl th el eh nl nh : Int) (S : Tabs) (n : Int) (w : World) (hR : RotAt w hx hy hv gx gy gv lx ly lv px py pv nx ny nv ax ay av cx cy cv dx dy dv cl bu S) :
   Calls Try.prog 9 #[.agg #[hx, hy, hv, gx, gy, gv, lx, ly, lv, px, py, pv, nx, ny, nv, ax, ay, av, cx, cy, cv, dx, dy, dv, .int .i64 cl, .int .i64 bu], .agg #[.int .i64 wl, .int .i64 wh, .int .i64 tl, .int .i64 th, .int .i64 el, .int .i64 eh, .int .i64 nl, .int .i64 nh], .int .i64 n] w fun e w' => e = .returned (.bool true) ∧ Below w.heap.size w w' := by
  have HR := Lib.hid hR
  clear hR
  have HK := Lib.hid (fun w1 hx hy hv gx gy gv lx ly lv px py pv nx ny nv ax ay av cx cy cv dx dy dv hR => Rate_c hx hy hv gx gy gv lx ly lv px py pv nx ny nv ax ay av cx cy cv dx dy dv cl bu wl wh tl th el eh nl nh S n w1 hR)
  have HF := Lib.hid (fun w1 hR => rf2_Rate_c hx hy hv gx gy gv lx ly lv px py pv nx ny nv ax ay av cx cy cv dx dy dv cl bu wl wh tl th el eh nl nh S n w1 hR)
  generalize ratR S cl bu wl wh tl th el eh nl nh n = V at *
  generalize ratE S cl bu wl wh tl th el eh nl nh n = E at *
  have HW := Lib.hid (fun w1 hR => far2_c hx hy hv gx gy gv lx ly lv px py pv nx ny nv ax ay av cx cy cv dx dy dv cl bu S w1 hR)
  cases hf : farS S
  all_goals
    rw [hf] at HW
    go_enter Try.func9, Try.ntmps9
    go_wp2_with (first | (refine wpl_row rfl 27 _ rfl _ rfl #[hx, hy, hv, gx, gy, gv, lx, ly, lv, px, py, pv, nx, ny, nv, ax, ay, av, cx, cy, cv, dx, dy, dv, .int .i64 cl, .int .i64 bu] 26 ?_ Try.rowRot rfl ?_; (focus exact (by repeat (first | (refine Blk.newAt _ _ _ ?_; first | rfl | (simp; done)) | refine Blk.alloc ?_ _))); simp only [Act.put]))
    have bHM : Blk ((w.alloc (.cells #[hx, hy, hv, gx, gy, gv, lx, ly, lv, px, py, pv, nx, ny, nv, ax, ay, av, cx, cy, cv, dx, dy, dv, .int .i64 cl, .int .i64 bu] 27)).alloc (.cells #[.int .i64 wl, .int .i64 wh, .int .i64 tl, .int .i64 th, .int .i64 el, .int .i64 eh, .int .i64 nl, .int .i64 nh] 36)) (w.heap.size) 27 #[hx, hy, hv, gx, gy, gv, lx, ly, lv, px, py, pv, nx, ny, nv, ax, ay, av, cx, cy, cv, dx, dy, dv, .int .i64 cl, .int .i64 bu] := (by repeat (first | (refine Blk.newAt _ _ _ ?_; first | rfl | (simp; done)) | refine Blk.alloc ?_ _))
    have bHA : Blk ((w.alloc (.cells #[hx, hy, hv, gx, gy, gv, lx, ly, lv, px, py, pv, nx, ny, nv, ax, ay, av, cx, cy, cv, dx, dy, dv, .int .i64 cl, .int .i64 bu] 27)).alloc (.cells #[.int .i64 wl, .int .i64 wh, .int .i64 tl, .int .i64 th, .int .i64 el, .int .i64 eh, .int .i64 nl, .int .i64 nh] 36)) (w.heap.size + 1) 36 #[.int .i64 wl, .int .i64 wh, .int .i64 tl, .int .i64 th, .int .i64 el, .int .i64 eh, .int .i64 nl, .int .i64 nh] := (by repeat (first | (refine Blk.newAt _ _ _ ?_; first | rfl | (simp; done)) | refine Blk.alloc ?_ _))
    have bHB : Below w.heap.size w ((w.alloc (.cells #[hx, hy, hv, gx, gy, gv, lx, ly, lv, px, py, pv, nx, ny, nv, ax, ay, av, cx, cy, cv, dx, dy, dv, .int .i64 cl, .int .i64 bu] 27)).alloc (.cells #[.int .i64 wl, .int .i64 wh, .int .i64 tl, .int .i64 th, .int .i64 el, .int .i64 eh, .int .i64 nl, .int .i64 nh] 36)) := (by repeat' (first | exact Below.refl _ _ | assumption | refine Below.drew ?_ | refine bdn ?_ _ | refine bal ?_ _ | refine Below.setCell ?_ (by first | (simp; done) | omega | (simp; omega)) _))
    generalize ((w.alloc (.cells #[hx, hy, hv, gx, gy, gv, lx, ly, lv, px, py, pv, nx, ny, nv, ax, ay, av, cx, cy, cv, dx, dy, dv, .int .i64 cl, .int .i64 bu] 27)).alloc (.cells #[.int .i64 wl, .int .i64 wh, .int .i64 tl, .int .i64 th, .int .i64 el, .int .i64 eh, .int .i64 nl, .int .i64 nh] 36)) = W at *
    have zW := bHA.lt
    have HM := Lib.hid bHM
    have HA := Lib.hid bHA
    have HB := Lib.hid bHB
    clear bHM bHA bHB
    go_wp2_with (first | (go_at_call 14; (with_reducible refine (HW.out _ (HR.out.below HB.out)).mono ?_); rintro e w1 ⟨rfl, hb1⟩; have nHM := Lib.hid (HM.out.below hb1); have nHA := Lib.hid (HA.out.below hb1); have nHB := Lib.hid (bthen HB.out hb1); have zz1 := hb1.size; clear HM HA HB hb1; have HM := nHM; have HA := nHA; have HB := nHB; clear nHM nHA nHB) | (go_at_call 15; (with_reducible refine (works_c _).mono ?_); rintro e w1 ⟨rfl, hb1⟩; have nHM := Lib.hid (HM.out.below hb1); have nHA := Lib.hid (HA.out.below hb1); have nHB := Lib.hid (bthen HB.out hb1); have zz1 := hb1.size; clear HM HA HB hb1; have HM := nHM; have HA := nHA; have HB := nHB; clear nHM nHA nHB))
  · have HN := Lib.hid (farS_near hf)
    clear hf
    have zB := HB.out.size
    refine wp_region_specL 8 [7] (lawrR cl bu S (.agg #[hx, hy, hv, gx, gy, gv, lx, ly, lv, px, py, pv, nx, ny, nv, ax, ay, av, cx, cy, cv, dx, dy, dv, .int .i64 cl, .int .i64 bu]) (.agg #[.int .i64 wl, .int .i64 wh, .int .i64 tl, .int .i64 th, .int .i64 el, .int .i64 eh, .int .i64 nl, .int .i64 nh]) n V E) (fun i => false) (by kernel_rfl) (by kernel_rfl) (by intro i hi; simp at hi; subst_vars; rfl) lawrR_below ?hop1 ?htail1
    case hop1 =>
      simp only [List.take_succ_cons, List.take_zero, allOps]
      refine ⟨?_, ?_, ?_, ?_, ?_, ?_, ?_, ?_, trivial⟩
      all_goals intro u A w1 hA hb hd
      all_goals simp only [putAll, dstOf, List.getElem?_toArray, List.getElem?_cons_succ, List.getElem?_cons_zero, Option.bind_some, Option.bind, Act.put, List.setIfInBounds_toArray, List.set_cons_succ, List.set_cons_zero] at hA; subst hA
      all_goals have HB1 := Lib.hid hb
      · refine OpOk.now rfl ?_
        clear hb hd
        go_wp2_with (refine wpl_row rfl 27 _ rfl _ rfl _ 26 (HM.out.below HB1.out) Try.rowRot rfl ?_; simp only [Act.put])
        exact ⟨_, rfl, Below.refl _ _, rfl, fun h => absurd h (by decide)⟩
      · refine OpOk.now rfl ?_
        have d0 : u 0 = _ := hd 0 (by omega) (by kernel_rfl)
        clear hb hd
        rw [d0]
        clear d0
        go_wp2_with (go_at_call 17; (with_reducible refine (own_c hx hy hv gx gy gv lx ly lv px py pv nx ny nv ax ay av cx cy cv dx dy dv cl bu S _ ((HR.out.below HB.out).below HB1.out) HN.out).mono ?_); rintro e w2 ⟨v, rfl, ho, hb2⟩)
        exact ⟨_, rfl, hb2, ho, fun h => absurd h (by decide)⟩
      · refine OpOk.now rfl ?_
        clear hb hd
        go_wp2_with (refine wpl_row rfl 36 _ rfl _ rfl _ 8 (HA.out.below HB1.out) Try.rowAir rfl ?_; simp only [Act.put])
        exact ⟨_, rfl, Below.refl _ _, rfl, fun h => absurd h (by decide)⟩
      · refine OpOk.now rfl ?_
        clear hb hd
        go_wp2
        exact ⟨_, rfl, Below.refl _ _, rfl, fun h => absurd h (by decide)⟩
      · refine OpOk.now rfl ?_
        have d1 := hd 1 (by omega) (by kernel_rfl)
        have d2 : u 2 = _ := hd 2 (by omega) (by kernel_rfl)
        have d3 : u 3 = _ := hd 3 (by omega) (by kernel_rfl)
        clear hb hd
        rw [d2, d3]
        clear d2 d3
        obtain ⟨hx', hy', hv', gx', gy', gv', lx', ly', lv', px', py', pv', nx', ny', nv', ax', ay', av', cx', cy', cv', dx', dy', dv', e1, r1⟩ := d1
        rw [e1]
        clear e1
        go_wp2_with (go_at_call 37; (with_reducible refine (HK.out _ _ _ _ _ _ _ _ _ _ _ _ _ _ _ _ _ _ _ _ _ _ _ _ _ r1).mono ?_); rintro e w2 ⟨rfl, hb2⟩)
        exact ⟨_, rfl, hb2, rfl, fun h => absurd h (by decide)⟩
      · refine OpOk.now rfl ?_
        have d4 : u 4 = _ := hd 4 (by omega) (by kernel_rfl)
        clear hb hd
        rw [d4]
        clear d4
        go_wp2
        exact ⟨_, rfl, Below.refl _ _, rfl, fun h => absurd h (by decide)⟩
      · refine OpOk.now rfl ?_
        have d5 : u 5 = _ := hd 5 (by omega) (by kernel_rfl)
        clear hb hd
        rw [d5]
        clear d5
        go_wp2
        exact ⟨_, rfl, Below.refl _ _, rfl, fun h => absurd h (by decide)⟩
      · have d5 : u 5 = _ := hd 5 (by omega) (by kernel_rfl)
        clear hb hd
        rw [d5]
        clear d5
        refine OpOk.late rfl ?_
        exact ⟨_, yields_extract rfl _ _ rfl _ rfl _ rfl, rfl⟩
    case htail1 =>
      intro u A w1 hA hb hd hf
      simp only [putAll, dstOf, List.getElem?_toArray, List.getElem?_cons_succ, List.getElem?_cons_zero, Option.bind_some, Option.bind, Act.put, List.setIfInBounds_toArray, List.set_cons_succ, List.set_cons_zero] at hA; subst hA
      have e0 : u 0 = _ := hd 0 (by omega)
      have p1 := hd 1 (by omega)
      have e2 : u 2 = _ := hd 2 (by omega)
      have e3 : u 3 = _ := hd 3 (by omega)
      have e4 : u 4 = _ := hd 4 (by omega)
      have e5 : u 5 = _ := hd 5 (by omega)
      have e6 : u 6 = _ := hd 6 (by omega)
      have e7 : u 7 = _ := hd 7 (by omega)
      first | rw [e0, e2, e3, e4, e5, e6, e7] | simp only [e0, e2, e3, e4, e5, e6, e7]
      clear e0 e2 e3 e4 e5 e6 e7
      clear hd hf
      have nHM := Lib.hid (HM.out.below hb)
      have nHA := Lib.hid (HA.out.below hb)
      have nHB := Lib.hid (HB.out.trans (hb.mono HB.out.size))
      clear HM HA HB hb p1
      have HM := nHM
      have HA := nHA
      have HB := nHB
      clear nHM nHA nHB
      go_wp2
      dsimp only [NoPanic]
      go_wp2_with (first | (refine wpl_row rfl 27 _ rfl _ rfl #[hx, hy, hv, gx, gy, gv, lx, ly, lv, px, py, pv, nx, ny, nv, ax, ay, av, cx, cy, cv, dx, dy, dv, .int .i64 cl, .int .i64 bu] 26 HM.out Try.rowRot rfl ?_; simp only [Act.put]) | (refine wpl_row rfl 36 _ rfl _ rfl #[.int .i64 wl, .int .i64 wh, .int .i64 tl, .int .i64 th, .int .i64 el, .int .i64 eh, .int .i64 nl, .int .i64 nh] 8 HA.out Try.rowAir rfl ?_; simp only [Act.put]) | (go_at_call 38; (with_reducible refine (HF.out _ (HR.out.below HB.out)).mono ?_); rintro e w1 ⟨rfl, hb1⟩; have nHM := Lib.hid (HM.out.below hb1); have nHA := Lib.hid (HA.out.below hb1); have nHB := Lib.hid (bthen HB.out hb1); have zz1 := hb1.size; clear HM HA HB hb1; have HM := nHM; have HA := nHA; have HB := nHB; clear nHM nHA nHB) | (go_at_call 15; (with_reducible refine (works_c _).mono ?_); rintro e w1 ⟨rfl, hb1⟩; have nHM := Lib.hid (HM.out.below hb1); have nHB := Lib.hid (bthen HB.out hb1); have zz1 := hb1.size; clear HM HB hb1; have HM := nHM; have HB := nHB; clear nHM nHB))
      go_ret
      exact ⟨rfl, HB.out⟩
  · go_ret
    exact ⟨rfl, HB.out⟩

theorem Bound_d (x y v : Value) (T : Tbl) (xl xh yl yh : Int) (w : World) (hT : TblAt w x y v T) (hF : Fits T xl xh yl yh) :
   Calls Try.prog 34 #[.agg #[x, y, v], .agg #[.int .i64 xl, .int .i64 xh], .agg #[.int .i64 yl, .int .i64 yh]] w fun e w' => e = .returned (.tuple #[.agg #[.int .i64 (bLo T xl xh yl yh), .int .i64 (bHi T xl xh yl yh)], .int .i64 0]) ∧ Below w.heap.size w w' := by
  have := Bound_c x y v T xl xh yl yh w hT hF
  rwa [(bnd_eq hF).1, (bnd_eq hF).2] at this

theorem RotorLevels_c (hx hy hv gx gy gv lx ly lv px py pv nx ny nv ax ay av cx cy cv dx dy dv : Value) (cl bu : Int) (wl wh tl th el eh nl nh : Int) (S : Tabs) (sl sh : Int) (w : World) (hR : RotAt w hx hy hv gx gy gv lx ly lv px py pv nx ny nv ax ay av cx cy cv dx dy dv cl bu S) :
   Calls Try.prog 11 #[.agg #[hx, hy, hv, gx, gy, gv, lx, ly, lv, px, py, pv, nx, ny, nv, ax, ay, av, cx, cy, cv, dx, dy, dv, .int .i64 cl, .int .i64 bu], .agg #[.int .i64 wl, .int .i64 wh, .int .i64 tl, .int .i64 th, .int .i64 el, .int .i64 eh, .int .i64 nl, .int .i64 nh], .agg #[.int .i64 sl, .int .i64 sh]] w fun e w' => e = .returned (.bool true) ∧ Below w.heap.size w w' := by
  have HR := Lib.hid hR
  clear hR
  cases hf : farS S
  · have HN := Lib.hid (farS_near hf)
    have hk := fun w1 hx hy hv gx gy gv lx ly lv px py pv nx ny nv ax ay av cx cy cv dx dy dv hR => Level_c hx hy hv gx gy gv lx ly lv px py pv nx ny nv ax ay av cx cy cv dx dy dv cl bu wl wh tl th el eh nl nh S sl sh w1 hR
    have hk2 := fun w1 hR => rf2_Level_c hx hy hv gx gy gv lx ly lv px py pv nx ny nv ax ay av cx cy cv dx dy dv cl bu wl wh tl th el eh nl nh S sl sh w1 hR
    have hl := fun w1 hx hy hv gx gy gv lx ly lv px py pv nx ny nv ax ay av cx cy cv dx dy dv hR => Flow_c hx hy hv gx gy gv lx ly lv px py pv nx ny nv ax ay av cx cy cv dx dy dv cl bu wl wh tl th el eh nl nh S sl sh w1 hR
    have hl2 := fun w1 hR => rf2_Flow_c hx hy hv gx gy gv lx ly lv px py pv nx ny nv ax ay av cx cy cv dx dy dv cl bu wl wh tl th el eh nl nh S sl sh w1 hR
    unfold levLo levHi at hk hk2
    unfold floLo floHi at hl hl2
    by_cases he : levE S cl bu wl wh tl th el eh nl nh sl sh = 0
    · obtain ⟨hr, hF⟩ := levE_ok he
      have l1 := bnd_lim (rotB_l hr) hF
      have hbu := rotB_bu hr
      obtain ⟨v1, v2⟩ := part_ok l1.1 l1.2.1 l1.2.2 hbu.1 hbu.2
      simp only [he, okN_ok] at hk hk2 hl hl2
      have HP := Lib.hid (fun w1 => Part_c _ _ bu 1000 w1 v1 (inB_iff.2 (by omega)) (by rfl) v2)
      have HBD := Lib.hid (fun w1 x y v hT => Bound_d x y v S.l sl sh wl wh w1 hT hF)
      generalize partLo (bLo S.l sl sh wl wh) bu 1000 = q0 at *
      generalize partHi (bHi S.l sl sh wl wh) bu 1000 = q1 at *
      generalize bLo S.l sl sh wl wh = p0 at *
      generalize bHi S.l sl sh wl wh = p1 at *
      have HK := Lib.hid hk
      have HK2 := Lib.hid hk2
      have HL := Lib.hid hl
      have HL2 := Lib.hid hl2
      clear hk hk2 hl hl2 he hr hF l1 hbu v1 v2
      have HW := Lib.hid (fun w1 hR => far2_c hx hy hv gx gy gv lx ly lv px py pv nx ny nv ax ay av cx cy cv dx dy dv cl bu S w1 hR)
      rw [hf] at HW
      go_enter Try.func11, Try.ntmps11
      go_wp2_with (first | (refine wpl_row rfl 27 _ rfl _ rfl #[hx, hy, hv, gx, gy, gv, lx, ly, lv, px, py, pv, nx, ny, nv, ax, ay, av, cx, cy, cv, dx, dy, dv, .int .i64 cl, .int .i64 bu] 26 ?_ Try.rowRot rfl ?_; (focus exact (by repeat (first | (refine Blk.newAt _ _ _ ?_; first | rfl | (simp; done)) | refine Blk.alloc ?_ _))); simp only [Act.put]))
      have bHM : Blk (((w.alloc (.cells #[hx, hy, hv, gx, gy, gv, lx, ly, lv, px, py, pv, nx, ny, nv, ax, ay, av, cx, cy, cv, dx, dy, dv, .int .i64 cl, .int .i64 bu] 27)).alloc (.cells #[.int .i64 wl, .int .i64 wh, .int .i64 tl, .int .i64 th, .int .i64 el, .int .i64 eh, .int .i64 nl, .int .i64 nh] 36)).alloc (.cells #[.int .i64 sl, .int .i64 sh] 34)) (w.heap.size) 27 #[hx, hy, hv, gx, gy, gv, lx, ly, lv, px, py, pv, nx, ny, nv, ax, ay, av, cx, cy, cv, dx, dy, dv, .int .i64 cl, .int .i64 bu] := (by repeat (first | (refine Blk.newAt _ _ _ ?_; first | rfl | (simp; done)) | refine Blk.alloc ?_ _))
      have bHA : Blk (((w.alloc (.cells #[hx, hy, hv, gx, gy, gv, lx, ly, lv, px, py, pv, nx, ny, nv, ax, ay, av, cx, cy, cv, dx, dy, dv, .int .i64 cl, .int .i64 bu] 27)).alloc (.cells #[.int .i64 wl, .int .i64 wh, .int .i64 tl, .int .i64 th, .int .i64 el, .int .i64 eh, .int .i64 nl, .int .i64 nh] 36)).alloc (.cells #[.int .i64 sl, .int .i64 sh] 34)) (w.heap.size + 1) 36 #[.int .i64 wl, .int .i64 wh, .int .i64 tl, .int .i64 th, .int .i64 el, .int .i64 eh, .int .i64 nl, .int .i64 nh] := (by repeat (first | (refine Blk.newAt _ _ _ ?_; first | rfl | (simp; done)) | refine Blk.alloc ?_ _))
      have bHS : Blk (((w.alloc (.cells #[hx, hy, hv, gx, gy, gv, lx, ly, lv, px, py, pv, nx, ny, nv, ax, ay, av, cx, cy, cv, dx, dy, dv, .int .i64 cl, .int .i64 bu] 27)).alloc (.cells #[.int .i64 wl, .int .i64 wh, .int .i64 tl, .int .i64 th, .int .i64 el, .int .i64 eh, .int .i64 nl, .int .i64 nh] 36)).alloc (.cells #[.int .i64 sl, .int .i64 sh] 34)) (w.heap.size + 1 + 1) 34 #[.int .i64 sl, .int .i64 sh] := (by repeat (first | (refine Blk.newAt _ _ _ ?_; first | rfl | (simp; done)) | refine Blk.alloc ?_ _))
      have bHB : Below w.heap.size w (((w.alloc (.cells #[hx, hy, hv, gx, gy, gv, lx, ly, lv, px, py, pv, nx, ny, nv, ax, ay, av, cx, cy, cv, dx, dy, dv, .int .i64 cl, .int .i64 bu] 27)).alloc (.cells #[.int .i64 wl, .int .i64 wh, .int .i64 tl, .int .i64 th, .int .i64 el, .int .i64 eh, .int .i64 nl, .int .i64 nh] 36)).alloc (.cells #[.int .i64 sl, .int .i64 sh] 34)) := (by repeat' (first | exact Below.refl _ _ | assumption | refine Below.drew ?_ | refine bdn ?_ _ | refine bal ?_ _ | refine Below.setCell ?_ (by first | (simp; done) | omega | (simp; omega)) _))
      generalize (((w.alloc (.cells #[hx, hy, hv, gx, gy, gv, lx, ly, lv, px, py, pv, nx, ny, nv, ax, ay, av, cx, cy, cv, dx, dy, dv, .int .i64 cl, .int .i64 bu] 27)).alloc (.cells #[.int .i64 wl, .int .i64 wh, .int .i64 tl, .int .i64 th, .int .i64 el, .int .i64 eh, .int .i64 nl, .int .i64 nh] 36)).alloc (.cells #[.int .i64 sl, .int .i64 sh] 34)) = W at *
      have zW := bHS.lt
      have HM := Lib.hid bHM
      have HA := Lib.hid bHA
      have HS := Lib.hid bHS
      have HB := Lib.hid bHB
      clear bHM bHA bHS bHB
      go_wp2_with (first | (refine wpl_row rfl 27 _ rfl _ rfl #[hx, hy, hv, gx, gy, gv, lx, ly, lv, px, py, pv, nx, ny, nv, ax, ay, av, cx, cy, cv, dx, dy, dv, .int .i64 cl, .int .i64 bu] 26 HM.out Try.rowRot rfl ?_; simp only [Act.put]) | (go_at_call 14; (with_reducible refine (HW.out _ (HR.out.below HB.out)).mono ?_); rintro e w1 ⟨rfl, hb1⟩; have nHM := Lib.hid (HM.out.below hb1); have nHA := Lib.hid (HA.out.below hb1); have nHS := Lib.hid (HS.out.below hb1); have nHB := Lib.hid (bthen HB.out hb1); have zz1 := hb1.size; clear HM HA HS HB hb1; have HM := nHM; have HA := nHA; have HS := nHS; have HB := nHB; clear nHM nHA nHS nHB) | (go_at_call 15; (with_reducible refine (works_c _).mono ?_); rintro e w1 ⟨rfl, hb1⟩; have nHM := Lib.hid (HM.out.below hb1); have nHA := Lib.hid (HA.out.below hb1); have nHS := Lib.hid (HS.out.below hb1); have nHB := Lib.hid (bthen HB.out hb1); have zz1 := hb1.size; clear HM HA HS HB hb1; have HM := nHM; have HA := nHA; have HS := nHS; have HB := nHB; clear nHM nHA nHS nHB) | (go_at_call 17; (with_reducible refine (own_c hx hy hv gx gy gv lx ly lv px py pv nx ny nv ax ay av cx cy cv dx dy dv cl bu S _ (HR.out.below HB.out) HN.out).mono ?_); rintro e w1 ⟨v, rfl, ho, hb1⟩; obtain ⟨hx', hy', hv', gx', gy', gv', lx', ly', lv', px', py', pv', nx', ny', nv', ax', ay', av', cx', cy', cv', dx', dy', dv', rfl, r1⟩ := ho; have HO := Lib.hid r1; clear r1; have nHM := Lib.hid (HM.out.below hb1); have nHA := Lib.hid (HA.out.below hb1); have nHS := Lib.hid (HS.out.below hb1); have nHB := Lib.hid (bthen HB.out hb1); have zz1 := hb1.size; clear HM HA HS HB hb1; have HM := nHM; have HA := nHA; have HS := nHS; have HB := nHB; clear nHM nHA nHS nHB; (try clear zHS); have zHS := HS.out.lt; (try clear cHS0); have cHS0 := HS.out.cell 0; (try clear cHS1); have cHS1 := HS.out.cell 1) | (refine wpl_store_new rfl 27 _ _ rfl #[hx', hy', hv', gx', gy', gv', lx', ly', lv', px', py', pv', nx', ny', nv', ax', ay', av', cx', cy', cv', dx', dy', dv', .int .i64 cl, .int .i64 bu] _ _ rfl ?_ rfl Try.sizeRot' rfl (RotAt.one26' HO.out) ?_; (focus (simp; done)); simp only [Act.put]) | (refine wpl_row rfl 27 _ rfl _ rfl #[hx', hy', hv', gx', gy', gv', lx', ly', lv', px', py', pv', nx', ny', nv', ax', ay', av', cx', cy', cv', dx', dy', dv', .int .i64 cl, .int .i64 bu] 26 (Blk.new _ _ _) Try.rowRot rfl ?_; simp only [Act.put]) | (refine wpl_row rfl 36 _ rfl _ rfl #[.int .i64 wl, .int .i64 wh, .int .i64 tl, .int .i64 th, .int .i64 el, .int .i64 eh, .int .i64 nl, .int .i64 nh] 8 (HA.out.alloc _) Try.rowAir rfl ?_; simp only [Act.put]))
      have bHQ := Blk.new w1 27 #[hx', hy', hv', gx', gy', gv', lx', ly', lv', px', py', pv', nx', ny', nv', ax', ay', av', cx', cy', cv', dx', dy', dv', .int .i64 cl, .int .i64 bu]
      have nHM := Lib.hid (HM.out.alloc (.cells #[hx', hy', hv', gx', gy', gv', lx', ly', lv', px', py', pv', nx', ny', nv', ax', ay', av', cx', cy', cv', dx', dy', dv', .int .i64 cl, .int .i64 bu] 27))
      have nHA := Lib.hid (HA.out.alloc (.cells #[hx', hy', hv', gx', gy', gv', lx', ly', lv', px', py', pv', nx', ny', nv', ax', ay', av', cx', cy', cv', dx', dy', dv', .int .i64 cl, .int .i64 bu] 27))
      have nHS := Lib.hid (HS.out.alloc (.cells #[hx', hy', hv', gx', gy', gv', lx', ly', lv', px', py', pv', nx', ny', nv', ax', ay', av', cx', cy', cv', dx', dy', dv', .int .i64 cl, .int .i64 bu] 27))
      have nHO := Lib.hid (HO.out.alloc (.cells #[hx', hy', hv', gx', gy', gv', lx', ly', lv', px', py', pv', nx', ny', nv', ax', ay', av', cx', cy', cv', dx', dy', dv', .int .i64 cl, .int .i64 bu] 27))
      have nHB := Lib.hid (bal HB.out (.cells #[hx', hy', hv', gx', gy', gv', lx', ly', lv', px', py', pv', nx', ny', nv', ax', ay', av', cx', cy', cv', dx', dy', dv', .int .i64 cl, .int .i64 bu] 27))
      clear HM HA HS HO HB
      have HM := nHM
      have HA := nHA
      have HS := nHS
      have HO := nHO
      have HB := nHB
      clear nHM nHA nHS nHO nHB
      generalize w1.alloc (.cells #[hx', hy', hv', gx', gy', gv', lx', ly', lv', px', py', pv', nx', ny', nv', ax', ay', av', cx', cy', cv', dx', dy', dv', .int .i64 cl, .int .i64 bu] 27) = W2 at *
      generalize w1.heap.size = gHQ at *
      have HQ := Lib.hid bHQ
      clear bHQ
      have zHS := HS.out.lt
      have cHS0 := HS.out.cell 0
      have cHS1 := HS.out.cell 1
      go_wp2_with (first | (go_at_call 41; (with_reducible refine (HK.out _ _ _ _ _ _ _ _ _ _ _ _ _ _ _ _ _ _ _ _ _ _ _ _ _ HO.out).mono ?_); rintro e w1 ⟨rfl, hb1⟩; have nHM := Lib.hid (HM.out.below hb1); have nHA := Lib.hid (HA.out.below hb1); have nHS := Lib.hid (HS.out.below hb1); have nHQ := Lib.hid (HQ.out.below hb1); have nHO := Lib.hid (HO.out.below hb1); have nHB := Lib.hid (bthen HB.out hb1); have zz1 := hb1.size; clear HM HA HS HQ HO HB hb1; have HM := nHM; have HA := nHA; have HS := nHS; have HQ := nHQ; have HO := nHO; have HB := nHB; clear nHM nHA nHS nHQ nHO nHB; (try clear zHS); have zHS := HS.out.lt; (try clear cHS0); have cHS0 := HS.out.cell 0; (try clear cHS1); have cHS1 := HS.out.cell 1) | (refine wpl_row rfl 27 _ rfl _ rfl #[hx, hy, hv, gx, gy, gv, lx, ly, lv, px, py, pv, nx, ny, nv, ax, ay, av, cx, cy, cv, dx, dy, dv, .int .i64 cl, .int .i64 bu] 26 (HM.out.alloc _) Try.rowRot rfl ?_; simp only [Act.put]) | (refine wpl_row rfl 36 _ rfl _ rfl #[.int .i64 wl, .int .i64 wh, .int .i64 tl, .int .i64 th, .int .i64 el, .int .i64 eh, .int .i64 nl, .int .i64 nh] 8 (HA.out.alloc _) Try.rowAir rfl ?_; simp only [Act.put]))
      have bN1 := Blk.new w1 34 #[.int .i64 p0, .int .i64 p1]
      have nHM := Lib.hid (HM.out.alloc (.cells #[.int .i64 p0, .int .i64 p1] 34))
      have nHA := Lib.hid (HA.out.alloc (.cells #[.int .i64 p0, .int .i64 p1] 34))
      have nHS := Lib.hid (HS.out.alloc (.cells #[.int .i64 p0, .int .i64 p1] 34))
      have nHQ := Lib.hid (HQ.out.alloc (.cells #[.int .i64 p0, .int .i64 p1] 34))
      have nHO := Lib.hid (HO.out.alloc (.cells #[.int .i64 p0, .int .i64 p1] 34))
      have nHB := Lib.hid (bal HB.out (.cells #[.int .i64 p0, .int .i64 p1] 34))
      clear HM HA HS HQ HO HB
      have HM := nHM
      have HA := nHA
      have HS := nHS
      have HQ := nHQ
      have HO := nHO
      have HB := nHB
      clear nHM nHA nHS nHQ nHO nHB
      generalize w1.alloc (.cells #[.int .i64 p0, .int .i64 p1] 34) = W2 at *
      generalize w1.heap.size = gN1 at *
      have N1 := Lib.hid bN1
      clear bN1
      have zHS := HS.out.lt
      have cHS0 := HS.out.cell 0
      have cHS1 := HS.out.cell 1
      go_wp2_with (first | (go_at_call 42; (with_reducible refine (HK2.out _ (HR.out.below HB.out)).mono ?_); rintro e w1 ⟨rfl, hb1⟩; have nHM := Lib.hid (HM.out.below hb1); have nHA := Lib.hid (HA.out.below hb1); have nHS := Lib.hid (HS.out.below hb1); have nHQ := Lib.hid (HQ.out.below hb1); have nHO := Lib.hid (HO.out.below hb1); have nN1 := Lib.hid (N1.out.below hb1); have nHB := Lib.hid (bthen HB.out hb1); have zz1 := hb1.size; clear HM HA HS HQ HO N1 HB hb1; have HM := nHM; have HA := nHA; have HS := nHS; have HQ := nHQ; have HO := nHO; have N1 := nN1; have HB := nHB; clear nHM nHA nHS nHQ nHO nN1 nHB; (try clear zHS); have zHS := HS.out.lt; (try clear cHS0); have cHS0 := HS.out.cell 0; (try clear cHS1); have cHS1 := HS.out.cell 1) | (refine wpl_row rfl 27 _ rfl _ rfl #[hx', hy', hv', gx', gy', gv', lx', ly', lv', px', py', pv', nx', ny', nv', ax', ay', av', cx', cy', cv', dx', dy', dv', .int .i64 cl, .int .i64 bu] 26 (HQ.out.alloc _) Try.rowRot rfl ?_; simp only [Act.put]) | (refine wpl_row rfl 36 _ rfl _ rfl #[.int .i64 wl, .int .i64 wh, .int .i64 tl, .int .i64 th, .int .i64 el, .int .i64 eh, .int .i64 nl, .int .i64 nh] 8 (HA.out.alloc _) Try.rowAir rfl ?_; simp only [Act.put]))
      have bN2 := Blk.new w1 34 #[.int .i64 p0, .int .i64 p1]
      have nHM := Lib.hid (HM.out.alloc (.cells #[.int .i64 p0, .int .i64 p1] 34))
      have nHA := Lib.hid (HA.out.alloc (.cells #[.int .i64 p0, .int .i64 p1] 34))
      have nHS := Lib.hid (HS.out.alloc (.cells #[.int .i64 p0, .int .i64 p1] 34))
      have nHQ := Lib.hid (HQ.out.alloc (.cells #[.int .i64 p0, .int .i64 p1] 34))
      have nHO := Lib.hid (HO.out.alloc (.cells #[.int .i64 p0, .int .i64 p1] 34))
      have nN1 := Lib.hid (N1.out.alloc (.cells #[.int .i64 p0, .int .i64 p1] 34))
      have nHB := Lib.hid (bal HB.out (.cells #[.int .i64 p0, .int .i64 p1] 34))
      clear HM HA HS HQ HO N1 HB
      have HM := nHM
      have HA := nHA
      have HS := nHS
      have HQ := nHQ
      have HO := nHO
      have N1 := nN1
      have HB := nHB
      clear nHM nHA nHS nHQ nHO nN1 nHB
      generalize w1.alloc (.cells #[.int .i64 p0, .int .i64 p1] 34) = W2 at *
      generalize w1.heap.size = gN2 at *
      have N2 := Lib.hid bN2
      clear bN2
      have zHS := HS.out.lt
      have cHS0 := HS.out.cell 0
      have cHS1 := HS.out.cell 1
      go_wp2_with (first | (go_at_call 43; (with_reducible refine (HL.out _ _ _ _ _ _ _ _ _ _ _ _ _ _ _ _ _ _ _ _ _ _ _ _ _ HO.out).mono ?_); rintro e w1 ⟨rfl, hb1⟩; have nHM := Lib.hid (HM.out.below hb1); have nHA := Lib.hid (HA.out.below hb1); have nHS := Lib.hid (HS.out.below hb1); have nHQ := Lib.hid (HQ.out.below hb1); have nHO := Lib.hid (HO.out.below hb1); have nN1 := Lib.hid (N1.out.below hb1); have nN2 := Lib.hid (N2.out.below hb1); have nHB := Lib.hid (bthen HB.out hb1); have zz1 := hb1.size; clear HM HA HS HQ HO N1 N2 HB hb1; have HM := nHM; have HA := nHA; have HS := nHS; have HQ := nHQ; have HO := nHO; have N1 := nN1; have N2 := nN2; have HB := nHB; clear nHM nHA nHS nHQ nHO nN1 nN2 nHB; (try clear zHS); have zHS := HS.out.lt; (try clear cHS0); have cHS0 := HS.out.cell 0; (try clear cHS1); have cHS1 := HS.out.cell 1) | (refine wpl_row rfl 27 _ rfl _ rfl #[hx, hy, hv, gx, gy, gv, lx, ly, lv, px, py, pv, nx, ny, nv, ax, ay, av, cx, cy, cv, dx, dy, dv, .int .i64 cl, .int .i64 bu] 26 (HM.out.alloc _) Try.rowRot rfl ?_; simp only [Act.put]) | (refine wpl_row rfl 36 _ rfl _ rfl #[.int .i64 wl, .int .i64 wh, .int .i64 tl, .int .i64 th, .int .i64 el, .int .i64 eh, .int .i64 nl, .int .i64 nh] 8 (HA.out.alloc _) Try.rowAir rfl ?_; simp only [Act.put]))
      have bN3 := Blk.new w1 34 #[.int .i64 q0, .int .i64 q1]
      have nHM := Lib.hid (HM.out.alloc (.cells #[.int .i64 q0, .int .i64 q1] 34))
      have nHA := Lib.hid (HA.out.alloc (.cells #[.int .i64 q0, .int .i64 q1] 34))
      have nHS := Lib.hid (HS.out.alloc (.cells #[.int .i64 q0, .int .i64 q1] 34))
      have nHQ := Lib.hid (HQ.out.alloc (.cells #[.int .i64 q0, .int .i64 q1] 34))
      have nHO := Lib.hid (HO.out.alloc (.cells #[.int .i64 q0, .int .i64 q1] 34))
      have nN1 := Lib.hid (N1.out.alloc (.cells #[.int .i64 q0, .int .i64 q1] 34))
      have nN2 := Lib.hid (N2.out.alloc (.cells #[.int .i64 q0, .int .i64 q1] 34))
      have nHB := Lib.hid (bal HB.out (.cells #[.int .i64 q0, .int .i64 q1] 34))
      clear HM HA HS HQ HO N1 N2 HB
      have HM := nHM
      have HA := nHA
      have HS := nHS
      have HQ := nHQ
      have HO := nHO
      have N1 := nN1
      have N2 := nN2
      have HB := nHB
      clear nHM nHA nHS nHQ nHO nN1 nN2 nHB
      generalize w1.alloc (.cells #[.int .i64 q0, .int .i64 q1] 34) = W2 at *
      generalize w1.heap.size = gN3 at *
      have N3 := Lib.hid bN3
      clear bN3
      have zHS := HS.out.lt
      have cHS0 := HS.out.cell 0
      have cHS1 := HS.out.cell 1
      go_wp2_with (first | (go_at_call 44; (with_reducible refine (HL2.out _ (HR.out.below HB.out)).mono ?_); rintro e w1 ⟨rfl, hb1⟩; have nHM := Lib.hid (HM.out.below hb1); have nHA := Lib.hid (HA.out.below hb1); have nHS := Lib.hid (HS.out.below hb1); have nHQ := Lib.hid (HQ.out.below hb1); have nHO := Lib.hid (HO.out.below hb1); have nN1 := Lib.hid (N1.out.below hb1); have nN2 := Lib.hid (N2.out.below hb1); have nN3 := Lib.hid (N3.out.below hb1); have nHB := Lib.hid (bthen HB.out hb1); have zz1 := hb1.size; clear HM HA HS HQ HO N1 N2 N3 HB hb1; have HM := nHM; have HA := nHA; have HS := nHS; have HQ := nHQ; have HO := nHO; have N1 := nN1; have N2 := nN2; have N3 := nN3; have HB := nHB; clear nHM nHA nHS nHQ nHO nN1 nN2 nN3 nHB; (try clear zHQ); have zHQ := HQ.out.lt; (try clear cHQ6); have cHQ6 := HQ.out.cell 6; (try clear cHQ7); have cHQ7 := HQ.out.cell 7; (try clear cHQ8); have cHQ8 := HQ.out.cell 8; (try clear zHS); have zHS := HS.out.lt; (try clear cHS0); have cHS0 := HS.out.cell 0; (try clear cHS1); have cHS1 := HS.out.cell 1; (try clear zHA); have zHA := HA.out.lt; (try clear cHA0); have cHA0 := HA.out.cell 0; (try clear cHA1); have cHA1 := HA.out.cell 1; (try clear zN1); have zN1 := N1.out.lt; (try clear cN10); have cN10 := N1.out.cell 0; (try clear cN11); have cN11 := N1.out.cell 1; (try clear zN2); have zN2 := N2.out.lt; (try clear cN20); have cN20 := N2.out.cell 0; (try clear cN21); have cN21 := N2.out.cell 1; (try clear zN3); have zN3 := N3.out.lt; (try clear cN30); have cN30 := N3.out.cell 0; (try clear cN31); have cN31 := N3.out.cell 1))
      have bN4 := Blk.new w1 34 #[.int .i64 q0, .int .i64 q1]
      have nHM := Lib.hid (HM.out.alloc (.cells #[.int .i64 q0, .int .i64 q1] 34))
      have nHA := Lib.hid (HA.out.alloc (.cells #[.int .i64 q0, .int .i64 q1] 34))
      have nHS := Lib.hid (HS.out.alloc (.cells #[.int .i64 q0, .int .i64 q1] 34))
      have nHQ := Lib.hid (HQ.out.alloc (.cells #[.int .i64 q0, .int .i64 q1] 34))
      have nHO := Lib.hid (HO.out.alloc (.cells #[.int .i64 q0, .int .i64 q1] 34))
      have nN1 := Lib.hid (N1.out.alloc (.cells #[.int .i64 q0, .int .i64 q1] 34))
      have nN2 := Lib.hid (N2.out.alloc (.cells #[.int .i64 q0, .int .i64 q1] 34))
      have nN3 := Lib.hid (N3.out.alloc (.cells #[.int .i64 q0, .int .i64 q1] 34))
      have nHB := Lib.hid (bal HB.out (.cells #[.int .i64 q0, .int .i64 q1] 34))
      clear HM HA HS HQ HO N1 N2 N3 HB
      have HM := nHM
      have HA := nHA
      have HS := nHS
      have HQ := nHQ
      have HO := nHO
      have N1 := nN1
      have N2 := nN2
      have N3 := nN3
      have HB := nHB
      clear nHM nHA nHS nHQ nHO nN1 nN2 nN3 nHB
      generalize w1.alloc (.cells #[.int .i64 q0, .int .i64 q1] 34) = W2 at *
      generalize w1.heap.size = gN4 at *
      have N4 := Lib.hid bN4
      clear bN4
      go_wp2_with (first | (go_at_call 34; (with_reducible refine (HBD.out _ _ _ _ HO.out.l).mono ?_); rintro e w1 ⟨rfl, hb1⟩; have nHM := Lib.hid (HM.out.below hb1); have nN1 := Lib.hid (N1.out.below hb1); have nN3 := Lib.hid (N3.out.below hb1); have nHB := Lib.hid (bthen HB.out hb1); have zz1 := hb1.size; clear HM N1 N3 HB hb1; have HM := nHM; have N1 := nN1; have N3 := nN3; have HB := nHB; clear nHM nN1 nN3 nHB; (try clear zHM); have zHM := HM.out.lt; (try clear cHM25); have cHM25 := HM.out.cell 25))
      have bN5 := Blk.new w1 34 #[.int .i64 p0, .int .i64 p1]
      have nHM := Lib.hid (HM.out.alloc (.cells #[.int .i64 p0, .int .i64 p1] 34))
      have nN1 := Lib.hid (N1.out.alloc (.cells #[.int .i64 p0, .int .i64 p1] 34))
      have nN3 := Lib.hid (N3.out.alloc (.cells #[.int .i64 p0, .int .i64 p1] 34))
      have nHB := Lib.hid (bal HB.out (.cells #[.int .i64 p0, .int .i64 p1] 34))
      clear HM N1 N3 HB
      have HM := nHM
      have N1 := nN1
      have N3 := nN3
      have HB := nHB
      clear nHM nN1 nN3 nHB
      generalize w1.alloc (.cells #[.int .i64 p0, .int .i64 p1] 34) = W2 at *
      generalize w1.heap.size = gN5 at *
      have N5 := Lib.hid bN5
      clear bN5
      have zN5 := N5.out.lt
      have cN50 := N5.out.cell 0
      have cN51 := N5.out.cell 1
      go_wp2_with (first | (go_at_call 45; (with_reducible refine (HP.out _).mono ?_); rintro e w1 ⟨rfl, hb1⟩; have nN1 := Lib.hid (N1.out.below hb1); have nN3 := Lib.hid (N3.out.below hb1); have nN5 := Lib.hid (N5.out.below hb1); have nHB := Lib.hid (bthen HB.out hb1); have zz1 := hb1.size; clear N1 N3 N5 HB hb1; have N1 := nN1; have N3 := nN3; have N5 := nN5; have HB := nHB; clear nN1 nN3 nN5 nHB; (try clear zN1); have zN1 := N1.out.lt; (try clear cN10); have cN10 := N1.out.cell 0; (try clear cN11); have cN11 := N1.out.cell 1; (try clear zN3); have zN3 := N3.out.lt; (try clear cN30); have cN30 := N3.out.cell 0; (try clear cN31); have cN31 := N3.out.cell 1; (try clear zN5); have zN5 := N5.out.lt; (try clear cN50); have cN50 := N5.out.cell 0; (try clear cN51); have cN51 := N5.out.cell 1))
      have bN6 := Blk.new w1 34 #[.int .i64 q0, .int .i64 q1]
      have nN1 := Lib.hid (N1.out.alloc (.cells #[.int .i64 q0, .int .i64 q1] 34))
      have nHB := Lib.hid (bal HB.out (.cells #[.int .i64 q0, .int .i64 q1] 34))
      clear N1 HB
      have N1 := nN1
      have HB := nHB
      clear nN1 nHB
      generalize w1.alloc (.cells #[.int .i64 q0, .int .i64 q1] 34) = W2 at *
      generalize w1.heap.size = gN6 at *
      have N6 := Lib.hid bN6
      clear bN6
      go_wp2_with (first | (go_at_call 15; (with_reducible refine (works_c _).mono ?_); rintro e w1 ⟨rfl, hb1⟩; have nN1 := Lib.hid (N1.out.below hb1); have nHB := Lib.hid (bthen HB.out hb1); have zz1 := hb1.size; clear N1 HB hb1; have N1 := nN1; have HB := nHB; clear nN1 nHB))
      go_ret
      exact ⟨rfl, HB.out⟩
    · have hne : (levE S cl bu wl wh tl th el eh nl nh sl sh != 0) = true := by simpa using he
      simp only [okN_no he] at hk hk2 hl hl2
      generalize levE S cl bu wl wh tl th el eh nl nh sl sh = E at *
      obtain ⟨p0, hp0⟩ : ∃ p0 : Int, p0 = 0 := ⟨0, rfl⟩
      have HK := Lib.hid hk
      have HK2 := Lib.hid hk2
      have HL := Lib.hid hl
      have HL2 := Lib.hid hl2
      clear hk hk2 hl hl2 he hp0
      have HW := Lib.hid (fun w1 hR => far2_c hx hy hv gx gy gv lx ly lv px py pv nx ny nv ax ay av cx cy cv dx dy dv cl bu S w1 hR)
      rw [hf] at HW
      go_enter Try.func11, Try.ntmps11
      go_wp2_with (first | (refine wpl_row rfl 27 _ rfl _ rfl #[hx, hy, hv, gx, gy, gv, lx, ly, lv, px, py, pv, nx, ny, nv, ax, ay, av, cx, cy, cv, dx, dy, dv, .int .i64 cl, .int .i64 bu] 26 ?_ Try.rowRot rfl ?_; (focus exact (by repeat (first | (refine Blk.newAt _ _ _ ?_; first | rfl | (simp; done)) | refine Blk.alloc ?_ _))); simp only [Act.put]))
      have bHM : Blk (((w.alloc (.cells #[hx, hy, hv, gx, gy, gv, lx, ly, lv, px, py, pv, nx, ny, nv, ax, ay, av, cx, cy, cv, dx, dy, dv, .int .i64 cl, .int .i64 bu] 27)).alloc (.cells #[.int .i64 wl, .int .i64 wh, .int .i64 tl, .int .i64 th, .int .i64 el, .int .i64 eh, .int .i64 nl, .int .i64 nh] 36)).alloc (.cells #[.int .i64 sl, .int .i64 sh] 34)) (w.heap.size) 27 #[hx, hy, hv, gx, gy, gv, lx, ly, lv, px, py, pv, nx, ny, nv, ax, ay, av, cx, cy, cv, dx, dy, dv, .int .i64 cl, .int .i64 bu] := (by repeat (first | (refine Blk.newAt _ _ _ ?_; first | rfl | (simp; done)) | refine Blk.alloc ?_ _))
      have bHA : Blk (((w.alloc (.cells #[hx, hy, hv, gx, gy, gv, lx, ly, lv, px, py, pv, nx, ny, nv, ax, ay, av, cx, cy, cv, dx, dy, dv, .int .i64 cl, .int .i64 bu] 27)).alloc (.cells #[.int .i64 wl, .int .i64 wh, .int .i64 tl, .int .i64 th, .int .i64 el, .int .i64 eh, .int .i64 nl, .int .i64 nh] 36)).alloc (.cells #[.int .i64 sl, .int .i64 sh] 34)) (w.heap.size + 1) 36 #[.int .i64 wl, .int .i64 wh, .int .i64 tl, .int .i64 th, .int .i64 el, .int .i64 eh, .int .i64 nl, .int .i64 nh] := (by repeat (first | (refine Blk.newAt _ _ _ ?_; first | rfl | (simp; done)) | refine Blk.alloc ?_ _))
      have bHS : Blk (((w.alloc (.cells #[hx, hy, hv, gx, gy, gv, lx, ly, lv, px, py, pv, nx, ny, nv, ax, ay, av, cx, cy, cv, dx, dy, dv, .int .i64 cl, .int .i64 bu] 27)).alloc (.cells #[.int .i64 wl, .int .i64 wh, .int .i64 tl, .int .i64 th, .int .i64 el, .int .i64 eh, .int .i64 nl, .int .i64 nh] 36)).alloc (.cells #[.int .i64 sl, .int .i64 sh] 34)) (w.heap.size + 1 + 1) 34 #[.int .i64 sl, .int .i64 sh] := (by repeat (first | (refine Blk.newAt _ _ _ ?_; first | rfl | (simp; done)) | refine Blk.alloc ?_ _))
      have bHB : Below w.heap.size w (((w.alloc (.cells #[hx, hy, hv, gx, gy, gv, lx, ly, lv, px, py, pv, nx, ny, nv, ax, ay, av, cx, cy, cv, dx, dy, dv, .int .i64 cl, .int .i64 bu] 27)).alloc (.cells #[.int .i64 wl, .int .i64 wh, .int .i64 tl, .int .i64 th, .int .i64 el, .int .i64 eh, .int .i64 nl, .int .i64 nh] 36)).alloc (.cells #[.int .i64 sl, .int .i64 sh] 34)) := (by repeat' (first | exact Below.refl _ _ | assumption | refine Below.drew ?_ | refine bdn ?_ _ | refine bal ?_ _ | refine Below.setCell ?_ (by first | (simp; done) | omega | (simp; omega)) _))
      generalize (((w.alloc (.cells #[hx, hy, hv, gx, gy, gv, lx, ly, lv, px, py, pv, nx, ny, nv, ax, ay, av, cx, cy, cv, dx, dy, dv, .int .i64 cl, .int .i64 bu] 27)).alloc (.cells #[.int .i64 wl, .int .i64 wh, .int .i64 tl, .int .i64 th, .int .i64 el, .int .i64 eh, .int .i64 nl, .int .i64 nh] 36)).alloc (.cells #[.int .i64 sl, .int .i64 sh] 34)) = W at *
      have zW := bHS.lt
      have HM := Lib.hid bHM
      have HA := Lib.hid bHA
      have HS := Lib.hid bHS
      have HB := Lib.hid bHB
      clear bHM bHA bHS bHB
      go_wp2_with (first | (refine wpl_row rfl 27 _ rfl _ rfl #[hx, hy, hv, gx, gy, gv, lx, ly, lv, px, py, pv, nx, ny, nv, ax, ay, av, cx, cy, cv, dx, dy, dv, .int .i64 cl, .int .i64 bu] 26 HM.out Try.rowRot rfl ?_; simp only [Act.put]) | (go_at_call 14; (with_reducible refine (HW.out _ (HR.out.below HB.out)).mono ?_); rintro e w1 ⟨rfl, hb1⟩; have nHM := Lib.hid (HM.out.below hb1); have nHA := Lib.hid (HA.out.below hb1); have nHS := Lib.hid (HS.out.below hb1); have nHB := Lib.hid (bthen HB.out hb1); have zz1 := hb1.size; clear HM HA HS HB hb1; have HM := nHM; have HA := nHA; have HS := nHS; have HB := nHB; clear nHM nHA nHS nHB) | (go_at_call 15; (with_reducible refine (works_c _).mono ?_); rintro e w1 ⟨rfl, hb1⟩; have nHM := Lib.hid (HM.out.below hb1); have nHA := Lib.hid (HA.out.below hb1); have nHS := Lib.hid (HS.out.below hb1); have nHB := Lib.hid (bthen HB.out hb1); have zz1 := hb1.size; clear HM HA HS HB hb1; have HM := nHM; have HA := nHA; have HS := nHS; have HB := nHB; clear nHM nHA nHS nHB) | (go_at_call 17; (with_reducible refine (own_c hx hy hv gx gy gv lx ly lv px py pv nx ny nv ax ay av cx cy cv dx dy dv cl bu S _ (HR.out.below HB.out) HN.out).mono ?_); rintro e w1 ⟨v, rfl, ho, hb1⟩; obtain ⟨hx', hy', hv', gx', gy', gv', lx', ly', lv', px', py', pv', nx', ny', nv', ax', ay', av', cx', cy', cv', dx', dy', dv', rfl, r1⟩ := ho; have HO := Lib.hid r1; clear r1; have nHM := Lib.hid (HM.out.below hb1); have nHA := Lib.hid (HA.out.below hb1); have nHS := Lib.hid (HS.out.below hb1); have nHB := Lib.hid (bthen HB.out hb1); have zz1 := hb1.size; clear HM HA HS HB hb1; have HM := nHM; have HA := nHA; have HS := nHS; have HB := nHB; clear nHM nHA nHS nHB; (try clear zHS); have zHS := HS.out.lt; (try clear cHS0); have cHS0 := HS.out.cell 0; (try clear cHS1); have cHS1 := HS.out.cell 1) | (refine wpl_store_new rfl 27 _ _ rfl #[hx', hy', hv', gx', gy', gv', lx', ly', lv', px', py', pv', nx', ny', nv', ax', ay', av', cx', cy', cv', dx', dy', dv', .int .i64 cl, .int .i64 bu] _ _ rfl ?_ rfl Try.sizeRot' rfl (RotAt.one26' HO.out) ?_; (focus (simp; done)); simp only [Act.put]) | (refine wpl_row rfl 27 _ rfl _ rfl #[hx', hy', hv', gx', gy', gv', lx', ly', lv', px', py', pv', nx', ny', nv', ax', ay', av', cx', cy', cv', dx', dy', dv', .int .i64 cl, .int .i64 bu] 26 (Blk.new _ _ _) Try.rowRot rfl ?_; simp only [Act.put]) | (refine wpl_row rfl 36 _ rfl _ rfl #[.int .i64 wl, .int .i64 wh, .int .i64 tl, .int .i64 th, .int .i64 el, .int .i64 eh, .int .i64 nl, .int .i64 nh] 8 (HA.out.alloc _) Try.rowAir rfl ?_; simp only [Act.put]))
      have bHQ := Blk.new w1 27 #[hx', hy', hv', gx', gy', gv', lx', ly', lv', px', py', pv', nx', ny', nv', ax', ay', av', cx', cy', cv', dx', dy', dv', .int .i64 cl, .int .i64 bu]
      have nHM := Lib.hid (HM.out.alloc (.cells #[hx', hy', hv', gx', gy', gv', lx', ly', lv', px', py', pv', nx', ny', nv', ax', ay', av', cx', cy', cv', dx', dy', dv', .int .i64 cl, .int .i64 bu] 27))
      have nHA := Lib.hid (HA.out.alloc (.cells #[hx', hy', hv', gx', gy', gv', lx', ly', lv', px', py', pv', nx', ny', nv', ax', ay', av', cx', cy', cv', dx', dy', dv', .int .i64 cl, .int .i64 bu] 27))
      have nHS := Lib.hid (HS.out.alloc (.cells #[hx', hy', hv', gx', gy', gv', lx', ly', lv', px', py', pv', nx', ny', nv', ax', ay', av', cx', cy', cv', dx', dy', dv', .int .i64 cl, .int .i64 bu] 27))
      have nHO := Lib.hid (HO.out.alloc (.cells #[hx', hy', hv', gx', gy', gv', lx', ly', lv', px', py', pv', nx', ny', nv', ax', ay', av', cx', cy', cv', dx', dy', dv', .int .i64 cl, .int .i64 bu] 27))
      have nHB := Lib.hid (bal HB.out (.cells #[hx', hy', hv', gx', gy', gv', lx', ly', lv', px', py', pv', nx', ny', nv', ax', ay', av', cx', cy', cv', dx', dy', dv', .int .i64 cl, .int .i64 bu] 27))
      clear HM HA HS HO HB
      have HM := nHM
      have HA := nHA
      have HS := nHS
      have HO := nHO
      have HB := nHB
      clear nHM nHA nHS nHO nHB
      generalize w1.alloc (.cells #[hx', hy', hv', gx', gy', gv', lx', ly', lv', px', py', pv', nx', ny', nv', ax', ay', av', cx', cy', cv', dx', dy', dv', .int .i64 cl, .int .i64 bu] 27) = W2 at *
      generalize w1.heap.size = gHQ at *
      have HQ := Lib.hid bHQ
      clear bHQ
      have zHS := HS.out.lt
      have cHS0 := HS.out.cell 0
      have cHS1 := HS.out.cell 1
      go_wp2_with (first | (go_at_call 41; (with_reducible refine (HK.out _ _ _ _ _ _ _ _ _ _ _ _ _ _ _ _ _ _ _ _ _ _ _ _ _ HO.out).mono ?_); rintro e w1 ⟨rfl, hb1⟩; have nHM := Lib.hid (HM.out.below hb1); have nHA := Lib.hid (HA.out.below hb1); have nHS := Lib.hid (HS.out.below hb1); have nHQ := Lib.hid (HQ.out.below hb1); have nHO := Lib.hid (HO.out.below hb1); have nHB := Lib.hid (bthen HB.out hb1); have zz1 := hb1.size; clear HM HA HS HQ HO HB hb1; have HM := nHM; have HA := nHA; have HS := nHS; have HQ := nHQ; have HO := nHO; have HB := nHB; clear nHM nHA nHS nHQ nHO nHB; (try clear zHS); have zHS := HS.out.lt; (try clear cHS0); have cHS0 := HS.out.cell 0; (try clear cHS1); have cHS1 := HS.out.cell 1) | (refine wpl_row rfl 27 _ rfl _ rfl #[hx, hy, hv, gx, gy, gv, lx, ly, lv, px, py, pv, nx, ny, nv, ax, ay, av, cx, cy, cv, dx, dy, dv, .int .i64 cl, .int .i64 bu] 26 (HM.out.alloc _) Try.rowRot rfl ?_; simp only [Act.put]) | (refine wpl_row rfl 36 _ rfl _ rfl #[.int .i64 wl, .int .i64 wh, .int .i64 tl, .int .i64 th, .int .i64 el, .int .i64 eh, .int .i64 nl, .int .i64 nh] 8 (HA.out.alloc _) Try.rowAir rfl ?_; simp only [Act.put]))
      have bN1 := Blk.new w1 34 #[.int .i64 0, .int .i64 0]
      have nHM := Lib.hid (HM.out.alloc (.cells #[.int .i64 0, .int .i64 0] 34))
      have nHA := Lib.hid (HA.out.alloc (.cells #[.int .i64 0, .int .i64 0] 34))
      have nHS := Lib.hid (HS.out.alloc (.cells #[.int .i64 0, .int .i64 0] 34))
      have nHQ := Lib.hid (HQ.out.alloc (.cells #[.int .i64 0, .int .i64 0] 34))
      have nHO := Lib.hid (HO.out.alloc (.cells #[.int .i64 0, .int .i64 0] 34))
      have nHB := Lib.hid (bal HB.out (.cells #[.int .i64 0, .int .i64 0] 34))
      clear HM HA HS HQ HO HB
      have HM := nHM
      have HA := nHA
      have HS := nHS
      have HQ := nHQ
      have HO := nHO
      have HB := nHB
      clear nHM nHA nHS nHQ nHO nHB
      generalize w1.alloc (.cells #[.int .i64 0, .int .i64 0] 34) = W2 at *
      generalize w1.heap.size = gN1 at *
      have N1 := Lib.hid bN1
      clear bN1
      have zHS := HS.out.lt
      have cHS0 := HS.out.cell 0
      have cHS1 := HS.out.cell 1
      go_wp2_with (first | (go_at_call 42; (with_reducible refine (HK2.out _ (HR.out.below HB.out)).mono ?_); rintro e w1 ⟨rfl, hb1⟩; have nHM := Lib.hid (HM.out.below hb1); have nHA := Lib.hid (HA.out.below hb1); have nHS := Lib.hid (HS.out.below hb1); have nHQ := Lib.hid (HQ.out.below hb1); have nHO := Lib.hid (HO.out.below hb1); have nN1 := Lib.hid (N1.out.below hb1); have nHB := Lib.hid (bthen HB.out hb1); have zz1 := hb1.size; clear HM HA HS HQ HO N1 HB hb1; have HM := nHM; have HA := nHA; have HS := nHS; have HQ := nHQ; have HO := nHO; have N1 := nN1; have HB := nHB; clear nHM nHA nHS nHQ nHO nN1 nHB; (try clear zHS); have zHS := HS.out.lt; (try clear cHS0); have cHS0 := HS.out.cell 0; (try clear cHS1); have cHS1 := HS.out.cell 1) | (refine wpl_row rfl 27 _ rfl _ rfl #[hx', hy', hv', gx', gy', gv', lx', ly', lv', px', py', pv', nx', ny', nv', ax', ay', av', cx', cy', cv', dx', dy', dv', .int .i64 cl, .int .i64 bu] 26 (HQ.out.alloc _) Try.rowRot rfl ?_; simp only [Act.put]) | (refine wpl_row rfl 36 _ rfl _ rfl #[.int .i64 wl, .int .i64 wh, .int .i64 tl, .int .i64 th, .int .i64 el, .int .i64 eh, .int .i64 nl, .int .i64 nh] 8 (HA.out.alloc _) Try.rowAir rfl ?_; simp only [Act.put]))
      have bN2 := Blk.new w1 34 #[.int .i64 0, .int .i64 0]
      have nHM := Lib.hid (HM.out.alloc (.cells #[.int .i64 0, .int .i64 0] 34))
      have nHA := Lib.hid (HA.out.alloc (.cells #[.int .i64 0, .int .i64 0] 34))
      have nHS := Lib.hid (HS.out.alloc (.cells #[.int .i64 0, .int .i64 0] 34))
      have nHQ := Lib.hid (HQ.out.alloc (.cells #[.int .i64 0, .int .i64 0] 34))
      have nHO := Lib.hid (HO.out.alloc (.cells #[.int .i64 0, .int .i64 0] 34))
      have nN1 := Lib.hid (N1.out.alloc (.cells #[.int .i64 0, .int .i64 0] 34))
      have nHB := Lib.hid (bal HB.out (.cells #[.int .i64 0, .int .i64 0] 34))
      clear HM HA HS HQ HO N1 HB
      have HM := nHM
      have HA := nHA
      have HS := nHS
      have HQ := nHQ
      have HO := nHO
      have N1 := nN1
      have HB := nHB
      clear nHM nHA nHS nHQ nHO nN1 nHB
      generalize w1.alloc (.cells #[.int .i64 0, .int .i64 0] 34) = W2 at *
      generalize w1.heap.size = gN2 at *
      have N2 := Lib.hid bN2
      clear bN2
      have zHS := HS.out.lt
      have cHS0 := HS.out.cell 0
      have cHS1 := HS.out.cell 1
      go_wp2_with (first | (go_at_call 43; (with_reducible refine (HL.out _ _ _ _ _ _ _ _ _ _ _ _ _ _ _ _ _ _ _ _ _ _ _ _ _ HO.out).mono ?_); rintro e w1 ⟨rfl, hb1⟩; have nHM := Lib.hid (HM.out.below hb1); have nHA := Lib.hid (HA.out.below hb1); have nHS := Lib.hid (HS.out.below hb1); have nHQ := Lib.hid (HQ.out.below hb1); have nHO := Lib.hid (HO.out.below hb1); have nN1 := Lib.hid (N1.out.below hb1); have nN2 := Lib.hid (N2.out.below hb1); have nHB := Lib.hid (bthen HB.out hb1); have zz1 := hb1.size; clear HM HA HS HQ HO N1 N2 HB hb1; have HM := nHM; have HA := nHA; have HS := nHS; have HQ := nHQ; have HO := nHO; have N1 := nN1; have N2 := nN2; have HB := nHB; clear nHM nHA nHS nHQ nHO nN1 nN2 nHB; (try clear zHS); have zHS := HS.out.lt; (try clear cHS0); have cHS0 := HS.out.cell 0; (try clear cHS1); have cHS1 := HS.out.cell 1) | (refine wpl_row rfl 27 _ rfl _ rfl #[hx, hy, hv, gx, gy, gv, lx, ly, lv, px, py, pv, nx, ny, nv, ax, ay, av, cx, cy, cv, dx, dy, dv, .int .i64 cl, .int .i64 bu] 26 (HM.out.alloc _) Try.rowRot rfl ?_; simp only [Act.put]) | (refine wpl_row rfl 36 _ rfl _ rfl #[.int .i64 wl, .int .i64 wh, .int .i64 tl, .int .i64 th, .int .i64 el, .int .i64 eh, .int .i64 nl, .int .i64 nh] 8 (HA.out.alloc _) Try.rowAir rfl ?_; simp only [Act.put]))
      have bN3 := Blk.new w1 34 #[.int .i64 0, .int .i64 0]
      have nHM := Lib.hid (HM.out.alloc (.cells #[.int .i64 0, .int .i64 0] 34))
      have nHA := Lib.hid (HA.out.alloc (.cells #[.int .i64 0, .int .i64 0] 34))
      have nHS := Lib.hid (HS.out.alloc (.cells #[.int .i64 0, .int .i64 0] 34))
      have nHQ := Lib.hid (HQ.out.alloc (.cells #[.int .i64 0, .int .i64 0] 34))
      have nHO := Lib.hid (HO.out.alloc (.cells #[.int .i64 0, .int .i64 0] 34))
      have nN1 := Lib.hid (N1.out.alloc (.cells #[.int .i64 0, .int .i64 0] 34))
      have nN2 := Lib.hid (N2.out.alloc (.cells #[.int .i64 0, .int .i64 0] 34))
      have nHB := Lib.hid (bal HB.out (.cells #[.int .i64 0, .int .i64 0] 34))
      clear HM HA HS HQ HO N1 N2 HB
      have HM := nHM
      have HA := nHA
      have HS := nHS
      have HQ := nHQ
      have HO := nHO
      have N1 := nN1
      have N2 := nN2
      have HB := nHB
      clear nHM nHA nHS nHQ nHO nN1 nN2 nHB
      generalize w1.alloc (.cells #[.int .i64 0, .int .i64 0] 34) = W2 at *
      generalize w1.heap.size = gN3 at *
      have N3 := Lib.hid bN3
      clear bN3
      have zHS := HS.out.lt
      have cHS0 := HS.out.cell 0
      have cHS1 := HS.out.cell 1
      go_wp2_with (first | (go_at_call 44; (with_reducible refine (HL2.out _ (HR.out.below HB.out)).mono ?_); rintro e w1 ⟨rfl, hb1⟩; have nHM := Lib.hid (HM.out.below hb1); have nHA := Lib.hid (HA.out.below hb1); have nHS := Lib.hid (HS.out.below hb1); have nHQ := Lib.hid (HQ.out.below hb1); have nHO := Lib.hid (HO.out.below hb1); have nN1 := Lib.hid (N1.out.below hb1); have nN2 := Lib.hid (N2.out.below hb1); have nN3 := Lib.hid (N3.out.below hb1); have nHB := Lib.hid (bthen HB.out hb1); have zz1 := hb1.size; clear HM HA HS HQ HO N1 N2 N3 HB hb1; have HM := nHM; have HA := nHA; have HS := nHS; have HQ := nHQ; have HO := nHO; have N1 := nN1; have N2 := nN2; have N3 := nN3; have HB := nHB; clear nHM nHA nHS nHQ nHO nN1 nN2 nN3 nHB; (try clear zHQ); have zHQ := HQ.out.lt; (try clear cHQ6); have cHQ6 := HQ.out.cell 6; (try clear cHQ7); have cHQ7 := HQ.out.cell 7; (try clear cHQ8); have cHQ8 := HQ.out.cell 8; (try clear zHS); have zHS := HS.out.lt; (try clear cHS0); have cHS0 := HS.out.cell 0; (try clear cHS1); have cHS1 := HS.out.cell 1; (try clear zHA); have zHA := HA.out.lt; (try clear cHA0); have cHA0 := HA.out.cell 0; (try clear cHA1); have cHA1 := HA.out.cell 1; (try clear zN1); have zN1 := N1.out.lt; (try clear cN10); have cN10 := N1.out.cell 0; (try clear cN11); have cN11 := N1.out.cell 1; (try clear zN2); have zN2 := N2.out.lt; (try clear cN20); have cN20 := N2.out.cell 0; (try clear cN21); have cN21 := N2.out.cell 1; (try clear zN3); have zN3 := N3.out.lt; (try clear cN30); have cN30 := N3.out.cell 0; (try clear cN31); have cN31 := N3.out.cell 1))
      have bN4 := Blk.new w1 34 #[.int .i64 0, .int .i64 0]
      have nHM := Lib.hid (HM.out.alloc (.cells #[.int .i64 0, .int .i64 0] 34))
      have nHA := Lib.hid (HA.out.alloc (.cells #[.int .i64 0, .int .i64 0] 34))
      have nHS := Lib.hid (HS.out.alloc (.cells #[.int .i64 0, .int .i64 0] 34))
      have nHQ := Lib.hid (HQ.out.alloc (.cells #[.int .i64 0, .int .i64 0] 34))
      have nHO := Lib.hid (HO.out.alloc (.cells #[.int .i64 0, .int .i64 0] 34))
      have nN1 := Lib.hid (N1.out.alloc (.cells #[.int .i64 0, .int .i64 0] 34))
      have nN2 := Lib.hid (N2.out.alloc (.cells #[.int .i64 0, .int .i64 0] 34))
      have nN3 := Lib.hid (N3.out.alloc (.cells #[.int .i64 0, .int .i64 0] 34))
      have nHB := Lib.hid (bal HB.out (.cells #[.int .i64 0, .int .i64 0] 34))
      clear HM HA HS HQ HO N1 N2 N3 HB
      have HM := nHM
      have HA := nHA
      have HS := nHS
      have HQ := nHQ
      have HO := nHO
      have N1 := nN1
      have N2 := nN2
      have N3 := nN3
      have HB := nHB
      clear nHM nHA nHS nHQ nHO nN1 nN2 nN3 nHB
      generalize w1.alloc (.cells #[.int .i64 0, .int .i64 0] 34) = W2 at *
      generalize w1.heap.size = gN4 at *
      have N4 := Lib.hid bN4
      clear bN4
      go_wp2_with (first | (go_at_call 15; (with_reducible refine (works_c _).mono ?_); rintro e w1 ⟨rfl, hb1⟩; have nHM := Lib.hid (HM.out.below hb1); have nHB := Lib.hid (bthen HB.out hb1); have zz1 := hb1.size; clear HM HB hb1; have HM := nHM; have HB := nHB; clear nHM nHB))
      go_ret
      exact ⟨rfl, HB.out⟩
  ·
    have HW := Lib.hid (fun w1 hR => far2_c hx hy hv gx gy gv lx ly lv px py pv nx ny nv ax ay av cx cy cv dx dy dv cl bu S w1 hR)
    rw [hf] at HW
    go_enter Try.func11, Try.ntmps11
    go_wp2_with (first | (refine wpl_row rfl 27 _ rfl _ rfl #[hx, hy, hv, gx, gy, gv, lx, ly, lv, px, py, pv, nx, ny, nv, ax, ay, av, cx, cy, cv, dx, dy, dv, .int .i64 cl, .int .i64 bu] 26 ?_ Try.rowRot rfl ?_; (focus exact (by repeat (first | (refine Blk.newAt _ _ _ ?_; first | rfl | (simp; done)) | refine Blk.alloc ?_ _))); simp only [Act.put]))
    have bHM : Blk (((w.alloc (.cells #[hx, hy, hv, gx, gy, gv, lx, ly, lv, px, py, pv, nx, ny, nv, ax, ay, av, cx, cy, cv, dx, dy, dv, .int .i64 cl, .int .i64 bu] 27)).alloc (.cells #[.int .i64 wl, .int .i64 wh, .int .i64 tl, .int .i64 th, .int .i64 el, .int .i64 eh, .int .i64 nl, .int .i64 nh] 36)).alloc (.cells #[.int .i64 sl, .int .i64 sh] 34)) (w.heap.size) 27 #[hx, hy, hv, gx, gy, gv, lx, ly, lv, px, py, pv, nx, ny, nv, ax, ay, av, cx, cy, cv, dx, dy, dv, .int .i64 cl, .int .i64 bu] := (by repeat (first | (refine Blk.newAt _ _ _ ?_; first | rfl | (simp; done)) | refine Blk.alloc ?_ _))
    have bHA : Blk (((w.alloc (.cells #[hx, hy, hv, gx, gy, gv, lx, ly, lv, px, py, pv, nx, ny, nv, ax, ay, av, cx, cy, cv, dx, dy, dv, .int .i64 cl, .int .i64 bu] 27)).alloc (.cells #[.int .i64 wl, .int .i64 wh, .int .i64 tl, .int .i64 th, .int .i64 el, .int .i64 eh, .int .i64 nl, .int .i64 nh] 36)).alloc (.cells #[.int .i64 sl, .int .i64 sh] 34)) (w.heap.size + 1) 36 #[.int .i64 wl, .int .i64 wh, .int .i64 tl, .int .i64 th, .int .i64 el, .int .i64 eh, .int .i64 nl, .int .i64 nh] := (by repeat (first | (refine Blk.newAt _ _ _ ?_; first | rfl | (simp; done)) | refine Blk.alloc ?_ _))
    have bHS : Blk (((w.alloc (.cells #[hx, hy, hv, gx, gy, gv, lx, ly, lv, px, py, pv, nx, ny, nv, ax, ay, av, cx, cy, cv, dx, dy, dv, .int .i64 cl, .int .i64 bu] 27)).alloc (.cells #[.int .i64 wl, .int .i64 wh, .int .i64 tl, .int .i64 th, .int .i64 el, .int .i64 eh, .int .i64 nl, .int .i64 nh] 36)).alloc (.cells #[.int .i64 sl, .int .i64 sh] 34)) (w.heap.size + 1 + 1) 34 #[.int .i64 sl, .int .i64 sh] := (by repeat (first | (refine Blk.newAt _ _ _ ?_; first | rfl | (simp; done)) | refine Blk.alloc ?_ _))
    have bHB : Below w.heap.size w (((w.alloc (.cells #[hx, hy, hv, gx, gy, gv, lx, ly, lv, px, py, pv, nx, ny, nv, ax, ay, av, cx, cy, cv, dx, dy, dv, .int .i64 cl, .int .i64 bu] 27)).alloc (.cells #[.int .i64 wl, .int .i64 wh, .int .i64 tl, .int .i64 th, .int .i64 el, .int .i64 eh, .int .i64 nl, .int .i64 nh] 36)).alloc (.cells #[.int .i64 sl, .int .i64 sh] 34)) := (by repeat' (first | exact Below.refl _ _ | assumption | refine Below.drew ?_ | refine bdn ?_ _ | refine bal ?_ _ | refine Below.setCell ?_ (by first | (simp; done) | omega | (simp; omega)) _))
    generalize (((w.alloc (.cells #[hx, hy, hv, gx, gy, gv, lx, ly, lv, px, py, pv, nx, ny, nv, ax, ay, av, cx, cy, cv, dx, dy, dv, .int .i64 cl, .int .i64 bu] 27)).alloc (.cells #[.int .i64 wl, .int .i64 wh, .int .i64 tl, .int .i64 th, .int .i64 el, .int .i64 eh, .int .i64 nl, .int .i64 nh] 36)).alloc (.cells #[.int .i64 sl, .int .i64 sh] 34)) = W at *
    have zW := bHS.lt
    have HM := Lib.hid bHM
    have HA := Lib.hid bHA
    have HS := Lib.hid bHS
    have HB := Lib.hid bHB
    clear bHM bHA bHS bHB
    go_wp2_with (first | (refine wpl_row rfl 27 _ rfl _ rfl #[hx, hy, hv, gx, gy, gv, lx, ly, lv, px, py, pv, nx, ny, nv, ax, ay, av, cx, cy, cv, dx, dy, dv, .int .i64 cl, .int .i64 bu] 26 HM.out Try.rowRot rfl ?_; simp only [Act.put]) | (go_at_call 14; (with_reducible refine (HW.out _ (HR.out.below HB.out)).mono ?_); rintro e w1 ⟨rfl, hb1⟩; have nHM := Lib.hid (HM.out.below hb1); have nHA := Lib.hid (HA.out.below hb1); have nHS := Lib.hid (HS.out.below hb1); have nHB := Lib.hid (bthen HB.out hb1); have zz1 := hb1.size; clear HM HA HS HB hb1; have HM := nHM; have HA := nHA; have HS := nHS; have HB := nHB; clear nHM nHA nHS nHB) | (go_at_call 15; (with_reducible refine (works_c _).mono ?_); rintro e w1 ⟨rfl, hb1⟩; have nHM := Lib.hid (HM.out.below hb1); have nHA := Lib.hid (HA.out.below hb1); have nHS := Lib.hid (HS.out.below hb1); have nHB := Lib.hid (bthen HB.out hb1); have zz1 := hb1.size; clear HM HA HS HB hb1; have HM := nHM; have HA := nHA; have HS := nHS; have HB := nHB; clear nHM nHA nHS nHB) | (go_at_call 17; (with_reducible refine (own_c hx hy hv gx gy gv lx ly lv px py pv nx ny nv ax ay av cx cy cv dx dy dv cl bu S _ (HR.out.below HB.out) HN.out).mono ?_); rintro e w1 ⟨v, rfl, ho, hb1⟩; obtain ⟨hx', hy', hv', gx', gy', gv', lx', ly', lv', px', py', pv', nx', ny', nv', ax', ay', av', cx', cy', cv', dx', dy', dv', rfl, r1⟩ := ho; have HO := Lib.hid r1; clear r1; have nHM := Lib.hid (HM.out.below hb1); have nHA := Lib.hid (HA.out.below hb1); have nHS := Lib.hid (HS.out.below hb1); have nHB := Lib.hid (bthen HB.out hb1); have zz1 := hb1.size; clear HM HA HS HB hb1; have HM := nHM; have HA := nHA; have HS := nHS; have HB := nHB; clear nHM nHA nHS nHB; (try clear zHS); have zHS := HS.out.lt; (try clear cHS0); have cHS0 := HS.out.cell 0; (try clear cHS1); have cHS1 := HS.out.cell 1) | (refine wpl_store_new rfl 27 _ _ rfl #[hx', hy', hv', gx', gy', gv', lx', ly', lv', px', py', pv', nx', ny', nv', ax', ay', av', cx', cy', cv', dx', dy', dv', .int .i64 cl, .int .i64 bu] _ _ rfl ?_ rfl Try.sizeRot' rfl (RotAt.one26' HO.out) ?_; (focus (simp; done)); simp only [Act.put]) | (refine wpl_row rfl 27 _ rfl _ rfl #[hx', hy', hv', gx', gy', gv', lx', ly', lv', px', py', pv', nx', ny', nv', ax', ay', av', cx', cy', cv', dx', dy', dv', .int .i64 cl, .int .i64 bu] 26 (Blk.new _ _ _) Try.rowRot rfl ?_; simp only [Act.put]) | (refine wpl_row rfl 36 _ rfl _ rfl #[.int .i64 wl, .int .i64 wh, .int .i64 tl, .int .i64 th, .int .i64 el, .int .i64 eh, .int .i64 nl, .int .i64 nh] 8 (HA.out.alloc _) Try.rowAir rfl ?_; simp only [Act.put]))
    go_ret
    exact ⟨rfl, HB.out⟩
end Go.Proofs.Ytoembbcddhlokaa
