/- Contracts: Flow, Rate of the reference of rotors. -/
import Derived.Test.YtechkkgmdjgddaaGreatRfO
import Derived.Test.YtechkkgmdjgddaaGreatRgL
set_option linter.all false
namespace Go.Proofs.YtechkkgmdjgddaaGreat
open Go Go.RowKit Go.Proofs
set_option maxRecDepth 100000
set_option maxHeartbeats 4000000

theorem rat_has {S : Tabs} {cl bu wl wh tl th el eh nl nh n : Int} (h : hasE S cl bu wl wh tl th el eh nl nh ≠ 0) : ratE S cl bu wl wh tl th el eh nl nh n = hasE S cl bu wl wh tl th el eh nl nh := by
  unfold ratE hasE at *
  generalize rotB S cl bu = a1 at *
  generalize airB wl wh tl th el eh nl nh = a2 at *
  generalize lkE S.p tl th el eh = a3 at *
  generalize lkE S.l n n wl wh = a4 at *
  cases a1 <;> cases a2 <;> cases a3 <;> cases a4 <;> simp [chkE] at h ⊢
theorem rat_lev {S : Tabs} {cl bu wl wh tl th el eh nl nh n : Int} (h : hasE S cl bu wl wh tl th el eh nl nh = 0) : ratE S cl bu wl wh tl th el eh nl nh n = levE S cl bu wl wh tl th el eh nl nh n n := by
  have hr := (hasE_ok h).1
  have hl : lkE S.l n n wl wh = true → vspan n n = true := lkE_span (rotB_l hr)
  unfold ratE hasE levE at *
  generalize rotB S cl bu = a1 at *
  generalize airB wl wh tl th el eh nl nh = a2 at *
  generalize lkE S.p tl th el eh = a3 at *
  generalize lkE S.l n n wl wh = a4 at *
  generalize vspan n n = a5 at *
  cases a1 <;> cases a2 <;> cases a3 <;> cases a4 <;> cases a5 <;> simp [chkE] at h hl ⊢

def rratR (w0 : Nat) (r a : Value) (n lo hi e : Int) : Nat → Value → World → Prop
  | 0, v, _ => v = r
  | 1, v, _ => v = a
  | 2, v, _ => v = .int .i64 n
  | 3, v, _ => v = .agg #[.int .i64 n, .int .i64 n]
  | 4, v, _ => v = .tuple #[.agg #[.int .i64 lo, .int .i64 hi], .int .i64 e]
  | 5, v, _ => v = .tuple #[.agg #[.int .i64 lo, .int .i64 hi], .int .i64 e]
  | 6, v, _ => v = .agg #[.int .i64 lo, .int .i64 hi]
  | 7, v, _ => v = .int .i64 e
  | 8, v, w => NewBlk w0 29 #[.int .i64 0, .int .i64 0] v w
  | _, _, _ => True
theorem rratR_below {w0 : Nat} {r a : Value} {n lo hi e : Int} (k : Nat) (v : Value) (w w' : World) (hb : Below w.heap.size w w') (h : rratR w0 r a n lo hi e k v w) : rratR w0 r a n lo hi e k v w' := by
  unfold rratR at *
  split at h <;> first | exact h | exact NewBlk.below hb h


theorem rf2_Rate_c (hx hy hv gx gy gv lx ly lv px py pv nx ny nv ax ay av cx cy cv dx dy dv : Value) (cl bu : Int) (wl wh tl th el eh nl nh : Int) (S : Tabs) (n : Int) (w : World) (hR : RotAt w hx hy hv gx gy gv lx ly lv px py pv nx ny nv ax ay av cx cy cv dx dy dv cl bu S) :
   Calls Tryz.prog 25 #[.agg #[hx, hy, hv, gx, gy, gv, lx, ly, lv, px, py, pv, nx, ny, nv, ax, ay, av, cx, cy, cv, dx, dy, dv, .int .i64 cl, .int .i64 bu], .agg #[.int .i64 wl, .int .i64 wh, .int .i64 tl, .int .i64 th, .int .i64 el, .int .i64 eh, .int .i64 nl, .int .i64 nh], .int .i64 n] w fun e w' => e = .returned (.tuple #[.int .i64 (ratR S cl bu wl wh tl th el eh nl nh n), .int .i64 (ratE S cl bu wl wh tl th el eh nl nh n)]) ∧ Below w.heap.size w w' := by
  have HR := Lib.hid hR
  have hc := fun w1 hR => rf2_Has_c hx hy hv gx gy gv lx ly lv px py pv nx ny nv ax ay av cx cy cv dx dy dv cl bu wl wh tl th el eh nl nh S w1 hR
  have hd := fun w1 hR => rf2_Level_c hx hy hv gx gy gv lx ly lv px py pv nx ny nv ax ay av cx cy cv dx dy dv cl bu wl wh tl th el eh nl nh S n n w1 hR
  clear hR
  unfold ratR
  by_cases h : hasE S cl bu wl wh tl th el eh nl nh = 0
  · rw [rat_lev h]
    have h0 := h
    rw [h] at hc
    by_cases h2 : levE S cl bu wl wh tl th el eh nl nh n n = 0
    · have h3 : ratE S cl bu wl wh tl th el eh nl nh n = 0 := by rw [rat_lev h]; exact h2
      obtain ⟨hr, fp, fl⟩ := ratE_ok h3
      have l1 := bnd_lim (rotB_p hr) fp
      have l2 := bnd_lim (rotB_l hr) fl
      have hcl := rotB_cl hr
      rw [h2, okN_ok]
      rw [h2] at hd
      unfold hasLo at hc
      unfold levHi at hd
      rw [h, okN_ok] at hc
      rw [h2, okN_ok] at hd
      unfold ratV
      have HC := Lib.hid hc
      have HD := Lib.hid hd
      generalize bLo S.p tl th el eh = p0 at *
      generalize bHi S.l n n wl wh = q1 at *
      generalize hasHi S cl bu wl wh tl th el eh nl nh = p1 at *
      generalize levLo S cl bu wl wh tl th el eh nl nh n n = q0 at *
      have F := Lib.hid (fun w => rf_down_c (p0 - q1) cl w (by omega) (by omega) (by omega) (by omega))
      clear hc hd h h2 h3 h0 hr fp fl
      go_enter Tryz.func25, Tryz.ntmps25
      go_wp2_with (first | (refine wpl_row rfl 27 _ rfl _ rfl #[hx, hy, hv, gx, gy, gv, lx, ly, lv, px, py, pv, nx, ny, nv, ax, ay, av, cx, cy, cv, dx, dy, dv, .int .i64 cl, .int .i64 bu] 26 ?_ Tryz.rowRot rfl ?_; (focus exact (by repeat (first | (refine Blk.newAt _ _ _ ?_; first | rfl | (simp; done)) | refine Blk.alloc ?_ _))); simp only [Act.put]) | (refine wpl_row rfl 31 _ rfl _ rfl #[.int .i64 wl, .int .i64 wh, .int .i64 tl, .int .i64 th, .int .i64 el, .int .i64 eh, .int .i64 nl, .int .i64 nh] 8 ?_ Tryz.rowAir rfl ?_; (focus exact (by repeat (first | (refine Blk.newAt _ _ _ ?_; first | rfl | (simp; done)) | refine Blk.alloc ?_ _))); simp only [Act.put]))
      have bHM : Blk ((w.alloc (.cells #[hx, hy, hv, gx, gy, gv, lx, ly, lv, px, py, pv, nx, ny, nv, ax, ay, av, cx, cy, cv, dx, dy, dv, .int .i64 cl, .int .i64 bu] 27)).alloc (.cells #[.int .i64 wl, .int .i64 wh, .int .i64 tl, .int .i64 th, .int .i64 el, .int .i64 eh, .int .i64 nl, .int .i64 nh] 31)) (w.heap.size) 27 #[hx, hy, hv, gx, gy, gv, lx, ly, lv, px, py, pv, nx, ny, nv, ax, ay, av, cx, cy, cv, dx, dy, dv, .int .i64 cl, .int .i64 bu] := (by repeat (first | (refine Blk.newAt _ _ _ ?_; first | rfl | (simp; done)) | refine Blk.alloc ?_ _))
      have bHA : Blk ((w.alloc (.cells #[hx, hy, hv, gx, gy, gv, lx, ly, lv, px, py, pv, nx, ny, nv, ax, ay, av, cx, cy, cv, dx, dy, dv, .int .i64 cl, .int .i64 bu] 27)).alloc (.cells #[.int .i64 wl, .int .i64 wh, .int .i64 tl, .int .i64 th, .int .i64 el, .int .i64 eh, .int .i64 nl, .int .i64 nh] 31)) (w.heap.size + 1) 31 #[.int .i64 wl, .int .i64 wh, .int .i64 tl, .int .i64 th, .int .i64 el, .int .i64 eh, .int .i64 nl, .int .i64 nh] := (by repeat (first | (refine Blk.newAt _ _ _ ?_; first | rfl | (simp; done)) | refine Blk.alloc ?_ _))
      have bHB : Below w.heap.size w ((w.alloc (.cells #[hx, hy, hv, gx, gy, gv, lx, ly, lv, px, py, pv, nx, ny, nv, ax, ay, av, cx, cy, cv, dx, dy, dv, .int .i64 cl, .int .i64 bu] 27)).alloc (.cells #[.int .i64 wl, .int .i64 wh, .int .i64 tl, .int .i64 th, .int .i64 el, .int .i64 eh, .int .i64 nl, .int .i64 nh] 31)) := (by repeat' (first | exact Below.refl _ _ | assumption | refine Below.drew ?_ | refine bdn ?_ _ | refine bal ?_ _ | refine Below.setCell ?_ (by first | (simp; done) | omega | (simp; omega)) _))
      generalize ((w.alloc (.cells #[hx, hy, hv, gx, gy, gv, lx, ly, lv, px, py, pv, nx, ny, nv, ax, ay, av, cx, cy, cv, dx, dy, dv, .int .i64 cl, .int .i64 bu] 27)).alloc (.cells #[.int .i64 wl, .int .i64 wh, .int .i64 tl, .int .i64 th, .int .i64 el, .int .i64 eh, .int .i64 nl, .int .i64 nh] 31)) = W at *
      have zW := bHA.lt
      have HM := Lib.hid bHM
      have HA := Lib.hid bHA
      have HB := Lib.hid bHB
      clear bHM bHA bHB
      go_wp2_with (first | (go_at_call 50; (with_reducible refine (HC.out _ (HR.out.below HB.out)).mono ?_); rintro e w1 ⟨rfl, hb1⟩; have nHM := Lib.hid (HM.out.below hb1); have nHA := Lib.hid (HA.out.below hb1); have nHB := Lib.hid (bthen HB.out hb1); have zz1 := hb1.size; clear HM HA HB hb1; have HM := nHM; have HA := nHA; have HB := nHB; clear nHM nHA nHB))
      have bHN := Blk.new w1 29 #[.int .i64 p0, .int .i64 p1]
      have nHM := Lib.hid (HM.out.alloc (.cells #[.int .i64 p0, .int .i64 p1] 29))
      have nHA := Lib.hid (HA.out.alloc (.cells #[.int .i64 p0, .int .i64 p1] 29))
      have nHB := Lib.hid (bal HB.out (.cells #[.int .i64 p0, .int .i64 p1] 29))
      clear HM HA HB
      have HM := nHM
      have HA := nHA
      have HB := nHB
      clear nHM nHA nHB
      generalize w1.alloc (.cells #[.int .i64 p0, .int .i64 p1] 29) = W2 at *
      generalize w1.heap.size = gHN at *
      have HN := Lib.hid bHN
      clear bHN
      have zN := HN.out.lt
      refine wp_region_specL 9 [7] (rratR W2.heap.size (.agg #[hx, hy, hv, gx, gy, gv, lx, ly, lv, px, py, pv, nx, ny, nv, ax, ay, av, cx, cy, cv, dx, dy, dv, .int .i64 cl, .int .i64 bu]) (.agg #[.int .i64 wl, .int .i64 wh, .int .i64 tl, .int .i64 th, .int .i64 el, .int .i64 eh, .int .i64 nl, .int .i64 nh]) n q0 q1 0) (fun i => decide (i = 8)) (by kernel_rfl) (by kernel_rfl) (by decide) rratR_below ?hop1 ?htail1
      case hop1 =>
        simp only [List.take_succ_cons, List.take_zero, allOps]
        refine ⟨?_, ?_, ?_, ?_, ?_, ?_, ?_, ?_, ?_, trivial⟩
        all_goals intro u A w1 hA hb hd
        all_goals simp only [putAll, dstOf, List.getElem?_toArray, List.getElem?_cons_succ, List.getElem?_cons_zero, Option.bind_some, Option.bind, Act.put, List.setIfInBounds_toArray, List.set_cons_succ, List.set_cons_zero] at hA; subst hA
        all_goals have HB1 := Lib.hid hb
        · refine OpOk.now rfl ?_
          clear hb hd
          go_wp2_with (refine wpl_row rfl 27 _ rfl _ rfl _ 26 (HM.out.below HB1.out) Tryz.rowRot rfl ?_; simp only [Act.put])
          exact ⟨_, rfl, Below.refl _ _, rfl, fun h => absurd h (by decide)⟩
        · refine OpOk.now rfl ?_
          clear hb hd
          go_wp2_with (refine wpl_row rfl 31 _ rfl _ rfl _ 8 (HA.out.below HB1.out) Tryz.rowAir rfl ?_; simp only [Act.put])
          exact ⟨_, rfl, Below.refl _ _, rfl, fun h => absurd h (by decide)⟩
        · refine OpOk.now rfl ?_
          clear hb hd
          go_wp2
          exact ⟨_, rfl, Below.refl _ _, rfl, fun h => absurd h (by decide)⟩
        · refine OpOk.now rfl ?_
          have d2 : u 2 = _ := hd 2 (by omega) (by kernel_rfl)
          clear hb hd
          rw [d2]
          clear d2
          go_wp2_with (go_at_call 52; (with_reducible refine (rf_at_c _ _).mono ?_); rintro e w2 ⟨rfl, hb2⟩)
          exact ⟨_, rfl, hb2, rfl, fun h => absurd h (by decide)⟩
        · refine OpOk.now rfl ?_
          have d0 : u 0 = _ := hd 0 (by omega) (by kernel_rfl)
          have d1 : u 1 = _ := hd 1 (by omega) (by kernel_rfl)
          have d3 : u 3 = _ := hd 3 (by omega) (by kernel_rfl)
          clear hb hd
          rw [d0, d1, d3]
          clear d0 d1 d3
          go_wp2_with (go_at_call 51; (with_reducible refine (HD.out _ ((HR.out.below HB.out).below HB1.out)).mono ?_); rintro e w2 ⟨rfl, hb2⟩)
          exact ⟨_, rfl, hb2, rfl, fun h => absurd h (by decide)⟩
        · refine OpOk.now rfl ?_
          have d4 : u 4 = _ := hd 4 (by omega) (by kernel_rfl)
          clear hb hd
          rw [d4]
          clear d4
          go_wp2
          exact ⟨_, rfl, Below.refl _ _, rfl, fun h => absurd h (by decide)⟩
        · refine OpOk.now rfl ?_
          have d5 : u 5 = _ := hd 5 (by omega) (by kernel_rfl)
          clear hb hd
          rw [d5]
          clear d5
          go_wp2
          exact ⟨_, rfl, Below.refl _ _, rfl, fun h => absurd h (by decide)⟩
        · have d5 : u 5 = _ := hd 5 (by omega) (by kernel_rfl)
          clear hb hd
          rw [d5]
          clear d5
          refine OpOk.late rfl ?_
          exact ⟨_, yields_extract rfl _ _ rfl _ rfl _ rfl, rfl⟩
        · refine OpOk.now rfl ?_
          have zz := hb.size
          clear hb hd
          go_wp2
          exact ⟨_, rfl, bal (Below.refl _ _) _, ⟨_, rfl, by omega, Blk.new _ _ _⟩, fun _ => ⟨_, rfl, Nat.le_refl _, by simp⟩⟩
      case htail1 =>
        intro u A w1 hA hb hd hf
        simp only [putAll, dstOf, List.getElem?_toArray, List.getElem?_cons_succ, List.getElem?_cons_zero, Option.bind_some, Option.bind, Act.put, List.setIfInBounds_toArray, List.set_cons_succ, List.set_cons_zero] at hA; subst hA
        have e0 : u 0 = _ := hd 0 (by omega)
        have e1 : u 1 = _ := hd 1 (by omega)
        have e2 : u 2 = _ := hd 2 (by omega)
        have e3 : u 3 = _ := hd 3 (by omega)
        have e4 : u 4 = _ := hd 4 (by omega)
        have e5 : u 5 = _ := hd 5 (by omega)
        have e6 : u 6 = _ := hd 6 (by omega)
        have e7 : u 7 = _ := hd 7 (by omega)
        obtain ⟨g8, e8, z8, b8⟩ := hd 8 (by omega)
        first | rw [e0, e1, e2, e3, e4, e5, e6, e7, e8] | simp only [e0, e1, e2, e3, e4, e5, e6, e7, e8]
        clear e0 e1 e2 e3 e4 e5 e6 e7 e8
        clear hd hf
        have hm := HM.out.below hb
        have hn := HN.out.below hb
        have nHB := Lib.hid (HB.out.trans (hb.mono HB.out.size))
        have zz := hb.size
        have HM1 := Lib.hid hm
        have HN1 := Lib.hid hn
        have HX := Lib.hid b8
        have x0 := b8.cell 0
        have x1 := b8.cell 1
        have x2 := fun i => b8.frozen i
        clear hm hn hb b8 HM HN HA HB
        go_wp2
        dsimp only [NoPanic]
        have HX2 := Lib.hid ((HX.out.set_ 0 (.int .i64 q0)).set_ 1 (.int .i64 q1))
        have HM2 := Lib.hid ((HM1.out.far' (f := g8) (by omega) (i := 0) (.int .i64 q0)).far' (f := g8) (by omega) (i := 1) (.int .i64 q1))
        have HN2 := Lib.hid ((HN1.out.far' (f := g8) (by omega) (i := 0) (.int .i64 q0)).far' (f := g8) (by omega) (i := 1) (.int .i64 q1))
        have HB := Lib.hid (bset (bset nHB.out (g := g8) (by omega) (i := 0) (.int .i64 q0)) (g := g8) (by omega) (i := 1) (.int .i64 q1))
        clear x0 x1 x2 HX HM1 HN1 nHB
        generalize (w1.setCell ⟨g8, 0, none⟩ (.int .i64 q0)).setCell ⟨g8, 1, none⟩ (.int .i64 q1) = W3 at *
        have x1 := HX2.out.cell 1
        have n0 := HN2.out.cell 0
        have m24 := HM2.out.cell 24
        simp at x1
        go_wp2_with (first | (go_at_call 53; (with_reducible refine (F.out _).mono ?_); rintro e w4 ⟨rfl, rfl⟩))
        go_ret2
        exact ⟨rfl, HB.out⟩
    · have hne : (levE S cl bu wl wh tl th el eh nl nh n n != 0) = true := by simpa using h2
      rw [okN_no h2]
      have HC := Lib.hid hc
      have HD := Lib.hid hd
      generalize hasLo S cl bu wl wh tl th el eh nl nh = p0 at *
      generalize hasHi S cl bu wl wh tl th el eh nl nh = p1 at *
      generalize levLo S cl bu wl wh tl th el eh nl nh n n = q0 at *
      generalize levHi S cl bu wl wh tl th el eh nl nh n n = q1 at *
      generalize levE S cl bu wl wh tl th el eh nl nh n n = E at *
      clear hc hd h h2 h0
      go_enter Tryz.func25, Tryz.ntmps25
      go_wp2_with (first | (refine wpl_row rfl 27 _ rfl _ rfl #[hx, hy, hv, gx, gy, gv, lx, ly, lv, px, py, pv, nx, ny, nv, ax, ay, av, cx, cy, cv, dx, dy, dv, .int .i64 cl, .int .i64 bu] 26 ?_ Tryz.rowRot rfl ?_; (focus exact (by repeat (first | (refine Blk.newAt _ _ _ ?_; first | rfl | (simp; done)) | refine Blk.alloc ?_ _))); simp only [Act.put]) | (refine wpl_row rfl 31 _ rfl _ rfl #[.int .i64 wl, .int .i64 wh, .int .i64 tl, .int .i64 th, .int .i64 el, .int .i64 eh, .int .i64 nl, .int .i64 nh] 8 ?_ Tryz.rowAir rfl ?_; (focus exact (by repeat (first | (refine Blk.newAt _ _ _ ?_; first | rfl | (simp; done)) | refine Blk.alloc ?_ _))); simp only [Act.put]))
      have bHM : Blk ((w.alloc (.cells #[hx, hy, hv, gx, gy, gv, lx, ly, lv, px, py, pv, nx, ny, nv, ax, ay, av, cx, cy, cv, dx, dy, dv, .int .i64 cl, .int .i64 bu] 27)).alloc (.cells #[.int .i64 wl, .int .i64 wh, .int .i64 tl, .int .i64 th, .int .i64 el, .int .i64 eh, .int .i64 nl, .int .i64 nh] 31)) (w.heap.size) 27 #[hx, hy, hv, gx, gy, gv, lx, ly, lv, px, py, pv, nx, ny, nv, ax, ay, av, cx, cy, cv, dx, dy, dv, .int .i64 cl, .int .i64 bu] := (by repeat (first | (refine Blk.newAt _ _ _ ?_; first | rfl | (simp; done)) | refine Blk.alloc ?_ _))
      have bHA : Blk ((w.alloc (.cells #[hx, hy, hv, gx, gy, gv, lx, ly, lv, px, py, pv, nx, ny, nv, ax, ay, av, cx, cy, cv, dx, dy, dv, .int .i64 cl, .int .i64 bu] 27)).alloc (.cells #[.int .i64 wl, .int .i64 wh, .int .i64 tl, .int .i64 th, .int .i64 el, .int .i64 eh, .int .i64 nl, .int .i64 nh] 31)) (w.heap.size + 1) 31 #[.int .i64 wl, .int .i64 wh, .int .i64 tl, .int .i64 th, .int .i64 el, .int .i64 eh, .int .i64 nl, .int .i64 nh] := (by repeat (first | (refine Blk.newAt _ _ _ ?_; first | rfl | (simp; done)) | refine Blk.alloc ?_ _))
      have bHB : Below w.heap.size w ((w.alloc (.cells #[hx, hy, hv, gx, gy, gv, lx, ly, lv, px, py, pv, nx, ny, nv, ax, ay, av, cx, cy, cv, dx, dy, dv, .int .i64 cl, .int .i64 bu] 27)).alloc (.cells #[.int .i64 wl, .int .i64 wh, .int .i64 tl, .int .i64 th, .int .i64 el, .int .i64 eh, .int .i64 nl, .int .i64 nh] 31)) := (by repeat' (first | exact Below.refl _ _ | assumption | refine Below.drew ?_ | refine bdn ?_ _ | refine bal ?_ _ | refine Below.setCell ?_ (by first | (simp; done) | omega | (simp; omega)) _))
      generalize ((w.alloc (.cells #[hx, hy, hv, gx, gy, gv, lx, ly, lv, px, py, pv, nx, ny, nv, ax, ay, av, cx, cy, cv, dx, dy, dv, .int .i64 cl, .int .i64 bu] 27)).alloc (.cells #[.int .i64 wl, .int .i64 wh, .int .i64 tl, .int .i64 th, .int .i64 el, .int .i64 eh, .int .i64 nl, .int .i64 nh] 31)) = W at *
      have zW := bHA.lt
      have HM := Lib.hid bHM
      have HA := Lib.hid bHA
      have HB := Lib.hid bHB
      clear bHM bHA bHB
      go_wp2_with (first | (go_at_call 50; (with_reducible refine (HC.out _ (HR.out.below HB.out)).mono ?_); rintro e w1 ⟨rfl, hb1⟩; have nHM := Lib.hid (HM.out.below hb1); have nHA := Lib.hid (HA.out.below hb1); have nHB := Lib.hid (bthen HB.out hb1); have zz1 := hb1.size; clear HM HA HB hb1; have HM := nHM; have HA := nHA; have HB := nHB; clear nHM nHA nHB))
      have bHN := Blk.new w1 29 #[.int .i64 p0, .int .i64 p1]
      have nHM := Lib.hid (HM.out.alloc (.cells #[.int .i64 p0, .int .i64 p1] 29))
      have nHA := Lib.hid (HA.out.alloc (.cells #[.int .i64 p0, .int .i64 p1] 29))
      have nHB := Lib.hid (bal HB.out (.cells #[.int .i64 p0, .int .i64 p1] 29))
      clear HM HA HB
      have HM := nHM
      have HA := nHA
      have HB := nHB
      clear nHM nHA nHB
      generalize w1.alloc (.cells #[.int .i64 p0, .int .i64 p1] 29) = W2 at *
      generalize w1.heap.size = gHN at *
      have HN := Lib.hid bHN
      clear bHN
      have zN := HN.out.lt
      refine wp_region_specL 9 [7] (rratR W2.heap.size (.agg #[hx, hy, hv, gx, gy, gv, lx, ly, lv, px, py, pv, nx, ny, nv, ax, ay, av, cx, cy, cv, dx, dy, dv, .int .i64 cl, .int .i64 bu]) (.agg #[.int .i64 wl, .int .i64 wh, .int .i64 tl, .int .i64 th, .int .i64 el, .int .i64 eh, .int .i64 nl, .int .i64 nh]) n q0 q1 E) (fun i => decide (i = 8)) (by kernel_rfl) (by kernel_rfl) (by decide) rratR_below ?hop2 ?htail2
      case hop2 =>
        simp only [List.take_succ_cons, List.take_zero, allOps]
        refine ⟨?_, ?_, ?_, ?_, ?_, ?_, ?_, ?_, ?_, trivial⟩
        all_goals intro u A w1 hA hb hd
        all_goals simp only [putAll, dstOf, List.getElem?_toArray, List.getElem?_cons_succ, List.getElem?_cons_zero, Option.bind_some, Option.bind, Act.put, List.setIfInBounds_toArray, List.set_cons_succ, List.set_cons_zero] at hA; subst hA
        all_goals have HB1 := Lib.hid hb
        · refine OpOk.now rfl ?_
          clear hb hd
          go_wp2_with (refine wpl_row rfl 27 _ rfl _ rfl _ 26 (HM.out.below HB1.out) Tryz.rowRot rfl ?_; simp only [Act.put])
          exact ⟨_, rfl, Below.refl _ _, rfl, fun h => absurd h (by decide)⟩
        · refine OpOk.now rfl ?_
          clear hb hd
          go_wp2_with (refine wpl_row rfl 31 _ rfl _ rfl _ 8 (HA.out.below HB1.out) Tryz.rowAir rfl ?_; simp only [Act.put])
          exact ⟨_, rfl, Below.refl _ _, rfl, fun h => absurd h (by decide)⟩
        · refine OpOk.now rfl ?_
          clear hb hd
          go_wp2
          exact ⟨_, rfl, Below.refl _ _, rfl, fun h => absurd h (by decide)⟩
        · refine OpOk.now rfl ?_
          have d2 : u 2 = _ := hd 2 (by omega) (by kernel_rfl)
          clear hb hd
          rw [d2]
          clear d2
          go_wp2_with (go_at_call 52; (with_reducible refine (rf_at_c _ _).mono ?_); rintro e w2 ⟨rfl, hb2⟩)
          exact ⟨_, rfl, hb2, rfl, fun h => absurd h (by decide)⟩
        · refine OpOk.now rfl ?_
          have d0 : u 0 = _ := hd 0 (by omega) (by kernel_rfl)
          have d1 : u 1 = _ := hd 1 (by omega) (by kernel_rfl)
          have d3 : u 3 = _ := hd 3 (by omega) (by kernel_rfl)
          clear hb hd
          rw [d0, d1, d3]
          clear d0 d1 d3
          go_wp2_with (go_at_call 51; (with_reducible refine (HD.out _ ((HR.out.below HB.out).below HB1.out)).mono ?_); rintro e w2 ⟨rfl, hb2⟩)
          exact ⟨_, rfl, hb2, rfl, fun h => absurd h (by decide)⟩
        · refine OpOk.now rfl ?_
          have d4 : u 4 = _ := hd 4 (by omega) (by kernel_rfl)
          clear hb hd
          rw [d4]
          clear d4
          go_wp2
          exact ⟨_, rfl, Below.refl _ _, rfl, fun h => absurd h (by decide)⟩
        · refine OpOk.now rfl ?_
          have d5 : u 5 = _ := hd 5 (by omega) (by kernel_rfl)
          clear hb hd
          rw [d5]
          clear d5
          go_wp2
          exact ⟨_, rfl, Below.refl _ _, rfl, fun h => absurd h (by decide)⟩
        · have d5 : u 5 = _ := hd 5 (by omega) (by kernel_rfl)
          clear hb hd
          rw [d5]
          clear d5
          refine OpOk.late rfl ?_
          exact ⟨_, yields_extract rfl _ _ rfl _ rfl _ rfl, rfl⟩
        · refine OpOk.now rfl ?_
          have zz := hb.size
          clear hb hd
          go_wp2
          exact ⟨_, rfl, bal (Below.refl _ _) _, ⟨_, rfl, by omega, Blk.new _ _ _⟩, fun _ => ⟨_, rfl, Nat.le_refl _, by simp⟩⟩
      case htail2 =>
        intro u A w1 hA hb hd hf
        simp only [putAll, dstOf, List.getElem?_toArray, List.getElem?_cons_succ, List.getElem?_cons_zero, Option.bind_some, Option.bind, Act.put, List.setIfInBounds_toArray, List.set_cons_succ, List.set_cons_zero] at hA; subst hA
        have e0 : u 0 = _ := hd 0 (by omega)
        have e1 : u 1 = _ := hd 1 (by omega)
        have e2 : u 2 = _ := hd 2 (by omega)
        have e3 : u 3 = _ := hd 3 (by omega)
        have e4 : u 4 = _ := hd 4 (by omega)
        have e5 : u 5 = _ := hd 5 (by omega)
        have e6 : u 6 = _ := hd 6 (by omega)
        have e7 : u 7 = _ := hd 7 (by omega)
        obtain ⟨g8, e8, z8, b8⟩ := hd 8 (by omega)
        first | rw [e0, e1, e2, e3, e4, e5, e6, e7, e8] | simp only [e0, e1, e2, e3, e4, e5, e6, e7, e8]
        clear e0 e1 e2 e3 e4 e5 e6 e7 e8
        clear hd hf
        have hm := HM.out.below hb
        have hn := HN.out.below hb
        have nHB := Lib.hid (HB.out.trans (hb.mono HB.out.size))
        have zz := hb.size
        have HM1 := Lib.hid hm
        have HN1 := Lib.hid hn
        have HX := Lib.hid b8
        have x0 := b8.cell 0
        have x1 := b8.cell 1
        have x2 := fun i => b8.frozen i
        clear hm hn hb b8 HM HN HA HB
        go_wp2
        dsimp only [NoPanic]
        have HX2 := Lib.hid ((HX.out.set_ 0 (.int .i64 q0)).set_ 1 (.int .i64 q1))
        have HM2 := Lib.hid ((HM1.out.far' (f := g8) (by omega) (i := 0) (.int .i64 q0)).far' (f := g8) (by omega) (i := 1) (.int .i64 q1))
        have HN2 := Lib.hid ((HN1.out.far' (f := g8) (by omega) (i := 0) (.int .i64 q0)).far' (f := g8) (by omega) (i := 1) (.int .i64 q1))
        have HB := Lib.hid (bset (bset nHB.out (g := g8) (by omega) (i := 0) (.int .i64 q0)) (g := g8) (by omega) (i := 1) (.int .i64 q1))
        clear x0 x1 x2 HX HM1 HN1 nHB
        generalize (w1.setCell ⟨g8, 0, none⟩ (.int .i64 q0)).setCell ⟨g8, 1, none⟩ (.int .i64 q1) = W3 at *
        have x1 := HX2.out.cell 1
        have n0 := HN2.out.cell 0
        have m24 := HM2.out.cell 24
        simp at x1
        go_wp2
        go_ret2
        exact ⟨rfl, HB.out⟩
  · have hne : (hasE S cl bu wl wh tl th el eh nl nh != 0) = true := by simpa using h
    rw [rat_has h, okN_no h]
    have HC := Lib.hid hc
    generalize hasLo S cl bu wl wh tl th el eh nl nh = p0 at *
    generalize hasHi S cl bu wl wh tl th el eh nl nh = p1 at *
    generalize hasE S cl bu wl wh tl th el eh nl nh = E at *
    clear h hc hd
    go_enter Tryz.func25, Tryz.ntmps25
    go_wp2_with (first | (refine wpl_row rfl 27 _ rfl _ rfl #[hx, hy, hv, gx, gy, gv, lx, ly, lv, px, py, pv, nx, ny, nv, ax, ay, av, cx, cy, cv, dx, dy, dv, .int .i64 cl, .int .i64 bu] 26 ?_ Tryz.rowRot rfl ?_; (focus exact (by repeat (first | (refine Blk.newAt _ _ _ ?_; first | rfl | (simp; done)) | refine Blk.alloc ?_ _))); simp only [Act.put]) | (refine wpl_row rfl 31 _ rfl _ rfl #[.int .i64 wl, .int .i64 wh, .int .i64 tl, .int .i64 th, .int .i64 el, .int .i64 eh, .int .i64 nl, .int .i64 nh] 8 ?_ Tryz.rowAir rfl ?_; (focus exact (by repeat (first | (refine Blk.newAt _ _ _ ?_; first | rfl | (simp; done)) | refine Blk.alloc ?_ _))); simp only [Act.put]))
    have bHM : Blk ((w.alloc (.cells #[hx, hy, hv, gx, gy, gv, lx, ly, lv, px, py, pv, nx, ny, nv, ax, ay, av, cx, cy, cv, dx, dy, dv, .int .i64 cl, .int .i64 bu] 27)).alloc (.cells #[.int .i64 wl, .int .i64 wh, .int .i64 tl, .int .i64 th, .int .i64 el, .int .i64 eh, .int .i64 nl, .int .i64 nh] 31)) (w.heap.size) 27 #[hx, hy, hv, gx, gy, gv, lx, ly, lv, px, py, pv, nx, ny, nv, ax, ay, av, cx, cy, cv, dx, dy, dv, .int .i64 cl, .int .i64 bu] := (by repeat (first | (refine Blk.newAt _ _ _ ?_; first | rfl | (simp; done)) | refine Blk.alloc ?_ _))
    have bHA : Blk ((w.alloc (.cells #[hx, hy, hv, gx, gy, gv, lx, ly, lv, px, py, pv, nx, ny, nv, ax, ay, av, cx, cy, cv, dx, dy, dv, .int .i64 cl, .int .i64 bu] 27)).alloc (.cells #[.int .i64 wl, .int .i64 wh, .int .i64 tl, .int .i64 th, .int .i64 el, .int .i64 eh, .int .i64 nl, .int .i64 nh] 31)) (w.heap.size + 1) 31 #[.int .i64 wl, .int .i64 wh, .int .i64 tl, .int .i64 th, .int .i64 el, .int .i64 eh, .int .i64 nl, .int .i64 nh] := (by repeat (first | (refine Blk.newAt _ _ _ ?_; first | rfl | (simp; done)) | refine Blk.alloc ?_ _))
    have bHB : Below w.heap.size w ((w.alloc (.cells #[hx, hy, hv, gx, gy, gv, lx, ly, lv, px, py, pv, nx, ny, nv, ax, ay, av, cx, cy, cv, dx, dy, dv, .int .i64 cl, .int .i64 bu] 27)).alloc (.cells #[.int .i64 wl, .int .i64 wh, .int .i64 tl, .int .i64 th, .int .i64 el, .int .i64 eh, .int .i64 nl, .int .i64 nh] 31)) := (by repeat' (first | exact Below.refl _ _ | assumption | refine Below.drew ?_ | refine bdn ?_ _ | refine bal ?_ _ | refine Below.setCell ?_ (by first | (simp; done) | omega | (simp; omega)) _))
    generalize ((w.alloc (.cells #[hx, hy, hv, gx, gy, gv, lx, ly, lv, px, py, pv, nx, ny, nv, ax, ay, av, cx, cy, cv, dx, dy, dv, .int .i64 cl, .int .i64 bu] 27)).alloc (.cells #[.int .i64 wl, .int .i64 wh, .int .i64 tl, .int .i64 th, .int .i64 el, .int .i64 eh, .int .i64 nl, .int .i64 nh] 31)) = W at *
    have zW := bHA.lt
    have HM := Lib.hid bHM
    have HA := Lib.hid bHA
    have HB := Lib.hid bHB
    clear bHM bHA bHB
    go_wp2_with (first | (go_at_call 50; (with_reducible refine (HC.out _ (HR.out.below HB.out)).mono ?_); rintro e w1 ⟨rfl, hb1⟩; have nHM := Lib.hid (HM.out.below hb1); have nHA := Lib.hid (HA.out.below hb1); have nHB := Lib.hid (bthen HB.out hb1); have zz1 := hb1.size; clear HM HA HB hb1; have HM := nHM; have HA := nHA; have HB := nHB; clear nHM nHA nHB))
    go_ret2
    exact ⟨rfl, bal HB.out _⟩
end Go.Proofs.YtechkkgmdjgddaaGreat
