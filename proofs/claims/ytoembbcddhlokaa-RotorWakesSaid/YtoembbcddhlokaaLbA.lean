/- The laws RotorWakes, RotorRates. -/
import Derived.Test.YtoembbcddhlokaaLaC
import Derived.Test.YtoembbcddhlokaaLaQ
import Derived.Test.YtoembbcddhlokaaRfP
import Derived.Test.YtoembbcddhlokaaRfQ
set_option linter.all false
namespace Go.Proofs.Ytoembbcddhlokaa
open Go Go.RowKit Go.Proofs
set_option maxRecDepth 100000
set_option maxHeartbeats 8000000

def lawkR (g : Nat) (cl bu : Int) (S : Tabs) (r a : Value) (sl sh kl kh : Int) (V : Bool) (E : Int) : Nat → Value → World → Prop
  | 0, v, _ => v = r
  | 1, v, w => OwnP cl bu S v w
  | 2, v, _ => v = a
  | 3, v, _ => v = .pointer (some ⟨g + 1 + 1, 0, none⟩)
  | 4, v, _ => v = .agg #[.int .i64 sl, .int .i64 sh]
  | 5, v, _ => v = .pointer (some ⟨g + 1 + 1, 2, none⟩)
  | 6, v, _ => v = .agg #[.int .i64 kl, .int .i64 kh]
  | 7, v, _ => v = .tuple #[.bool V, .int .i64 E]
  | 8, v, _ => v = .tuple #[.bool V, .int .i64 E]
  | 9, v, _ => v = .bool V
  | 10, v, _ => v = .int .i64 E
  | _, _, _ => True
theorem lawkR_below {g : Nat} {cl bu : Int} {S : Tabs} {r a : Value} {sl sh kl kh : Int} {V : Bool} {E : Int} (k : Nat) (v : Value) (w w' : World) (hb : Below w.heap.size w w') (h : lawkR g cl bu S r a sl sh kl kh V E k v w) : lawkR g cl bu S r a sl sh kl kh V E k v w' := by
  unfold lawkR at *
  split at h <;> first | exact h | exact OwnP.below h hb


theorem RotorWakes_c (hx hy hv gx gy gv lx ly lv px py pv nx ny nv ax ay av cx cy cv dx dy dv : Value) (cl bu : Int) (wl wh tl th el eh nl nh : Int) (S : Tabs) (sl sh kl kh : Int) (w : World) (hR : RotAt w hx hy hv gx gy gv lx ly lv px py pv nx ny nv ax ay av cx cy cv dx dy dv cl bu S) :
   Calls Try.prog 6 #[.agg #[hx, hy, hv, gx, gy, gv, lx, ly, lv, px, py, pv, nx, ny, nv, ax, ay, av, cx, cy, cv, dx, dy, dv, .int .i64 cl, .int .i64 bu], .agg #[.int .i64 wl, .int .i64 wh, .int .i64 tl, .int .i64 th, .int .i64 el, .int .i64 eh, .int .i64 nl, .int .i64 nh], .agg #[.int .i64 sl, .int .i64 sh, .int .i64 kl, .int .i64 kh]] w fun e w' => e = .returned (.bool true) ∧ Below w.heap.size w w' := by
  have HR := Lib.hid hR
  clear hR
  have HK := Lib.hid (fun w1 hx hy hv gx gy gv lx ly lv px py pv nx ny nv ax ay av cx cy cv dx dy dv hR => Wake_c hx hy hv gx gy gv lx ly lv px py pv nx ny nv ax ay av cx cy cv dx dy dv cl bu wl wh tl th el eh nl nh S sl sh kl kh w1 hR)
  have HF := Lib.hid (fun w1 hR => rf2_Wake_c hx hy hv gx gy gv lx ly lv px py pv nx ny nv ax ay av cx cy cv dx dy dv cl bu wl wh tl th el eh nl nh S sl sh kl kh w1 hR)
  generalize wakR S cl bu wl wh tl th el eh nl nh sl sh kl kh = V at *
  generalize wakE S cl bu wl wh tl th el eh nl nh sl sh kl kh = E at *
  have HW := Lib.hid (fun w1 hR => far2_c hx hy hv gx gy gv lx ly lv px py pv nx ny nv ax ay av cx cy cv dx dy dv cl bu S w1 hR)
  cases hf : farS S
  all_goals
    rw [hf] at HW
    go_enter Try.func6, Try.ntmps6
    go_wp2_with (first | (refine wpl_row rfl 27 _ rfl _ rfl #[hx, hy, hv, gx, gy, gv, lx, ly, lv, px, py, pv, nx, ny, nv, ax, ay, av, cx, cy, cv, dx, dy, dv, .int .i64 cl, .int .i64 bu] 26 ?_ Try.rowRot rfl ?_; (focus exact (by repeat (first | (refine Blk.newAt _ _ _ ?_; first | rfl | (simp; done)) | refine Blk.alloc ?_ _))); simp only [Act.put]))
    have bHM : Blk (((w.alloc (.cells #[hx, hy, hv, gx, gy, gv, lx, ly, lv, px, py, pv, nx, ny, nv, ax, ay, av, cx, cy, cv, dx, dy, dv, .int .i64 cl, .int .i64 bu] 27)).alloc (.cells #[.int .i64 wl, .int .i64 wh, .int .i64 tl, .int .i64 th, .int .i64 el, .int .i64 eh, .int .i64 nl, .int .i64 nh] 36)).alloc (.cells #[.int .i64 sl, .int .i64 sh, .int .i64 kl, .int .i64 kh] 54)) (w.heap.size) 27 #[hx, hy, hv, gx, gy, gv, lx, ly, lv, px, py, pv, nx, ny, nv, ax, ay, av, cx, cy, cv, dx, dy, dv, .int .i64 cl, .int .i64 bu] := (by repeat (first | (refine Blk.newAt _ _ _ ?_; first | rfl | (simp; done)) | refine Blk.alloc ?_ _))
    have bHA : Blk (((w.alloc (.cells #[hx, hy, hv, gx, gy, gv, lx, ly, lv, px, py, pv, nx, ny, nv, ax, ay, av, cx, cy, cv, dx, dy, dv, .int .i64 cl, .int .i64 bu] 27)).alloc (.cells #[.int .i64 wl, .int .i64 wh, .int .i64 tl, .int .i64 th, .int .i64 el, .int .i64 eh, .int .i64 nl, .int .i64 nh] 36)).alloc (.cells #[.int .i64 sl, .int .i64 sh, .int .i64 kl, .int .i64 kh] 54)) (w.heap.size + 1) 36 #[.int .i64 wl, .int .i64 wh, .int .i64 tl, .int .i64 th, .int .i64 el, .int .i64 eh, .int .i64 nl, .int .i64 nh] := (by repeat (first | (refine Blk.newAt _ _ _ ?_; first | rfl | (simp; done)) | refine Blk.alloc ?_ _))
    have bHS : Blk (((w.alloc (.cells #[hx, hy, hv, gx, gy, gv, lx, ly, lv, px, py, pv, nx, ny, nv, ax, ay, av, cx, cy, cv, dx, dy, dv, .int .i64 cl, .int .i64 bu] 27)).alloc (.cells #[.int .i64 wl, .int .i64 wh, .int .i64 tl, .int .i64 th, .int .i64 el, .int .i64 eh, .int .i64 nl, .int .i64 nh] 36)).alloc (.cells #[.int .i64 sl, .int .i64 sh, .int .i64 kl, .int .i64 kh] 54)) (w.heap.size + 1 + 1) 54 #[.int .i64 sl, .int .i64 sh, .int .i64 kl, .int .i64 kh] := (by repeat (first | (refine Blk.newAt _ _ _ ?_; first | rfl | (simp; done)) | refine Blk.alloc ?_ _))
    have bHB : Below w.heap.size w (((w.alloc (.cells #[hx, hy, hv, gx, gy, gv, lx, ly, lv, px, py, pv, nx, ny, nv, ax, ay, av, cx, cy, cv, dx, dy, dv, .int .i64 cl, .int .i64 bu] 27)).alloc (.cells #[.int .i64 wl, .int .i64 wh, .int .i64 tl, .int .i64 th, .int .i64 el, .int .i64 eh, .int .i64 nl, .int .i64 nh] 36)).alloc (.cells #[.int .i64 sl, .int .i64 sh, .int .i64 kl, .int .i64 kh] 54)) := (by repeat' (first | exact Below.refl _ _ | assumption | refine Below.drew ?_ | refine bdn ?_ _ | refine bal ?_ _ | refine Below.setCell ?_ (by first | (simp; done) | omega | (simp; omega)) _))
    generalize (((w.alloc (.cells #[hx, hy, hv, gx, gy, gv, lx, ly, lv, px, py, pv, nx, ny, nv, ax, ay, av, cx, cy, cv, dx, dy, dv, .int .i64 cl, .int .i64 bu] 27)).alloc (.cells #[.int .i64 wl, .int .i64 wh, .int .i64 tl, .int .i64 th, .int .i64 el, .int .i64 eh, .int .i64 nl, .int .i64 nh] 36)).alloc (.cells #[.int .i64 sl, .int .i64 sh, .int .i64 kl, .int .i64 kh] 54)) = W at *
    have zW := bHS.lt
    have HM := Lib.hid bHM
    have HA := Lib.hid bHA
    have HS := Lib.hid bHS
    have HB := Lib.hid bHB
    clear bHM bHA bHS bHB
    go_wp2_with (first | (go_at_call 14; (with_reducible refine (HW.out _ (HR.out.below HB.out)).mono ?_); rintro e w1 ⟨rfl, hb1⟩; have nHM := Lib.hid (HM.out.below hb1); have nHA := Lib.hid (HA.out.below hb1); have nHS := Lib.hid (HS.out.below hb1); have nHB := Lib.hid (bthen HB.out hb1); have zz1 := hb1.size; clear HM HA HS HB hb1; have HM := nHM; have HA := nHA; have HS := nHS; have HB := nHB; clear nHM nHA nHS nHB) | (go_at_call 15; (with_reducible refine (works_c _).mono ?_); rintro e w1 ⟨rfl, hb1⟩; have nHM := Lib.hid (HM.out.below hb1); have nHA := Lib.hid (HA.out.below hb1); have nHS := Lib.hid (HS.out.below hb1); have nHB := Lib.hid (bthen HB.out hb1); have zz1 := hb1.size; clear HM HA HS HB hb1; have HM := nHM; have HA := nHA; have HS := nHS; have HB := nHB; clear nHM nHA nHS nHB))
  · have HN := Lib.hid (farS_near hf)
    clear hf
    have zB := HB.out.size
    refine wp_region_specL 11 [10] (lawkR w.heap.size cl bu S (.agg #[hx, hy, hv, gx, gy, gv, lx, ly, lv, px, py, pv, nx, ny, nv, ax, ay, av, cx, cy, cv, dx, dy, dv, .int .i64 cl, .int .i64 bu]) (.agg #[.int .i64 wl, .int .i64 wh, .int .i64 tl, .int .i64 th, .int .i64 el, .int .i64 eh, .int .i64 nl, .int .i64 nh]) sl sh kl kh V E) (fun i => false) (by kernel_rfl) (by kernel_rfl) (by intro i hi; simp at hi; subst_vars; rfl) lawkR_below ?hop1 ?htail1
    case hop1 =>
      simp only [List.take_succ_cons, List.take_zero, allOps]
      refine ⟨?_, ?_, ?_, ?_, ?_, ?_, ?_, ?_, ?_, ?_, ?_, trivial⟩
      all_goals intro u A w1 hA hb hd
      all_goals simp only [putAll, dstOf, List.getElem?_toArray, List.getElem?_cons_succ, List.getElem?_cons_zero, Option.bind_some, Option.bind, Act.put, List.setIfInBounds_toArray, List.set_cons_succ, List.set_cons_zero] at hA; subst hA
      all_goals have HB1 := Lib.hid hb
      · refine OpOk.now rfl ?_
        clear hb hd
        go_wp2_with (refine wpl_row rfl 27 _ rfl _ rfl _ 26 (HM.out.below HB1.out) Try.rowRot rfl ?_; simp only [Act.put])
        exact ⟨_, rfl, Below.refl _ _, rfl, fun h => absurd h (by decide)⟩
      · refine OpOk.now rfl ?_
        have d0 : u 0 = _ := hd 0 (by omega) (by kernel_rfl)
        clear hb hd
        rw [d0]
        clear d0
        go_wp2_with (go_at_call 17; (with_reducible refine (own_c hx hy hv gx gy gv lx ly lv px py pv nx ny nv ax ay av cx cy cv dx dy dv cl bu S _ ((HR.out.below HB.out).below HB1.out) HN.out).mono ?_); rintro e w2 ⟨v, rfl, ho, hb2⟩)
        exact ⟨_, rfl, hb2, ho, fun h => absurd h (by decide)⟩
      · refine OpOk.now rfl ?_
        clear hb hd
        go_wp2_with (refine wpl_row rfl 36 _ rfl _ rfl _ 8 (HA.out.below HB1.out) Try.rowAir rfl ?_; simp only [Act.put])
        exact ⟨_, rfl, Below.refl _ _, rfl, fun h => absurd h (by decide)⟩
      · refine OpOk.now rfl ?_
        clear hb hd
        go_wp2
        exact ⟨_, rfl, Below.refl _ _, rfl, fun h => absurd h (by decide)⟩
      · refine OpOk.now rfl ?_
        have d3 : u 3 = _ := hd 3 (by omega) (by kernel_rfl)
        clear hb hd
        rw [d3]
        clear d3
        have c0 := (HS.out.below HB1.out).cell 0
        have c1 := (HS.out.below HB1.out).cell 1
        go_wp2
        exact ⟨_, rfl, Below.refl _ _, rfl, fun h => absurd h (by decide)⟩
      · refine OpOk.now rfl ?_
        clear hb hd
        go_wp2
        exact ⟨_, rfl, Below.refl _ _, rfl, fun h => absurd h (by decide)⟩
      · refine OpOk.now rfl ?_
        have d5 : u 5 = _ := hd 5 (by omega) (by kernel_rfl)
        clear hb hd
        rw [d5]
        clear d5
        have c0 := (HS.out.below HB1.out).cell 2
        have c1 := (HS.out.below HB1.out).cell 3
        go_wp2
        exact ⟨_, rfl, Below.refl _ _, rfl, fun h => absurd h (by decide)⟩
      · refine OpOk.now rfl ?_
        have d1 := hd 1 (by omega) (by kernel_rfl)
        have d2 : u 2 = _ := hd 2 (by omega) (by kernel_rfl)
        have d4 : u 4 = _ := hd 4 (by omega) (by kernel_rfl)
        have d6 : u 6 = _ := hd 6 (by omega) (by kernel_rfl)
        clear hb hd
        rw [d2, d4, d6]
        clear d2 d4 d6
        obtain ⟨hx', hy', hv', gx', gy', gv', lx', ly', lv', px', py', pv', nx', ny', nv', ax', ay', av', cx', cy', cv', dx', dy', dv', e1, r1⟩ := d1
        rw [e1]
        clear e1
        go_wp2_with (go_at_call 27; (with_reducible refine (HK.out _ _ _ _ _ _ _ _ _ _ _ _ _ _ _ _ _ _ _ _ _ _ _ _ _ r1).mono ?_); rintro e w2 ⟨rfl, hb2⟩)
        exact ⟨_, rfl, hb2, rfl, fun h => absurd h (by decide)⟩
      · refine OpOk.now rfl ?_
        have d7 : u 7 = _ := hd 7 (by omega) (by kernel_rfl)
        clear hb hd
        rw [d7]
        clear d7
        go_wp2
        exact ⟨_, rfl, Below.refl _ _, rfl, fun h => absurd h (by decide)⟩
      · refine OpOk.now rfl ?_
        have d8 : u 8 = _ := hd 8 (by omega) (by kernel_rfl)
        clear hb hd
        rw [d8]
        clear d8
        go_wp2
        exact ⟨_, rfl, Below.refl _ _, rfl, fun h => absurd h (by decide)⟩
      · have d8 : u 8 = _ := hd 8 (by omega) (by kernel_rfl)
        clear hb hd
        rw [d8]
        clear d8
        refine OpOk.late rfl ?_
        exact ⟨_, yields_extract rfl _ _ rfl _ rfl _ rfl, rfl⟩
    case htail1 =>
      intro u A w1 hA hb hd hf
      simp only [putAll, dstOf, List.getElem?_toArray, List.getElem?_cons_succ, List.getElem?_cons_zero, Option.bind_some, Option.bind, Act.put, List.setIfInBounds_toArray, List.set_cons_succ, List.set_cons_zero] at hA; subst hA
      have e0 : u 0 = _ := hd 0 (by omega)
      have p1 := hd 1 (by omega)
      have e2 : u 2 = _ := hd 2 (by omega)
      have e3 : u 3 = _ := hd 3 (by omega)
      have e4 : u 4 = _ := hd 4 (by omega)
      have e5 : u 5 = _ := hd 5 (by omega)
      have e6 : u 6 = _ := hd 6 (by omega)
      have e7 : u 7 = _ := hd 7 (by omega)
      have e8 : u 8 = _ := hd 8 (by omega)
      have e9 : u 9 = _ := hd 9 (by omega)
      have e10 : u 10 = _ := hd 10 (by omega)
      first | rw [e0, e2, e3, e4, e5, e6, e7, e8, e9, e10] | simp only [e0, e2, e3, e4, e5, e6, e7, e8, e9, e10]
      clear e0 e2 e3 e4 e5 e6 e7 e8 e9 e10
      clear hd hf
      have nHM := Lib.hid (HM.out.below hb)
      have nHA := Lib.hid (HA.out.below hb)
      have nHS := Lib.hid (HS.out.below hb)
      have nHB := Lib.hid (HB.out.trans (hb.mono HB.out.size))
      clear HM HA HS HB hb p1
      have HM := nHM
      have HA := nHA
      have HS := nHS
      have HB := nHB
      clear nHM nHA nHS nHB
      have zHS := HS.out.lt
      have cHS0 := HS.out.cell 0
      have cHS1 := HS.out.cell 1
      have cHS2 := HS.out.cell 2
      have cHS3 := HS.out.cell 3
      go_wp2
      dsimp only [NoPanic]
      go_wp2_with (first | (refine wpl_row rfl 27 _ rfl _ rfl #[hx, hy, hv, gx, gy, gv, lx, ly, lv, px, py, pv, nx, ny, nv, ax, ay, av, cx, cy, cv, dx, dy, dv, .int .i64 cl, .int .i64 bu] 26 HM.out Try.rowRot rfl ?_; simp only [Act.put]) | (refine wpl_row rfl 36 _ rfl _ rfl #[.int .i64 wl, .int .i64 wh, .int .i64 tl, .int .i64 th, .int .i64 el, .int .i64 eh, .int .i64 nl, .int .i64 nh] 8 HA.out Try.rowAir rfl ?_; simp only [Act.put]) | (go_at_call 28; (with_reducible refine (HF.out _ (HR.out.below HB.out)).mono ?_); rintro e w1 ⟨rfl, hb1⟩; have nHM := Lib.hid (HM.out.below hb1); have nHA := Lib.hid (HA.out.below hb1); have nHS := Lib.hid (HS.out.below hb1); have nHB := Lib.hid (bthen HB.out hb1); have zz1 := hb1.size; clear HM HA HS HB hb1; have HM := nHM; have HA := nHA; have HS := nHS; have HB := nHB; clear nHM nHA nHS nHB) | (go_at_call 15; (with_reducible refine (works_c _).mono ?_); rintro e w1 ⟨rfl, hb1⟩; have nHM := Lib.hid (HM.out.below hb1); have nHB := Lib.hid (bthen HB.out hb1); have zz1 := hb1.size; clear HM HB hb1; have HM := nHM; have HB := nHB; clear nHM nHB))
      go_ret
      exact ⟨rfl, HB.out⟩
  · go_ret
    exact ⟨rfl, HB.out⟩
end Go.Proofs.Ytoembbcddhlokaa
