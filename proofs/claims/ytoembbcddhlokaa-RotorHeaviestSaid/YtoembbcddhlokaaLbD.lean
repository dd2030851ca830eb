/- The law RotorHeaviest. -/
import Derived.Test.YtoembbcddhlokaaLbB
import Derived.Test.YtoembbcddhlokaaRfR
set_option linter.all false
namespace Go.Proofs.Ytoembbcddhlokaa
open Go Go.RowKit Go.Proofs
set_option maxRecDepth 100000
set_option maxHeartbeats 8000000

theorem lastI_spec {f : Int → Bool} {a : Int} : ∀ k : Nat, a - 1 ≤ lastI f a k ∧ lastI f a k < a + k ∧ (a ≤ lastI f a k → f (lastI f a k) = true) ∧ (∀ x, lastI f a k < x → x < a + k → f x = false)
  | 0 => by unfold lastI; exact ⟨by omega, by omega, fun h => absurd h (by omega), fun x h1 h2 => absurd h2 (by omega)⟩
  | k + 1 => by
    obtain ⟨h1, h2, h3, h4⟩ := lastI_spec (f := f) (a := a) k
    unfold lastI
    by_cases h : f (a + k) = true
    · rw [if_pos h]; exact ⟨by omega, by omega, fun _ => h, fun x g1 g2 => absurd g2 (by omega)⟩
    · rw [if_neg h]
      refine ⟨h1, by omega, h3, fun x g1 g2 => ?_⟩
      by_cases e : x = a + k
      · subst e; simpa using h
      · exact h4 x g1 (by omega)
theorem heav_ok {S : Tabs} {cl bu wl wh tl th el eh nl nh sl sh res : Int} (h : heavE S cl bu wl wh tl th el eh nl nh sl sh res = 0) :
    margE S cl bu wl wh tl th el eh nl nh sl sh = 0 ∧ wl ≤ heavV S cl bu wl wh tl th el eh nl nh sl sh res ∧ heavV S cl bu wl wh tl th el eh nl nh sl sh res ≤ wh ∧ -1000000 ≤ wl ∧ wh ≤ 1000000 ∧ res ≤ marU S wl tl th el eh nl nh sl sh (heavV S cl bu wl wh tl th el eh nl nh sl sh res) ∧ (heavV S cl bu wl wh tl th el eh nl nh sl sh res < wh → marU S wl tl th el eh nl nh sl sh (heavV S cl bu wl wh tl th el eh nl nh sl sh res + 1) < res) := by
  unfold heavV
  rw [h, okN_ok]
  by_cases hm : margE S cl bu wl wh tl th el eh nl nh sl sh = 0
  · obtain ⟨hr, hH, hG, hP⟩ := margE_ok hm
    have hw := vspan_iff.1 hH.vx
    by_cases hn : heavN S wl wh tl th el eh nl nh sl sh res < wl
    · rw [heavE_n hm hn] at h; cases h
    · have sp := lastI_spec (f := okW S wl tl th el eh nl nh sl sh res) (a := wl) (wh - wl + 1).toNat
      unfold heavN at *
      generalize lastI (okW S wl tl th el eh nl nh sl sh res) wl (wh - wl + 1).toNat = n at *
      obtain ⟨s1, s2, s3, s4⟩ := sp
      have k1 := s3 (by omega)
      unfold okW at k1
      refine ⟨hm, by omega, by omega, by omega, by omega, by simpa using k1, fun hlt => ?_⟩
      have k2 := s4 (n + 1) (by omega) (by omega)
      unfold okW at k2
      simpa using k2
  · rw [heavE_m hm] at h; exact absurd h hm

theorem RotorHeaviest_c (hx hy hv gx gy gv lx ly lv px py pv nx ny nv ax ay av cx cy cv dx dy dv : Value) (cl bu : Int) (wl wh tl th el eh nl nh : Int) (S : Tabs) (sl sh res : Int) (w : World) (hR : RotAt w hx hy hv gx gy gv lx ly lv px py pv nx ny nv ax ay av cx cy cv dx dy dv cl bu S) :
   Calls Try.prog 4 #[.agg #[hx, hy, hv, gx, gy, gv, lx, ly, lv, px, py, pv, nx, ny, nv, ax, ay, av, cx, cy, cv, dx, dy, dv, .int .i64 cl, .int .i64 bu], .agg #[.int .i64 wl, .int .i64 wh, .int .i64 tl, .int .i64 th, .int .i64 el, .int .i64 eh, .int .i64 nl, .int .i64 nh], .agg #[.int .i64 sl, .int .i64 sh, .int .i64 res]] w fun e w' => e = .returned (.bool true) ∧ Below w.heap.size w w' := by
  have HR := Lib.hid hR
  clear hR
  cases hf : farS S
  · have HN := Lib.hid (farS_near hf)
    have hk := fun w1 hx hy hv gx gy gv lx ly lv px py pv nx ny nv ax ay av cx cy cv dx dy dv hR => Heaviest_c hx hy hv gx gy gv lx ly lv px py pv nx ny nv ax ay av cx cy cv dx dy dv cl bu wl wh tl th el eh nl nh S sl sh res w1 hR
    have hk2 := fun w1 hR => rf2_Heaviest_c hx hy hv gx gy gv lx ly lv px py pv nx ny nv ax ay av cx cy cv dx dy dv cl bu wl wh tl th el eh nl nh S sl sh res w1 hR
    by_cases he : heavE S cl bu wl wh tl th el eh nl nh sl sh res = 0
    · obtain ⟨hm, n1, n2, n3, n4, n5, n6⟩ := heav_ok he
      have CN := Lib.hid (fun n (h1 : wl ≤ n) (h2 : n ≤ wh) w1 hx hy hv gx gy gv lx ly lv px py pv nx ny nv ax ay av cx cy cv dx dy dv hR => (show Calls Try.prog 21 #[.agg #[hx, hy, hv, gx, gy, gv, lx, ly, lv, px, py, pv, nx, ny, nv, ax, ay, av, cx, cy, cv, dx, dy, dv, .int .i64 cl, .int .i64 bu], .agg #[.int .i64 wl, .int .i64 n, .int .i64 tl, .int .i64 th, .int .i64 el, .int .i64 eh, .int .i64 nl, .int .i64 nh], .agg #[.int .i64 sl, .int .i64 sh]] w1 fun e w' => e = .returned (.tuple #[.int .i64 (marU S wl tl th el eh nl nh sl sh n), .int .i64 0]) ∧ Below w1.heap.size w1 w' by
        have := Margin_c hx hy hv gx gy gv lx ly lv px py pv nx ny nv ax ay av cx cy cv dx dy dv cl bu wl n tl th el eh nl nh S sl sh w1 hR
        rwa [marV_sub hm h1 h2, margE_sub hm h1 h2] at this))
      rw [he] at hk hk2
      generalize heavV S cl bu wl wh tl th el eh nl nh sl sh res = n at *
      have HK := Lib.hid hk
      have HK2 := Lib.hid hk2
      have N6 := Lib.hid n6
      clear hk hk2 he hm n6
      have HW := Lib.hid (fun w1 hR => far2_c hx hy hv gx gy gv lx ly lv px py pv nx ny nv ax ay av cx cy cv dx dy dv cl bu S w1 hR)
      rw [hf] at HW
      go_enter Try.func4, Try.ntmps4
      go_wp2_with (first | (refine wpl_row rfl 27 _ rfl _ rfl #[hx, hy, hv, gx, gy, gv, lx, ly, lv, px, py, pv, nx, ny, nv, ax, ay, av, cx, cy, cv, dx, dy, dv, .int .i64 cl, .int .i64 bu] 26 ?_ Try.rowRot rfl ?_; (focus exact (by repeat (first | (refine Blk.newAt _ _ _ ?_; first | rfl | (simp; done)) | refine Blk.alloc ?_ _))); simp only [Act.put]))
      have bHM : Blk (((w.alloc (.cells #[hx, hy, hv, gx, gy, gv, lx, ly, lv, px, py, pv, nx, ny, nv, ax, ay, av, cx, cy, cv, dx, dy, dv, .int .i64 cl, .int .i64 bu] 27)).alloc (.cells #[.int .i64 wl, .int .i64 wh, .int .i64 tl, .int .i64 th, .int .i64 el, .int .i64 eh, .int .i64 nl, .int .i64 nh] 36)).alloc (.cells #[.int .i64 sl, .int .i64 sh, .int .i64 res] 38)) (w.heap.size) 27 #[hx, hy, hv, gx, gy, gv, lx, ly, lv, px, py, pv, nx, ny, nv, ax, ay, av, cx, cy, cv, dx, dy, dv, .int .i64 cl, .int .i64 bu] := (by repeat (first | (refine Blk.newAt _ _ _ ?_; first | rfl | (simp; done)) | refine Blk.alloc ?_ _))
      have bHA : Blk (((w.alloc (.cells #[hx, hy, hv, gx, gy, gv, lx, ly, lv, px, py, pv, nx, ny, nv, ax, ay, av, cx, cy, cv, dx, dy, dv, .int .i64 cl, .int .i64 bu] 27)).alloc (.cells #[.int .i64 wl, .int .i64 wh, .int .i64 tl, .int .i64 th, .int .i64 el, .int .i64 eh, .int .i64 nl, .int .i64 nh] 36)).alloc (.cells #[.int .i64 sl, .int .i64 sh, .int .i64 res] 38)) (w.heap.size + 1) 36 #[.int .i64 wl, .int .i64 wh, .int .i64 tl, .int .i64 th, .int .i64 el, .int .i64 eh, .int .i64 nl, .int .i64 nh] := (by repeat (first | (refine Blk.newAt _ _ _ ?_; first | rfl | (simp; done)) | refine Blk.alloc ?_ _))
      have bHS : Blk (((w.alloc (.cells #[hx, hy, hv, gx, gy, gv, lx, ly, lv, px, py, pv, nx, ny, nv, ax, ay, av, cx, cy, cv, dx, dy, dv, .int .i64 cl, .int .i64 bu] 27)).alloc (.cells #[.int .i64 wl, .int .i64 wh, .int .i64 tl, .int .i64 th, .int .i64 el, .int .i64 eh, .int .i64 nl, .int .i64 nh] 36)).alloc (.cells #[.int .i64 sl, .int .i64 sh, .int .i64 res] 38)) (w.heap.size + 1 + 1) 38 #[.int .i64 sl, .int .i64 sh, .int .i64 res] := (by repeat (first | (refine Blk.newAt _ _ _ ?_; first | rfl | (simp; done)) | refine Blk.alloc ?_ _))
      have bHB : Below w.heap.size w (((w.alloc (.cells #[hx, hy, hv, gx, gy, gv, lx, ly, lv, px, py, pv, nx, ny, nv, ax, ay, av, cx, cy, cv, dx, dy, dv, .int .i64 cl, .int .i64 bu] 27)).alloc (.cells #[.int .i64 wl, .int .i64 wh, .int .i64 tl, .int .i64 th, .int .i64 el, .int .i64 eh, .int .i64 nl, .int .i64 nh] 36)).alloc (.cells #[.int .i64 sl, .int .i64 sh, .int .i64 res] 38)) := (by repeat' (first | exact Below.refl _ _ | assumption | refine Below.drew ?_ | refine bdn ?_ _ | refine bal ?_ _ | refine Below.setCell ?_ (by first | (simp; done) | omega | (simp; omega)) _))
      generalize (((w.alloc (.cells #[hx, hy, hv, gx, gy, gv, lx, ly, lv, px, py, pv, nx, ny, nv, ax, ay, av, cx, cy, cv, dx, dy, dv, .int .i64 cl, .int .i64 bu] 27)).alloc (.cells #[.int .i64 wl, .int .i64 wh, .int .i64 tl, .int .i64 th, .int .i64 el, .int .i64 eh, .int .i64 nl, .int .i64 nh] 36)).alloc (.cells #[.int .i64 sl, .int .i64 sh, .int .i64 res] 38)) = W at *
      have zW := bHS.lt
      have HM := Lib.hid bHM
      have HA := Lib.hid bHA
      have HS := Lib.hid bHS
      have HB := Lib.hid bHB
      clear bHM bHA bHS bHB
      go_wp2_with (first | (refine wpl_row rfl 27 _ rfl _ rfl #[hx, hy, hv, gx, gy, gv, lx, ly, lv, px, py, pv, nx, ny, nv, ax, ay, av, cx, cy, cv, dx, dy, dv, .int .i64 cl, .int .i64 bu] 26 HM.out Try.rowRot rfl ?_; simp only [Act.put]) | (go_at_call 14; (with_reducible refine (HW.out _ (HR.out.below HB.out)).mono ?_); rintro e w1 ⟨rfl, hb1⟩; have nHM := Lib.hid (HM.out.below hb1); have nHA := Lib.hid (HA.out.below hb1); have nHS := Lib.hid (HS.out.below hb1); have nHB := Lib.hid (bthen HB.out hb1); have zz1 := hb1.size; clear HM HA HS HB hb1; have HM := nHM; have HA := nHA; have HS := nHS; have HB := nHB; clear nHM nHA nHS nHB) | (go_at_call 15; (with_reducible refine (works_c _).mono ?_); rintro e w1 ⟨rfl, hb1⟩; have nHM := Lib.hid (HM.out.below hb1); have nHA := Lib.hid (HA.out.below hb1); have nHS := Lib.hid (HS.out.below hb1); have nHB := Lib.hid (bthen HB.out hb1); have zz1 := hb1.size; clear HM HA HS HB hb1; have HM := nHM; have HA := nHA; have HS := nHS; have HB := nHB; clear nHM nHA nHS nHB) | (go_at_call 17; (with_reducible refine (own_c hx hy hv gx gy gv lx ly lv px py pv nx ny nv ax ay av cx cy cv dx dy dv cl bu S _ (HR.out.below HB.out) HN.out).mono ?_); rintro e w1 ⟨v, rfl, ho, hb1⟩; obtain ⟨hx', hy', hv', gx', gy', gv', lx', ly', lv', px', py', pv', nx', ny', nv', ax', ay', av', cx', cy', cv', dx', dy', dv', rfl, r1⟩ := ho; have HO := Lib.hid r1; clear r1; have nHM := Lib.hid (HM.out.below hb1); have nHA := Lib.hid (HA.out.below hb1); have nHS := Lib.hid (HS.out.below hb1); have nHB := Lib.hid (bthen HB.out hb1); have zz1 := hb1.size; clear HM HA HS HB hb1; have HM := nHM; have HA := nHA; have HS := nHS; have HB := nHB; clear nHM nHA nHS nHB; (try clear zHS); have zHS := HS.out.lt; (try clear cHS0); have cHS0 := HS.out.cell 0; (try clear cHS1); have cHS1 := HS.out.cell 1; (try clear cHS2); have cHS2 := HS.out.cell 2) | (refine wpl_store_new rfl 27 _ _ rfl #[hx', hy', hv', gx', gy', gv', lx', ly', lv', px', py', pv', nx', ny', nv', ax', ay', av', cx', cy', cv', dx', dy', dv', .int .i64 cl, .int .i64 bu] _ _ rfl ?_ rfl Try.sizeRot' rfl (RotAt.one26' HO.out) ?_; (focus (simp; done)); simp only [Act.put]) | (refine wpl_row rfl 27 _ rfl _ rfl #[hx', hy', hv', gx', gy', gv', lx', ly', lv', px', py', pv', nx', ny', nv', ax', ay', av', cx', cy', cv', dx', dy', dv', .int .i64 cl, .int .i64 bu] 26 (Blk.new _ _ _) Try.rowRot rfl ?_; simp only [Act.put]) | (refine wpl_row rfl 36 _ rfl _ rfl #[.int .i64 wl, .int .i64 wh, .int .i64 tl, .int .i64 th, .int .i64 el, .int .i64 eh, .int .i64 nl, .int .i64 nh] 8 (HA.out.alloc _) Try.rowAir rfl ?_; simp only [Act.put]))
      have bHQ := Blk.new w1 27 #[hx', hy', hv', gx', gy', gv', lx', ly', lv', px', py', pv', nx', ny', nv', ax', ay', av', cx', cy', cv', dx', dy', dv', .int .i64 cl, .int .i64 bu]
      have nHM := Lib.hid (HM.out.alloc (.cells #[hx', hy', hv', gx', gy', gv', lx', ly', lv', px', py', pv', nx', ny', nv', ax', ay', av', cx', cy', cv', dx', dy', dv', .int .i64 cl, .int .i64 bu] 27))
      have nHA := Lib.hid (HA.out.alloc (.cells #[hx', hy', hv', gx', gy', gv', lx', ly', lv', px', py', pv', nx', ny', nv', ax', ay', av', cx', cy', cv', dx', dy', dv', .int .i64 cl, .int .i64 bu] 27))
      have nHS := Lib.hid (HS.out.alloc (.cells #[hx', hy', hv', gx', gy', gv', lx', ly', lv', px', py', pv', nx', ny', nv', ax', ay', av', cx', cy', cv', dx', dy', dv', .int .i64 cl, .int .i64 bu] 27))
      have nHO := Lib.hid (HO.out.alloc (.cells #[hx', hy', hv', gx', gy', gv', lx', ly', lv', px', py', pv', nx', ny', nv', ax', ay', av', cx', cy', cv', dx', dy', dv', .int .i64 cl, .int .i64 bu] 27))
      have nHB := Lib.hid (bal HB.out (.cells #[hx', hy', hv', gx', gy', gv', lx', ly', lv', px', py', pv', nx', ny', nv', ax', ay', av', cx', cy', cv', dx', dy', dv', .int .i64 cl, .int .i64 bu] 27))
      clear HM HA HS HO HB
      have HM := nHM
      have HA := nHA
      have HS := nHS
      have HO := nHO
      have HB := nHB
      clear nHM nHA nHS nHO nHB
      generalize w1.alloc (.cells #[hx', hy', hv', gx', gy', gv', lx', ly', lv', px', py', pv', nx', ny', nv', ax', ay', av', cx', cy', cv', dx', dy', dv', .int .i64 cl, .int .i64 bu] 27) = W2 at *
      generalize w1.heap.size = gHQ at *
      have HQ := Lib.hid bHQ
      clear bHQ
      have zHS := HS.out.lt
      have cHS0 := HS.out.cell 0
      have cHS1 := HS.out.cell 1
      have cHS2 := HS.out.cell 2
      go_wp2_with (first | (go_at_call 19; (with_reducible refine (HK.out _ _ _ _ _ _ _ _ _ _ _ _ _ _ _ _ _ _ _ _ _ _ _ _ _ HO.out).mono ?_); rintro e w1 ⟨rfl, hb1⟩; have nHM := Lib.hid (HM.out.below hb1); have nHA := Lib.hid (HA.out.below hb1); have nHS := Lib.hid (HS.out.below hb1); have nHQ := Lib.hid (HQ.out.below hb1); have nHO := Lib.hid (HO.out.below hb1); have nHB := Lib.hid (bthen HB.out hb1); have zz1 := hb1.size; clear HM HA HS HQ HO HB hb1; have HM := nHM; have HA := nHA; have HS := nHS; have HQ := nHQ; have HO := nHO; have HB := nHB; clear nHM nHA nHS nHQ nHO nHB; (try clear zHS); have zHS := HS.out.lt; (try clear cHS0); have cHS0 := HS.out.cell 0; (try clear cHS1); have cHS1 := HS.out.cell 1; (try clear cHS2); have cHS2 := HS.out.cell 2) | (refine wpl_row rfl 27 _ rfl _ rfl #[hx, hy, hv, gx, gy, gv, lx, ly, lv, px, py, pv, nx, ny, nv, ax, ay, av, cx, cy, cv, dx, dy, dv, .int .i64 cl, .int .i64 bu] 26 HM.out Try.rowRot rfl ?_; simp only [Act.put]) | (refine wpl_row rfl 36 _ rfl _ rfl #[.int .i64 wl, .int .i64 wh, .int .i64 tl, .int .i64 th, .int .i64 el, .int .i64 eh, .int .i64 nl, .int .i64 nh] 8 HA.out Try.rowAir rfl ?_; simp only [Act.put]) | (go_at_call 20; (with_reducible refine (HK2.out _ (HR.out.below HB.out)).mono ?_); rintro e w1 ⟨rfl, hb1⟩; have nHM := Lib.hid (HM.out.below hb1); have nHA := Lib.hid (HA.out.below hb1); have nHS := Lib.hid (HS.out.below hb1); have nHQ := Lib.hid (HQ.out.below hb1); have nHO := Lib.hid (HO.out.below hb1); have nHB := Lib.hid (bthen HB.out hb1); have zz1 := hb1.size; clear HM HA HS HQ HO HB hb1; have HM := nHM; have HA := nHA; have HS := nHS; have HQ := nHQ; have HO := nHO; have HB := nHB; clear nHM nHA nHS nHQ nHO nHB; (try clear zHS); have zHS := HS.out.lt; (try clear cHS0); have cHS0 := HS.out.cell 0; (try clear cHS1); have cHS1 := HS.out.cell 1; (try clear cHS2); have cHS2 := HS.out.cell 2) | (go_at_call 15; (with_reducible refine (works_c _).mono ?_); rintro e w1 ⟨rfl, hb1⟩; have nHM := Lib.hid (HM.out.below hb1); have nHB := Lib.hid (bthen HB.out hb1); have zz1 := hb1.size; clear HM HB hb1; have HM := nHM; have HB := nHB; clear nHM nHB))
      have CM := CN.out n n1 n2
      generalize marU S wl tl th el eh nl nh sl sh n = m1 at *
      have hMr := Lib.hid (fun r : After w1 => HQ.out.below r.below)
      have hAr := Lib.hid (fun r : After w1 => HA.out.below r.below)
      have hRr := Lib.hid (fun r : After w1 => HO.out.below r.below)
      have aHS0 := fun (r : After w1) => (HS.out.below r.below).cell 0
      simp only [List.getElem?_toArray, List.getElem?_cons_succ, List.getElem?_cons_zero] at aHS0
      have aHS1 := fun (r : After w1) => (HS.out.below r.below).cell 1
      simp only [List.getElem?_toArray, List.getElem?_cons_succ, List.getElem?_cons_zero] at aHS1
      refine wp_region_after (by kernel_rfl) (by kernel_rfl) ?_
      repeat (first | (refine wpq_row rfl 27 _ rfl _ rfl _ 26 (fun _ hw => by obtain ⟨r, rfl⟩ := hw; exact hMr.out r) Try.rowRot rfl ?_; simp only [Act.put, List.setIfInBounds_toArray, List.set_cons_succ, List.set_cons_zero]) | (refine wpq_row rfl 36 _ rfl _ rfl _ 8 (fun _ hw => by obtain ⟨r, rfl⟩ := hw; exact hAr.out r) Try.rowAir rfl ?_; simp only [Act.put, List.setIfInBounds_toArray, List.set_cons_succ, List.set_cons_zero]) | go_big_quiet_step (first | (go_at_call 22; (with_reducible refine qafter (rf2_Up_c _ _ _ _ _ _ _ _ _ _))) | (go_at_call 21; (with_reducible refine qafter (CM _ _ _ _ _ _ _ _ _ _ _ _ _ _ _ _ _ _ _ _ _ _ _ _ _ (hRr.out _))))))
      refine wpQuiet_nil ?_
      rintro W3 ⟨r, hr⟩
      have hbN : Below w1.heap.size w1 W3 := by rw [hr]; exact r.below
      clear hr r aHS0 aHS1 hMr hAr hRr
      have nHM := Lib.hid (HM.out.below hbN)
      have nHA := Lib.hid (HA.out.below hbN)
      have nHS := Lib.hid (HS.out.below hbN)
      have nHQ := Lib.hid (HQ.out.below hbN)
      have nHO := Lib.hid (HO.out.below hbN)
      have nHB := Lib.hid (bthen HB.out hbN)
      clear HM HA HS HQ HO HB hbN cHS0 cHS1 cHS2
      have HM := nHM
      have HA := nHA
      have HS := nHS
      have HQ := nHQ
      have HO := nHO
      have HB := nHB
      clear nHM nHA nHS nHQ nHO nHB CM
      by_cases hlt : n = wh
      · have hb2 : ((n : Int) == wh) = true := by simpa using hlt
        have zHS := HS.out.lt
        have cHS2 := HS.out.cell 2
        have zHA := HA.out.lt
        have cHA1 := HA.out.cell 1
        go_wp2_with (first | (go_at_call 15; (with_reducible refine (works_c _).mono ?_); rintro e w1 ⟨rfl, hb1⟩; have nHM := Lib.hid (HM.out.below hb1); have nHB := Lib.hid (bthen HB.out hb1); have zz1 := hb1.size; clear HM HB hb1; have HM := nHM; have HB := nHB; clear nHM nHB))
        go_ret
        exact ⟨rfl, HB.out⟩
      · have hb2 : ((n : Int) == wh) = false := by simpa using hlt
        have n7 := N6.out (by omega)
        have hnw : n + 1 ≤ wh := by omega
        have CM := CN.out (n + 1) (by omega) (by omega)
        generalize marU S wl tl th el eh nl nh sl sh (n + 1) = m2 at *
        have HCM := Lib.hid CM
        clear CM hlt
        have zHS := HS.out.lt
        have cHS2 := HS.out.cell 2
        have zHA := HA.out.lt
        have cHA1 := HA.out.cell 1
        go_wp2
        have CM := HCM.out
        clear cHS2 cHA1
        obtain ⟨w1, hw1⟩ : ∃ w1, w1 = W3 := ⟨_, rfl⟩
        rw [← hw1] at HM HA HS HQ HO HB ⊢
        clear hw1
        have cHS0 := trivial
        have cHS1 := trivial
        have cHS2 := trivial
        have hMr := Lib.hid (fun r : After w1 => HQ.out.below r.below)
        have hAr := Lib.hid (fun r : After w1 => HA.out.below r.below)
        have hRr := Lib.hid (fun r : After w1 => HO.out.below r.below)
        have aHS0 := fun (r : After w1) => (HS.out.below r.below).cell 0
        simp only [List.getElem?_toArray, List.getElem?_cons_succ, List.getElem?_cons_zero] at aHS0
        have aHS1 := fun (r : After w1) => (HS.out.below r.below).cell 1
        simp only [List.getElem?_toArray, List.getElem?_cons_succ, List.getElem?_cons_zero] at aHS1
        refine wp_region_after (by kernel_rfl) (by kernel_rfl) ?_
        repeat (first | (refine wpq_row rfl 27 _ rfl _ rfl _ 26 (fun _ hw => by obtain ⟨r, rfl⟩ := hw; exact hMr.out r) Try.rowRot rfl ?_; simp only [Act.put, List.setIfInBounds_toArray, List.set_cons_succ, List.set_cons_zero]) | (refine wpq_row rfl 36 _ rfl _ rfl _ 8 (fun _ hw => by obtain ⟨r, rfl⟩ := hw; exact hAr.out r) Try.rowAir rfl ?_; simp only [Act.put, List.setIfInBounds_toArray, List.set_cons_succ, List.set_cons_zero]) | go_big_quiet_step (first | (go_at_call 22; (with_reducible refine qafter (rf2_Up_c _ _ _ _ _ _ _ _ _ _))) | (go_at_call 21; (with_reducible refine qafter (CM _ _ _ _ _ _ _ _ _ _ _ _ _ _ _ _ _ _ _ _ _ _ _ _ _ (hRr.out _))))))
        refine wpQuiet_nil ?_
        rintro W3 ⟨r, hr⟩
        have hbN : Below w1.heap.size w1 W3 := by rw [hr]; exact r.below
        clear hr r aHS0 aHS1 hMr hAr hRr
        have nHM := Lib.hid (HM.out.below hbN)
        have nHA := Lib.hid (HA.out.below hbN)
        have nHS := Lib.hid (HS.out.below hbN)
        have nHQ := Lib.hid (HQ.out.below hbN)
        have nHO := Lib.hid (HO.out.below hbN)
        have nHB := Lib.hid (bthen HB.out hbN)
        clear HM HA HS HQ HO HB hbN cHS0 cHS1 cHS2
        have HM := nHM
        have HA := nHA
        have HS := nHS
        have HQ := nHQ
        have HO := nHO
        have HB := nHB
        clear nHM nHA nHS nHQ nHO nHB CM
        have zHS := HS.out.lt
        have cHS2 := HS.out.cell 2
        go_wp2_with (first | (go_at_call 15; (with_reducible refine (works_c _).mono ?_); rintro e w1 ⟨rfl, hb1⟩; have nHM := Lib.hid (HM.out.below hb1); have nHB := Lib.hid (bthen HB.out hb1); have zz1 := hb1.size; clear HM HB hb1; have HM := nHM; have HB := nHB; clear nHM nHB))
        go_ret
        exact ⟨rfl, HB.out⟩
    · have hne : (heavE S cl bu wl wh tl th el eh nl nh sl sh res != 0) = true := by simpa using he
      generalize heavV S cl bu wl wh tl th el eh nl nh sl sh res = V at *
      generalize heavE S cl bu wl wh tl th el eh nl nh sl sh res = E at *
      have HK := Lib.hid hk
      have HK2 := Lib.hid hk2
      clear hk hk2 he
      have HW := Lib.hid (fun w1 hR => far2_c hx hy hv gx gy gv lx ly lv px py pv nx ny nv ax ay av cx cy cv dx dy dv cl bu S w1 hR)
      rw [hf] at HW
      go_enter Try.func4, Try.ntmps4
      go_wp2_with (first | (refine wpl_row rfl 27 _ rfl _ rfl #[hx, hy, hv, gx, gy, gv, lx, ly, lv, px, py, pv, nx, ny, nv, ax, ay, av, cx, cy, cv, dx, dy, dv, .int .i64 cl, .int .i64 bu] 26 ?_ Try.rowRot rfl ?_; (focus exact (by repeat (first | (refine Blk.newAt _ _ _ ?_; first | rfl | (simp; done)) | refine Blk.alloc ?_ _))); simp only [Act.put]))
      have bHM : Blk (((w.alloc (.cells #[hx, hy, hv, gx, gy, gv, lx, ly, lv, px, py, pv, nx, ny, nv, ax, ay, av, cx, cy, cv, dx, dy, dv, .int .i64 cl, .int .i64 bu] 27)).alloc (.cells #[.int .i64 wl, .int .i64 wh, .int .i64 tl, .int .i64 th, .int .i64 el, .int .i64 eh, .int .i64 nl, .int .i64 nh] 36)).alloc (.cells #[.int .i64 sl, .int .i64 sh, .int .i64 res] 38)) (w.heap.size) 27 #[hx, hy, hv, gx, gy, gv, lx, ly, lv, px, py, pv, nx, ny, nv, ax, ay, av, cx, cy, cv, dx, dy, dv, .int .i64 cl, .int .i64 bu] := (by repeat (first | (refine Blk.newAt _ _ _ ?_; first | rfl | (simp; done)) | refine Blk.alloc ?_ _))
      have bHA : Blk (((w.alloc (.cells #[hx, hy, hv, gx, gy, gv, lx, ly, lv, px, py, pv, nx, ny, nv, ax, ay, av, cx, cy, cv, dx, dy, dv, .int .i64 cl, .int .i64 bu] 27)).alloc (.cells #[.int .i64 wl, .int .i64 wh, .int .i64 tl, .int .i64 th, .int .i64 el, .int .i64 eh, .int .i64 nl, .int .i64 nh] 36)).alloc (.cells #[.int .i64 sl, .int .i64 sh, .int .i64 res] 38)) (w.heap.size + 1) 36 #[.int .i64 wl, .int .i64 wh, .int .i64 tl, .int .i64 th, .int .i64 el, .int .i64 eh, .int .i64 nl, .int .i64 nh] := (by repeat (first | (refine Blk.newAt _ _ _ ?_; first | rfl | (simp; done)) | refine Blk.alloc ?_ _))
      have bHS : Blk (((w.alloc (.cells #[hx, hy, hv, gx, gy, gv, lx, ly, lv, px, py, pv, nx, ny, nv, ax, ay, av, cx, cy, cv, dx, dy, dv, .int .i64 cl, .int .i64 bu] 27)).alloc (.cells #[.int .i64 wl, .int .i64 wh, .int .i64 tl, .int .i64 th, .int .i64 el, .int .i64 eh, .int .i64 nl, .int .i64 nh] 36)).alloc (.cells #[.int .i64 sl, .int .i64 sh, .int .i64 res] 38)) (w.heap.size + 1 + 1) 38 #[.int .i64 sl, .int .i64 sh, .int .i64 res] := (by repeat (first | (refine Blk.newAt _ _ _ ?_; first | rfl | (simp; done)) | refine Blk.alloc ?_ _))
      have bHB : Below w.heap.size w (((w.alloc (.cells #[hx, hy, hv, gx, gy, gv, lx, ly, lv, px, py, pv, nx, ny, nv, ax, ay, av, cx, cy, cv, dx, dy, dv, .int .i64 cl, .int .i64 bu] 27)).alloc (.cells #[.int .i64 wl, .int .i64 wh, .int .i64 tl, .int .i64 th, .int .i64 el, .int .i64 eh, .int .i64 nl, .int .i64 nh] 36)).alloc (.cells #[.int .i64 sl, .int .i64 sh, .int .i64 res] 38)) := (by repeat' (first | exact Below.refl _ _ | assumption | refine Below.drew ?_ | refine bdn ?_ _ | refine bal ?_ _ | refine Below.setCell ?_ (by first | (simp; done) | omega | (simp; omega)) _))
      generalize (((w.alloc (.cells #[hx, hy, hv, gx, gy, gv, lx, ly, lv, px, py, pv, nx, ny, nv, ax, ay, av, cx, cy, cv, dx, dy, dv, .int .i64 cl, .int .i64 bu] 27)).alloc (.cells #[.int .i64 wl, .int .i64 wh, .int .i64 tl, .int .i64 th, .int .i64 el, .int .i64 eh, .int .i64 nl, .int .i64 nh] 36)).alloc (.cells #[.int .i64 sl, .int .i64 sh, .int .i64 res] 38)) = W at *
      have zW := bHS.lt
      have HM := Lib.hid bHM
      have HA := Lib.hid bHA
      have HS := Lib.hid bHS
      have HB := Lib.hid bHB
      clear bHM bHA bHS bHB
      go_wp2_with (first | (refine wpl_row rfl 27 _ rfl _ rfl #[hx, hy, hv, gx, gy, gv, lx, ly, lv, px, py, pv, nx, ny, nv, ax, ay, av, cx, cy, cv, dx, dy, dv, .int .i64 cl, .int .i64 bu] 26 HM.out Try.rowRot rfl ?_; simp only [Act.put]) | (go_at_call 14; (with_reducible refine (HW.out _ (HR.out.below HB.out)).mono ?_); rintro e w1 ⟨rfl, hb1⟩; have nHM := Lib.hid (HM.out.below hb1); have nHA := Lib.hid (HA.out.below hb1); have nHS := Lib.hid (HS.out.below hb1); have nHB := Lib.hid (bthen HB.out hb1); have zz1 := hb1.size; clear HM HA HS HB hb1; have HM := nHM; have HA := nHA; have HS := nHS; have HB := nHB; clear nHM nHA nHS nHB) | (go_at_call 15; (with_reducible refine (works_c _).mono ?_); rintro e w1 ⟨rfl, hb1⟩; have nHM := Lib.hid (HM.out.below hb1); have nHA := Lib.hid (HA.out.below hb1); have nHS := Lib.hid (HS.out.below hb1); have nHB := Lib.hid (bthen HB.out hb1); have zz1 := hb1.size; clear HM HA HS HB hb1; have HM := nHM; have HA := nHA; have HS := nHS; have HB := nHB; clear nHM nHA nHS nHB) | (go_at_call 17; (with_reducible refine (own_c hx hy hv gx gy gv lx ly lv px py pv nx ny nv ax ay av cx cy cv dx dy dv cl bu S _ (HR.out.below HB.out) HN.out).mono ?_); rintro e w1 ⟨v, rfl, ho, hb1⟩; obtain ⟨hx', hy', hv', gx', gy', gv', lx', ly', lv', px', py', pv', nx', ny', nv', ax', ay', av', cx', cy', cv', dx', dy', dv', rfl, r1⟩ := ho; have HO := Lib.hid r1; clear r1; have nHM := Lib.hid (HM.out.below hb1); have nHA := Lib.hid (HA.out.below hb1); have nHS := Lib.hid (HS.out.below hb1); have nHB := Lib.hid (bthen HB.out hb1); have zz1 := hb1.size; clear HM HA HS HB hb1; have HM := nHM; have HA := nHA; have HS := nHS; have HB := nHB; clear nHM nHA nHS nHB; (try clear zHS); have zHS := HS.out.lt; (try clear cHS0); have cHS0 := HS.out.cell 0; (try clear cHS1); have cHS1 := HS.out.cell 1; (try clear cHS2); have cHS2 := HS.out.cell 2) | (refine wpl_store_new rfl 27 _ _ rfl #[hx', hy', hv', gx', gy', gv', lx', ly', lv', px', py', pv', nx', ny', nv', ax', ay', av', cx', cy', cv', dx', dy', dv', .int .i64 cl, .int .i64 bu] _ _ rfl ?_ rfl Try.sizeRot' rfl (RotAt.one26' HO.out) ?_; (focus (simp; done)); simp only [Act.put]) | (refine wpl_row rfl 27 _ rfl _ rfl #[hx', hy', hv', gx', gy', gv', lx', ly', lv', px', py', pv', nx', ny', nv', ax', ay', av', cx', cy', cv', dx', dy', dv', .int .i64 cl, .int .i64 bu] 26 (Blk.new _ _ _) Try.rowRot rfl ?_; simp only [Act.put]) | (refine wpl_row rfl 36 _ rfl _ rfl #[.int .i64 wl, .int .i64 wh, .int .i64 tl, .int .i64 th, .int .i64 el, .int .i64 eh, .int .i64 nl, .int .i64 nh] 8 (HA.out.alloc _) Try.rowAir rfl ?_; simp only [Act.put]))
      have bHQ := Blk.new w1 27 #[hx', hy', hv', gx', gy', gv', lx', ly', lv', px', py', pv', nx', ny', nv', ax', ay', av', cx', cy', cv', dx', dy', dv', .int .i64 cl, .int .i64 bu]
      have nHM := Lib.hid (HM.out.alloc (.cells #[hx', hy', hv', gx', gy', gv', lx', ly', lv', px', py', pv', nx', ny', nv', ax', ay', av', cx', cy', cv', dx', dy', dv', .int .i64 cl, .int .i64 bu] 27))
      have nHA := Lib.hid (HA.out.alloc (.cells #[hx', hy', hv', gx', gy', gv', lx', ly', lv', px', py', pv', nx', ny', nv', ax', ay', av', cx', cy', cv', dx', dy', dv', .int .i64 cl, .int .i64 bu] 27))
      have nHS := Lib.hid (HS.out.alloc (.cells #[hx', hy', hv', gx', gy', gv', lx', ly', lv', px', py', pv', nx', ny', nv', ax', ay', av', cx', cy', cv', dx', dy', dv', .int .i64 cl, .int .i64 bu] 27))
      have nHO := Lib.hid (HO.out.alloc (.cells #[hx', hy', hv', gx', gy', gv', lx', ly', lv', px', py', pv', nx', ny', nv', ax', ay', av', cx', cy', cv', dx', dy', dv', .int .i64 cl, .int .i64 bu] 27))
      have nHB := Lib.hid (bal HB.out (.cells #[hx', hy', hv', gx', gy', gv', lx', ly', lv', px', py', pv', nx', ny', nv', ax', ay', av', cx', cy', cv', dx', dy', dv', .int .i64 cl, .int .i64 bu] 27))
      clear HM HA HS HO HB
      have HM := nHM
      have HA := nHA
      have HS := nHS
      have HO := nHO
      have HB := nHB
      clear nHM nHA nHS nHO nHB
      generalize w1.alloc (.cells #[hx', hy', hv', gx', gy', gv', lx', ly', lv', px', py', pv', nx', ny', nv', ax', ay', av', cx', cy', cv', dx', dy', dv', .int .i64 cl, .int .i64 bu] 27) = W2 at *
      generalize w1.heap.size = gHQ at *
      have HQ := Lib.hid bHQ
      clear bHQ
      have zHS := HS.out.lt
      have cHS0 := HS.out.cell 0
      have cHS1 := HS.out.cell 1
      have cHS2 := HS.out.cell 2
      go_wp2_with (first | (go_at_call 19; (with_reducible refine (HK.out _ _ _ _ _ _ _ _ _ _ _ _ _ _ _ _ _ _ _ _ _ _ _ _ _ HO.out).mono ?_); rintro e w1 ⟨rfl, hb1⟩; have nHM := Lib.hid (HM.out.below hb1); have nHA := Lib.hid (HA.out.below hb1); have nHS := Lib.hid (HS.out.below hb1); have nHQ := Lib.hid (HQ.out.below hb1); have nHO := Lib.hid (HO.out.below hb1); have nHB := Lib.hid (bthen HB.out hb1); have zz1 := hb1.size; clear HM HA HS HQ HO HB hb1; have HM := nHM; have HA := nHA; have HS := nHS; have HQ := nHQ; have HO := nHO; have HB := nHB; clear nHM nHA nHS nHQ nHO nHB; (try clear zHS); have zHS := HS.out.lt; (try clear cHS0); have cHS0 := HS.out.cell 0; (try clear cHS1); have cHS1 := HS.out.cell 1; (try clear cHS2); have cHS2 := HS.out.cell 2) | (refine wpl_row rfl 27 _ rfl _ rfl #[hx, hy, hv, gx, gy, gv, lx, ly, lv, px, py, pv, nx, ny, nv, ax, ay, av, cx, cy, cv, dx, dy, dv, .int .i64 cl, .int .i64 bu] 26 HM.out Try.rowRot rfl ?_; simp only [Act.put]) | (refine wpl_row rfl 36 _ rfl _ rfl #[.int .i64 wl, .int .i64 wh, .int .i64 tl, .int .i64 th, .int .i64 el, .int .i64 eh, .int .i64 nl, .int .i64 nh] 8 HA.out Try.rowAir rfl ?_; simp only [Act.put]) | (go_at_call 20; (with_reducible refine (HK2.out _ (HR.out.below HB.out)).mono ?_); rintro e w1 ⟨rfl, hb1⟩; have nHM := Lib.hid (HM.out.below hb1); have nHA := Lib.hid (HA.out.below hb1); have nHS := Lib.hid (HS.out.below hb1); have nHQ := Lib.hid (HQ.out.below hb1); have nHO := Lib.hid (HO.out.below hb1); have nHB := Lib.hid (bthen HB.out hb1); have zz1 := hb1.size; clear HM HA HS HQ HO HB hb1; have HM := nHM; have HA := nHA; have HS := nHS; have HQ := nHQ; have HO := nHO; have HB := nHB; clear nHM nHA nHS nHQ nHO nHB; (try clear zHS); have zHS := HS.out.lt; (try clear cHS0); have cHS0 := HS.out.cell 0; (try clear cHS1); have cHS1 := HS.out.cell 1; (try clear cHS2); have cHS2 := HS.out.cell 2) | (go_at_call 15; (with_reducible refine (works_c _).mono ?_); rintro e w1 ⟨rfl, hb1⟩; have nHM := Lib.hid (HM.out.below hb1); have nHB := Lib.hid (bthen HB.out hb1); have zz1 := hb1.size; clear HM HB hb1; have HM := nHM; have HB := nHB; clear nHM nHB))
      go_ret
      exact ⟨rfl, HB.out⟩
  ·
    have HW := Lib.hid (fun w1 hR => far2_c hx hy hv gx gy gv lx ly lv px py pv nx ny nv ax ay av cx cy cv dx dy dv cl bu S w1 hR)
    rw [hf] at HW
    go_enter Try.func4, Try.ntmps4
    go_wp2_with (first | (refine wpl_row rfl 27 _ rfl _ rfl #[hx, hy, hv, gx, gy, gv, lx, ly, lv, px, py, pv, nx, ny, nv, ax, ay, av, cx, cy, cv, dx, dy, dv, .int .i64 cl, .int .i64 bu] 26 ?_ Try.rowRot rfl ?_; (focus exact (by repeat (first | (refine Blk.newAt _ _ _ ?_; first | rfl | (simp; done)) | refine Blk.alloc ?_ _))); simp only [Act.put]))
    have bHM : Blk (((w.alloc (.cells #[hx, hy, hv, gx, gy, gv, lx, ly, lv, px, py, pv, nx, ny, nv, ax, ay, av, cx, cy, cv, dx, dy, dv, .int .i64 cl, .int .i64 bu] 27)).alloc (.cells #[.int .i64 wl, .int .i64 wh, .int .i64 tl, .int .i64 th, .int .i64 el, .int .i64 eh, .int .i64 nl, .int .i64 nh] 36)).alloc (.cells #[.int .i64 sl, .int .i64 sh, .int .i64 res] 38)) (w.heap.size) 27 #[hx, hy, hv, gx, gy, gv, lx, ly, lv, px, py, pv, nx, ny, nv, ax, ay, av, cx, cy, cv, dx, dy, dv, .int .i64 cl, .int .i64 bu] := (by repeat (first | (refine Blk.newAt _ _ _ ?_; first | rfl | (simp; done)) | refine Blk.alloc ?_ _))
    have bHA : Blk (((w.alloc (.cells #[hx, hy, hv, gx, gy, gv, lx, ly, lv, px, py, pv, nx, ny, nv, ax, ay, av, cx, cy, cv, dx, dy, dv, .int .i64 cl, .int .i64 bu] 27)).alloc (.cells #[.int .i64 wl, .int .i64 wh, .int .i64 tl, .int .i64 th, .int .i64 el, .int .i64 eh, .int .i64 nl, .int .i64 nh] 36)).alloc (.cells #[.int .i64 sl, .int .i64 sh, .int .i64 res] 38)) (w.heap.size + 1) 36 #[.int .i64 wl, .int .i64 wh, .int .i64 tl, .int .i64 th, .int .i64 el, .int .i64 eh, .int .i64 nl, .int .i64 nh] := (by repeat (first | (refine Blk.newAt _ _ _ ?_; first | rfl | (simp; done)) | refine Blk.alloc ?_ _))
    have bHS : Blk (((w.alloc (.cells #[hx, hy, hv, gx, gy, gv, lx, ly, lv, px, py, pv, nx, ny, nv, ax, ay, av, cx, cy, cv, dx, dy, dv, .int .i64 cl, .int .i64 bu] 27)).alloc (.cells #[.int .i64 wl, .int .i64 wh, .int .i64 tl, .int .i64 th, .int .i64 el, .int .i64 eh, .int .i64 nl, .int .i64 nh] 36)).alloc (.cells #[.int .i64 sl, .int .i64 sh, .int .i64 res] 38)) (w.heap.size + 1 + 1) 38 #[.int .i64 sl, .int .i64 sh, .int .i64 res] := (by repeat (first | (refine Blk.newAt _ _ _ ?_; first | rfl | (simp; done)) | refine Blk.alloc ?_ _))
    have bHB : Below w.heap.size w (((w.alloc (.cells #[hx, hy, hv, gx, gy, gv, lx, ly, lv, px, py, pv, nx, ny, nv, ax, ay, av, cx, cy, cv, dx, dy, dv, .int .i64 cl, .int .i64 bu] 27)).alloc (.cells #[.int .i64 wl, .int .i64 wh, .int .i64 tl, .int .i64 th, .int .i64 el, .int .i64 eh, .int .i64 nl, .int .i64 nh] 36)).alloc (.cells #[.int .i64 sl, .int .i64 sh, .int .i64 res] 38)) := (by repeat' (first | exact Below.refl _ _ | assumption | refine Below.drew ?_ | refine bdn ?_ _ | refine bal ?_ _ | refine Below.setCell ?_ (by first | (simp; done) | omega | (simp; omega)) _))
    generalize (((w.alloc (.cells #[hx, hy, hv, gx, gy, gv, lx, ly, lv, px, py, pv, nx, ny, nv, ax, ay, av, cx, cy, cv, dx, dy, dv, .int .i64 cl, .int .i64 bu] 27)).alloc (.cells #[.int .i64 wl, .int .i64 wh, .int .i64 tl, .int .i64 th, .int .i64 el, .int .i64 eh, .int .i64 nl, .int .i64 nh] 36)).alloc (.cells #[.int .i64 sl, .int .i64 sh, .int .i64 res] 38)) = W at *
    have zW := bHS.lt
    have HM := Lib.hid bHM
    have HA := Lib.hid bHA
    have HS := Lib.hid bHS
    have HB := Lib.hid bHB
    clear bHM bHA bHS bHB
    go_wp2_with (first | (refine wpl_row rfl 27 _ rfl _ rfl #[hx, hy, hv, gx, gy, gv, lx, ly, lv, px, py, pv, nx, ny, nv, ax, ay, av, cx, cy, cv, dx, dy, dv, .int .i64 cl, .int .i64 bu] 26 HM.out Try.rowRot rfl ?_; simp only [Act.put]) | (go_at_call 14; (with_reducible refine (HW.out _ (HR.out.below HB.out)).mono ?_); rintro e w1 ⟨rfl, hb1⟩; have nHM := Lib.hid (HM.out.below hb1); have nHA := Lib.hid (HA.out.below hb1); have nHS := Lib.hid (HS.out.below hb1); have nHB := Lib.hid (bthen HB.out hb1); have zz1 := hb1.size; clear HM HA HS HB hb1; have HM := nHM; have HA := nHA; have HS := nHS; have HB := nHB; clear nHM nHA nHS nHB) | (go_at_call 15; (with_reducible refine (works_c _).mono ?_); rintro e w1 ⟨rfl, hb1⟩; have nHM := Lib.hid (HM.out.below hb1); have nHA := Lib.hid (HA.out.below hb1); have nHS := Lib.hid (HS.out.below hb1); have nHB := Lib.hid (bthen HB.out hb1); have zz1 := hb1.size; clear HM HA HS HB hb1; have HM := nHM; have HA := nHA; have HS := nHS; have HB := nHB; clear nHM nHA nHS nHB) | (go_at_call 17; (with_reducible refine (own_c hx hy hv gx gy gv lx ly lv px py pv nx ny nv ax ay av cx cy cv dx dy dv cl bu S _ (HR.out.below HB.out) HN.out).mono ?_); rintro e w1 ⟨v, rfl, ho, hb1⟩; obtain ⟨hx', hy', hv', gx', gy', gv', lx', ly', lv', px', py', pv', nx', ny', nv', ax', ay', av', cx', cy', cv', dx', dy', dv', rfl, r1⟩ := ho; have HO := Lib.hid r1; clear r1; have nHM := Lib.hid (HM.out.below hb1); have nHA := Lib.hid (HA.out.below hb1); have nHS := Lib.hid (HS.out.below hb1); have nHB := Lib.hid (bthen HB.out hb1); have zz1 := hb1.size; clear HM HA HS HB hb1; have HM := nHM; have HA := nHA; have HS := nHS; have HB := nHB; clear nHM nHA nHS nHB; (try clear zHS); have zHS := HS.out.lt; (try clear cHS0); have cHS0 := HS.out.cell 0; (try clear cHS1); have cHS1 := HS.out.cell 1; (try clear cHS2); have cHS2 := HS.out.cell 2) | (refine wpl_store_new rfl 27 _ _ rfl #[hx', hy', hv', gx', gy', gv', lx', ly', lv', px', py', pv', nx', ny', nv', ax', ay', av', cx', cy', cv', dx', dy', dv', .int .i64 cl, .int .i64 bu] _ _ rfl ?_ rfl Try.sizeRot' rfl (RotAt.one26' HO.out) ?_; (focus (simp; done)); simp only [Act.put]) | (refine wpl_row rfl 27 _ rfl _ rfl #[hx', hy', hv', gx', gy', gv', lx', ly', lv', px', py', pv', nx', ny', nv', ax', ay', av', cx', cy', cv', dx', dy', dv', .int .i64 cl, .int .i64 bu] 26 (Blk.new _ _ _) Try.rowRot rfl ?_; simp only [Act.put]) | (refine wpl_row rfl 36 _ rfl _ rfl #[.int .i64 wl, .int .i64 wh, .int .i64 tl, .int .i64 th, .int .i64 el, .int .i64 eh, .int .i64 nl, .int .i64 nh] 8 (HA.out.alloc _) Try.rowAir rfl ?_; simp only [Act.put]))
    go_ret
    exact ⟨rfl, HB.out⟩
end Go.Proofs.Ytoembbcddhlokaa
