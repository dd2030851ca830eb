/- The law RotorGlides. -/
import Derived.Test.YtoembbcddhlokaaLbO
import Derived.Test.YtoembbcddhlokaaRgL
import Derived.Test.YtoembbcddhlokaaRfS
set_option linter.all false
namespace Go.Proofs.Ytoembbcddhlokaa
open Go Go.RowKit Go.Proofs
set_option maxRecDepth 100000
set_option maxHeartbeats 8000000

/-- From a greater height it does not glide shorter. -/
theorem glide_mono {S : Tabs} {cl bu wl wh tl th el eh nl nh n h k : Int} (h1 : gliX S cl bu wl wh tl th el eh nl nh n h = 0) (h2 : gliX S cl bu wl wh tl th el eh nl nh n k = 0) (hk : h ≤ k) :
    gliT0 S cl bu wl wh tl th el eh nl nh n h ≤ gliT0 S cl bu wl wh tl th el eh nl nh n k ∧ gliT1 S cl bu wl wh tl th el eh nl nh n h ≤ gliT1 S cl bu wl wh tl th el eh nl nh n k ∧ gliF0 S cl bu wl wh tl th el eh nl nh n h ≤ gliF0 S cl bu wl wh tl th el eh nl nh n k ∧ gliF1 S cl bu wl wh tl th el eh nl nh n h ≤ gliF1 S cl bu wl wh tl th el eh nl nh n k := by
  unfold gliT0 gliT1 gliF0 gliF1
  rw [h1, h2]
  simp only [okN_ok]
  have e : gliE S cl bu wl wh tl th el eh nl nh n h = 0 := by
    by_cases e : gliE S cl bu wl wh tl th el eh nl nh n h = 0
    · exact e
    · rw [gliX_e e] at h1; exact absurd h1 e
  have hc : gliC S cl bu wl wh tl th el eh nl nh n = 0 := by
    by_cases c : gliC S cl bu wl wh tl th el eh nl nh n = 0
    · exact c
    · rw [gliC_no c] at e; exact absurd e c
  obtain ⟨e0, hr, hF⟩ := gliC_ok (h := h) hc
  rw [e0] at e
  have hn : inB n 0 1000000 = true := by
    cases c : inB n 0 1000000 with
    | true => rfl
    | false => rw [c, Bool.false_and, if_neg (by decide)] at e; cases e
  have n1 := inB_iff.1 hn
  have lim := bnd_lim (rotB_d hr) hF
  have m := Int.mul_le_mul_of_nonneg_left hk n1.1
  refine ⟨Int.ediv_le_ediv (by omega) hk, cdiv_le (by omega) hk, Int.ediv_le_ediv (by omega) m, cdiv_le (by omega) m⟩

theorem RotorGlides_c (hx hy hv gx gy gv lx ly lv px py pv nx ny nv ax ay av cx cy cv dx dy dv : Value) (cl bu : Int) (wl wh tl th el eh nl nh : Int) (S : Tabs) (n0 n1 n2 : Int) (w : World) (hR : RotAt w hx hy hv gx gy gv lx ly lv px py pv nx ny nv ax ay av cx cy cv dx dy dv cl bu S) (i0 : I64 n0) (i1 : I64 n1) (i2 : I64 n2) :
   Calls Try.prog 8 #[.agg #[hx, hy, hv, gx, gy, gv, lx, ly, lv, px, py, pv, nx, ny, nv, ax, ay, av, cx, cy, cv, dx, dy, dv, .int .i64 cl, .int .i64 bu], .agg #[.int .i64 wl, .int .i64 wh, .int .i64 tl, .int .i64 th, .int .i64 el, .int .i64 eh, .int .i64 nl, .int .i64 nh], .agg #[.int .i64 n0, .int .i64 n1, .int .i64 n2]] w fun e w' => e = .returned (.bool true) ∧ Below w.heap.size w w' := by
  have HR := Lib.hid hR
  clear hR
  cases hf : farS S
  case true =>
    have HW := Lib.hid (fun w1 hR => far2_c hx hy hv gx gy gv lx ly lv px py pv nx ny nv ax ay av cx cy cv dx dy dv cl bu S w1 hR)
    rw [hf] at HW
    go_enter Try.func8, Try.ntmps8
    go_wp2_with (first | (refine wpl_row rfl 27 _ rfl _ rfl #[hx, hy, hv, gx, gy, gv, lx, ly, lv, px, py, pv, nx, ny, nv, ax, ay, av, cx, cy, cv, dx, dy, dv, .int .i64 cl, .int .i64 bu] 26 ?_ Try.rowRot rfl ?_; (focus exact (by repeat (first | (refine Blk.newAt _ _ _ ?_; first | rfl | (simp; done)) | refine Blk.alloc ?_ _))); simp only [Act.put]))
    have bHM : Blk (((w.alloc (.cells #[hx, hy, hv, gx, gy, gv, lx, ly, lv, px, py, pv, nx, ny, nv, ax, ay, av, cx, cy, cv, dx, dy, dv, .int .i64 cl, .int .i64 bu] 27)).alloc (.cells #[.int .i64 wl, .int .i64 wh, .int .i64 tl, .int .i64 th, .int .i64 el, .int .i64 eh, .int .i64 nl, .int .i64 nh] 36)).alloc (.cells #[.int .i64 n0, .int .i64 n1, .int .i64 n2] 62)) (w.heap.size) 27 #[hx, hy, hv, gx, gy, gv, lx, ly, lv, px, py, pv, nx, ny, nv, ax, ay, av, cx, cy, cv, dx, dy, dv, .int .i64 cl, .int .i64 bu] := (by repeat (first | (refine Blk.newAt _ _ _ ?_; first | rfl | (simp; done)) | refine Blk.alloc ?_ _))
    have bHA : Blk (((w.alloc (.cells #[hx, hy, hv, gx, gy, gv, lx, ly, lv, px, py, pv, nx, ny, nv, ax, ay, av, cx, cy, cv, dx, dy, dv, .int .i64 cl, .int .i64 bu] 27)).alloc (.cells #[.int .i64 wl, .int .i64 wh, .int .i64 tl, .int .i64 th, .int .i64 el, .int .i64 eh, .int .i64 nl, .int .i64 nh] 36)).alloc (.cells #[.int .i64 n0, .int .i64 n1, .int .i64 n2] 62)) (w.heap.size + 1) 36 #[.int .i64 wl, .int .i64 wh, .int .i64 tl, .int .i64 th, .int .i64 el, .int .i64 eh, .int .i64 nl, .int .i64 nh] := (by repeat (first | (refine Blk.newAt _ _ _ ?_; first | rfl | (simp; done)) | refine Blk.alloc ?_ _))
    have bHS : Blk (((w.alloc (.cells #[hx, hy, hv, gx, gy, gv, lx, ly, lv, px, py, pv, nx, ny, nv, ax, ay, av, cx, cy, cv, dx, dy, dv, .int .i64 cl, .int .i64 bu] 27)).alloc (.cells #[.int .i64 wl, .int .i64 wh, .int .i64 tl, .int .i64 th, .int .i64 el, .int .i64 eh, .int .i64 nl, .int .i64 nh] 36)).alloc (.cells #[.int .i64 n0, .int .i64 n1, .int .i64 n2] 62)) (w.heap.size + 1 + 1) 62 #[.int .i64 n0, .int .i64 n1, .int .i64 n2] := (by repeat (first | (refine Blk.newAt _ _ _ ?_; first | rfl | (simp; done)) | refine Blk.alloc ?_ _))
    have bHB : Below w.heap.size w (((w.alloc (.cells #[hx, hy, hv, gx, gy, gv, lx, ly, lv, px, py, pv, nx, ny, nv, ax, ay, av, cx, cy, cv, dx, dy, dv, .int .i64 cl, .int .i64 bu] 27)).alloc (.cells #[.int .i64 wl, .int .i64 wh, .int .i64 tl, .int .i64 th, .int .i64 el, .int .i64 eh, .int .i64 nl, .int .i64 nh] 36)).alloc (.cells #[.int .i64 n0, .int .i64 n1, .int .i64 n2] 62)) := (by repeat' (first | exact Below.refl _ _ | assumption | refine Below.drew ?_ | refine bdn ?_ _ | refine bal ?_ _ | refine Below.setCell ?_ (by first | (simp; done) | omega | (simp; omega)) _))
    generalize (((w.alloc (.cells #[hx, hy, hv, gx, gy, gv, lx, ly, lv, px, py, pv, nx, ny, nv, ax, ay, av, cx, cy, cv, dx, dy, dv, .int .i64 cl, .int .i64 bu] 27)).alloc (.cells #[.int .i64 wl, .int .i64 wh, .int .i64 tl, .int .i64 th, .int .i64 el, .int .i64 eh, .int .i64 nl, .int .i64 nh] 36)).alloc (.cells #[.int .i64 n0, .int .i64 n1, .int .i64 n2] 62)) = W at *
    have zW := bHS.lt
    have HM := Lib.hid bHM
    have HA := Lib.hid bHA
    have HS := Lib.hid bHS
    have HB := Lib.hid bHB
    clear bHM bHA bHS bHB
    go_wp2_with (first | (refine wpl_row rfl 27 _ rfl _ rfl #[hx, hy, hv, gx, gy, gv, lx, ly, lv, px, py, pv, nx, ny, nv, ax, ay, av, cx, cy, cv, dx, dy, dv, .int .i64 cl, .int .i64 bu] 26 HM.out Try.rowRot rfl ?_; simp only [Act.put]) | (go_at_call 14; (with_reducible refine (HW.out _ (HR.out.below HB.out)).mono ?_); rintro e w1 ⟨rfl, hb1⟩; have nHM := Lib.hid (HM.out.below hb1); have nHA := Lib.hid (HA.out.below hb1); have nHS := Lib.hid (HS.out.below hb1); have nHB := Lib.hid (bthen HB.out hb1); have zz1 := hb1.size; clear HM HA HS HB hb1; have HM := nHM; have HA := nHA; have HS := nHS; have HB := nHB; clear nHM nHA nHS nHB) | (go_at_call 15; (with_reducible refine (works_c _).mono ?_); rintro e w1 ⟨rfl, hb1⟩; have nHM := Lib.hid (HM.out.below hb1); have nHA := Lib.hid (HA.out.below hb1); have nHS := Lib.hid (HS.out.below hb1); have nHB := Lib.hid (bthen HB.out hb1); have zz1 := hb1.size; clear HM HA HS HB hb1; have HM := nHM; have HA := nHA; have HS := nHS; have HB := nHB; clear nHM nHA nHS nHB) | (go_at_call 17; (with_reducible refine (own_c hx hy hv gx gy gv lx ly lv px py pv nx ny nv ax ay av cx cy cv dx dy dv cl bu S _ (HR.out.below HB.out) HN.out).mono ?_); rintro e w1 ⟨v, rfl, ho, hb1⟩; obtain ⟨hx', hy', hv', gx', gy', gv', lx', ly', lv', px', py', pv', nx', ny', nv', ax', ay', av', cx', cy', cv', dx', dy', dv', rfl, r1⟩ := ho; have HO := Lib.hid r1; clear r1; have nHM := Lib.hid (HM.out.below hb1); have nHA := Lib.hid (HA.out.below hb1); have nHS := Lib.hid (HS.out.below hb1); have nHB := Lib.hid (bthen HB.out hb1); have zz1 := hb1.size; clear HM HA HS HB hb1; have HM := nHM; have HA := nHA; have HS := nHS; have HB := nHB; clear nHM nHA nHS nHB; (try clear zHS); have zHS := HS.out.lt; (try clear cHS0); have cHS0 := HS.out.cell 0; (try clear cHS1); have cHS1 := HS.out.cell 1; (try clear cHS2); have cHS2 := HS.out.cell 2) | (refine wpl_store_new rfl 27 _ _ rfl #[hx', hy', hv', gx', gy', gv', lx', ly', lv', px', py', pv', nx', ny', nv', ax', ay', av', cx', cy', cv', dx', dy', dv', .int .i64 cl, .int .i64 bu] _ _ rfl ?_ rfl Try.sizeRot' rfl (RotAt.one26' HO.out) ?_; (focus (simp; done)); simp only [Act.put]) | (refine wpl_row rfl 27 _ rfl _ rfl #[hx', hy', hv', gx', gy', gv', lx', ly', lv', px', py', pv', nx', ny', nv', ax', ay', av', cx', cy', cv', dx', dy', dv', .int .i64 cl, .int .i64 bu] 26 (Blk.new _ _ _) Try.rowRot rfl ?_; simp only [Act.put]) | (refine wpl_row rfl 36 _ rfl _ rfl #[.int .i64 wl, .int .i64 wh, .int .i64 tl, .int .i64 th, .int .i64 el, .int .i64 eh, .int .i64 nl, .int .i64 nh] 8 (HA.out.alloc _) Try.rowAir rfl ?_; simp only [Act.put]))
    go_ret
    exact ⟨rfl, HB.out⟩
  have HN := Lib.hid (farS_near hf)
  have HK := Lib.hid (fun w1 hx hy hv gx gy gv lx ly lv px py pv nx ny nv ax ay av cx cy cv dx dy dv hR => Glide_c hx hy hv gx gy gv lx ly lv px py pv nx ny nv ax ay av cx cy cv dx dy dv cl bu wl wh tl th el eh nl nh S n0 n1 w1 hR i0 i1)
  have HK2 := Lib.hid (fun w1 hx hy hv gx gy gv lx ly lv px py pv nx ny nv ax ay av cx cy cv dx dy dv hR => Glide_c hx hy hv gx gy gv lx ly lv px py pv nx ny nv ax ay av cx cy cv dx dy dv cl bu wl wh tl th el eh nl nh S n0 n2 w1 hR i0 i2)
  have HF := Lib.hid (fun w1 hR => rf2_Glide_c hx hy hv gx gy gv lx ly lv px py pv nx ny nv ax ay av cx cy cv dx dy dv cl bu wl wh tl th el eh nl nh S n0 n1 w1 hR)
  have mo := fun a b c => glide_mono (S := S) (cl := cl) (bu := bu) (wl := wl) (wh := wh) (tl := tl) (th := th) (el := el) (eh := eh) (nl := nl) (nh := nh) (n := n0) (h := n1) (k := n2) a b c
  generalize gliT0 S cl bu wl wh tl th el eh nl nh n0 n1 = T0 at *
  generalize gliT1 S cl bu wl wh tl th el eh nl nh n0 n1 = T1 at *
  generalize gliF0 S cl bu wl wh tl th el eh nl nh n0 n1 = F0 at *
  generalize gliF1 S cl bu wl wh tl th el eh nl nh n0 n1 = F1 at *
  generalize gliX S cl bu wl wh tl th el eh nl nh n0 n1 = E1 at *
  generalize gliT0 S cl bu wl wh tl th el eh nl nh n0 n2 = U0 at *
  generalize gliT1 S cl bu wl wh tl th el eh nl nh n0 n2 = U1 at *
  generalize gliF0 S cl bu wl wh tl th el eh nl nh n0 n2 = V0 at *
  generalize gliF1 S cl bu wl wh tl th el eh nl nh n0 n2 = V1 at *
  generalize gliX S cl bu wl wh tl th el eh nl nh n0 n2 = E2 at *
  clear i0 i1 i2
  by_cases e1 : E1 = 0
  case neg =>
    have hne : (E1 != 0) = true := by simpa using e1
    clear mo e1
    have HW := Lib.hid (fun w1 hR => far2_c hx hy hv gx gy gv lx ly lv px py pv nx ny nv ax ay av cx cy cv dx dy dv cl bu S w1 hR)
    rw [hf] at HW
    go_enter Try.func8, Try.ntmps8
    go_wp2_with (first | (refine wpl_row rfl 27 _ rfl _ rfl #[hx, hy, hv, gx, gy, gv, lx, ly, lv, px, py, pv, nx, ny, nv, ax, ay, av, cx, cy, cv, dx, dy, dv, .int .i64 cl, .int .i64 bu] 26 ?_ Try.rowRot rfl ?_; (focus exact (by repeat (first | (refine Blk.newAt _ _ _ ?_; first | rfl | (simp; done)) | refine Blk.alloc ?_ _))); simp only [Act.put]))
    have bHM : Blk (((w.alloc (.cells #[hx, hy, hv, gx, gy, gv, lx, ly, lv, px, py, pv, nx, ny, nv, ax, ay, av, cx, cy, cv, dx, dy, dv, .int .i64 cl, .int .i64 bu] 27)).alloc (.cells #[.int .i64 wl, .int .i64 wh, .int .i64 tl, .int .i64 th, .int .i64 el, .int .i64 eh, .int .i64 nl, .int .i64 nh] 36)).alloc (.cells #[.int .i64 n0, .int .i64 n1, .int .i64 n2] 62)) (w.heap.size) 27 #[hx, hy, hv, gx, gy, gv, lx, ly, lv, px, py, pv, nx, ny, nv, ax, ay, av, cx, cy, cv, dx, dy, dv, .int .i64 cl, .int .i64 bu] := (by repeat (first | (refine Blk.newAt _ _ _ ?_; first | rfl | (simp; done)) | refine Blk.alloc ?_ _))
    have bHA : Blk (((w.alloc (.cells #[hx, hy, hv, gx, gy, gv, lx, ly, lv, px, py, pv, nx, ny, nv, ax, ay, av, cx, cy, cv, dx, dy, dv, .int .i64 cl, .int .i64 bu] 27)).alloc (.cells #[.int .i64 wl, .int .i64 wh, .int .i64 tl, .int .i64 th, .int .i64 el, .int .i64 eh, .int .i64 nl, .int .i64 nh] 36)).alloc (.cells #[.int .i64 n0, .int .i64 n1, .int .i64 n2] 62)) (w.heap.size + 1) 36 #[.int .i64 wl, .int .i64 wh, .int .i64 tl, .int .i64 th, .int .i64 el, .int .i64 eh, .int .i64 nl, .int .i64 nh] := (by repeat (first | (refine Blk.newAt _ _ _ ?_; first | rfl | (simp; done)) | refine Blk.alloc ?_ _))
    have bHS : Blk (((w.alloc (.cells #[hx, hy, hv, gx, gy, gv, lx, ly, lv, px, py, pv, nx, ny, nv, ax, ay, av, cx, cy, cv, dx, dy, dv, .int .i64 cl, .int .i64 bu] 27)).alloc (.cells #[.int .i64 wl, .int .i64 wh, .int .i64 tl, .int .i64 th, .int .i64 el, .int .i64 eh, .int .i64 nl, .int .i64 nh] 36)).alloc (.cells #[.int .i64 n0, .int .i64 n1, .int .i64 n2] 62)) (w.heap.size + 1 + 1) 62 #[.int .i64 n0, .int .i64 n1, .int .i64 n2] := (by repeat (first | (refine Blk.newAt _ _ _ ?_; first | rfl | (simp; done)) | refine Blk.alloc ?_ _))
    have bHB : Below w.heap.size w (((w.alloc (.cells #[hx, hy, hv, gx, gy, gv, lx, ly, lv, px, py, pv, nx, ny, nv, ax, ay, av, cx, cy, cv, dx, dy, dv, .int .i64 cl, .int .i64 bu] 27)).alloc (.cells #[.int .i64 wl, .int .i64 wh, .int .i64 tl, .int .i64 th, .int .i64 el, .int .i64 eh, .int .i64 nl, .int .i64 nh] 36)).alloc (.cells #[.int .i64 n0, .int .i64 n1, .int .i64 n2] 62)) := (by repeat' (first | exact Below.refl _ _ | assumption | refine Below.drew ?_ | refine bdn ?_ _ | refine bal ?_ _ | refine Below.setCell ?_ (by first | (simp; done) | omega | (simp; omega)) _))
    generalize (((w.alloc (.cells #[hx, hy, hv, gx, gy, gv, lx, ly, lv, px, py, pv, nx, ny, nv, ax, ay, av, cx, cy, cv, dx, dy, dv, .int .i64 cl, .int .i64 bu] 27)).alloc (.cells #[.int .i64 wl, .int .i64 wh, .int .i64 tl, .int .i64 th, .int .i64 el, .int .i64 eh, .int .i64 nl, .int .i64 nh] 36)).alloc (.cells #[.int .i64 n0, .int .i64 n1, .int .i64 n2] 62)) = W at *
    have zW := bHS.lt
    have HM := Lib.hid bHM
    have HA := Lib.hid bHA
    have HS := Lib.hid bHS
    have HB := Lib.hid bHB
    clear bHM bHA bHS bHB
    go_wp2_with (first | (refine wpl_row rfl 27 _ rfl _ rfl #[hx, hy, hv, gx, gy, gv, lx, ly, lv, px, py, pv, nx, ny, nv, ax, ay, av, cx, cy, cv, dx, dy, dv, .int .i64 cl, .int .i64 bu] 26 HM.out Try.rowRot rfl ?_; simp only [Act.put]) | (go_at_call 14; (with_reducible refine (HW.out _ (HR.out.below HB.out)).mono ?_); rintro e w1 ⟨rfl, hb1⟩; have nHM := Lib.hid (HM.out.below hb1); have nHA := Lib.hid (HA.out.below hb1); have nHS := Lib.hid (HS.out.below hb1); have nHB := Lib.hid (bthen HB.out hb1); have zz1 := hb1.size; clear HM HA HS HB hb1; have HM := nHM; have HA := nHA; have HS := nHS; have HB := nHB; clear nHM nHA nHS nHB) | (go_at_call 15; (with_reducible refine (works_c _).mono ?_); rintro e w1 ⟨rfl, hb1⟩; have nHM := Lib.hid (HM.out.below hb1); have nHA := Lib.hid (HA.out.below hb1); have nHS := Lib.hid (HS.out.below hb1); have nHB := Lib.hid (bthen HB.out hb1); have zz1 := hb1.size; clear HM HA HS HB hb1; have HM := nHM; have HA := nHA; have HS := nHS; have HB := nHB; clear nHM nHA nHS nHB) | (go_at_call 17; (with_reducible refine (own_c hx hy hv gx gy gv lx ly lv px py pv nx ny nv ax ay av cx cy cv dx dy dv cl bu S _ (HR.out.below HB.out) HN.out).mono ?_); rintro e w1 ⟨v, rfl, ho, hb1⟩; obtain ⟨hx', hy', hv', gx', gy', gv', lx', ly', lv', px', py', pv', nx', ny', nv', ax', ay', av', cx', cy', cv', dx', dy', dv', rfl, r1⟩ := ho; have HO := Lib.hid r1; clear r1; have nHM := Lib.hid (HM.out.below hb1); have nHA := Lib.hid (HA.out.below hb1); have nHS := Lib.hid (HS.out.below hb1); have nHB := Lib.hid (bthen HB.out hb1); have zz1 := hb1.size; clear HM HA HS HB hb1; have HM := nHM; have HA := nHA; have HS := nHS; have HB := nHB; clear nHM nHA nHS nHB; (try clear zHS); have zHS := HS.out.lt; (try clear cHS0); have cHS0 := HS.out.cell 0; (try clear cHS1); have cHS1 := HS.out.cell 1; (try clear cHS2); have cHS2 := HS.out.cell 2) | (refine wpl_store_new rfl 27 _ _ rfl #[hx', hy', hv', gx', gy', gv', lx', ly', lv', px', py', pv', nx', ny', nv', ax', ay', av', cx', cy', cv', dx', dy', dv', .int .i64 cl, .int .i64 bu] _ _ rfl ?_ rfl Try.sizeRot' rfl (RotAt.one26' HO.out) ?_; (focus (simp; done)); simp only [Act.put]) | (refine wpl_row rfl 27 _ rfl _ rfl #[hx', hy', hv', gx', gy', gv', lx', ly', lv', px', py', pv', nx', ny', nv', ax', ay', av', cx', cy', cv', dx', dy', dv', .int .i64 cl, .int .i64 bu] 26 (Blk.new _ _ _) Try.rowRot rfl ?_; simp only [Act.put]) | (refine wpl_row rfl 36 _ rfl _ rfl #[.int .i64 wl, .int .i64 wh, .int .i64 tl, .int .i64 th, .int .i64 el, .int .i64 eh, .int .i64 nl, .int .i64 nh] 8 (HA.out.alloc _) Try.rowAir rfl ?_; simp only [Act.put]))
    have bHQ := Blk.new w1 27 #[hx', hy', hv', gx', gy', gv', lx', ly', lv', px', py', pv', nx', ny', nv', ax', ay', av', cx', cy', cv', dx', dy', dv', .int .i64 cl, .int .i64 bu]
    have nHM := Lib.hid (HM.out.alloc (.cells #[hx', hy', hv', gx', gy', gv', lx', ly', lv', px', py', pv', nx', ny', nv', ax', ay', av', cx', cy', cv', dx', dy', dv', .int .i64 cl, .int .i64 bu] 27))
    have nHA := Lib.hid (HA.out.alloc (.cells #[hx', hy', hv', gx', gy', gv', lx', ly', lv', px', py', pv', nx', ny', nv', ax', ay', av', cx', cy', cv', dx', dy', dv', .int .i64 cl, .int .i64 bu] 27))
    have nHS := Lib.hid (HS.out.alloc (.cells #[hx', hy', hv', gx', gy', gv', lx', ly', lv', px', py', pv', nx', ny', nv', ax', ay', av', cx', cy', cv', dx', dy', dv', .int .i64 cl, .int .i64 bu] 27))
    have nHO := Lib.hid (HO.out.alloc (.cells #[hx', hy', hv', gx', gy', gv', lx', ly', lv', px', py', pv', nx', ny', nv', ax', ay', av', cx', cy', cv', dx', dy', dv', .int .i64 cl, .int .i64 bu] 27))
    have nHB := Lib.hid (bal HB.out (.cells #[hx', hy', hv', gx', gy', gv', lx', ly', lv', px', py', pv', nx', ny', nv', ax', ay', av', cx', cy', cv', dx', dy', dv', .int .i64 cl, .int .i64 bu] 27))
    clear HM HA HS HO HB
    have HM := nHM
    have HA := nHA
    have HS := nHS
    have HO := nHO
    have HB := nHB
    clear nHM nHA nHS nHO nHB
    generalize w1.alloc (.cells #[hx', hy', hv', gx', gy', gv', lx', ly', lv', px', py', pv', nx', ny', nv', ax', ay', av', cx', cy', cv', dx', dy', dv', .int .i64 cl, .int .i64 bu] 27) = W2 at *
    generalize w1.heap.size = gHQ at *
    have HQ := Lib.hid bHQ
    clear bHQ
    go_wp2_with (first | (go_at_call 35; (with_reducible refine (HK.out _ _ _ _ _ _ _ _ _ _ _ _ _ _ _ _ _ _ _ _ _ _ _ _ _ HO.out).mono ?_); rintro e w1 ⟨rfl, hb1⟩; have nHM := Lib.hid (HM.out.below hb1); have nHA := Lib.hid (HA.out.below hb1); have nHS := Lib.hid (HS.out.below hb1); have nHQ := Lib.hid (HQ.out.below hb1); have nHO := Lib.hid (HO.out.below hb1); have nHB := Lib.hid (bthen HB.out hb1); have zz1 := hb1.size; clear HM HA HS HQ HO HB hb1; have HM := nHM; have HA := nHA; have HS := nHS; have HQ := nHQ; have HO := nHO; have HB := nHB; clear nHM nHA nHS nHQ nHO nHB; (try clear zHS); have zHS := HS.out.lt; (try clear cHS0); have cHS0 := HS.out.cell 0; (try clear cHS1); have cHS1 := HS.out.cell 1; (try clear cHS2); have cHS2 := HS.out.cell 2; (try clear s1); have s1 := (show w.heap.size + 1 < w1.heap.size by omega); (try clear s2); have s2 := (show w.heap.size + 1 + 1 < w1.heap.size + 1 by omega)) | (refine wpl_row rfl 27 _ rfl _ rfl #[hx, hy, hv, gx, gy, gv, lx, ly, lv, px, py, pv, nx, ny, nv, ax, ay, av, cx, cy, cv, dx, dy, dv, .int .i64 cl, .int .i64 bu] 26 ((HM.out.alloc _).alloc _) Try.rowRot rfl ?_; simp only [Act.put]) | (refine wpl_row rfl 36 _ rfl _ rfl #[.int .i64 wl, .int .i64 wh, .int .i64 tl, .int .i64 th, .int .i64 el, .int .i64 eh, .int .i64 nl, .int .i64 nh] 8 ((HA.out.alloc _).alloc _) Try.rowAir rfl ?_; simp only [Act.put]))
    have bN1 := (Blk.new w1 34 #[.int .i64 T0, .int .i64 T1]).alloc (.cells #[.int .i64 F0, .int .i64 F1] 34)
    have bN2 := Blk.new (w1.alloc (.cells #[.int .i64 T0, .int .i64 T1] 34)) 34 #[.int .i64 F0, .int .i64 F1]
    simp only [World.size_alloc] at bN2
    have nHM := Lib.hid ((HM.out.alloc (.cells #[.int .i64 T0, .int .i64 T1] 34)).alloc (.cells #[.int .i64 F0, .int .i64 F1] 34))
    have nHA := Lib.hid ((HA.out.alloc (.cells #[.int .i64 T0, .int .i64 T1] 34)).alloc (.cells #[.int .i64 F0, .int .i64 F1] 34))
    have nHS := Lib.hid ((HS.out.alloc (.cells #[.int .i64 T0, .int .i64 T1] 34)).alloc (.cells #[.int .i64 F0, .int .i64 F1] 34))
    have nHQ := Lib.hid ((HQ.out.alloc (.cells #[.int .i64 T0, .int .i64 T1] 34)).alloc (.cells #[.int .i64 F0, .int .i64 F1] 34))
    have nHO := Lib.hid ((HO.out.alloc (.cells #[.int .i64 T0, .int .i64 T1] 34)).alloc (.cells #[.int .i64 F0, .int .i64 F1] 34))
    have nHB := Lib.hid (bal (bal HB.out (.cells #[.int .i64 T0, .int .i64 T1] 34)) (.cells #[.int .i64 F0, .int .i64 F1] 34))
    clear HM HA HS HQ HO HB
    have HM := nHM
    have HA := nHA
    have HS := nHS
    have HQ := nHQ
    have HO := nHO
    have HB := nHB
    clear nHM nHA nHS nHQ nHO nHB
    generalize (w1.alloc (.cells #[.int .i64 T0, .int .i64 T1] 34)).alloc (.cells #[.int .i64 F0, .int .i64 F1] 34) = W2 at *
    generalize w1.heap.size = gN1 at *
    have N1 := Lib.hid bN1
    have N2 := Lib.hid bN2
    clear bN1 bN2
    go_wp2_with (first | (go_at_call 36; (with_reducible refine (HF.out _ (HR.out.below HB.out)).mono ?_); rintro e w1 ⟨rfl, hb1⟩; have nHM := Lib.hid (HM.out.below hb1); have nHA := Lib.hid (HA.out.below hb1); have nHS := Lib.hid (HS.out.below hb1); have nHQ := Lib.hid (HQ.out.below hb1); have nHO := Lib.hid (HO.out.below hb1); have nN1 := Lib.hid (N1.out.below hb1); have nN2 := Lib.hid (N2.out.below hb1); have nHB := Lib.hid (bthen HB.out hb1); have zz1 := hb1.size; clear HM HA HS HQ HO N1 N2 HB hb1; have HM := nHM; have HA := nHA; have HS := nHS; have HQ := nHQ; have HO := nHO; have N1 := nN1; have N2 := nN2; have HB := nHB; clear nHM nHA nHS nHQ nHO nN1 nN2 nHB; (try clear zHS); have zHS := HS.out.lt; (try clear cHS0); have cHS0 := HS.out.cell 0; (try clear cHS1); have cHS1 := HS.out.cell 1; (try clear cHS2); have cHS2 := HS.out.cell 2; (try clear zN1); have zN1 := N1.out.lt; (try clear cN10); have cN10 := N1.out.cell 0; (try clear cN11); have cN11 := N1.out.cell 1; (try clear zN2); have zN2 := N2.out.lt; (try clear cN20); have cN20 := N2.out.cell 0; (try clear cN21); have cN21 := N2.out.cell 1; (try clear s1); have s1 := (show w.heap.size + 1 < w1.heap.size by omega); (try clear s2); have s2 := (show w.heap.size + 1 + 1 < w1.heap.size + 1 by omega); (try clear s3); have s3 := (show gN1 < w1.heap.size + 1 by omega); (try clear s4); have s4 := (show gN1 + 1 < w1.heap.size + 1 by omega); (try clear s5); have s5 := (show gN1 ≤ w1.heap.size by omega)) | (refine wpl_row rfl 27 _ rfl _ rfl #[hx', hy', hv', gx', gy', gv', lx', ly', lv', px', py', pv', nx', ny', nv', ax', ay', av', cx', cy', cv', dx', dy', dv', .int .i64 cl, .int .i64 bu] 26 ((HQ.out.alloc _).alloc _) Try.rowRot rfl ?_; simp only [Act.put]) | (refine wpl_row rfl 36 _ rfl _ rfl #[.int .i64 wl, .int .i64 wh, .int .i64 tl, .int .i64 th, .int .i64 el, .int .i64 eh, .int .i64 nl, .int .i64 nh] 8 ((HA.out.alloc _).alloc _) Try.rowAir rfl ?_; simp only [Act.put]))
    have bN3 := (Blk.new w1 34 #[.int .i64 T0, .int .i64 T1]).alloc (.cells #[.int .i64 F0, .int .i64 F1] 34)
    have bN4 := Blk.new (w1.alloc (.cells #[.int .i64 T0, .int .i64 T1] 34)) 34 #[.int .i64 F0, .int .i64 F1]
    simp only [World.size_alloc] at bN4
    have nHM := Lib.hid ((HM.out.alloc (.cells #[.int .i64 T0, .int .i64 T1] 34)).alloc (.cells #[.int .i64 F0, .int .i64 F1] 34))
    have nHA := Lib.hid ((HA.out.alloc (.cells #[.int .i64 T0, .int .i64 T1] 34)).alloc (.cells #[.int .i64 F0, .int .i64 F1] 34))
    have nHS := Lib.hid ((HS.out.alloc (.cells #[.int .i64 T0, .int .i64 T1] 34)).alloc (.cells #[.int .i64 F0, .int .i64 F1] 34))
    have nHQ := Lib.hid ((HQ.out.alloc (.cells #[.int .i64 T0, .int .i64 T1] 34)).alloc (.cells #[.int .i64 F0, .int .i64 F1] 34))
    have nHO := Lib.hid ((HO.out.alloc (.cells #[.int .i64 T0, .int .i64 T1] 34)).alloc (.cells #[.int .i64 F0, .int .i64 F1] 34))
    have nN1 := Lib.hid ((N1.out.alloc (.cells #[.int .i64 T0, .int .i64 T1] 34)).alloc (.cells #[.int .i64 F0, .int .i64 F1] 34))
    have nN2 := Lib.hid ((N2.out.alloc (.cells #[.int .i64 T0, .int .i64 T1] 34)).alloc (.cells #[.int .i64 F0, .int .i64 F1] 34))
    have nHB := Lib.hid (bal (bal HB.out (.cells #[.int .i64 T0, .int .i64 T1] 34)) (.cells #[.int .i64 F0, .int .i64 F1] 34))
    clear HM HA HS HQ HO N1 N2 HB
    have HM := nHM
    have HA := nHA
    have HS := nHS
    have HQ := nHQ
    have HO := nHO
    have N1 := nN1
    have N2 := nN2
    have HB := nHB
    clear nHM nHA nHS nHQ nHO nN1 nN2 nHB
    generalize (w1.alloc (.cells #[.int .i64 T0, .int .i64 T1] 34)).alloc (.cells #[.int .i64 F0, .int .i64 F1] 34) = W2 at *
    generalize w1.heap.size = gN3 at *
    have N3 := Lib.hid bN3
    have N4 := Lib.hid bN4
    clear bN3 bN4
    go_wp2_with (first | (go_at_call 35; (with_reducible refine (HK2.out _ _ _ _ _ _ _ _ _ _ _ _ _ _ _ _ _ _ _ _ _ _ _ _ _ HO.out).mono ?_); rintro e w1 ⟨rfl, hb1⟩; have nHM := Lib.hid (HM.out.below hb1); have nHA := Lib.hid (HA.out.below hb1); have nHS := Lib.hid (HS.out.below hb1); have nHQ := Lib.hid (HQ.out.below hb1); have nHO := Lib.hid (HO.out.below hb1); have nN1 := Lib.hid (N1.out.below hb1); have nN2 := Lib.hid (N2.out.below hb1); have nHB := Lib.hid (bthen HB.out hb1); have zz1 := hb1.size; clear HM HA HS HQ HO N1 N2 HB hb1; have HM := nHM; have HA := nHA; have HS := nHS; have HQ := nHQ; have HO := nHO; have N1 := nN1; have N2 := nN2; have HB := nHB; clear nHM nHA nHS nHQ nHO nN1 nN2 nHB; (try clear zHS); have zHS := HS.out.lt; (try clear cHS0); have cHS0 := HS.out.cell 0; (try clear cHS1); have cHS1 := HS.out.cell 1; (try clear cHS2); have cHS2 := HS.out.cell 2; (try clear zN1); have zN1 := N1.out.lt; (try clear cN10); have cN10 := N1.out.cell 0; (try clear cN11); have cN11 := N1.out.cell 1; (try clear zN2); have zN2 := N2.out.lt; (try clear cN20); have cN20 := N2.out.cell 0; (try clear cN21); have cN21 := N2.out.cell 1; (try clear s1); have s1 := (show w.heap.size + 1 < w1.heap.size by omega); (try clear s2); have s2 := (show w.heap.size + 1 + 1 < w1.heap.size + 1 by omega); (try clear s3); have s3 := (show gN1 < w1.heap.size + 1 by omega); (try clear s4); have s4 := (show gN1 + 1 < w1.heap.size + 1 by omega); (try clear s5); have s5 := (show gN1 ≤ w1.heap.size by omega)))
    have bN5 := (Blk.new w1 34 #[.int .i64 U0, .int .i64 U1]).alloc (.cells #[.int .i64 V0, .int .i64 V1] 34)
    have bN6 := Blk.new (w1.alloc (.cells #[.int .i64 U0, .int .i64 U1] 34)) 34 #[.int .i64 V0, .int .i64 V1]
    simp only [World.size_alloc] at bN6
    have nHM := Lib.hid ((HM.out.alloc (.cells #[.int .i64 U0, .int .i64 U1] 34)).alloc (.cells #[.int .i64 V0, .int .i64 V1] 34))
    have nHB := Lib.hid (bal (bal HB.out (.cells #[.int .i64 U0, .int .i64 U1] 34)) (.cells #[.int .i64 V0, .int .i64 V1] 34))
    clear HM HB
    have HM := nHM
    have HB := nHB
    clear nHM nHB
    generalize (w1.alloc (.cells #[.int .i64 U0, .int .i64 U1] 34)).alloc (.cells #[.int .i64 V0, .int .i64 V1] 34) = W2 at *
    generalize w1.heap.size = gN5 at *
    have N5 := Lib.hid bN5
    have N6 := Lib.hid bN6
    clear bN5 bN6
    go_wp2_with (first | (go_at_call 15; (with_reducible refine (works_c _).mono ?_); rintro e w1 ⟨rfl, hb1⟩; have nHM := Lib.hid (HM.out.below hb1); have nHB := Lib.hid (bthen HB.out hb1); have zz1 := hb1.size; clear HM HB hb1; have HM := nHM; have HB := nHB; clear nHM nHB))
    go_ret
    exact ⟨rfl, HB.out⟩
  subst e1
  by_cases e2 : E2 = 0
  case neg =>
    have hne : (E2 != 0) = true := by simpa using e2
    clear mo e2
    have HW := Lib.hid (fun w1 hR => far2_c hx hy hv gx gy gv lx ly lv px py pv nx ny nv ax ay av cx cy cv dx dy dv cl bu S w1 hR)
    rw [hf] at HW
    go_enter Try.func8, Try.ntmps8
    go_wp2_with (first | (refine wpl_row rfl 27 _ rfl _ rfl #[hx, hy, hv, gx, gy, gv, lx, ly, lv, px, py, pv, nx, ny, nv, ax, ay, av, cx, cy, cv, dx, dy, dv, .int .i64 cl, .int .i64 bu] 26 ?_ Try.rowRot rfl ?_; (focus exact (by repeat (first | (refine Blk.newAt _ _ _ ?_; first | rfl | (simp; done)) | refine Blk.alloc ?_ _))); simp only [Act.put]))
    have bHM : Blk (((w.alloc (.cells #[hx, hy, hv, gx, gy, gv, lx, ly, lv, px, py, pv, nx, ny, nv, ax, ay, av, cx, cy, cv, dx, dy, dv, .int .i64 cl, .int .i64 bu] 27)).alloc (.cells #[.int .i64 wl, .int .i64 wh, .int .i64 tl, .int .i64 th, .int .i64 el, .int .i64 eh, .int .i64 nl, .int .i64 nh] 36)).alloc (.cells #[.int .i64 n0, .int .i64 n1, .int .i64 n2] 62)) (w.heap.size) 27 #[hx, hy, hv, gx, gy, gv, lx, ly, lv, px, py, pv, nx, ny, nv, ax, ay, av, cx, cy, cv, dx, dy, dv, .int .i64 cl, .int .i64 bu] := (by repeat (first | (refine Blk.newAt _ _ _ ?_; first | rfl | (simp; done)) | refine Blk.alloc ?_ _))
    have bHA : Blk (((w.alloc (.cells #[hx, hy, hv, gx, gy, gv, lx, ly, lv, px, py, pv, nx, ny, nv, ax, ay, av, cx, cy, cv, dx, dy, dv, .int .i64 cl, .int .i64 bu] 27)).alloc (.cells #[.int .i64 wl, .int .i64 wh, .int .i64 tl, .int .i64 th, .int .i64 el, .int .i64 eh, .int .i64 nl, .int .i64 nh] 36)).alloc (.cells #[.int .i64 n0, .int .i64 n1, .int .i64 n2] 62)) (w.heap.size + 1) 36 #[.int .i64 wl, .int .i64 wh, .int .i64 tl, .int .i64 th, .int .i64 el, .int .i64 eh, .int .i64 nl, .int .i64 nh] := (by repeat (first | (refine Blk.newAt _ _ _ ?_; first | rfl | (simp; done)) | refine Blk.alloc ?_ _))
    have bHS : Blk (((w.alloc (.cells #[hx, hy, hv, gx, gy, gv, lx, ly, lv, px, py, pv, nx, ny, nv, ax, ay, av, cx, cy, cv, dx, dy, dv, .int .i64 cl, .int .i64 bu] 27)).alloc (.cells #[.int .i64 wl, .int .i64 wh, .int .i64 tl, .int .i64 th, .int .i64 el, .int .i64 eh, .int .i64 nl, .int .i64 nh] 36)).alloc (.cells #[.int .i64 n0, .int .i64 n1, .int .i64 n2] 62)) (w.heap.size + 1 + 1) 62 #[.int .i64 n0, .int .i64 n1, .int .i64 n2] := (by repeat (first | (refine Blk.newAt _ _ _ ?_; first | rfl | (simp; done)) | refine Blk.alloc ?_ _))
    have bHB : Below w.heap.size w (((w.alloc (.cells #[hx, hy, hv, gx, gy, gv, lx, ly, lv, px, py, pv, nx, ny, nv, ax, ay, av, cx, cy, cv, dx, dy, dv, .int .i64 cl, .int .i64 bu] 27)).alloc (.cells #[.int .i64 wl, .int .i64 wh, .int .i64 tl, .int .i64 th, .int .i64 el, .int .i64 eh, .int .i64 nl, .int .i64 nh] 36)).alloc (.cells #[.int .i64 n0, .int .i64 n1, .int .i64 n2] 62)) := (by repeat' (first | exact Below.refl _ _ | assumption | refine Below.drew ?_ | refine bdn ?_ _ | refine bal ?_ _ | refine Below.setCell ?_ (by first | (simp; done) | omega | (simp; omega)) _))
    generalize (((w.alloc (.cells #[hx, hy, hv, gx, gy, gv, lx, ly, lv, px, py, pv, nx, ny, nv, ax, ay, av, cx, cy, cv, dx, dy, dv, .int .i64 cl, .int .i64 bu] 27)).alloc (.cells #[.int .i64 wl, .int .i64 wh, .int .i64 tl, .int .i64 th, .int .i64 el, .int .i64 eh, .int .i64 nl, .int .i64 nh] 36)).alloc (.cells #[.int .i64 n0, .int .i64 n1, .int .i64 n2] 62)) = W at *
    have zW := bHS.lt
    have HM := Lib.hid bHM
    have HA := Lib.hid bHA
    have HS := Lib.hid bHS
    have HB := Lib.hid bHB
    clear bHM bHA bHS bHB
    go_wp2_with (first | (refine wpl_row rfl 27 _ rfl _ rfl #[hx, hy, hv, gx, gy, gv, lx, ly, lv, px, py, pv, nx, ny, nv, ax, ay, av, cx, cy, cv, dx, dy, dv, .int .i64 cl, .int .i64 bu] 26 HM.out Try.rowRot rfl ?_; simp only [Act.put]) | (go_at_call 14; (with_reducible refine (HW.out _ (HR.out.below HB.out)).mono ?_); rintro e w1 ⟨rfl, hb1⟩; have nHM := Lib.hid (HM.out.below hb1); have nHA := Lib.hid (HA.out.below hb1); have nHS := Lib.hid (HS.out.below hb1); have nHB := Lib.hid (bthen HB.out hb1); have zz1 := hb1.size; clear HM HA HS HB hb1; have HM := nHM; have HA := nHA; have HS := nHS; have HB := nHB; clear nHM nHA nHS nHB) | (go_at_call 15; (with_reducible refine (works_c _).mono ?_); rintro e w1 ⟨rfl, hb1⟩; have nHM := Lib.hid (HM.out.below hb1); have nHA := Lib.hid (HA.out.below hb1); have nHS := Lib.hid (HS.out.below hb1); have nHB := Lib.hid (bthen HB.out hb1); have zz1 := hb1.size; clear HM HA HS HB hb1; have HM := nHM; have HA := nHA; have HS := nHS; have HB := nHB; clear nHM nHA nHS nHB) | (go_at_call 17; (with_reducible refine (own_c hx hy hv gx gy gv lx ly lv px py pv nx ny nv ax ay av cx cy cv dx dy dv cl bu S _ (HR.out.below HB.out) HN.out).mono ?_); rintro e w1 ⟨v, rfl, ho, hb1⟩; obtain ⟨hx', hy', hv', gx', gy', gv', lx', ly', lv', px', py', pv', nx', ny', nv', ax', ay', av', cx', cy', cv', dx', dy', dv', rfl, r1⟩ := ho; have HO := Lib.hid r1; clear r1; have nHM := Lib.hid (HM.out.below hb1); have nHA := Lib.hid (HA.out.below hb1); have nHS := Lib.hid (HS.out.below hb1); have nHB := Lib.hid (bthen HB.out hb1); have zz1 := hb1.size; clear HM HA HS HB hb1; have HM := nHM; have HA := nHA; have HS := nHS; have HB := nHB; clear nHM nHA nHS nHB; (try clear zHS); have zHS := HS.out.lt; (try clear cHS0); have cHS0 := HS.out.cell 0; (try clear cHS1); have cHS1 := HS.out.cell 1; (try clear cHS2); have cHS2 := HS.out.cell 2) | (refine wpl_store_new rfl 27 _ _ rfl #[hx', hy', hv', gx', gy', gv', lx', ly', lv', px', py', pv', nx', ny', nv', ax', ay', av', cx', cy', cv', dx', dy', dv', .int .i64 cl, .int .i64 bu] _ _ rfl ?_ rfl Try.sizeRot' rfl (RotAt.one26' HO.out) ?_; (focus (simp; done)); simp only [Act.put]) | (refine wpl_row rfl 27 _ rfl _ rfl #[hx', hy', hv', gx', gy', gv', lx', ly', lv', px', py', pv', nx', ny', nv', ax', ay', av', cx', cy', cv', dx', dy', dv', .int .i64 cl, .int .i64 bu] 26 (Blk.new _ _ _) Try.rowRot rfl ?_; simp only [Act.put]) | (refine wpl_row rfl 36 _ rfl _ rfl #[.int .i64 wl, .int .i64 wh, .int .i64 tl, .int .i64 th, .int .i64 el, .int .i64 eh, .int .i64 nl, .int .i64 nh] 8 (HA.out.alloc _) Try.rowAir rfl ?_; simp only [Act.put]))
    have bHQ := Blk.new w1 27 #[hx', hy', hv', gx', gy', gv', lx', ly', lv', px', py', pv', nx', ny', nv', ax', ay', av', cx', cy', cv', dx', dy', dv', .int .i64 cl, .int .i64 bu]
    have nHM := Lib.hid (HM.out.alloc (.cells #[hx', hy', hv', gx', gy', gv', lx', ly', lv', px', py', pv', nx', ny', nv', ax', ay', av', cx', cy', cv', dx', dy', dv', .int .i64 cl, .int .i64 bu] 27))
    have nHA := Lib.hid (HA.out.alloc (.cells #[hx', hy', hv', gx', gy', gv', lx', ly', lv', px', py', pv', nx', ny', nv', ax', ay', av', cx', cy', cv', dx', dy', dv', .int .i64 cl, .int .i64 bu] 27))
    have nHS := Lib.hid (HS.out.alloc (.cells #[hx', hy', hv', gx', gy', gv', lx', ly', lv', px', py', pv', nx', ny', nv', ax', ay', av', cx', cy', cv', dx', dy', dv', .int .i64 cl, .int .i64 bu] 27))
    have nHO := Lib.hid (HO.out.alloc (.cells #[hx', hy', hv', gx', gy', gv', lx', ly', lv', px', py', pv', nx', ny', nv', ax', ay', av', cx', cy', cv', dx', dy', dv', .int .i64 cl, .int .i64 bu] 27))
    have nHB := Lib.hid (bal HB.out (.cells #[hx', hy', hv', gx', gy', gv', lx', ly', lv', px', py', pv', nx', ny', nv', ax', ay', av', cx', cy', cv', dx', dy', dv', .int .i64 cl, .int .i64 bu] 27))
    clear HM HA HS HO HB
    have HM := nHM
    have HA := nHA
    have HS := nHS
    have HO := nHO
    have HB := nHB
    clear nHM nHA nHS nHO nHB
    generalize w1.alloc (.cells #[hx', hy', hv', gx', gy', gv', lx', ly', lv', px', py', pv', nx', ny', nv', ax', ay', av', cx', cy', cv', dx', dy', dv', .int .i64 cl, .int .i64 bu] 27) = W2 at *
    generalize w1.heap.size = gHQ at *
    have HQ := Lib.hid bHQ
    clear bHQ
    go_wp2_with (first | (go_at_call 35; (with_reducible refine (HK.out _ _ _ _ _ _ _ _ _ _ _ _ _ _ _ _ _ _ _ _ _ _ _ _ _ HO.out).mono ?_); rintro e w1 ⟨rfl, hb1⟩; have nHM := Lib.hid (HM.out.below hb1); have nHA := Lib.hid (HA.out.below hb1); have nHS := Lib.hid (HS.out.below hb1); have nHQ := Lib.hid (HQ.out.below hb1); have nHO := Lib.hid (HO.out.below hb1); have nHB := Lib.hid (bthen HB.out hb1); have zz1 := hb1.size; clear HM HA HS HQ HO HB hb1; have HM := nHM; have HA := nHA; have HS := nHS; have HQ := nHQ; have HO := nHO; have HB := nHB; clear nHM nHA nHS nHQ nHO nHB; (try clear zHS); have zHS := HS.out.lt; (try clear cHS0); have cHS0 := HS.out.cell 0; (try clear cHS1); have cHS1 := HS.out.cell 1; (try clear cHS2); have cHS2 := HS.out.cell 2; (try clear s1); have s1 := (show w.heap.size + 1 < w1.heap.size by omega); (try clear s2); have s2 := (show w.heap.size + 1 + 1 < w1.heap.size + 1 by omega)) | (refine wpl_row rfl 27 _ rfl _ rfl #[hx, hy, hv, gx, gy, gv, lx, ly, lv, px, py, pv, nx, ny, nv, ax, ay, av, cx, cy, cv, dx, dy, dv, .int .i64 cl, .int .i64 bu] 26 ((HM.out.alloc _).alloc _) Try.rowRot rfl ?_; simp only [Act.put]) | (refine wpl_row rfl 36 _ rfl _ rfl #[.int .i64 wl, .int .i64 wh, .int .i64 tl, .int .i64 th, .int .i64 el, .int .i64 eh, .int .i64 nl, .int .i64 nh] 8 ((HA.out.alloc _).alloc _) Try.rowAir rfl ?_; simp only [Act.put]))
    have bN1 := (Blk.new w1 34 #[.int .i64 T0, .int .i64 T1]).alloc (.cells #[.int .i64 F0, .int .i64 F1] 34)
    have bN2 := Blk.new (w1.alloc (.cells #[.int .i64 T0, .int .i64 T1] 34)) 34 #[.int .i64 F0, .int .i64 F1]
    simp only [World.size_alloc] at bN2
    have nHM := Lib.hid ((HM.out.alloc (.cells #[.int .i64 T0, .int .i64 T1] 34)).alloc (.cells #[.int .i64 F0, .int .i64 F1] 34))
    have nHA := Lib.hid ((HA.out.alloc (.cells #[.int .i64 T0, .int .i64 T1] 34)).alloc (.cells #[.int .i64 F0, .int .i64 F1] 34))
    have nHS := Lib.hid ((HS.out.alloc (.cells #[.int .i64 T0, .int .i64 T1] 34)).alloc (.cells #[.int .i64 F0, .int .i64 F1] 34))
    have nHQ := Lib.hid ((HQ.out.alloc (.cells #[.int .i64 T0, .int .i64 T1] 34)).alloc (.cells #[.int .i64 F0, .int .i64 F1] 34))
    have nHO := Lib.hid ((HO.out.alloc (.cells #[.int .i64 T0, .int .i64 T1] 34)).alloc (.cells #[.int .i64 F0, .int .i64 F1] 34))
    have nHB := Lib.hid (bal (bal HB.out (.cells #[.int .i64 T0, .int .i64 T1] 34)) (.cells #[.int .i64 F0, .int .i64 F1] 34))
    clear HM HA HS HQ HO HB
    have HM := nHM
    have HA := nHA
    have HS := nHS
    have HQ := nHQ
    have HO := nHO
    have HB := nHB
    clear nHM nHA nHS nHQ nHO nHB
    generalize (w1.alloc (.cells #[.int .i64 T0, .int .i64 T1] 34)).alloc (.cells #[.int .i64 F0, .int .i64 F1] 34) = W2 at *
    generalize w1.heap.size = gN1 at *
    have N1 := Lib.hid bN1
    have N2 := Lib.hid bN2
    clear bN1 bN2
    go_wp2_with (first | (go_at_call 36; (with_reducible refine (HF.out _ (HR.out.below HB.out)).mono ?_); rintro e w1 ⟨rfl, hb1⟩; have nHM := Lib.hid (HM.out.below hb1); have nHA := Lib.hid (HA.out.below hb1); have nHS := Lib.hid (HS.out.below hb1); have nHQ := Lib.hid (HQ.out.below hb1); have nHO := Lib.hid (HO.out.below hb1); have nN1 := Lib.hid (N1.out.below hb1); have nN2 := Lib.hid (N2.out.below hb1); have nHB := Lib.hid (bthen HB.out hb1); have zz1 := hb1.size; clear HM HA HS HQ HO N1 N2 HB hb1; have HM := nHM; have HA := nHA; have HS := nHS; have HQ := nHQ; have HO := nHO; have N1 := nN1; have N2 := nN2; have HB := nHB; clear nHM nHA nHS nHQ nHO nN1 nN2 nHB; (try clear zHS); have zHS := HS.out.lt; (try clear cHS0); have cHS0 := HS.out.cell 0; (try clear cHS1); have cHS1 := HS.out.cell 1; (try clear cHS2); have cHS2 := HS.out.cell 2; (try clear zN1); have zN1 := N1.out.lt; (try clear cN10); have cN10 := N1.out.cell 0; (try clear cN11); have cN11 := N1.out.cell 1; (try clear zN2); have zN2 := N2.out.lt; (try clear cN20); have cN20 := N2.out.cell 0; (try clear cN21); have cN21 := N2.out.cell 1; (try clear s1); have s1 := (show w.heap.size + 1 < w1.heap.size by omega); (try clear s2); have s2 := (show w.heap.size + 1 + 1 < w1.heap.size + 1 by omega); (try clear s3); have s3 := (show gN1 < w1.heap.size + 1 by omega); (try clear s4); have s4 := (show gN1 + 1 < w1.heap.size + 1 by omega); (try clear s5); have s5 := (show gN1 ≤ w1.heap.size by omega)) | (refine wpl_row rfl 27 _ rfl _ rfl #[hx', hy', hv', gx', gy', gv', lx', ly', lv', px', py', pv', nx', ny', nv', ax', ay', av', cx', cy', cv', dx', dy', dv', .int .i64 cl, .int .i64 bu] 26 ((HQ.out.alloc _).alloc _) Try.rowRot rfl ?_; simp only [Act.put]) | (refine wpl_row rfl 36 _ rfl _ rfl #[.int .i64 wl, .int .i64 wh, .int .i64 tl, .int .i64 th, .int .i64 el, .int .i64 eh, .int .i64 nl, .int .i64 nh] 8 ((HA.out.alloc _).alloc _) Try.rowAir rfl ?_; simp only [Act.put]))
    have bN3 := (Blk.new w1 34 #[.int .i64 T0, .int .i64 T1]).alloc (.cells #[.int .i64 F0, .int .i64 F1] 34)
    have bN4 := Blk.new (w1.alloc (.cells #[.int .i64 T0, .int .i64 T1] 34)) 34 #[.int .i64 F0, .int .i64 F1]
    simp only [World.size_alloc] at bN4
    have nHM := Lib.hid ((HM.out.alloc (.cells #[.int .i64 T0, .int .i64 T1] 34)).alloc (.cells #[.int .i64 F0, .int .i64 F1] 34))
    have nHA := Lib.hid ((HA.out.alloc (.cells #[.int .i64 T0, .int .i64 T1] 34)).alloc (.cells #[.int .i64 F0, .int .i64 F1] 34))
    have nHS := Lib.hid ((HS.out.alloc (.cells #[.int .i64 T0, .int .i64 T1] 34)).alloc (.cells #[.int .i64 F0, .int .i64 F1] 34))
    have nHQ := Lib.hid ((HQ.out.alloc (.cells #[.int .i64 T0, .int .i64 T1] 34)).alloc (.cells #[.int .i64 F0, .int .i64 F1] 34))
    have nHO := Lib.hid ((HO.out.alloc (.cells #[.int .i64 T0, .int .i64 T1] 34)).alloc (.cells #[.int .i64 F0, .int .i64 F1] 34))
    have nN1 := Lib.hid ((N1.out.alloc (.cells #[.int .i64 T0, .int .i64 T1] 34)).alloc (.cells #[.int .i64 F0, .int .i64 F1] 34))
    have nN2 := Lib.hid ((N2.out.alloc (.cells #[.int .i64 T0, .int .i64 T1] 34)).alloc (.cells #[.int .i64 F0, .int .i64 F1] 34))
    have nHB := Lib.hid (bal (bal HB.out (.cells #[.int .i64 T0, .int .i64 T1] 34)) (.cells #[.int .i64 F0, .int .i64 F1] 34))
    clear HM HA HS HQ HO N1 N2 HB
    have HM := nHM
    have HA := nHA
    have HS := nHS
    have HQ := nHQ
    have HO := nHO
    have N1 := nN1
    have N2 := nN2
    have HB := nHB
    clear nHM nHA nHS nHQ nHO nN1 nN2 nHB
    generalize (w1.alloc (.cells #[.int .i64 T0, .int .i64 T1] 34)).alloc (.cells #[.int .i64 F0, .int .i64 F1] 34) = W2 at *
    generalize w1.heap.size = gN3 at *
    have N3 := Lib.hid bN3
    have N4 := Lib.hid bN4
    clear bN3 bN4
    go_wp2_with (first | (go_at_call 35; (with_reducible refine (HK2.out _ _ _ _ _ _ _ _ _ _ _ _ _ _ _ _ _ _ _ _ _ _ _ _ _ HO.out).mono ?_); rintro e w1 ⟨rfl, hb1⟩; have nHM := Lib.hid (HM.out.below hb1); have nHA := Lib.hid (HA.out.below hb1); have nHS := Lib.hid (HS.out.below hb1); have nHQ := Lib.hid (HQ.out.below hb1); have nHO := Lib.hid (HO.out.below hb1); have nN1 := Lib.hid (N1.out.below hb1); have nN2 := Lib.hid (N2.out.below hb1); have nHB := Lib.hid (bthen HB.out hb1); have zz1 := hb1.size; clear HM HA HS HQ HO N1 N2 HB hb1; have HM := nHM; have HA := nHA; have HS := nHS; have HQ := nHQ; have HO := nHO; have N1 := nN1; have N2 := nN2; have HB := nHB; clear nHM nHA nHS nHQ nHO nN1 nN2 nHB; (try clear zHS); have zHS := HS.out.lt; (try clear cHS0); have cHS0 := HS.out.cell 0; (try clear cHS1); have cHS1 := HS.out.cell 1; (try clear cHS2); have cHS2 := HS.out.cell 2; (try clear zN1); have zN1 := N1.out.lt; (try clear cN10); have cN10 := N1.out.cell 0; (try clear cN11); have cN11 := N1.out.cell 1; (try clear zN2); have zN2 := N2.out.lt; (try clear cN20); have cN20 := N2.out.cell 0; (try clear cN21); have cN21 := N2.out.cell 1; (try clear s1); have s1 := (show w.heap.size + 1 < w1.heap.size by omega); (try clear s2); have s2 := (show w.heap.size + 1 + 1 < w1.heap.size + 1 by omega); (try clear s3); have s3 := (show gN1 < w1.heap.size + 1 by omega); (try clear s4); have s4 := (show gN1 + 1 < w1.heap.size + 1 by omega); (try clear s5); have s5 := (show gN1 ≤ w1.heap.size by omega)))
    have bN5 := (Blk.new w1 34 #[.int .i64 U0, .int .i64 U1]).alloc (.cells #[.int .i64 V0, .int .i64 V1] 34)
    have bN6 := Blk.new (w1.alloc (.cells #[.int .i64 U0, .int .i64 U1] 34)) 34 #[.int .i64 V0, .int .i64 V1]
    simp only [World.size_alloc] at bN6
    have nHM := Lib.hid ((HM.out.alloc (.cells #[.int .i64 U0, .int .i64 U1] 34)).alloc (.cells #[.int .i64 V0, .int .i64 V1] 34))
    have nHB := Lib.hid (bal (bal HB.out (.cells #[.int .i64 U0, .int .i64 U1] 34)) (.cells #[.int .i64 V0, .int .i64 V1] 34))
    clear HM HB
    have HM := nHM
    have HB := nHB
    clear nHM nHB
    generalize (w1.alloc (.cells #[.int .i64 U0, .int .i64 U1] 34)).alloc (.cells #[.int .i64 V0, .int .i64 V1] 34) = W2 at *
    generalize w1.heap.size = gN5 at *
    have N5 := Lib.hid bN5
    have N6 := Lib.hid bN6
    clear bN5 bN6
    go_wp2_with (first | (go_at_call 15; (with_reducible refine (works_c _).mono ?_); rintro e w1 ⟨rfl, hb1⟩; have nHM := Lib.hid (HM.out.below hb1); have nHB := Lib.hid (bthen HB.out hb1); have zz1 := hb1.size; clear HM HB hb1; have HM := nHM; have HB := nHB; clear nHM nHB))
    go_ret
    exact ⟨rfl, HB.out⟩
  subst e2
  by_cases hk : n1 ≤ n2
  case neg =>
    have hlt : n2 < n1 := by omega
    clear mo hk
    have HW := Lib.hid (fun w1 hR => far2_c hx hy hv gx gy gv lx ly lv px py pv nx ny nv ax ay av cx cy cv dx dy dv cl bu S w1 hR)
    rw [hf] at HW
    go_enter Try.func8, Try.ntmps8
    go_wp2_with (first | (refine wpl_row rfl 27 _ rfl _ rfl #[hx, hy, hv, gx, gy, gv, lx, ly, lv, px, py, pv, nx, ny, nv, ax, ay, av, cx, cy, cv, dx, dy, dv, .int .i64 cl, .int .i64 bu] 26 ?_ Try.rowRot rfl ?_; (focus exact (by repeat (first | (refine Blk.newAt _ _ _ ?_; first | rfl | (simp; done)) | refine Blk.alloc ?_ _))); simp only [Act.put]))
    have bHM : Blk (((w.alloc (.cells #[hx, hy, hv, gx, gy, gv, lx, ly, lv, px, py, pv, nx, ny, nv, ax, ay, av, cx, cy, cv, dx, dy, dv, .int .i64 cl, .int .i64 bu] 27)).alloc (.cells #[.int .i64 wl, .int .i64 wh, .int .i64 tl, .int .i64 th, .int .i64 el, .int .i64 eh, .int .i64 nl, .int .i64 nh] 36)).alloc (.cells #[.int .i64 n0, .int .i64 n1, .int .i64 n2] 62)) (w.heap.size) 27 #[hx, hy, hv, gx, gy, gv, lx, ly, lv, px, py, pv, nx, ny, nv, ax, ay, av, cx, cy, cv, dx, dy, dv, .int .i64 cl, .int .i64 bu] := (by repeat (first | (refine Blk.newAt _ _ _ ?_; first | rfl | (simp; done)) | refine Blk.alloc ?_ _))
    have bHA : Blk (((w.alloc (.cells #[hx, hy, hv, gx, gy, gv, lx, ly, lv, px, py, pv, nx, ny, nv, ax, ay, av, cx, cy, cv, dx, dy, dv, .int .i64 cl, .int .i64 bu] 27)).alloc (.cells #[.int .i64 wl, .int .i64 wh, .int .i64 tl, .int .i64 th, .int .i64 el, .int .i64 eh, .int .i64 nl, .int .i64 nh] 36)).alloc (.cells #[.int .i64 n0, .int .i64 n1, .int .i64 n2] 62)) (w.heap.size + 1) 36 #[.int .i64 wl, .int .i64 wh, .int .i64 tl, .int .i64 th, .int .i64 el, .int .i64 eh, .int .i64 nl, .int .i64 nh] := (by repeat (first | (refine Blk.newAt _ _ _ ?_; first | rfl | (simp; done)) | refine Blk.alloc ?_ _))
    have bHS : Blk (((w.alloc (.cells #[hx, hy, hv, gx, gy, gv, lx, ly, lv, px, py, pv, nx, ny, nv, ax, ay, av, cx, cy, cv, dx, dy, dv, .int .i64 cl, .int .i64 bu] 27)).alloc (.cells #[.int .i64 wl, .int .i64 wh, .int .i64 tl, .int .i64 th, .int .i64 el, .int .i64 eh, .int .i64 nl, .int .i64 nh] 36)).alloc (.cells #[.int .i64 n0, .int .i64 n1, .int .i64 n2] 62)) (w.heap.size + 1 + 1) 62 #[.int .i64 n0, .int .i64 n1, .int .i64 n2] := (by repeat (first | (refine Blk.newAt _ _ _ ?_; first | rfl | (simp; done)) | refine Blk.alloc ?_ _))
    have bHB : Below w.heap.size w (((w.alloc (.cells #[hx, hy, hv, gx, gy, gv, lx, ly, lv, px, py, pv, nx, ny, nv, ax, ay, av, cx, cy, cv, dx, dy, dv, .int .i64 cl, .int .i64 bu] 27)).alloc (.cells #[.int .i64 wl, .int .i64 wh, .int .i64 tl, .int .i64 th, .int .i64 el, .int .i64 eh, .int .i64 nl, .int .i64 nh] 36)).alloc (.cells #[.int .i64 n0, .int .i64 n1, .int .i64 n2] 62)) := (by repeat' (first | exact Below.refl _ _ | assumption | refine Below.drew ?_ | refine bdn ?_ _ | refine bal ?_ _ | refine Below.setCell ?_ (by first | (simp; done) | omega | (simp; omega)) _))
    generalize (((w.alloc (.cells #[hx, hy, hv, gx, gy, gv, lx, ly, lv, px, py, pv, nx, ny, nv, ax, ay, av, cx, cy, cv, dx, dy, dv, .int .i64 cl, .int .i64 bu] 27)).alloc (.cells #[.int .i64 wl, .int .i64 wh, .int .i64 tl, .int .i64 th, .int .i64 el, .int .i64 eh, .int .i64 nl, .int .i64 nh] 36)).alloc (.cells #[.int .i64 n0, .int .i64 n1, .int .i64 n2] 62)) = W at *
    have zW := bHS.lt
    have HM := Lib.hid bHM
    have HA := Lib.hid bHA
    have HS := Lib.hid bHS
    have HB := Lib.hid bHB
    clear bHM bHA bHS bHB
    go_wp2_with (first | (refine wpl_row rfl 27 _ rfl _ rfl #[hx, hy, hv, gx, gy, gv, lx, ly, lv, px, py, pv, nx, ny, nv, ax, ay, av, cx, cy, cv, dx, dy, dv, .int .i64 cl, .int .i64 bu] 26 HM.out Try.rowRot rfl ?_; simp only [Act.put]) | (go_at_call 14; (with_reducible refine (HW.out _ (HR.out.below HB.out)).mono ?_); rintro e w1 ⟨rfl, hb1⟩; have nHM := Lib.hid (HM.out.below hb1); have nHA := Lib.hid (HA.out.below hb1); have nHS := Lib.hid (HS.out.below hb1); have nHB := Lib.hid (bthen HB.out hb1); have zz1 := hb1.size; clear HM HA HS HB hb1; have HM := nHM; have HA := nHA; have HS := nHS; have HB := nHB; clear nHM nHA nHS nHB) | (go_at_call 15; (with_reducible refine (works_c _).mono ?_); rintro e w1 ⟨rfl, hb1⟩; have nHM := Lib.hid (HM.out.below hb1); have nHA := Lib.hid (HA.out.below hb1); have nHS := Lib.hid (HS.out.below hb1); have nHB := Lib.hid (bthen HB.out hb1); have zz1 := hb1.size; clear HM HA HS HB hb1; have HM := nHM; have HA := nHA; have HS := nHS; have HB := nHB; clear nHM nHA nHS nHB) | (go_at_call 17; (with_reducible refine (own_c hx hy hv gx gy gv lx ly lv px py pv nx ny nv ax ay av cx cy cv dx dy dv cl bu S _ (HR.out.below HB.out) HN.out).mono ?_); rintro e w1 ⟨v, rfl, ho, hb1⟩; obtain ⟨hx', hy', hv', gx', gy', gv', lx', ly', lv', px', py', pv', nx', ny', nv', ax', ay', av', cx', cy', cv', dx', dy', dv', rfl, r1⟩ := ho; have HO := Lib.hid r1; clear r1; have nHM := Lib.hid (HM.out.below hb1); have nHA := Lib.hid (HA.out.below hb1); have nHS := Lib.hid (HS.out.below hb1); have nHB := Lib.hid (bthen HB.out hb1); have zz1 := hb1.size; clear HM HA HS HB hb1; have HM := nHM; have HA := nHA; have HS := nHS; have HB := nHB; clear nHM nHA nHS nHB; (try clear zHS); have zHS := HS.out.lt; (try clear cHS0); have cHS0 := HS.out.cell 0; (try clear cHS1); have cHS1 := HS.out.cell 1; (try clear cHS2); have cHS2 := HS.out.cell 2) | (refine wpl_store_new rfl 27 _ _ rfl #[hx', hy', hv', gx', gy', gv', lx', ly', lv', px', py', pv', nx', ny', nv', ax', ay', av', cx', cy', cv', dx', dy', dv', .int .i64 cl, .int .i64 bu] _ _ rfl ?_ rfl Try.sizeRot' rfl (RotAt.one26' HO.out) ?_; (focus (simp; done)); simp only [Act.put]) | (refine wpl_row rfl 27 _ rfl _ rfl #[hx', hy', hv', gx', gy', gv', lx', ly', lv', px', py', pv', nx', ny', nv', ax', ay', av', cx', cy', cv', dx', dy', dv', .int .i64 cl, .int .i64 bu] 26 (Blk.new _ _ _) Try.rowRot rfl ?_; simp only [Act.put]) | (refine wpl_row rfl 36 _ rfl _ rfl #[.int .i64 wl, .int .i64 wh, .int .i64 tl, .int .i64 th, .int .i64 el, .int .i64 eh, .int .i64 nl, .int .i64 nh] 8 (HA.out.alloc _) Try.rowAir rfl ?_; simp only [Act.put]))
    have bHQ := Blk.new w1 27 #[hx', hy', hv', gx', gy', gv', lx', ly', lv', px', py', pv', nx', ny', nv', ax', ay', av', cx', cy', cv', dx', dy', dv', .int .i64 cl, .int .i64 bu]
    have nHM := Lib.hid (HM.out.alloc (.cells #[hx', hy', hv', gx', gy', gv', lx', ly', lv', px', py', pv', nx', ny', nv', ax', ay', av', cx', cy', cv', dx', dy', dv', .int .i64 cl, .int .i64 bu] 27))
    have nHA := Lib.hid (HA.out.alloc (.cells #[hx', hy', hv', gx', gy', gv', lx', ly', lv', px', py', pv', nx', ny', nv', ax', ay', av', cx', cy', cv', dx', dy', dv', .int .i64 cl, .int .i64 bu] 27))
    have nHS := Lib.hid (HS.out.alloc (.cells #[hx', hy', hv', gx', gy', gv', lx', ly', lv', px', py', pv', nx', ny', nv', ax', ay', av', cx', cy', cv', dx', dy', dv', .int .i64 cl, .int .i64 bu] 27))
    have nHO := Lib.hid (HO.out.alloc (.cells #[hx', hy', hv', gx', gy', gv', lx', ly', lv', px', py', pv', nx', ny', nv', ax', ay', av', cx', cy', cv', dx', dy', dv', .int .i64 cl, .int .i64 bu] 27))
    have nHB := Lib.hid (bal HB.out (.cells #[hx', hy', hv', gx', gy', gv', lx', ly', lv', px', py', pv', nx', ny', nv', ax', ay', av', cx', cy', cv', dx', dy', dv', .int .i64 cl, .int .i64 bu] 27))
    clear HM HA HS HO HB
    have HM := nHM
    have HA := nHA
    have HS := nHS
    have HO := nHO
    have HB := nHB
    clear nHM nHA nHS nHO nHB
    generalize w1.alloc (.cells #[hx', hy', hv', gx', gy', gv', lx', ly', lv', px', py', pv', nx', ny', nv', ax', ay', av', cx', cy', cv', dx', dy', dv', .int .i64 cl, .int .i64 bu] 27) = W2 at *
    generalize w1.heap.size = gHQ at *
    have HQ := Lib.hid bHQ
    clear bHQ
    go_wp2_with (first | (go_at_call 35; (with_reducible refine (HK.out _ _ _ _ _ _ _ _ _ _ _ _ _ _ _ _ _ _ _ _ _ _ _ _ _ HO.out).mono ?_); rintro e w1 ⟨rfl, hb1⟩; have nHM := Lib.hid (HM.out.below hb1); have nHA := Lib.hid (HA.out.below hb1); have nHS := Lib.hid (HS.out.below hb1); have nHQ := Lib.hid (HQ.out.below hb1); have nHO := Lib.hid (HO.out.below hb1); have nHB := Lib.hid (bthen HB.out hb1); have zz1 := hb1.size; clear HM HA HS HQ HO HB hb1; have HM := nHM; have HA := nHA; have HS := nHS; have HQ := nHQ; have HO := nHO; have HB := nHB; clear nHM nHA nHS nHQ nHO nHB; (try clear zHS); have zHS := HS.out.lt; (try clear cHS0); have cHS0 := HS.out.cell 0; (try clear cHS1); have cHS1 := HS.out.cell 1; (try clear cHS2); have cHS2 := HS.out.cell 2; (try clear s1); have s1 := (show w.heap.size + 1 < w1.heap.size by omega); (try clear s2); have s2 := (show w.heap.size + 1 + 1 < w1.heap.size + 1 by omega)) | (refine wpl_row rfl 27 _ rfl _ rfl #[hx, hy, hv, gx, gy, gv, lx, ly, lv, px, py, pv, nx, ny, nv, ax, ay, av, cx, cy, cv, dx, dy, dv, .int .i64 cl, .int .i64 bu] 26 ((HM.out.alloc _).alloc _) Try.rowRot rfl ?_; simp only [Act.put]) | (refine wpl_row rfl 36 _ rfl _ rfl #[.int .i64 wl, .int .i64 wh, .int .i64 tl, .int .i64 th, .int .i64 el, .int .i64 eh, .int .i64 nl, .int .i64 nh] 8 ((HA.out.alloc _).alloc _) Try.rowAir rfl ?_; simp only [Act.put]))
    have bN1 := (Blk.new w1 34 #[.int .i64 T0, .int .i64 T1]).alloc (.cells #[.int .i64 F0, .int .i64 F1] 34)
    have bN2 := Blk.new (w1.alloc (.cells #[.int .i64 T0, .int .i64 T1] 34)) 34 #[.int .i64 F0, .int .i64 F1]
    simp only [World.size_alloc] at bN2
    have nHM := Lib.hid ((HM.out.alloc (.cells #[.int .i64 T0, .int .i64 T1] 34)).alloc (.cells #[.int .i64 F0, .int .i64 F1] 34))
    have nHA := Lib.hid ((HA.out.alloc (.cells #[.int .i64 T0, .int .i64 T1] 34)).alloc (.cells #[.int .i64 F0, .int .i64 F1] 34))
    have nHS := Lib.hid ((HS.out.alloc (.cells #[.int .i64 T0, .int .i64 T1] 34)).alloc (.cells #[.int .i64 F0, .int .i64 F1] 34))
    have nHQ := Lib.hid ((HQ.out.alloc (.cells #[.int .i64 T0, .int .i64 T1] 34)).alloc (.cells #[.int .i64 F0, .int .i64 F1] 34))
    have nHO := Lib.hid ((HO.out.alloc (.cells #[.int .i64 T0, .int .i64 T1] 34)).alloc (.cells #[.int .i64 F0, .int .i64 F1] 34))
    have nHB := Lib.hid (bal (bal HB.out (.cells #[.int .i64 T0, .int .i64 T1] 34)) (.cells #[.int .i64 F0, .int .i64 F1] 34))
    clear HM HA HS HQ HO HB
    have HM := nHM
    have HA := nHA
    have HS := nHS
    have HQ := nHQ
    have HO := nHO
    have HB := nHB
    clear nHM nHA nHS nHQ nHO nHB
    generalize (w1.alloc (.cells #[.int .i64 T0, .int .i64 T1] 34)).alloc (.cells #[.int .i64 F0, .int .i64 F1] 34) = W2 at *
    generalize w1.heap.size = gN1 at *
    have N1 := Lib.hid bN1
    have N2 := Lib.hid bN2
    clear bN1 bN2
    go_wp2_with (first | (go_at_call 36; (with_reducible refine (HF.out _ (HR.out.below HB.out)).mono ?_); rintro e w1 ⟨rfl, hb1⟩; have nHM := Lib.hid (HM.out.below hb1); have nHA := Lib.hid (HA.out.below hb1); have nHS := Lib.hid (HS.out.below hb1); have nHQ := Lib.hid (HQ.out.below hb1); have nHO := Lib.hid (HO.out.below hb1); have nN1 := Lib.hid (N1.out.below hb1); have nN2 := Lib.hid (N2.out.below hb1); have nHB := Lib.hid (bthen HB.out hb1); have zz1 := hb1.size; clear HM HA HS HQ HO N1 N2 HB hb1; have HM := nHM; have HA := nHA; have HS := nHS; have HQ := nHQ; have HO := nHO; have N1 := nN1; have N2 := nN2; have HB := nHB; clear nHM nHA nHS nHQ nHO nN1 nN2 nHB; (try clear zHS); have zHS := HS.out.lt; (try clear cHS0); have cHS0 := HS.out.cell 0; (try clear cHS1); have cHS1 := HS.out.cell 1; (try clear cHS2); have cHS2 := HS.out.cell 2; (try clear zN1); have zN1 := N1.out.lt; (try clear cN10); have cN10 := N1.out.cell 0; (try clear cN11); have cN11 := N1.out.cell 1; (try clear zN2); have zN2 := N2.out.lt; (try clear cN20); have cN20 := N2.out.cell 0; (try clear cN21); have cN21 := N2.out.cell 1; (try clear s1); have s1 := (show w.heap.size + 1 < w1.heap.size by omega); (try clear s2); have s2 := (show w.heap.size + 1 + 1 < w1.heap.size + 1 by omega); (try clear s3); have s3 := (show gN1 < w1.heap.size + 1 by omega); (try clear s4); have s4 := (show gN1 + 1 < w1.heap.size + 1 by omega); (try clear s5); have s5 := (show gN1 ≤ w1.heap.size by omega)) | (refine wpl_row rfl 27 _ rfl _ rfl #[hx', hy', hv', gx', gy', gv', lx', ly', lv', px', py', pv', nx', ny', nv', ax', ay', av', cx', cy', cv', dx', dy', dv', .int .i64 cl, .int .i64 bu] 26 ((HQ.out.alloc _).alloc _) Try.rowRot rfl ?_; simp only [Act.put]) | (refine wpl_row rfl 36 _ rfl _ rfl #[.int .i64 wl, .int .i64 wh, .int .i64 tl, .int .i64 th, .int .i64 el, .int .i64 eh, .int .i64 nl, .int .i64 nh] 8 ((HA.out.alloc _).alloc _) Try.rowAir rfl ?_; simp only [Act.put]))
    have bN3 := (Blk.new w1 34 #[.int .i64 T0, .int .i64 T1]).alloc (.cells #[.int .i64 F0, .int .i64 F1] 34)
    have bN4 := Blk.new (w1.alloc (.cells #[.int .i64 T0, .int .i64 T1] 34)) 34 #[.int .i64 F0, .int .i64 F1]
    simp only [World.size_alloc] at bN4
    have nHM := Lib.hid ((HM.out.alloc (.cells #[.int .i64 T0, .int .i64 T1] 34)).alloc (.cells #[.int .i64 F0, .int .i64 F1] 34))
    have nHA := Lib.hid ((HA.out.alloc (.cells #[.int .i64 T0, .int .i64 T1] 34)).alloc (.cells #[.int .i64 F0, .int .i64 F1] 34))
    have nHS := Lib.hid ((HS.out.alloc (.cells #[.int .i64 T0, .int .i64 T1] 34)).alloc (.cells #[.int .i64 F0, .int .i64 F1] 34))
    have nHQ := Lib.hid ((HQ.out.alloc (.cells #[.int .i64 T0, .int .i64 T1] 34)).alloc (.cells #[.int .i64 F0, .int .i64 F1] 34))
    have nHO := Lib.hid ((HO.out.alloc (.cells #[.int .i64 T0, .int .i64 T1] 34)).alloc (.cells #[.int .i64 F0, .int .i64 F1] 34))
    have nN1 := Lib.hid ((N1.out.alloc (.cells #[.int .i64 T0, .int .i64 T1] 34)).alloc (.cells #[.int .i64 F0, .int .i64 F1] 34))
    have nN2 := Lib.hid ((N2.out.alloc (.cells #[.int .i64 T0, .int .i64 T1] 34)).alloc (.cells #[.int .i64 F0, .int .i64 F1] 34))
    have nHB := Lib.hid (bal (bal HB.out (.cells #[.int .i64 T0, .int .i64 T1] 34)) (.cells #[.int .i64 F0, .int .i64 F1] 34))
    clear HM HA HS HQ HO N1 N2 HB
    have HM := nHM
    have HA := nHA
    have HS := nHS
    have HQ := nHQ
    have HO := nHO
    have N1 := nN1
    have N2 := nN2
    have HB := nHB
    clear nHM nHA nHS nHQ nHO nN1 nN2 nHB
    generalize (w1.alloc (.cells #[.int .i64 T0, .int .i64 T1] 34)).alloc (.cells #[.int .i64 F0, .int .i64 F1] 34) = W2 at *
    generalize w1.heap.size = gN3 at *
    have N3 := Lib.hid bN3
    have N4 := Lib.hid bN4
    clear bN3 bN4
    go_wp2_with (first | (go_at_call 35; (with_reducible refine (HK2.out _ _ _ _ _ _ _ _ _ _ _ _ _ _ _ _ _ _ _ _ _ _ _ _ _ HO.out).mono ?_); rintro e w1 ⟨rfl, hb1⟩; have nHM := Lib.hid (HM.out.below hb1); have nHA := Lib.hid (HA.out.below hb1); have nHS := Lib.hid (HS.out.below hb1); have nHQ := Lib.hid (HQ.out.below hb1); have nHO := Lib.hid (HO.out.below hb1); have nN1 := Lib.hid (N1.out.below hb1); have nN2 := Lib.hid (N2.out.below hb1); have nHB := Lib.hid (bthen HB.out hb1); have zz1 := hb1.size; clear HM HA HS HQ HO N1 N2 HB hb1; have HM := nHM; have HA := nHA; have HS := nHS; have HQ := nHQ; have HO := nHO; have N1 := nN1; have N2 := nN2; have HB := nHB; clear nHM nHA nHS nHQ nHO nN1 nN2 nHB; (try clear zHS); have zHS := HS.out.lt; (try clear cHS0); have cHS0 := HS.out.cell 0; (try clear cHS1); have cHS1 := HS.out.cell 1; (try clear cHS2); have cHS2 := HS.out.cell 2; (try clear zN1); have zN1 := N1.out.lt; (try clear cN10); have cN10 := N1.out.cell 0; (try clear cN11); have cN11 := N1.out.cell 1; (try clear zN2); have zN2 := N2.out.lt; (try clear cN20); have cN20 := N2.out.cell 0; (try clear cN21); have cN21 := N2.out.cell 1; (try clear s1); have s1 := (show w.heap.size + 1 < w1.heap.size by omega); (try clear s2); have s2 := (show w.heap.size + 1 + 1 < w1.heap.size + 1 by omega); (try clear s3); have s3 := (show gN1 < w1.heap.size + 1 by omega); (try clear s4); have s4 := (show gN1 + 1 < w1.heap.size + 1 by omega); (try clear s5); have s5 := (show gN1 ≤ w1.heap.size by omega)))
    have bN5 := (Blk.new w1 34 #[.int .i64 U0, .int .i64 U1]).alloc (.cells #[.int .i64 V0, .int .i64 V1] 34)
    have bN6 := Blk.new (w1.alloc (.cells #[.int .i64 U0, .int .i64 U1] 34)) 34 #[.int .i64 V0, .int .i64 V1]
    simp only [World.size_alloc] at bN6
    have nHM := Lib.hid ((HM.out.alloc (.cells #[.int .i64 U0, .int .i64 U1] 34)).alloc (.cells #[.int .i64 V0, .int .i64 V1] 34))
    have nHB := Lib.hid (bal (bal HB.out (.cells #[.int .i64 U0, .int .i64 U1] 34)) (.cells #[.int .i64 V0, .int .i64 V1] 34))
    clear HM HB
    have HM := nHM
    have HB := nHB
    clear nHM nHB
    generalize (w1.alloc (.cells #[.int .i64 U0, .int .i64 U1] 34)).alloc (.cells #[.int .i64 V0, .int .i64 V1] 34) = W2 at *
    generalize w1.heap.size = gN5 at *
    have N5 := Lib.hid bN5
    have N6 := Lib.hid bN6
    clear bN5 bN6
    go_wp2_with (first | (go_at_call 15; (with_reducible refine (works_c _).mono ?_); rintro e w1 ⟨rfl, hb1⟩; have nHM := Lib.hid (HM.out.below hb1); have nHB := Lib.hid (bthen HB.out hb1); have zz1 := hb1.size; clear HM HB hb1; have HM := nHM; have HB := nHB; clear nHM nHB))
    go_ret
    exact ⟨rfl, HB.out⟩
  obtain ⟨a1, a2, a3, a4⟩ := mo rfl rfl hk
  clear mo
  have HW := Lib.hid (fun w1 hR => far2_c hx hy hv gx gy gv lx ly lv px py pv nx ny nv ax ay av cx cy cv dx dy dv cl bu S w1 hR)
  rw [hf] at HW
  go_enter Try.func8, Try.ntmps8
  go_wp2_with (first | (refine wpl_row rfl 27 _ rfl _ rfl #[hx, hy, hv, gx, gy, gv, lx, ly, lv, px, py, pv, nx, ny, nv, ax, ay, av, cx, cy, cv, dx, dy, dv, .int .i64 cl, .int .i64 bu] 26 ?_ Try.rowRot rfl ?_; (focus exact (by repeat (first | (refine Blk.newAt _ _ _ ?_; first | rfl | (simp; done)) | refine Blk.alloc ?_ _))); simp only [Act.put]))
  have bHM : Blk (((w.alloc (.cells #[hx, hy, hv, gx, gy, gv, lx, ly, lv, px, py, pv, nx, ny, nv, ax, ay, av, cx, cy, cv, dx, dy, dv, .int .i64 cl, .int .i64 bu] 27)).alloc (.cells #[.int .i64 wl, .int .i64 wh, .int .i64 tl, .int .i64 th, .int .i64 el, .int .i64 eh, .int .i64 nl, .int .i64 nh] 36)).alloc (.cells #[.int .i64 n0, .int .i64 n1, .int .i64 n2] 62)) (w.heap.size) 27 #[hx, hy, hv, gx, gy, gv, lx, ly, lv, px, py, pv, nx, ny, nv, ax, ay, av, cx, cy, cv, dx, dy, dv, .int .i64 cl, .int .i64 bu] := (by repeat (first | (refine Blk.newAt _ _ _ ?_; first | rfl | (simp; done)) | refine Blk.alloc ?_ _))
  have bHA : Blk (((w.alloc (.cells #[hx, hy, hv, gx, gy, gv, lx, ly, lv, px, py, pv, nx, ny, nv, ax, ay, av, cx, cy, cv, dx, dy, dv, .int .i64 cl, .int .i64 bu] 27)).alloc (.cells #[.int .i64 wl, .int .i64 wh, .int .i64 tl, .int .i64 th, .int .i64 el, .int .i64 eh, .int .i64 nl, .int .i64 nh] 36)).alloc (.cells #[.int .i64 n0, .int .i64 n1, .int .i64 n2] 62)) (w.heap.size + 1) 36 #[.int .i64 wl, .int .i64 wh, .int .i64 tl, .int .i64 th, .int .i64 el, .int .i64 eh, .int .i64 nl, .int .i64 nh] := (by repeat (first | (refine Blk.newAt _ _ _ ?_; first | rfl | (simp; done)) | refine Blk.alloc ?_ _))
  have bHS : Blk (((w.alloc (.cells #[hx, hy, hv, gx, gy, gv, lx, ly, lv, px, py, pv, nx, ny, nv, ax, ay, av, cx, cy, cv, dx, dy, dv, .int .i64 cl, .int .i64 bu] 27)).alloc (.cells #[.int .i64 wl, .int .i64 wh, .int .i64 tl, .int .i64 th, .int .i64 el, .int .i64 eh, .int .i64 nl, .int .i64 nh] 36)).alloc (.cells #[.int .i64 n0, .int .i64 n1, .int .i64 n2] 62)) (w.heap.size + 1 + 1) 62 #[.int .i64 n0, .int .i64 n1, .int .i64 n2] := (by repeat (first | (refine Blk.newAt _ _ _ ?_; first | rfl | (simp; done)) | refine Blk.alloc ?_ _))
  have bHB : Below w.heap.size w (((w.alloc (.cells #[hx, hy, hv, gx, gy, gv, lx, ly, lv, px, py, pv, nx, ny, nv, ax, ay, av, cx, cy, cv, dx, dy, dv, .int .i64 cl, .int .i64 bu] 27)).alloc (.cells #[.int .i64 wl, .int .i64 wh, .int .i64 tl, .int .i64 th, .int .i64 el, .int .i64 eh, .int .i64 nl, .int .i64 nh] 36)).alloc (.cells #[.int .i64 n0, .int .i64 n1, .int .i64 n2] 62)) := (by repeat' (first | exact Below.refl _ _ | assumption | refine Below.drew ?_ | refine bdn ?_ _ | refine bal ?_ _ | refine Below.setCell ?_ (by first | (simp; done) | omega | (simp; omega)) _))
  generalize (((w.alloc (.cells #[hx, hy, hv, gx, gy, gv, lx, ly, lv, px, py, pv, nx, ny, nv, ax, ay, av, cx, cy, cv, dx, dy, dv, .int .i64 cl, .int .i64 bu] 27)).alloc (.cells #[.int .i64 wl, .int .i64 wh, .int .i64 tl, .int .i64 th, .int .i64 el, .int .i64 eh, .int .i64 nl, .int .i64 nh] 36)).alloc (.cells #[.int .i64 n0, .int .i64 n1, .int .i64 n2] 62)) = W at *
  have zW := bHS.lt
  have HM := Lib.hid bHM
  have HA := Lib.hid bHA
  have HS := Lib.hid bHS
  have HB := Lib.hid bHB
  clear bHM bHA bHS bHB
  go_wp2_with (first | (refine wpl_row rfl 27 _ rfl _ rfl #[hx, hy, hv, gx, gy, gv, lx, ly, lv, px, py, pv, nx, ny, nv, ax, ay, av, cx, cy, cv, dx, dy, dv, .int .i64 cl, .int .i64 bu] 26 HM.out Try.rowRot rfl ?_; simp only [Act.put]) | (go_at_call 14; (with_reducible refine (HW.out _ (HR.out.below HB.out)).mono ?_); rintro e w1 ⟨rfl, hb1⟩; have nHM := Lib.hid (HM.out.below hb1); have nHA := Lib.hid (HA.out.below hb1); have nHS := Lib.hid (HS.out.below hb1); have nHB := Lib.hid (bthen HB.out hb1); have zz1 := hb1.size; clear HM HA HS HB hb1; have HM := nHM; have HA := nHA; have HS := nHS; have HB := nHB; clear nHM nHA nHS nHB) | (go_at_call 15; (with_reducible refine (works_c _).mono ?_); rintro e w1 ⟨rfl, hb1⟩; have nHM := Lib.hid (HM.out.below hb1); have nHA := Lib.hid (HA.out.below hb1); have nHS := Lib.hid (HS.out.below hb1); have nHB := Lib.hid (bthen HB.out hb1); have zz1 := hb1.size; clear HM HA HS HB hb1; have HM := nHM; have HA := nHA; have HS := nHS; have HB := nHB; clear nHM nHA nHS nHB) | (go_at_call 17; (with_reducible refine (own_c hx hy hv gx gy gv lx ly lv px py pv nx ny nv ax ay av cx cy cv dx dy dv cl bu S _ (HR.out.below HB.out) HN.out).mono ?_); rintro e w1 ⟨v, rfl, ho, hb1⟩; obtain ⟨hx', hy', hv', gx', gy', gv', lx', ly', lv', px', py', pv', nx', ny', nv', ax', ay', av', cx', cy', cv', dx', dy', dv', rfl, r1⟩ := ho; have HO := Lib.hid r1; clear r1; have nHM := Lib.hid (HM.out.below hb1); have nHA := Lib.hid (HA.out.below hb1); have nHS := Lib.hid (HS.out.below hb1); have nHB := Lib.hid (bthen HB.out hb1); have zz1 := hb1.size; clear HM HA HS HB hb1; have HM := nHM; have HA := nHA; have HS := nHS; have HB := nHB; clear nHM nHA nHS nHB; (try clear zHS); have zHS := HS.out.lt; (try clear cHS0); have cHS0 := HS.out.cell 0; (try clear cHS1); have cHS1 := HS.out.cell 1; (try clear cHS2); have cHS2 := HS.out.cell 2) | (refine wpl_store_new rfl 27 _ _ rfl #[hx', hy', hv', gx', gy', gv', lx', ly', lv', px', py', pv', nx', ny', nv', ax', ay', av', cx', cy', cv', dx', dy', dv', .int .i64 cl, .int .i64 bu] _ _ rfl ?_ rfl Try.sizeRot' rfl (RotAt.one26' HO.out) ?_; (focus (simp; done)); simp only [Act.put]) | (refine wpl_row rfl 27 _ rfl _ rfl #[hx', hy', hv', gx', gy', gv', lx', ly', lv', px', py', pv', nx', ny', nv', ax', ay', av', cx', cy', cv', dx', dy', dv', .int .i64 cl, .int .i64 bu] 26 (Blk.new _ _ _) Try.rowRot rfl ?_; simp only [Act.put]) | (refine wpl_row rfl 36 _ rfl _ rfl #[.int .i64 wl, .int .i64 wh, .int .i64 tl, .int .i64 th, .int .i64 el, .int .i64 eh, .int .i64 nl, .int .i64 nh] 8 (HA.out.alloc _) Try.rowAir rfl ?_; simp only [Act.put]))
  have bHQ := Blk.new w1 27 #[hx', hy', hv', gx', gy', gv', lx', ly', lv', px', py', pv', nx', ny', nv', ax', ay', av', cx', cy', cv', dx', dy', dv', .int .i64 cl, .int .i64 bu]
  have nHM := Lib.hid (HM.out.alloc (.cells #[hx', hy', hv', gx', gy', gv', lx', ly', lv', px', py', pv', nx', ny', nv', ax', ay', av', cx', cy', cv', dx', dy', dv', .int .i64 cl, .int .i64 bu] 27))
  have nHA := Lib.hid (HA.out.alloc (.cells #[hx', hy', hv', gx', gy', gv', lx', ly', lv', px', py', pv', nx', ny', nv', ax', ay', av', cx', cy', cv', dx', dy', dv', .int .i64 cl, .int .i64 bu] 27))
  have nHS := Lib.hid (HS.out.alloc (.cells #[hx', hy', hv', gx', gy', gv', lx', ly', lv', px', py', pv', nx', ny', nv', ax', ay', av', cx', cy', cv', dx', dy', dv', .int .i64 cl, .int .i64 bu] 27))
  have nHO := Lib.hid (HO.out.alloc (.cells #[hx', hy', hv', gx', gy', gv', lx', ly', lv', px', py', pv', nx', ny', nv', ax', ay', av', cx', cy', cv', dx', dy', dv', .int .i64 cl, .int .i64 bu] 27))
  have nHB := Lib.hid (bal HB.out (.cells #[hx', hy', hv', gx', gy', gv', lx', ly', lv', px', py', pv', nx', ny', nv', ax', ay', av', cx', cy', cv', dx', dy', dv', .int .i64 cl, .int .i64 bu] 27))
  clear HM HA HS HO HB
  have HM := nHM
  have HA := nHA
  have HS := nHS
  have HO := nHO
  have HB := nHB
  clear nHM nHA nHS nHO nHB
  generalize w1.alloc (.cells #[hx', hy', hv', gx', gy', gv', lx', ly', lv', px', py', pv', nx', ny', nv', ax', ay', av', cx', cy', cv', dx', dy', dv', .int .i64 cl, .int .i64 bu] 27) = W2 at *
  generalize w1.heap.size = gHQ at *
  have HQ := Lib.hid bHQ
  clear bHQ
  go_wp2_with (first | (go_at_call 35; (with_reducible refine (HK.out _ _ _ _ _ _ _ _ _ _ _ _ _ _ _ _ _ _ _ _ _ _ _ _ _ HO.out).mono ?_); rintro e w1 ⟨rfl, hb1⟩; have nHM := Lib.hid (HM.out.below hb1); have nHA := Lib.hid (HA.out.below hb1); have nHS := Lib.hid (HS.out.below hb1); have nHQ := Lib.hid (HQ.out.below hb1); have nHO := Lib.hid (HO.out.below hb1); have nHB := Lib.hid (bthen HB.out hb1); have zz1 := hb1.size; clear HM HA HS HQ HO HB hb1; have HM := nHM; have HA := nHA; have HS := nHS; have HQ := nHQ; have HO := nHO; have HB := nHB; clear nHM nHA nHS nHQ nHO nHB; (try clear zHS); have zHS := HS.out.lt; (try clear cHS0); have cHS0 := HS.out.cell 0; (try clear cHS1); have cHS1 := HS.out.cell 1; (try clear cHS2); have cHS2 := HS.out.cell 2; (try clear s1); have s1 := (show w.heap.size + 1 < w1.heap.size by omega); (try clear s2); have s2 := (show w.heap.size + 1 + 1 < w1.heap.size + 1 by omega)) | (refine wpl_row rfl 27 _ rfl _ rfl #[hx, hy, hv, gx, gy, gv, lx, ly, lv, px, py, pv, nx, ny, nv, ax, ay, av, cx, cy, cv, dx, dy, dv, .int .i64 cl, .int .i64 bu] 26 ((HM.out.alloc _).alloc _) Try.rowRot rfl ?_; simp only [Act.put]) | (refine wpl_row rfl 36 _ rfl _ rfl #[.int .i64 wl, .int .i64 wh, .int .i64 tl, .int .i64 th, .int .i64 el, .int .i64 eh, .int .i64 nl, .int .i64 nh] 8 ((HA.out.alloc _).alloc _) Try.rowAir rfl ?_; simp only [Act.put]))
  have bN1 := (Blk.new w1 34 #[.int .i64 T0, .int .i64 T1]).alloc (.cells #[.int .i64 F0, .int .i64 F1] 34)
  have bN2 := Blk.new (w1.alloc (.cells #[.int .i64 T0, .int .i64 T1] 34)) 34 #[.int .i64 F0, .int .i64 F1]
  simp only [World.size_alloc] at bN2
  have nHM := Lib.hid ((HM.out.alloc (.cells #[.int .i64 T0, .int .i64 T1] 34)).alloc (.cells #[.int .i64 F0, .int .i64 F1] 34))
  have nHA := Lib.hid ((HA.out.alloc (.cells #[.int .i64 T0, .int .i64 T1] 34)).alloc (.cells #[.int .i64 F0, .int .i64 F1] 34))
  have nHS := Lib.hid ((HS.out.alloc (.cells #[.int .i64 T0, .int .i64 T1] 34)).alloc (.cells #[.int .i64 F0, .int .i64 F1] 34))
  have nHQ := Lib.hid ((HQ.out.alloc (.cells #[.int .i64 T0, .int .i64 T1] 34)).alloc (.cells #[.int .i64 F0, .int .i64 F1] 34))
  have nHO := Lib.hid ((HO.out.alloc (.cells #[.int .i64 T0, .int .i64 T1] 34)).alloc (.cells #[.int .i64 F0, .int .i64 F1] 34))
  have nHB := Lib.hid (bal (bal HB.out (.cells #[.int .i64 T0, .int .i64 T1] 34)) (.cells #[.int .i64 F0, .int .i64 F1] 34))
  clear HM HA HS HQ HO HB
  have HM := nHM
  have HA := nHA
  have HS := nHS
  have HQ := nHQ
  have HO := nHO
  have HB := nHB
  clear nHM nHA nHS nHQ nHO nHB
  generalize (w1.alloc (.cells #[.int .i64 T0, .int .i64 T1] 34)).alloc (.cells #[.int .i64 F0, .int .i64 F1] 34) = W2 at *
  generalize w1.heap.size = gN1 at *
  have N1 := Lib.hid bN1
  have N2 := Lib.hid bN2
  clear bN1 bN2
  go_wp2_with (first | (go_at_call 36; (with_reducible refine (HF.out _ (HR.out.below HB.out)).mono ?_); rintro e w1 ⟨rfl, hb1⟩; have nHM := Lib.hid (HM.out.below hb1); have nHA := Lib.hid (HA.out.below hb1); have nHS := Lib.hid (HS.out.below hb1); have nHQ := Lib.hid (HQ.out.below hb1); have nHO := Lib.hid (HO.out.below hb1); have nN1 := Lib.hid (N1.out.below hb1); have nN2 := Lib.hid (N2.out.below hb1); have nHB := Lib.hid (bthen HB.out hb1); have zz1 := hb1.size; clear HM HA HS HQ HO N1 N2 HB hb1; have HM := nHM; have HA := nHA; have HS := nHS; have HQ := nHQ; have HO := nHO; have N1 := nN1; have N2 := nN2; have HB := nHB; clear nHM nHA nHS nHQ nHO nN1 nN2 nHB; (try clear zHS); have zHS := HS.out.lt; (try clear cHS0); have cHS0 := HS.out.cell 0; (try clear cHS1); have cHS1 := HS.out.cell 1; (try clear cHS2); have cHS2 := HS.out.cell 2; (try clear zN1); have zN1 := N1.out.lt; (try clear cN10); have cN10 := N1.out.cell 0; (try clear cN11); have cN11 := N1.out.cell 1; (try clear zN2); have zN2 := N2.out.lt; (try clear cN20); have cN20 := N2.out.cell 0; (try clear cN21); have cN21 := N2.out.cell 1; (try clear s1); have s1 := (show w.heap.size + 1 < w1.heap.size by omega); (try clear s2); have s2 := (show w.heap.size + 1 + 1 < w1.heap.size + 1 by omega); (try clear s3); have s3 := (show gN1 < w1.heap.size + 1 by omega); (try clear s4); have s4 := (show gN1 + 1 < w1.heap.size + 1 by omega); (try clear s5); have s5 := (show gN1 ≤ w1.heap.size by omega)) | (refine wpl_row rfl 27 _ rfl _ rfl #[hx', hy', hv', gx', gy', gv', lx', ly', lv', px', py', pv', nx', ny', nv', ax', ay', av', cx', cy', cv', dx', dy', dv', .int .i64 cl, .int .i64 bu] 26 ((HQ.out.alloc _).alloc _) Try.rowRot rfl ?_; simp only [Act.put]) | (refine wpl_row rfl 36 _ rfl _ rfl #[.int .i64 wl, .int .i64 wh, .int .i64 tl, .int .i64 th, .int .i64 el, .int .i64 eh, .int .i64 nl, .int .i64 nh] 8 ((HA.out.alloc _).alloc _) Try.rowAir rfl ?_; simp only [Act.put]))
  have bN3 := (Blk.new w1 34 #[.int .i64 T0, .int .i64 T1]).alloc (.cells #[.int .i64 F0, .int .i64 F1] 34)
  have bN4 := Blk.new (w1.alloc (.cells #[.int .i64 T0, .int .i64 T1] 34)) 34 #[.int .i64 F0, .int .i64 F1]
  simp only [World.size_alloc] at bN4
  have nHM := Lib.hid ((HM.out.alloc (.cells #[.int .i64 T0, .int .i64 T1] 34)).alloc (.cells #[.int .i64 F0, .int .i64 F1] 34))
  have nHA := Lib.hid ((HA.out.alloc (.cells #[.int .i64 T0, .int .i64 T1] 34)).alloc (.cells #[.int .i64 F0, .int .i64 F1] 34))
  have nHS := Lib.hid ((HS.out.alloc (.cells #[.int .i64 T0, .int .i64 T1] 34)).alloc (.cells #[.int .i64 F0, .int .i64 F1] 34))
  have nHQ := Lib.hid ((HQ.out.alloc (.cells #[.int .i64 T0, .int .i64 T1] 34)).alloc (.cells #[.int .i64 F0, .int .i64 F1] 34))
  have nHO := Lib.hid ((HO.out.alloc (.cells #[.int .i64 T0, .int .i64 T1] 34)).alloc (.cells #[.int .i64 F0, .int .i64 F1] 34))
  have nN1 := Lib.hid ((N1.out.alloc (.cells #[.int .i64 T0, .int .i64 T1] 34)).alloc (.cells #[.int .i64 F0, .int .i64 F1] 34))
  have nN2 := Lib.hid ((N2.out.alloc (.cells #[.int .i64 T0, .int .i64 T1] 34)).alloc (.cells #[.int .i64 F0, .int .i64 F1] 34))
  have nHB := Lib.hid (bal (bal HB.out (.cells #[.int .i64 T0, .int .i64 T1] 34)) (.cells #[.int .i64 F0, .int .i64 F1] 34))
  clear HM HA HS HQ HO N1 N2 HB
  have HM := nHM
  have HA := nHA
  have HS := nHS
  have HQ := nHQ
  have HO := nHO
  have N1 := nN1
  have N2 := nN2
  have HB := nHB
  clear nHM nHA nHS nHQ nHO nN1 nN2 nHB
  generalize (w1.alloc (.cells #[.int .i64 T0, .int .i64 T1] 34)).alloc (.cells #[.int .i64 F0, .int .i64 F1] 34) = W2 at *
  generalize w1.heap.size = gN3 at *
  have N3 := Lib.hid bN3
  have N4 := Lib.hid bN4
  clear bN3 bN4
  go_wp2_with (first | (go_at_call 35; (with_reducible refine (HK2.out _ _ _ _ _ _ _ _ _ _ _ _ _ _ _ _ _ _ _ _ _ _ _ _ _ HO.out).mono ?_); rintro e w1 ⟨rfl, hb1⟩; have nHM := Lib.hid (HM.out.below hb1); have nHA := Lib.hid (HA.out.below hb1); have nHS := Lib.hid (HS.out.below hb1); have nHQ := Lib.hid (HQ.out.below hb1); have nHO := Lib.hid (HO.out.below hb1); have nN1 := Lib.hid (N1.out.below hb1); have nN2 := Lib.hid (N2.out.below hb1); have nHB := Lib.hid (bthen HB.out hb1); have zz1 := hb1.size; clear HM HA HS HQ HO N1 N2 HB hb1; have HM := nHM; have HA := nHA; have HS := nHS; have HQ := nHQ; have HO := nHO; have N1 := nN1; have N2 := nN2; have HB := nHB; clear nHM nHA nHS nHQ nHO nN1 nN2 nHB; (try clear zHS); have zHS := HS.out.lt; (try clear cHS0); have cHS0 := HS.out.cell 0; (try clear cHS1); have cHS1 := HS.out.cell 1; (try clear cHS2); have cHS2 := HS.out.cell 2; (try clear zN1); have zN1 := N1.out.lt; (try clear cN10); have cN10 := N1.out.cell 0; (try clear cN11); have cN11 := N1.out.cell 1; (try clear zN2); have zN2 := N2.out.lt; (try clear cN20); have cN20 := N2.out.cell 0; (try clear cN21); have cN21 := N2.out.cell 1; (try clear s1); have s1 := (show w.heap.size + 1 < w1.heap.size by omega); (try clear s2); have s2 := (show w.heap.size + 1 + 1 < w1.heap.size + 1 by omega); (try clear s3); have s3 := (show gN1 < w1.heap.size + 1 by omega); (try clear s4); have s4 := (show gN1 + 1 < w1.heap.size + 1 by omega); (try clear s5); have s5 := (show gN1 ≤ w1.heap.size by omega)))
  have bN5 := (Blk.new w1 34 #[.int .i64 U0, .int .i64 U1]).alloc (.cells #[.int .i64 V0, .int .i64 V1] 34)
  have bN6 := Blk.new (w1.alloc (.cells #[.int .i64 U0, .int .i64 U1] 34)) 34 #[.int .i64 V0, .int .i64 V1]
  simp only [World.size_alloc] at bN6
  have nHM := Lib.hid ((HM.out.alloc (.cells #[.int .i64 U0, .int .i64 U1] 34)).alloc (.cells #[.int .i64 V0, .int .i64 V1] 34))
  have nHB := Lib.hid (bal (bal HB.out (.cells #[.int .i64 U0, .int .i64 U1] 34)) (.cells #[.int .i64 V0, .int .i64 V1] 34))
  clear HM HB
  have HM := nHM
  have HB := nHB
  clear nHM nHB
  generalize (w1.alloc (.cells #[.int .i64 U0, .int .i64 U1] 34)).alloc (.cells #[.int .i64 V0, .int .i64 V1] 34) = W2 at *
  generalize w1.heap.size = gN5 at *
  have N5 := Lib.hid bN5
  have N6 := Lib.hid bN6
  clear bN5 bN6
  go_wp2_with (first | (go_at_call 15; (with_reducible refine (works_c _).mono ?_); rintro e w1 ⟨rfl, hb1⟩; have nHM := Lib.hid (HM.out.below hb1); have nHB := Lib.hid (bthen HB.out hb1); have zz1 := hb1.size; clear HM HB hb1; have HM := nHM; have HB := nHB; clear nHM nHB))
  go_ret
  exact ⟨rfl, HB.out⟩
end Go.Proofs.Ytoembbcddhlokaa
