/- Contracts: the leaves of package rotor. -/
import Derived.Test.YtechkkgmdjgddaaGreatSpK
set_option linter.all false
namespace Go.Proofs.YtechkkgmdjgddaaGreat
open Go Go.RowKit Go.Proofs

theorem ro_within_c (n lo hi : Int) (w : World) : Calls Tryz.prog 80 #[.int .i64 n, .int .i64 lo, .int .i64 hi] w fun e w' => e = .returned (.bool (inB n lo hi)) ∧ w = w' := by
  unfold inB
  by_cases h1 : lo ≤ n <;> by_cases h2 : n ≤ hi
  all_goals
    go_enter Tryz.func80, Tryz.ntmps80
    go_wp2
    go_ret
    exact ⟨by simp [h1, h2], rfl⟩

theorem one_c (n : Int) (w : World) : Calls Tryz.prog 35 #[.int .i64 n] w fun e w' => e = .returned (.agg #[.int .i64 n, .int .i64 n]) ∧ Below w.heap.size w w' := by
  go_enter Tryz.func35, Tryz.ntmps35
  go_wp2
  exact bodyPost_ret (v := .agg #[.int .i64 n, .int .i64 n]) (by first | (simp (maxDischargeDepth := 9) [results, Tryz.results35, go_sem, hc1, hd1]; done) | (simp (maxDischargeDepth := 9) [results, Tryz.results35, go_sem, hc1]; done) | (simp [results, Tryz.results35, go_sem]; done)) rfl (⟨rfl, (by repeat' (first | exact Below.refl _ _ | assumption | refine Below.drew ?_ | refine bdn ?_ _ | refine bal ?_ _ | refine Below.setCell ?_ (by first | (simp; done) | omega | (simp; omega)) _))⟩)

set_option maxRecDepth 100000
set_option maxHeartbeats 4000000

/-- A slice's value. -/
def IsSl (v : Value) : Prop := ∃ a n c, v = .slice a n c

theorem hover_c (hx hy hv gx gy gv lx ly lv px py pv nx ny nv ax ay av cx cy cv dx dy dv : Value) (cl bu wl wh tl th el eh nl nh : Int) (s1 : IsSl hx) (s2 : IsSl hy) (s3 : IsSl hv) (w : World) : Calls Tryz.prog 71 #[.agg #[hx, hy, hv, gx, gy, gv, lx, ly, lv, px, py, pv, nx, ny, nv, ax, ay, av, cx, cy, cv, dx, dy, dv, .int .i64 cl, .int .i64 bu, .int .i64 wl, .int .i64 wh, .int .i64 tl, .int .i64 th, .int .i64 el, .int .i64 eh, .int .i64 nl, .int .i64 nh]] w fun e w' => e = .returned (.agg #[hx, hy, hv, .int .i64 wl, .int .i64 wh, .int .i64 tl, .int .i64 th]) ∧ Below w.heap.size w w' := by
  obtain ⟨a1, n1, c1, rfl⟩ := s1
  obtain ⟨a2, n2, c2, rfl⟩ := s2
  obtain ⟨a3, n3, c3, rfl⟩ := s3
  go_enter Tryz.func71, Tryz.ntmps71
  go_wp2
  exact bodyPost_ret (v := .agg #[.slice a1 n1 c1, .slice a2 n2 c2, .slice a3 n3 c3, .int .i64 wl, .int .i64 wh, .int .i64 tl, .int .i64 th]) (by first | (simp (maxDischargeDepth := 9) [results, Tryz.results71, go_sem, hc1, hd1]; done) | (simp (maxDischargeDepth := 9) [results, Tryz.results71, go_sem, hc1]; done) | (simp [results, Tryz.results71, go_sem]; done)) rfl (⟨rfl, (by repeat' (first | exact Below.refl _ _ | assumption | refine Below.drew ?_ | refine bdn ?_ _ | refine bal ?_ _ | refine Below.setCell ?_ (by first | (simp; done) | omega | (simp; omega)) _))⟩)
theorem ground_c (hx hy hv gx gy gv lx ly lv px py pv nx ny nv ax ay av cx cy cv dx dy dv : Value) (cl bu wl wh tl th el eh nl nh : Int) (s1 : IsSl gx) (s2 : IsSl gy) (s3 : IsSl gv) (sl sh : Int) (w : World) : Calls Tryz.prog 72 #[.agg #[hx, hy, hv, gx, gy, gv, lx, ly, lv, px, py, pv, nx, ny, nv, ax, ay, av, cx, cy, cv, dx, dy, dv, .int .i64 cl, .int .i64 bu, .int .i64 wl, .int .i64 wh, .int .i64 tl, .int .i64 th, .int .i64 el, .int .i64 eh, .int .i64 nl, .int .i64 nh], .agg #[.int .i64 sl, .int .i64 sh]] w fun e w' => e = .returned (.agg #[gx, gy, gv, .int .i64 sl, .int .i64 sh, .int .i64 nl, .int .i64 nh]) ∧ Below w.heap.size w w' := by
  obtain ⟨a1, n1, c1, rfl⟩ := s1
  obtain ⟨a2, n2, c2, rfl⟩ := s2
  obtain ⟨a3, n3, c3, rfl⟩ := s3
  go_enter Tryz.func72, Tryz.ntmps72
  go_wp2
  exact bodyPost_ret (v := .agg #[.slice a1 n1 c1, .slice a2 n2 c2, .slice a3 n3 c3, .int .i64 sl, .int .i64 sh, .int .i64 nl, .int .i64 nh]) (by first | (simp (maxDischargeDepth := 9) [results, Tryz.results72, go_sem, hc1, hd1]; done) | (simp (maxDischargeDepth := 9) [results, Tryz.results72, go_sem, hc1]; done) | (simp [results, Tryz.results72, go_sem]; done)) rfl (⟨rfl, (by repeat' (first | exact Below.refl _ _ | assumption | refine Below.drew ?_ | refine bdn ?_ _ | refine bal ?_ _ | refine Below.setCell ?_ (by first | (simp; done) | omega | (simp; omega)) _))⟩)
theorem power_c (hx hy hv gx gy gv lx ly lv px py pv nx ny nv ax ay av cx cy cv dx dy dv : Value) (cl bu wl wh tl th el eh nl nh : Int) (s1 : IsSl px) (s2 : IsSl py) (s3 : IsSl pv) (w : World) : Calls Tryz.prog 33 #[.agg #[hx, hy, hv, gx, gy, gv, lx, ly, lv, px, py, pv, nx, ny, nv, ax, ay, av, cx, cy, cv, dx, dy, dv, .int .i64 cl, .int .i64 bu, .int .i64 wl, .int .i64 wh, .int .i64 tl, .int .i64 th, .int .i64 el, .int .i64 eh, .int .i64 nl, .int .i64 nh]] w fun e w' => e = .returned (.agg #[px, py, pv, .int .i64 tl, .int .i64 th, .int .i64 el, .int .i64 eh]) ∧ Below w.heap.size w w' := by
  obtain ⟨a1, n1, c1, rfl⟩ := s1
  obtain ⟨a2, n2, c2, rfl⟩ := s2
  obtain ⟨a3, n3, c3, rfl⟩ := s3
  go_enter Tryz.func33, Tryz.ntmps33
  go_wp2
  exact bodyPost_ret (v := .agg #[.slice a1 n1 c1, .slice a2 n2 c2, .slice a3 n3 c3, .int .i64 tl, .int .i64 th, .int .i64 el, .int .i64 eh]) (by first | (simp (maxDischargeDepth := 9) [results, Tryz.results33, go_sem, hc1, hd1]; done) | (simp (maxDischargeDepth := 9) [results, Tryz.results33, go_sem, hc1]; done) | (simp [results, Tryz.results33, go_sem]; done)) rfl (⟨rfl, (by repeat' (first | exact Below.refl _ _ | assumption | refine Below.drew ?_ | refine bdn ?_ _ | refine bal ?_ _ | refine Below.setCell ?_ (by first | (simp; done) | omega | (simp; omega)) _))⟩)
theorem level_c (hx hy hv gx gy gv lx ly lv px py pv nx ny nv ax ay av cx cy cv dx dy dv : Value) (cl bu wl wh tl th el eh nl nh : Int) (s1 : IsSl lx) (s2 : IsSl ly) (s3 : IsSl lv) (sl sh : Int) (w : World) : Calls Tryz.prog 34 #[.agg #[hx, hy, hv, gx, gy, gv, lx, ly, lv, px, py, pv, nx, ny, nv, ax, ay, av, cx, cy, cv, dx, dy, dv, .int .i64 cl, .int .i64 bu, .int .i64 wl, .int .i64 wh, .int .i64 tl, .int .i64 th, .int .i64 el, .int .i64 eh, .int .i64 nl, .int .i64 nh], .agg #[.int .i64 sl, .int .i64 sh]] w fun e w' => e = .returned (.agg #[lx, ly, lv, .int .i64 sl, .int .i64 sh, .int .i64 wl, .int .i64 wh]) ∧ Below w.heap.size w w' := by
  obtain ⟨a1, n1, c1, rfl⟩ := s1
  obtain ⟨a2, n2, c2, rfl⟩ := s2
  obtain ⟨a3, n3, c3, rfl⟩ := s3
  go_enter Tryz.func34, Tryz.ntmps34
  go_wp2
  exact bodyPost_ret (v := .agg #[.slice a1 n1 c1, .slice a2 n2 c2, .slice a3 n3 c3, .int .i64 sl, .int .i64 sh, .int .i64 wl, .int .i64 wh]) (by first | (simp (maxDischargeDepth := 9) [results, Tryz.results34, go_sem, hc1, hd1]; done) | (simp (maxDischargeDepth := 9) [results, Tryz.results34, go_sem, hc1]; done) | (simp [results, Tryz.results34, go_sem]; done)) rfl (⟨rfl, (by repeat' (first | exact Below.refl _ _ | assumption | refine Below.drew ?_ | refine bdn ?_ _ | refine bal ?_ _ | refine Below.setCell ?_ (by first | (simp; done) | omega | (simp; omega)) _))⟩)
end Go.Proofs.YtechkkgmdjgddaaGreat
